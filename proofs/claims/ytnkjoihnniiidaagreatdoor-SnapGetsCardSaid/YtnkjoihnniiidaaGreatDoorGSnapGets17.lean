/- The reader of the document's answer: bytes. Conditions: its bytes lie as their reading says. -/
import Derived.Test.YtnkjoihnniiidaaGreatDoorGSnapGets2
import Derived.Test.YtnkjoihnniiidaaGreatDoorGSnapGets5
import Derived.Maps.AppendAt
import Derived.Test.YtnkjoihnniiidaaGreatDoorGSnapGets1
import Derived.Test.YtnkjoihnniiidaaGreatDoorGSnapGets3
import Derived.Lib.AppendStr
set_option linter.unusedVariables false
set_option linter.unusedSimpArgs false
namespace Go.Proofs.YtnkjoihnniiidaaGreatDoor
open Go.RowKit
set_option maxRecDepth 20000
/-- Which bytes a reader reads. -/
structure RefZ where
  ao : Option Addr
  m : Nat
  cap : Nat
  xs : List Int
variable {Z : RefZ}
/-- Block db is a reader of the document's: its bytes, how many were read, whether it is bad. -/
structure RefIs (Z : RefZ) (w : World) (M db : Nat) (bad : Bool) (k : Nat) (ao : Option Addr) (m cap : Nat) (xs : List Int) : Prop where
  blk : w.heap[db]? = some (.cells #[.slice ao m cap, .int .i64 k, .bool bad] 109 (0, 0))
  off : BytesOff w M db ao xs
  len : xs.length = m
  room : m ≤ cap
  nil : ao = none → cap = 0
  at_ : k ≤ m
  le : M ≤ w.heap.size
  lim : m ≤ 140737488351232
  z : Z = ⟨ao, m, cap, xs⟩
theorem RefIs.lt {w : World} {M db k m cap : Nat} {bad : Bool} {ao : Option Addr} {xs : List Int} (h : RefIs Z w M db bad k ao m cap xs) : db < w.heap.size := (Array.getElem?_eq_some_iff.1 h.blk).1
/-- The document's reader, with what is left. -/
def Ref (Z : RefZ) (w : World) (M db : Nat) (bad : Bool) (left : List Int) : Prop := ∃ k ao m cap xs, RefIs Z w M db bad k ao m cap xs ∧ left = xs.drop k
theorem Ref.lt {w : World} {M db : Nat} {bad : Bool} {left : List Int} (h : Ref Z w M db bad left) : db < w.heap.size := by obtain ⟨_, _, _, _, _, h, _⟩ := h; exact h.lt
theorem Ref.le {w : World} {M db : Nat} {bad : Bool} {left : List Int} (h : Ref Z w M db bad left) : M ≤ w.heap.size := by obtain ⟨_, _, _, _, _, h, _⟩ := h; exact h.le
theorem RefIs.below {w w' : World} {M db k m cap B : Nat} {bad : Bool} {ao : Option Addr} {xs : List Int} (h : RefIs Z w M db bad k ao m cap xs) (hb : Below B w w') (hB : w.heap.size ≤ B) : RefIs Z w' M db bad k ao m cap xs :=
  ⟨(hb.block db (Nat.lt_of_lt_of_le h.lt hB)).trans h.blk, h.off.only h.le (Only.of_below (hb.mono hB)), h.len, h.room, h.nil, h.at_, Nat.le_trans h.le hb.size, h.lim, h.z⟩
theorem Ref.below {w w' : World} {M db : Nat} {bad : Bool} {left : List Int} (h : Ref Z w M db bad left) (hb : Below w.heap.size w w') : Ref Z w' M db bad left := by
  obtain ⟨k, ao, m, cap, xs, h, hl⟩ := h
  exact ⟨k, ao, m, cap, xs, h.below hb (Nat.le_refl _), hl⟩
theorem RefIs.setBad {w : World} {M db k m cap : Nat} {bad : Bool} {ao : Option Addr} {xs : List Int} (h : RefIs Z w M db bad k ao m cap xs) (x : Bool) : RefIs Z (w.setCell ⟨db, 2, none⟩ (.bool x)) M db x k ao m cap xs :=
  ⟨Go.Joins.block_setCell (i := 2) h.blk (.bool x), h.off.only h.le (Only.set _ _ _ _), h.len, h.room, h.nil, h.at_, by simpa using h.le, h.lim, h.z⟩
theorem RefIs.setAt {w : World} {M db k m cap : Nat} {bad : Bool} {ao : Option Addr} {xs : List Int} (h : RefIs Z w M db bad k ao m cap xs) (q : Nat) (hq : q ≤ m) : RefIs Z (w.setCell ⟨db, 1, none⟩ (.int .i64 q)) M db bad q ao m cap xs :=
  ⟨Go.Joins.block_setCell (i := 1) h.blk (.int .i64 q), h.off.only h.le (Only.set _ _ _ _), h.len, h.room, h.nil, hq, by simpa using h.le, h.lim, h.z⟩
theorem Ref.setBad {w : World} {M db : Nat} {bad : Bool} {left : List Int} (h : Ref Z w M db bad left) (x : Bool) : Ref Z (w.setCell ⟨db, 2, none⟩ (.bool x)) M db x left := by
  obtain ⟨k, ao, m, cap, xs, h, hl⟩ := h
  exact ⟨k, ao, m, cap, xs, h.setBad x, hl⟩
theorem BytesOff.other {w : World} {M rb g i : Nat} {ao : Option Addr} {xs : List Int} (h : BytesOff w M rb ao xs) (hg : M ≤ g) (v : Value) : BytesOff (w.setCell ⟨g, i, none⟩ v) M rb ao xs := by
  rcases h with h0 | ⟨b, off, h1, h2, h4, h3⟩
  · exact Or.inl h0
  · exact Or.inr ⟨b, off, h1, h2, h4, fun j hj => (cell_block (heap_setCell_other _ _ _ _ (show b ≠ g by omega))).trans (h3 j hj)⟩
theorem Ref.other {w : World} {M db g i : Nat} {bad : Bool} {left : List Int} (h : Ref Z w M db bad left) (hg : M ≤ g) (hr : g ≠ db) (v : Value) : Ref Z (w.setCell ⟨g, i, none⟩ v) M db bad left := by
  obtain ⟨k, ao, m, cap, xs, h, hl⟩ := h
  exact ⟨k, ao, m, cap, xs, ⟨(heap_setCell_other _ _ _ _ (Ne.symm hr)).trans h.blk, h.off.other hg v, h.len, h.room, h.nil, h.at_, by simpa using h.le, h.lim, h.z⟩, hl⟩
theorem Ref.grown {w w' : World} {M db : Nat} {bad : Bool} {left : List Int} {row : Option Nat} (h : Ref Z w M db bad left) (hg : w.grownBy w' row) (hr : ∀ g, row = some g → M ≤ g ∧ g ≠ db) : Ref Z w' M db bad left := by
  obtain ⟨k, ao, m, cap, xs, h, hl⟩ := h
  refine ⟨k, ao, m, cap, xs, ⟨(hg.block db h.lt (fun e => (hr db e.symm).2 rfl)).trans h.blk, ?_, h.len, h.room, h.nil, h.at_, Nat.le_trans h.le hg.size, h.lim, h.z⟩, hl⟩
  rcases h.off with h0 | ⟨b, off, h1, h2, h4, h3⟩
  · exact Or.inl h0
  · exact Or.inr ⟨b, off, h1, h2, h4, fun j hj => (cell_block (hg.block b (by have := h.le; omega) (fun e => by have := (hr b e.symm).1; omega))).trans (h3 j hj)⟩
theorem BytesOff.sub {w : World} {M db : Nat} {ao : Option Addr} {xs : List Int} {cap : Nat} (l h : Nat) (hx : BytesOff w M db ao xs) (hc : xs.length ≤ cap) : BytesIn w M (subA ao cap l 1) ((xs.drop l).take h) := BytesIn.sub l h hx.in hc
theorem oper_append_bytes {w : World} {o : Oper} {a : Act} {K : Act → World → Prop} {Q : Exit → Act → World → Prop} (s x : Operand)
    (ho : o.op = .call { callee := .builtin .append, args := #[s, x], argTypes := #[23, 23] })
    (base : Nat) (v : Value) (l : List Int) (m : Nat) (hm : l.length = m) (hs : a.eval s = v) (hown : w.ownsRow base 5 1 v m (l.map bv))
    (ao : Option Addr) (n cap : Nat) (xs : List Int) (hn : xs.length = n) (hx : a.eval x = .slice ao n cap) (B : Nat) (hin : BytesIn w B ao xs) (hao : ao = none → cap = 0) (hlim : m + n ≤ 140737488351232) (hbase : base ≤ w.heap.size)
    (h : ∀ v' w', w'.ownsRow base 5 1 v' (m + n) ((l ++ xs).map bv) → w.grownBy w' v.ownBlock → K (a.put o.dst v') w') :
    Oper.wp Tryz.prog o a w K Q := by
  obtain ⟨i0, hi, hz0, hz1, hz2⟩ := info_parts infoByte
  subst hm hn
  cases ao with
  | none =>
    have hnil : xs = [] := by
      rcases hin with h | ⟨b, off, h1, _⟩
      · exact h
      · cases h1
    subst hnil
    rw [hao rfl, List.length_nil] at hx
    have hr := run_append_owned_none (P := Tryz.prog) (w := w) base 23 o.type 5 i0 1 Tryz.underlying23 hi v l.length _ hown
    unfold Oper.wp execOp
    simp only [ho, resolve, invoke, builtin, Sem.run_bind, Sem.run_pure, Result.andThen_ok, List.map_toArray, List.map_cons, List.map_nil, hs, hx, hr]
    exact h v w (by simpa using hown) (World.grownBy.refl _ _)
  | some ad =>
    obtain ⟨v', w', hr, h2, h3, _⟩ := run_append_own_at (P := Tryz.prog) w base 23 o.type 5 i0 (.int .u8 0) 1 1 Tryz.underlying23 hi hz0 hz1 hz2 rfl (by decide) v l.length _ hown ad xs.length cap (xs.map bv) (by simp) (fun j u hu => cells_of_bytes hin (Below.refl _ _) rfl hu) (bytes_oneCell _) (by unfold maxLen; omega) (by omega) hbase
    unfold Oper.wp execOp
    simp only [ho, resolve, invoke, builtin, Sem.run_bind, Sem.run_pure, Result.andThen_ok, List.map_toArray, List.map_cons, List.map_nil, hs, hx, hr]
    exact h v' w' (by rw [List.map_append]; exact h2) h3
/-- What bytes does. -/
def RBytesAt (Z : RefZ) (M db : Nat) (r : List Int × Bool × List Int) (w : World) (e : Ending) (w' : World) : Prop :=
  ∃ a n c, r.1.length = n ∧ e = .returned (.slice a n c) ∧ w'.ownsRow w.heap.size 5 1 (.slice a n c) n (r.1.map bv) ∧ Ref Z w' M db r.2.1 r.2.2 ∧ Only db w w'
set_option maxHeartbeats 2000000 in
theorem rbytes_any (M db n : Nat) (bad : Bool) (left : List Int) (w : World) (h : Ref Z w M db bad left) (hn : n ≤ 1099511627776) :
    Calls Tryz.prog 168 #[.pointer (some ⟨db, 0, none⟩), .int .i64 n] w (RBytesAt Z M db (takeS n bad left) w) := by
  obtain ⟨k, ao, m, cap, xs, h, rfl⟩ := h
  have d0 : w.cell? ⟨db, 0, none⟩ = some (.slice ao m cap) := Go.Joins.cell_of_block h.blk 0
  have d1 : w.cell? ⟨db, 1, none⟩ = some (.int .i64 k) := Go.Joins.cell_of_block h.blk 1
  have d2 : w.cell? ⟨db, 2, none⟩ = some (.bool bad) := Go.Joins.cell_of_block h.blk 2
  have f1 : w.frozen? ⟨db, 1, none⟩ = false := Go.Joins.unfrozen_of_block h.blk 1
  have f2 : w.frozen? ⟨db, 2, none⟩ = false := Go.Joins.unfrozen_of_block h.blk 2
  have hkm := h.at_
  have hlim := h.lim
  have hld : (xs.drop k).length = m - k := by rw [List.length_drop, h.len]
  have H := Lib.hid h
  cases bad with
  | true =>
    have hs : takeS n true (xs.drop k) = ([], true, xs.drop k) := if_pos (Or.inl rfl)
    rw [hs]
    clear h hs hld
    go_enter Tryz.func168, Tryz.ntmps168
    go_wp2_with fail
    go_quiet (fail)
    go_wp2_with fail
    go_ret
    have hD := fun q => H.out.below (below_drewN (Below.refl w.heap.size w) q) (Nat.le_refl _)
    exact ⟨none, 0, 0, rfl, rfl, World.ownsRow_nil _ _ _ _, ⟨k, ao, m, cap, xs, (hD _).setBad true, rfl⟩, ⟨by simp, fun b _ hn => heap_setCell_other _ _ _ _ hn, rfl, rfl, rfl⟩⟩
  | false =>
    by_cases hlt : m < k + n
    · have hs : takeS n false (xs.drop k) = ([], true, xs.drop k) := if_pos (Or.inr (by rw [hld]; omega))
      rw [hs]
      have i1 : (m : Int) - k < n := by omega
      clear h hs hld
      go_enter Tryz.func168, Tryz.ntmps168
      go_wp2_with fail
      go_quiet (fail)
      go_wp2_with fail
      go_ret
      have hD := fun q => H.out.below (below_drewN (Below.refl w.heap.size w) q) (Nat.le_refl _)
      exact ⟨none, 0, 0, rfl, rfl, World.ownsRow_nil _ _ _ _, ⟨k, ao, m, cap, xs, (hD _).setBad true, rfl⟩, ⟨by simp, fun b _ hn => heap_setCell_other _ _ _ _ hn, rfl, rfl, rfl⟩⟩
    · have hs : takeS n false (xs.drop k) = ((xs.drop k).take n, false, (xs.drop k).drop n) := if_neg (by rw [hld]; simp; omega)
      rw [hs]
      have i1 : (n : Int) ≤ (m : Int) - k := by omega
      have i2 : decide ((m : Int) - k < n) = false := by simpa using i1
      have i3 : (k : Int) + n ≤ 140737488351232 := by omega
      have i4 : IntKind.i64.wrap ((k : Int) + n) = (k : Int) + n := IntWalk.i64_in _ (by omega)
      have hroom := h.room
      have hlen2 : ((xs.drop k).take n).length = n := by rw [List.length_take, hld]; omega
      have hsl : ∀ w', (Instr.sliceAt 23 (.slice ao m cap) (some (.int .i64 (k : Int))) (some (.int .i64 ((k : Int) + n))) none).run Tryz.prog w' = .ok (.slice (subA ao cap k 1) n (cap - k)) w' := fun w' => by
        have := run_sub_lh sliceByte sizeByte ao m cap k (k + n) (by omega) (by omega) .i64 .i64 (k : Int) ((k : Int) + n) rfl (by omega) w'
        rwa [show k + n - k = n by omega] at this
      have hdb := h.lt
      have HD := Lib.hid (show ∀ w', Below w.heap.size w w' → w'.cell? ⟨db, 0, none⟩ = some (.slice ao m cap) ∧ w'.cell? ⟨db, 1, none⟩ = some (.int .i64 k) from fun w' hb => ⟨(hb.cell (p := ⟨db, 0, none⟩) hdb).trans d0, (hb.cell (p := ⟨db, 1, none⟩) hdb).trans d1⟩)
      have HL2 := Lib.hid hlen2
      clear h hs hld hlt hlen2
      go_enter Tryz.func168, Tryz.ntmps168
      go_wp2_with fail
      go_quiet (fail)
      go_wp2_with fail
      clear d0 d1 d2 f1 f2
      refine heldS_begin (fun w' => Below w.heap.size w w') (by kernel_rfl) ((below_drewN (Below.refl _ _) _).drew) ?_
      intro hS0
      (first | (refine takeS_no 1 rfl (by kernel_rfl) (by kernel_rfl) (by kernel_rfl) (fun _ _ _ h => h) (by rfl) (by assumption) ?_) | (refine takeS_yes (v := ?_) 1 rfl (by kernel_rfl) (by kernel_rfl) (by kernel_rfl) (fun _ _ _ h => h) (by rfl) (by assumption) ?_ ?_; rotate_left; focus (intro wS hSw; obtain ⟨e0, e1⟩ := HD.out wS hSw; go_simp; first | done | with_reducible rfl)))
      (try simp only [Act.put, List.setIfInBounds_toArray, List.set_cons_zero, List.set_cons_succ])
      (first | (refine takeS_no 2 rfl (by kernel_rfl) (by kernel_rfl) (by kernel_rfl) (fun _ _ _ h => h) (by rfl) (by assumption) ?_) | (refine takeS_yes (v := ?_) 2 rfl (by kernel_rfl) (by kernel_rfl) (by kernel_rfl) (fun _ _ _ h => h) (by rfl) (by assumption) ?_ ?_; rotate_left; focus (intro wS hSw; obtain ⟨e0, e1⟩ := HD.out wS hSw; go_simp; first | done | with_reducible rfl)))
      (try simp only [Act.put, List.setIfInBounds_toArray, List.set_cons_zero, List.set_cons_succ])
      (first | (refine takeS_no 3 rfl (by kernel_rfl) (by kernel_rfl) (by kernel_rfl) (fun _ _ _ h => h) (by rfl) (by assumption) ?_) | (refine takeS_yes (v := ?_) 3 rfl (by kernel_rfl) (by kernel_rfl) (by kernel_rfl) (fun _ _ _ h => h) (by rfl) (by assumption) ?_ ?_; rotate_left; focus (intro wS hSw; obtain ⟨e0, e1⟩ := HD.out wS hSw; go_simp; first | done | with_reducible rfl)))
      (try simp only [Act.put, List.setIfInBounds_toArray, List.set_cons_zero, List.set_cons_succ])
      (first | (refine takeS_no 4 rfl (by kernel_rfl) (by kernel_rfl) (by kernel_rfl) (fun _ _ _ h => h) (by rfl) (by assumption) ?_) | (refine takeS_yes (v := ?_) 4 rfl (by kernel_rfl) (by kernel_rfl) (by kernel_rfl) (fun _ _ _ h => h) (by rfl) (by assumption) ?_ ?_; rotate_left; focus (intro wS hSw; obtain ⟨e0, e1⟩ := HD.out wS hSw; go_simp; first | done | with_reducible rfl)))
      (try simp only [Act.put, List.setIfInBounds_toArray, List.set_cons_zero, List.set_cons_succ])
      (first | (refine takeS_no 5 rfl (by kernel_rfl) (by kernel_rfl) (by kernel_rfl) (fun _ _ _ h => h) (by rfl) (by assumption) ?_) | (refine takeS_yes (v := ?_) 5 rfl (by kernel_rfl) (by kernel_rfl) (by kernel_rfl) (fun _ _ _ h => h) (by rfl) (by assumption) ?_ ?_; rotate_left; focus (intro wS hSw; obtain ⟨e0, e1⟩ := HD.out wS hSw; go_simp; first | done | with_reducible rfl)))
      (try simp only [Act.put, List.setIfInBounds_toArray, List.set_cons_zero, List.set_cons_succ])
      (first | (refine takeS_no 6 rfl (by kernel_rfl) (by kernel_rfl) (by kernel_rfl) (fun _ _ _ h => h) (by rfl) (by assumption) ?_) | (refine takeS_yes (v := ?_) 6 rfl (by kernel_rfl) (by kernel_rfl) (by kernel_rfl) (fun _ _ _ h => h) (by rfl) (by assumption) ?_ ?_; rotate_left; focus (intro wS hSw; obtain ⟨e0, e1⟩ := HD.out wS hSw; go_simp; first | done | with_reducible rfl)))
      (try simp only [Act.put, List.setIfInBounds_toArray, List.set_cons_zero, List.set_cons_succ])
      (first | (refine takeS_no 7 rfl (by kernel_rfl) (by kernel_rfl) (by kernel_rfl) (fun _ _ _ h => h) (by rfl) (by assumption) ?_) | (refine takeS_yes (v := ?_) 7 rfl (by kernel_rfl) (by kernel_rfl) (by kernel_rfl) (fun _ _ _ h => h) (by rfl) (by assumption) ?_ ?_; rotate_left; focus (intro wS hSw; obtain ⟨e0, e1⟩ := HD.out wS hSw; go_simp; first | done | with_reducible rfl)))
      (try simp only [Act.put, List.setIfInBounds_toArray, List.set_cons_zero, List.set_cons_succ])
      (first | (refine takeS_no 8 rfl (by kernel_rfl) (by kernel_rfl) (by kernel_rfl) (fun _ _ _ h => h) (by rfl) (by assumption) ?_) | (refine takeS_yes (v := ?_) 8 rfl (by kernel_rfl) (by kernel_rfl) (by kernel_rfl) (fun _ _ _ h => h) (by rfl) (by assumption) ?_ ?_; rotate_left; focus (intro wS hSw; obtain ⟨e0, e1⟩ := HD.out wS hSw; go_simp; first | done | with_reducible rfl)))
      (try simp only [Act.put, List.setIfInBounds_toArray, List.set_cons_zero, List.set_cons_succ])
      (first | (refine takeS_no 9 rfl (by kernel_rfl) (by kernel_rfl) (by kernel_rfl) (fun _ _ _ h => h) (by rfl) (by assumption) ?_) | (refine takeS_yes (v := ?_) 9 rfl (by kernel_rfl) (by kernel_rfl) (by kernel_rfl) (fun _ _ _ h => h) (by rfl) (by assumption) ?_ ?_; rotate_left; focus (intro wS hSw; obtain ⟨e0, e1⟩ := HD.out wS hSw; go_simp; first | done | with_reducible rfl)))
      (try simp only [Act.put, List.setIfInBounds_toArray, List.set_cons_zero, List.set_cons_succ])
      (first | (refine takeS_no 10 rfl (by kernel_rfl) (by kernel_rfl) (by kernel_rfl) (fun _ _ _ h => h) (by rfl) (by assumption) ?_) | (refine takeS_yes (v := ?_) 10 rfl (by kernel_rfl) (by kernel_rfl) (by kernel_rfl) (fun _ _ _ h => h) (by rfl) (by assumption) ?_ ?_; rotate_left; focus (intro wS hSw; obtain ⟨e0, e1⟩ := HD.out wS hSw; go_simp; first | done | with_reducible rfl)))
      (try simp only [Act.put, List.setIfInBounds_toArray, List.set_cons_zero, List.set_cons_succ])
      (first | (refine takeS_no 11 rfl (by kernel_rfl) (by kernel_rfl) (by kernel_rfl) (fun _ _ _ h => h) (by rfl) (by assumption) ?_) | (refine takeS_yes (v := ?_) 11 rfl (by kernel_rfl) (by kernel_rfl) (by kernel_rfl) (fun _ _ _ h => h) (by rfl) (by assumption) ?_ ?_; rotate_left; focus (intro wS hSw; obtain ⟨e0, e1⟩ := HD.out wS hSw; go_simp; first | done | with_reducible rfl)))
      (try simp only [Act.put, List.setIfInBounds_toArray, List.set_cons_zero, List.set_cons_succ])
      (first | (refine takeS_no 12 rfl (by kernel_rfl) (by kernel_rfl) (by kernel_rfl) (fun _ _ _ h => h) (by rfl) (by assumption) ?_) | (refine takeS_yes (v := ?_) 12 rfl (by kernel_rfl) (by kernel_rfl) (by kernel_rfl) (fun _ _ _ h => h) (by rfl) (by assumption) ?_ ?_; rotate_left; focus (intro wS hSw; obtain ⟨e0, e1⟩ := HD.out wS hSw; go_simp; first | done | with_reducible rfl)))
      (try simp only [Act.put, List.setIfInBounds_toArray, List.set_cons_zero, List.set_cons_succ])
      (first | (refine takeS_no 13 rfl (by kernel_rfl) (by kernel_rfl) (by kernel_rfl) (fun _ _ _ h => h) (by rfl) (by assumption) ?_) | (refine takeS_yes (v := ?_) 13 rfl (by kernel_rfl) (by kernel_rfl) (by kernel_rfl) (fun _ _ _ h => h) (by rfl) (by assumption) ?_ ?_; rotate_left; focus (intro wS hSw; obtain ⟨e0, e1⟩ := HD.out wS hSw; go_simp; first | done | with_reducible rfl)))
      (try simp only [Act.put, List.setIfInBounds_toArray, List.set_cons_zero, List.set_cons_succ])
      (first | (refine takeS_no 14 rfl (by kernel_rfl) (by kernel_rfl) (by kernel_rfl) (fun _ _ _ h => h) (by rfl) (by assumption) ?_) | (refine takeS_yes (v := ?_) 14 rfl (by kernel_rfl) (by kernel_rfl) (by kernel_rfl) (fun _ _ _ h => h) (by rfl) (by assumption) ?_ ?_; rotate_left; focus (intro wS hSw; obtain ⟨e0, e1⟩ := HD.out wS hSw; go_simp; first | done | with_reducible rfl)))
      (try simp only [Act.put, List.setIfInBounds_toArray, List.set_cons_zero, List.set_cons_succ])
      (first | (refine takeS_no 15 rfl (by kernel_rfl) (by kernel_rfl) (by kernel_rfl) (fun _ _ _ h => h) (by rfl) (by assumption) ?_) | (refine takeS_yes (v := ?_) 15 rfl (by kernel_rfl) (by kernel_rfl) (by kernel_rfl) (fun _ _ _ h => h) (by rfl) (by assumption) ?_ ?_; rotate_left; focus (intro wS hSw; obtain ⟨e0, e1⟩ := HD.out wS hSw; go_simp; first | done | with_reducible rfl)))
      (try simp only [Act.put, List.setIfInBounds_toArray, List.set_cons_zero, List.set_cons_succ])
      refine takeS_alone 0 rfl (by kernel_rfl) (by rfl) (fun K hK => ?_)
      go_simp
      (have hS1 := Below.alloc (show Below w.heap.size w _ from hS0) (by simp) (Obj.cells #[] 5))
      refine hK.out _ _ (by assumption) ?_
      clear hK K
      (try simp only [Act.put, List.setIfInBounds_toArray, List.set_cons_zero, List.set_cons_succ])
      refine takeS_alone 16 rfl (by kernel_rfl) (by rfl) (fun K hK => ?_)
      skip
      (refine oper_append_bytes (.tmp 27) (.tmp 42) rfl w.heap.size _ [] 0 rfl rfl (World.ownsRow_lit _ #[] 0 (by simp) (by unfold maxLen; omega) rfl) (subA ao cap k 1) n (cap - k) ((xs.drop k).take n) HL2.out rfl M ((H.out.off.sub k n (by rw [H.out.len]; exact hroom)).below hS1 H.out.le) (fun e => by have := H.out.nil (subA_eq_none e); omega) (by omega) (by simp) ?_; intro v5 w5 hown5 hg5; rw [Nat.zero_add, List.nil_append] at hown5; have hS2 : Below w.heap.size w w5 := hS1.grown hg5 (by simp) (fun b e => by cases e; simp))
      refine hK.out _ _ (by assumption) ?_
      clear hK K
      (try simp only [Act.put, List.setIfInBounds_toArray, List.set_cons_zero, List.set_cons_succ])
      (first | (refine takeS_no 17 rfl (by kernel_rfl) (by kernel_rfl) (by kernel_rfl) (fun _ _ _ h => h) (by rfl) (by assumption) ?_) | (refine takeS_yes (v := ?_) 17 rfl (by kernel_rfl) (by kernel_rfl) (by kernel_rfl) (fun _ _ _ h => h) (by rfl) (by assumption) ?_ ?_; rotate_left; focus (intro wS hSw; obtain ⟨e0, e1⟩ := HD.out wS hSw; go_simp; first | done | with_reducible rfl)))
      (try simp only [Act.put, List.setIfInBounds_toArray, List.set_cons_zero, List.set_cons_succ])
      refine wpAnyH_done (by kernel_rfl) ?_ _
      clear hsl i4
      obtain ⟨a5, c5, hv5⟩ := row_slice hown5
      subst hv5
      have e1 := (HD.out w5 hS2).2
      have g1 : w5.frozen? ⟨db, 1, none⟩ = false := Go.Joins.unfrozen_of_block ((hS2.block db hdb).trans H.out.blk) 1
      have HO5 := Lib.hid hown5
      clear hg5 hown5
      go_wp2_with fail
      go_ret
      have hR := (H.out.below hS2 (Nat.le_refl _)).setAt (k + n) (by omega)
      have e : ((k + n : Nat) : Int) = (k : Int) + n := by omega
      rw [e] at hR
      have hown := own_only' HO5.out (Only.set db w5 1 (.int .i64 ((k : Int) + n))) hdb
      exact ⟨a5, n, c5, HL2.out, rfl, hown, ⟨k + n, ao, m, cap, xs, hR, by rw [List.drop_drop]⟩, (Only.of_below hS2).trans (Only.set _ _ _ _)⟩
/- The reader of the document's answer: said, count, Number, Text. Conditions: its bytes lie as their reading says. -/
theorem or_u64 (V x : Int) (hV : 0 ≤ V) (hV2 : V < 72057594037927936) (h0 : 0 ≤ x) (h1 : x < 256) : bits .or .u64 (V * 256) x = V * 256 + x := by
  obtain ⟨y, rfl⟩ : ∃ y : Nat, x = y := ⟨x.toNat, by omega⟩
  obtain ⟨m, rfl⟩ : ∃ m : Nat, V = m := ⟨V.toNat, by omega⟩
  have g1 : (BitVec.ofInt 64 ((m : Int) * 256)).toNat = m * 256 := by
    rw [show (m : Int) * 256 = ((m * 256 : Nat) : Int) by omega, BitVec.ofInt_natCast, BitVec.toNat_ofNat]; exact Nat.mod_eq_of_lt (by omega)
  have g2 : (BitVec.ofInt 64 (y : Int)).toNat = y := by
    rw [BitVec.ofInt_natCast, BitVec.toNat_ofNat]; exact Nat.mod_eq_of_lt (by omega)
  show IntKind.u64.wrap ((BitVec.ofInt 64 ((m : Int) * 256) ||| BitVec.ofInt 64 (y : Int)).toNat : Int) = _
  rw [BitVec.toNat_or, g1, g2]
  have h := Nat.two_pow_add_eq_or_of_lt (i := 8) (b := y) (by omega) m
  have e : 2 ^ 8 * m = m * 256 := by omega
  rw [e] at h
  rw [← h]
  unfold IntKind.wrap
  simp [IntKind.signed, IntKind.bits]
  omega
def RSaidAt (Z : RefZ) (M db : Nat) (v : Int) (bad : Bool) (left : List Int) (w : World) (e : Ending) (w' : World) : Prop :=
  e = .returned (.int .u64 v) ∧ Ref Z w' M db bad left ∧ Only db w w'
set_option maxHeartbeats 1000000 in
theorem rsaid_any (M db n : Nat) (bad : Bool) (left : List Int) (w : World) (h : Ref Z w M db bad left) (hw : BytesWf left) (hn : n ≤ 8) :
    Calls Tryz.prog 111 #[.pointer (some ⟨db, 0, none⟩), .int .i64 n] w (RSaidAt Z M db (getN (takeS n bad left).1) (takeS n bad left).2.1 (takeS n bad left).2.2 w) := by
  have H := Lib.hid h
  obtain ⟨⟨got, bad2, left2⟩, hts⟩ : ∃ r, takeS n bad left = r := ⟨_, rfl⟩
  have hgw := takeS_wf (n := n) (bad := bad) hw
  have hrb := rbytes_any M db n bad left w h (by omega)
  rw [hts] at hgw hrb ⊢
  dsimp only at hgw ⊢
  obtain ⟨g, hg⟩ : ∃ g, got.length = g := ⟨_, rfl⟩
  have hg8 : g ≤ 8 := by have := hgw.2.2.1; omega
  have HB := Lib.hid hrb
  have HGW := Lib.hid hgw.1
  have HG := Lib.hid hg
  obtain ⟨R, hR⟩ : ∃ R, getN got = R := ⟨_, rfl⟩
  rw [hR]
  have HR0 := Lib.hid hR
  clear h hts hgw hw hrb hg hR
  go_enter Tryz.func111, Tryz.ntmps111
  go_wp2_with fail
  refine HB.out.mono ?_
  rintro e w1 ⟨a, n1, c, hn1, rfl, hown, hr, hon⟩
  have e1 : n1 = g := by have := HG.out; dsimp only at hn1; omega
  subst e1
  have HO := Lib.hid (own_in HG.out hown)
  have HR := Lib.hid hr
  have HON := Lib.hid hon
  clear hown hr hon hn1 HB
  go_wp2_with fail
  go_loopw [6, 7] (fun v i wr => ∃ k : Nat, k ≤ n1 ∧ i = .int .i64 k ∧ v = .int .u64 (getN (got.take k)) ∧ wr = w1) (fun _ i _ => n1 - (intOf i).toNat)
  case atStart => exact ⟨0, by omega, rfl, by rfl, rfl⟩
  case round =>
    obtain ⟨k, hk, rfl, rfl, rfl⟩ := hrel
    by_cases hlt : k < n1
    · rcases HO.out with h0 | ⟨b, off, hao, hb, hcell⟩
      · have := HG.out; rw [h0] at this; simp at this; omega
      have hkx : k < got.length := by rw [HG.out]; exact hlt
      have c0 := hcell k hkx
      have hx := HGW.out (got.getD k 0) (by simp [List.getD, List.getElem?_eq_getElem hkx])
      have hsn : getN (got.take (k + 1)) = getN (got.take k) * 256 + got.getD k 0 := by
        rw [List.take_succ_eq_append_getElem hkx, getN_snoc]
        simp [List.getD, List.getElem?_eq_getElem hkx]
      generalize got.getD k 0 = x at c0 hx hsn
      have hVb := getN_small (HGW.out.take k) (n := 7) (by rw [List.length_take]; omega)
      obtain ⟨V, hV⟩ : ∃ V, getN (got.take k) = V := ⟨_, rfl⟩
      rw [hV] at hsn hVb ⊢
      have HSN := Lib.hid hsn
      obtain ⟨hV0, hV1⟩ := hVb
      have hV2 : V < 72057594037927936 := hV1
      have i1 : (k : Int) < n1 := by omega
      have hwr : IntKind.u64.wrap (V * 256) = V * 256 := by
        unfold IntKind.wrap
        simp [IntKind.signed, IntKind.bits]
        omega
      subst hao
      obtain ⟨hx0, hx1⟩ := hx
      have hor := or_u64 V x hV0 hV2 hx0 hx1
      clear hcell hsn hV hV1
      go_wp2_with fail
      go_roundw
      case rel =>
        refine ⟨k + 1, by omega, by go_num, ?_, by trivial⟩
        rw [HSN.out]
        first | done | (rw [hwr, hor]) | (rw [hor]) | (simp [hor, hwr])
      case measure => simp [intOf]; omega
    · obtain rfl : k = n1 := by omega
      have hf : got.take k = got := List.take_of_length_le (by rw [HG.out]; exact Nat.le_refl _)
      rw [hf, HR0.out]
      clear hf
      go_wp2_with fail
      go_ret
      exact ⟨rfl, HR.out, HON.out⟩
theorem rnum_any (M db : Nat) (bad : Bool) (left : List Int) (v : Int) (b2 : Bool) (l2 : List Int) (w : World) (hs : numS bad left = (v, b2, l2)) (h : Ref Z w M db bad left) (hw : BytesWf left) :
    Calls Tryz.prog 50 #[.pointer (some ⟨db, 0, none⟩)] w fun e w' => e = .returned (.int .i64 v) ∧ Ref Z w' M db b2 l2 ∧ Only db w w' := by
  have hrs := rsaid_any M db 8 bad left w h hw (by omega)
  unfold numS at hs
  simp only [Prod.mk.injEq] at hs
  obtain ⟨h1, h2⟩ := hs
  rw [h2] at hrs
  have hb := getN_small (takeS_wf (n := 8) (bad := bad) hw).1 (takeS_wf (n := 8) (bad := bad) hw).2.2.1
  generalize getN (takeS 8 bad left).1 = N at hrs h1 hb
  have HS := Lib.hid hrs
  clear hrs h2 h hw hb
  go_enter Tryz.func50, Tryz.ntmps50
  go_wp2_with fail
  refine HS.out.mono ?_
  rintro e w1 ⟨rfl, hr, ho⟩
  have HR := Lib.hid hr
  clear hr HS
  go_wp2_with fail
  go_ret
  exact ⟨rfl, HR.out, ho⟩
/- The reader of the document's answer: Value. Conditions: its bytes lie as their reading says. -/
/- The reader of the document's answer: Values. Conditions: its bytes lie as their reading says. -/
end Go.Proofs.YtnkjoihnniiidaaGreatDoor
/- Numbers that are brought into a kind have the same bytes. No program. Conditions: as each says. -/
namespace Go.Proofs.YtnkjoihnniiidaaGreatDoor
theorem numB_mod (n k : Int) : numB 8 (n + 18446744073709551616 * k) = numB 8 n := by
  unfold numB
  have e : List.range 8 = [0, 1, 2, 3, 4, 5, 6, 7] := rfl
  rw [e]
  simp only [List.map_cons, List.map_nil, Nat.reduceSub, Nat.reduceMul, Int.reducePow, List.cons.injEq, and_true]
  refine ⟨by omega, by omega, by omega, by omega, by omega, by omega, by omega, by omega⟩
theorem wrapU_eq (n : Int) : IntKind.u64.wrap n = n % 18446744073709551616 := by
  show (if (false && decide (n % 2 ^ 64 ≥ (2 ^ 63 : Int))) = true then n % 2 ^ 64 - 2 ^ 64 else n % 2 ^ 64) = _
  have e2 : (2 : Int) ^ 64 = 18446744073709551616 := by decide
  rw [e2]
  rfl
theorem wrapU_range (n : Int) : 0 ≤ IntKind.u64.wrap n ∧ IntKind.u64.wrap n < 18446744073709551616 := by
  rw [wrapU_eq]; omega
theorem numB_wrapU (n : Int) : numB 8 (IntKind.u64.wrap n) = numB 8 n := by
  have h : IntKind.u64.wrap n = n + 18446744073709551616 * (-(n / 18446744073709551616)) := by rw [wrapU_eq]; omega
  rw [h, numB_mod]
end Go.Proofs.YtnkjoihnniiidaaGreatDoor
/- The document's writers: the bytes of a number, a text, a value, a row of values. Conditions: what is written is not too long. -/
namespace Go.Proofs.YtnkjoihnniiidaaGreatDoor
open Go.RowKit
set_option maxRecDepth 20000
theorem oper_append_bo {w : World} {o : Oper} {a : Act} {K : Act → World → Prop} {Q : Exit → Act → World → Prop} (s x : Operand)
    (ho : o.op = .call { callee := .builtin .append, args := #[s, x], argTypes := #[23, 23] })
    (base : Nat) {a1 : Option Addr} {n1 c1 : Nat} {L1 : List Int} (hs : a.eval s = .slice a1 n1 c1) (hown : BOwn w base a1 n1 c1 L1)
    {ao : Option Addr} {n cap : Nat} {xs : List Int} (hx : a.eval x = .slice ao n cap) (hn : xs.length = n) (B : Nat) (hin : BytesIn w B ao xs) (hao : ao = none → cap = 0) (hlim : n1 + n ≤ 140737488351232) (hbase : base ≤ w.heap.size)
    (h : ∀ a2 n2 c2 w', BOwn w' base a2 n2 c2 (L1 ++ xs) → w.grownBy w' (Value.slice a1 n1 c1).ownBlock → n2 = n1 + n → K (a.put o.dst (.slice a2 n2 c2)) w') : Oper.wp Tryz.prog o a w K Q := by
  obtain ⟨rfl, hrow⟩ := hown
  refine oper_append_bytes s x ho base _ L1 _ rfl hs hrow ao n cap xs hn hx B hin hao hlim hbase fun v' w' h1 h2 => ?_
  obtain ⟨a2, c2, rfl⟩ := row_slice h1
  exact h a2 _ c2 w' ⟨by rw [List.length_append, hn], h1⟩ h2 rfl
theorem rnumber_any (n : Int) (size : Nat) (w : World) (hs : size ≤ 8) (hn : 0 ≤ n) (hn2 : n < 18446744073709551616) :
    Calls Tryz.prog 75 #[.int .u64 n, .int .i64 size] w (RNew (numB size n) w) := by
  have w0 : IntKind.i64.wrap ((size : Int) - 1) = (size : Int) - 1 := IntWalk.i64_in _ (by omega)
  go_enter Tryz.func75, Tryz.ntmps75
  go_wp2_with fail
  go_loopw [5, 6] (fun v i wr => ∃ (q : Nat) (a : Option Addr) (c : Nat), q ≤ size ∧ i = .int .i64 ((size : Int) - 1 - q) ∧ v = .slice a q c ∧ BOwn wr w.heap.size a q c ((numB size n).take q) ∧ Below w.heap.size w wr) (fun _ i _ => (intOf i + 1).toNat)
  case atStart => exact ⟨0, none, 0, by omega, by simp, rfl, ⟨rfl, World.ownsRow_nil _ _ _ _⟩, Below.refl _ _⟩
  case round =>
    clear w0
    obtain ⟨q, a, c, hq, rfl, rfl, hown, hbel⟩ := hrel
    have HO := Lib.hid hown
    clear hown
    by_cases hltq : q < size
    · obtain ⟨p, hp⟩ : ∃ p : Nat, p = size - 1 - q := ⟨_, rfl⟩
      have hpe : (size : Int) - 1 - q = p := by omega
      have hnt := numB_take size n q hltq
      rw [← hp] at hnt
      have HNT := Lib.hid hnt
      have hp8 : p ≤ 7 := by omega
      have w3 : IntKind.i64.wrap (8 * (p : Int)) = 8 * p := IntWalk.i64_in _ (by omega)
      have w4 : IntKind.u64.wrap (8 * (p : Int)) = 8 * p := IntWalk.u64_in _ (by omega)
      have n3 : ((8 : Int) * p).toNat = 8 * p := by omega
      have g3 : (0 : Int) ≤ 8 * p := by omega
      have HPE := Lib.hid hpe
      have hs2 := hbel.size
      rw [hpe]
      clear hnt hp hpe
      go_wp2_with (at_builtin; refine wpList_append_bo rfl (.tmp 13) (.tmp 20) rfl w.heap.size rfl (HO.out.below ((Below.refl wr.heap.size wr).alloc (Nat.le_refl _) _) (Nat.le_refl _)) rfl rfl _ (BOwn.lit wr [n / 2 ^ (8 * p) % 256] (by simp)).in (fun h => by cases h) (by omega) (by simp; omega) ?_)
      intro a2 n2 c2 w5 hown5 hg5 hn5
      have hb5 : Below w.heap.size w w5 := (hbel.alloc hs2 _).grown hg5 (by simp; omega) (fun k hk => (HO.out.lt k hk).1)
      rw [← HNT.out] at hown5
      have HO5 := Lib.hid hown5
      have HN5 := Lib.hid hn5
      clear hown5 hg5 hn5
      go_wp2_with fail
      go_roundw
      case rel => exact ⟨q + 1, a2, c2, by omega, by have := HPE.out; congr 1; push_cast; omega, by rw [HN5.out], by have := HO5.out; rw [HN5.out] at this; exact this, hb5⟩
      case measure => first | (simp [intOf]; done) | (have := HPE.out; simp [intOf]; omega)
    · have hqe : q = size := by omega
      have hown5 := HO.out
      rw [hqe, List.take_of_length_le (l := numB size n) (by rw [numB_len]; exact Nat.le_refl _)] at hown5
      have HO5 := Lib.hid hown5
      have g5 : (size : Int) - 1 - q < 0 := by omega
      subst hqe
      clear hown5
      go_wp2_with fail
      go_ret
      exact ⟨a, _, c, rfl, HO5.out, hbel⟩
theorem rNumber_any (n : Int) (L : List Int) (w : World) (hL : numB 8 n = L) :
    Calls Tryz.prog 37 #[.int .i64 n] w (RNew L w) := by
  have hw : numB 8 (IntKind.u64.wrap n) = L := by rw [← hL, numB_wrapU]
  have h0 : 0 ≤ IntKind.u64.wrap n ∧ IntKind.u64.wrap n < 18446744073709551616 := wrapU_range n
  obtain ⟨m, hm⟩ : ∃ m, IntKind.u64.wrap n = m := ⟨_, rfl⟩
  rw [hm] at hw h0
  subst hw
  clear hL
  go_enter Tryz.func37, Tryz.ntmps37
  go_wp2_with fail
  refine (rnumber_any m 8 w (by decide) h0.1 h0.2).mono ?_
  rintro e w2 ⟨a, k, c, rfl, ho, hb⟩
  have HO := Lib.hid ho
  clear ho
  go_wp2_with fail
  go_ret
  exact ⟨a, k, c, rfl, HO.out, hb⟩
end Go.Proofs.YtnkjoihnniiidaaGreatDoor
