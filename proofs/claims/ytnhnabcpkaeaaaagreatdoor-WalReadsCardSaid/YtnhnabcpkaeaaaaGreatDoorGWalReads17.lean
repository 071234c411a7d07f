/- The reader of the document's answer: bytes. Conditions: its bytes lie as their reading says. -/
import Derived.Test.YtnhnabcpkaeaaaaGreatDoorGWalReads5
import Derived.Test.YtnhnabcpkaeaaaaGreatDoorGWalReads6
import Derived.Test.YtnhnabcpkaeaaaaGreatDoorGWalReads2
import Derived.Maps.AppendAt
set_option linter.unusedVariables false
set_option linter.unusedSimpArgs false
namespace Go.Proofs.YtnhnabcpkaeaaaaGreatDoor
open Go.RowKit
set_option maxRecDepth 20000
/-- Block db is a reader of the document's: its bytes, how many were read, whether it is bad. -/
structure RefIs (w : World) (M db : Nat) (bad : Bool) (k : Nat) (ao : Option Addr) (m cap : Nat) (xs : List Int) : Prop where
  blk : w.heap[db]? = some (.cells #[.slice ao m cap, .int .i64 k, .bool bad] 156 (0, 0))
  off : BytesOff w M db ao xs
  len : xs.length = m
  room : m ≤ cap
  nil : ao = none → cap = 0
  at_ : k ≤ m
  le : M ≤ w.heap.size
  lim : m ≤ 140737488351232
theorem RefIs.lt {w : World} {M db k m cap : Nat} {bad : Bool} {ao : Option Addr} {xs : List Int} (h : RefIs w M db bad k ao m cap xs) : db < w.heap.size := (Array.getElem?_eq_some_iff.1 h.blk).1
/-- The document's reader, with what is left. -/
def Ref (w : World) (M db : Nat) (bad : Bool) (left : List Int) : Prop := ∃ k ao m cap xs, RefIs w M db bad k ao m cap xs ∧ left = xs.drop k
theorem Ref.lt {w : World} {M db : Nat} {bad : Bool} {left : List Int} (h : Ref w M db bad left) : db < w.heap.size := by obtain ⟨_, _, _, _, _, h, _⟩ := h; exact h.lt
theorem Ref.le {w : World} {M db : Nat} {bad : Bool} {left : List Int} (h : Ref w M db bad left) : M ≤ w.heap.size := by obtain ⟨_, _, _, _, _, h, _⟩ := h; exact h.le
theorem RefIs.below {w w' : World} {M db k m cap B : Nat} {bad : Bool} {ao : Option Addr} {xs : List Int} (h : RefIs w M db bad k ao m cap xs) (hb : Below B w w') (hB : w.heap.size ≤ B) : RefIs w' M db bad k ao m cap xs :=
  ⟨(hb.block db (Nat.lt_of_lt_of_le h.lt hB)).trans h.blk, h.off.only h.le (Only.of_below (hb.mono hB)), h.len, h.room, h.nil, h.at_, Nat.le_trans h.le hb.size, h.lim⟩
theorem Ref.below {w w' : World} {M db : Nat} {bad : Bool} {left : List Int} (h : Ref w M db bad left) (hb : Below w.heap.size w w') : Ref w' M db bad left := by
  obtain ⟨k, ao, m, cap, xs, h, hl⟩ := h
  exact ⟨k, ao, m, cap, xs, h.below hb (Nat.le_refl _), hl⟩
theorem RefIs.setBad {w : World} {M db k m cap : Nat} {bad : Bool} {ao : Option Addr} {xs : List Int} (h : RefIs w M db bad k ao m cap xs) (x : Bool) : RefIs (w.setCell ⟨db, 2, none⟩ (.bool x)) M db x k ao m cap xs :=
  ⟨Go.Joins.block_setCell (i := 2) h.blk (.bool x), h.off.only h.le (Only.set _ _ _ _), h.len, h.room, h.nil, h.at_, by simpa using h.le, h.lim⟩
theorem RefIs.setAt {w : World} {M db k m cap : Nat} {bad : Bool} {ao : Option Addr} {xs : List Int} (h : RefIs w M db bad k ao m cap xs) (q : Nat) (hq : q ≤ m) : RefIs (w.setCell ⟨db, 1, none⟩ (.int .i64 q)) M db bad q ao m cap xs :=
  ⟨Go.Joins.block_setCell (i := 1) h.blk (.int .i64 q), h.off.only h.le (Only.set _ _ _ _), h.len, h.room, h.nil, hq, by simpa using h.le, h.lim⟩
theorem Ref.setBad {w : World} {M db : Nat} {bad : Bool} {left : List Int} (h : Ref w M db bad left) (x : Bool) : Ref (w.setCell ⟨db, 2, none⟩ (.bool x)) M db x left := by
  obtain ⟨k, ao, m, cap, xs, h, hl⟩ := h
  exact ⟨k, ao, m, cap, xs, h.setBad x, hl⟩
theorem BytesOff.other {w : World} {M rb g i : Nat} {ao : Option Addr} {xs : List Int} (h : BytesOff w M rb ao xs) (hg : M ≤ g) (v : Value) : BytesOff (w.setCell ⟨g, i, none⟩ v) M rb ao xs := by
  rcases h with h0 | ⟨b, off, h1, h2, h4, h3⟩
  · exact Or.inl h0
  · exact Or.inr ⟨b, off, h1, h2, h4, fun j hj => (cell_block (heap_setCell_other _ _ _ _ (show b ≠ g by omega))).trans (h3 j hj)⟩
theorem Ref.other {w : World} {M db g i : Nat} {bad : Bool} {left : List Int} (h : Ref w M db bad left) (hg : M ≤ g) (hr : g ≠ db) (v : Value) : Ref (w.setCell ⟨g, i, none⟩ v) M db bad left := by
  obtain ⟨k, ao, m, cap, xs, h, hl⟩ := h
  exact ⟨k, ao, m, cap, xs, ⟨(heap_setCell_other _ _ _ _ (Ne.symm hr)).trans h.blk, h.off.other hg v, h.len, h.room, h.nil, h.at_, by simpa using h.le, h.lim⟩, hl⟩
theorem Ref.grown {w w' : World} {M db : Nat} {bad : Bool} {left : List Int} {row : Option Nat} (h : Ref w M db bad left) (hg : w.grownBy w' row) (hr : ∀ g, row = some g → M ≤ g ∧ g ≠ db) : Ref w' M db bad left := by
  obtain ⟨k, ao, m, cap, xs, h, hl⟩ := h
  refine ⟨k, ao, m, cap, xs, ⟨(hg.block db h.lt (fun e => (hr db e.symm).2 rfl)).trans h.blk, ?_, h.len, h.room, h.nil, h.at_, Nat.le_trans h.le hg.size, h.lim⟩, hl⟩
  rcases h.off with h0 | ⟨b, off, h1, h2, h4, h3⟩
  · exact Or.inl h0
  · exact Or.inr ⟨b, off, h1, h2, h4, fun j hj => (cell_block (hg.block b (by have := h.le; omega) (fun e => by have := (hr b e.symm).1; omega))).trans (h3 j hj)⟩
theorem Ref.badCell {w : World} {M db : Nat} {bad : Bool} {left : List Int} (h : Ref w M db bad left) : w.cell? ⟨db, 2, none⟩ = some (.bool bad) ∧ w.frozen? ⟨db, 2, none⟩ = false := by
  obtain ⟨k, ao, m, cap, xs, h, hl⟩ := h
  exact ⟨Go.Joins.cell_of_block h.blk 2, Go.Joins.unfrozen_of_block h.blk 2⟩
theorem BytesOff.sub {w : World} {M db : Nat} {ao : Option Addr} {xs : List Int} {cap : Nat} (l h : Nat) (hx : BytesOff w M db ao xs) (hc : xs.length ≤ cap) : BytesIn w M (subA ao cap l 1) ((xs.drop l).take h) := BytesIn.sub l h hx.in hc
theorem oper_append_bytes {w : World} {o : Oper} {a : Act} {K : Act → World → Prop} {Q : Exit → Act → World → Prop} (s x : Operand)
    (ho : o.op = .call { callee := .builtin .append, args := #[s, x], argTypes := #[22, 22] })
    (base : Nat) (v : Value) (l : List Int) (m : Nat) (hm : l.length = m) (hs : a.eval s = v) (hown : w.ownsRow base 5 1 v m (l.map bv))
    (ao : Option Addr) (n cap : Nat) (xs : List Int) (hn : xs.length = n) (hx : a.eval x = .slice ao n cap) (B : Nat) (hin : BytesIn w B ao xs) (hao : ao = none → cap = 0) (hlim : m + n ≤ 140737488351232) (hbase : base ≤ w.heap.size)
    (h : ∀ v' w', w'.ownsRow base 5 1 v' (m + n) ((l ++ xs).map bv) → w.grownBy w' v.ownBlock → K (a.put o.dst v') w') :
    Oper.wp Tryz.prog o a w K Q := by
  obtain ⟨i0, hi, hz0, hz1, hz2⟩ := info_parts infoByte
  subst hm hn
  cases ao with
  | none =>
    have hnil : xs = [] := by
      rcases hin with h | ⟨b, off, h1, _⟩
      · exact h
      · cases h1
    subst hnil
    rw [hao rfl, List.length_nil] at hx
    have hr := run_append_owned_none (P := Tryz.prog) (w := w) base 22 o.type 5 i0 1 Tryz.underlying22 hi v l.length _ hown
    unfold Oper.wp execOp
    simp only [ho, resolve, invoke, builtin, Sem.run_bind, Sem.run_pure, Result.andThen_ok, List.map_toArray, List.map_cons, List.map_nil, hs, hx, hr]
    exact h v w (by simpa using hown) (World.grownBy.refl _ _)
  | some ad =>
    obtain ⟨v', w', hr, h2, h3, _⟩ := run_append_own_at (P := Tryz.prog) w base 22 o.type 5 i0 (.int .u8 0) 1 1 Tryz.underlying22 hi hz0 hz1 hz2 rfl (by decide) v l.length _ hown ad xs.length cap (xs.map bv) (by simp) (fun j u hu => cells_of_bytes hin (Below.refl _ _) rfl hu) (bytes_oneCell _) (by unfold maxLen; omega) (by omega) hbase
    unfold Oper.wp execOp
    simp only [ho, resolve, invoke, builtin, Sem.run_bind, Sem.run_pure, Result.andThen_ok, List.map_toArray, List.map_cons, List.map_nil, hs, hx, hr]
    exact h v' w' (by rw [List.map_append]; exact h2) h3
/-- What bytes does. -/
def RBytesAt (M db : Nat) (r : List Int × Bool × List Int) (w : World) (e : Ending) (w' : World) : Prop :=
  ∃ a n c, r.1.length = n ∧ e = .returned (.slice a n c) ∧ w'.ownsRow w.heap.size 5 1 (.slice a n c) n (r.1.map bv) ∧ Ref w' M db r.2.1 r.2.2 ∧ Only db w w'
set_option maxHeartbeats 2000000 in
theorem rbytes_any (M db n : Nat) (bad : Bool) (left : List Int) (w : World) (h : Ref w M db bad left) (hn : n ≤ 1099511627776) :
    Calls Tryz.prog 129 #[.pointer (some ⟨db, 0, none⟩), .int .i64 n] w (RBytesAt M db (takeS n bad left) w) := by
  obtain ⟨k, ao, m, cap, xs, h, rfl⟩ := h
  have d0 : w.cell? ⟨db, 0, none⟩ = some (.slice ao m cap) := Go.Joins.cell_of_block h.blk 0
  have d1 : w.cell? ⟨db, 1, none⟩ = some (.int .i64 k) := Go.Joins.cell_of_block h.blk 1
  have d2 : w.cell? ⟨db, 2, none⟩ = some (.bool bad) := Go.Joins.cell_of_block h.blk 2
  have f1 : w.frozen? ⟨db, 1, none⟩ = false := Go.Joins.unfrozen_of_block h.blk 1
  have f2 : w.frozen? ⟨db, 2, none⟩ = false := Go.Joins.unfrozen_of_block h.blk 2
  have hkm := h.at_
  have hlim := h.lim
  have hld : (xs.drop k).length = m - k := by rw [List.length_drop, h.len]
  have H := Lib.hid h
  cases bad with
  | true =>
    have hs : takeS n true (xs.drop k) = ([], true, xs.drop k) := if_pos (Or.inl rfl)
    rw [hs]
    clear h hs hld
    go_enter Tryz.func129, Tryz.ntmps129
    go_wp2_with fail
    go_quiet (fail)
    go_wp2_with fail
    go_ret
    have hD := fun q => H.out.below (below_drewN (Below.refl w.heap.size w) q) (Nat.le_refl _)
    exact ⟨none, 0, 0, rfl, rfl, World.ownsRow_nil _ _ _ _, ⟨k, ao, m, cap, xs, (hD _).setBad true, rfl⟩, ⟨by simp, fun b _ hn => heap_setCell_other _ _ _ _ hn, rfl, rfl, rfl⟩⟩
  | false =>
    by_cases hlt : m < k + n
    · have hs : takeS n false (xs.drop k) = ([], true, xs.drop k) := if_pos (Or.inr (by rw [hld]; omega))
      rw [hs]
      have i1 : (m : Int) - k < n := by omega
      clear h hs hld
      go_enter Tryz.func129, Tryz.ntmps129
      go_wp2_with fail
      go_quiet (fail)
      go_wp2_with fail
      go_ret
      have hD := fun q => H.out.below (below_drewN (Below.refl w.heap.size w) q) (Nat.le_refl _)
      exact ⟨none, 0, 0, rfl, rfl, World.ownsRow_nil _ _ _ _, ⟨k, ao, m, cap, xs, (hD _).setBad true, rfl⟩, ⟨by simp, fun b _ hn => heap_setCell_other _ _ _ _ hn, rfl, rfl, rfl⟩⟩
    · have hs : takeS n false (xs.drop k) = ((xs.drop k).take n, false, (xs.drop k).drop n) := if_neg (by rw [hld]; simp; omega)
      rw [hs]
      have i1 : (n : Int) ≤ (m : Int) - k := by omega
      have i2 : decide ((m : Int) - k < n) = false := by simpa using i1
      have i3 : (k : Int) + n ≤ 140737488351232 := by omega
      have i4 : IntKind.i64.wrap ((k : Int) + n) = (k : Int) + n := IntWalk.i64_in _ (by omega)
      have hroom := h.room
      have hlen2 : ((xs.drop k).take n).length = n := by rw [List.length_take, hld]; omega
      have hsl : ∀ w', (Instr.sliceAt 22 (.slice ao m cap) (some (.int .i64 (k : Int))) (some (.int .i64 ((k : Int) + n))) none).run Tryz.prog w' = .ok (.slice (subA ao cap k 1) n (cap - k)) w' := fun w' => by
        have := run_sub_lh sliceByte sizeByte ao m cap k (k + n) (by omega) (by omega) .i64 .i64 (k : Int) ((k : Int) + n) rfl (by omega) w'
        rwa [show k + n - k = n by omega] at this
      have hdb := h.lt
      have HD := Lib.hid (show ∀ w', Below w.heap.size w w' → w'.cell? ⟨db, 0, none⟩ = some (.slice ao m cap) ∧ w'.cell? ⟨db, 1, none⟩ = some (.int .i64 k) from fun w' hb => ⟨(hb.cell (p := ⟨db, 0, none⟩) hdb).trans d0, (hb.cell (p := ⟨db, 1, none⟩) hdb).trans d1⟩)
      have HL2 := Lib.hid hlen2
      clear h hs hld hlt hlen2
      go_enter Tryz.func129, Tryz.ntmps129
      go_wp2_with fail
      go_quiet (fail)
      go_wp2_with fail
      clear d0 d1 d2 f1 f2
      refine heldS_begin (fun w' => Below w.heap.size w w') (by kernel_rfl) ((below_drewN (Below.refl _ _) _).drew) ?_
      intro hS0
      (first | (refine takeS_no 1 rfl (by kernel_rfl) (by kernel_rfl) (by kernel_rfl) (fun _ _ _ h => h) (by rfl) (by assumption) ?_) | (refine takeS_yes (v := ?_) 1 rfl (by kernel_rfl) (by kernel_rfl) (by kernel_rfl) (fun _ _ _ h => h) (by rfl) (by assumption) ?_ ?_; rotate_left; focus (intro wS hSw; obtain ⟨e0, e1⟩ := HD.out wS hSw; go_simp; first | done | with_reducible rfl)))
      (try simp only [Act.put, List.setIfInBounds_toArray, List.set_cons_zero, List.set_cons_succ])
      (first | (refine takeS_no 2 rfl (by kernel_rfl) (by kernel_rfl) (by kernel_rfl) (fun _ _ _ h => h) (by rfl) (by assumption) ?_) | (refine takeS_yes (v := ?_) 2 rfl (by kernel_rfl) (by kernel_rfl) (by kernel_rfl) (fun _ _ _ h => h) (by rfl) (by assumption) ?_ ?_; rotate_left; focus (intro wS hSw; obtain ⟨e0, e1⟩ := HD.out wS hSw; go_simp; first | done | with_reducible rfl)))
      (try simp only [Act.put, List.setIfInBounds_toArray, List.set_cons_zero, List.set_cons_succ])
      (first | (refine takeS_no 3 rfl (by kernel_rfl) (by kernel_rfl) (by kernel_rfl) (fun _ _ _ h => h) (by rfl) (by assumption) ?_) | (refine takeS_yes (v := ?_) 3 rfl (by kernel_rfl) (by kernel_rfl) (by kernel_rfl) (fun _ _ _ h => h) (by rfl) (by assumption) ?_ ?_; rotate_left; focus (intro wS hSw; obtain ⟨e0, e1⟩ := HD.out wS hSw; go_simp; first | done | with_reducible rfl)))
      (try simp only [Act.put, List.setIfInBounds_toArray, List.set_cons_zero, List.set_cons_succ])
      (first | (refine takeS_no 4 rfl (by kernel_rfl) (by kernel_rfl) (by kernel_rfl) (fun _ _ _ h => h) (by rfl) (by assumption) ?_) | (refine takeS_yes (v := ?_) 4 rfl (by kernel_rfl) (by kernel_rfl) (by kernel_rfl) (fun _ _ _ h => h) (by rfl) (by assumption) ?_ ?_; rotate_left; focus (intro wS hSw; obtain ⟨e0, e1⟩ := HD.out wS hSw; go_simp; first | done | with_reducible rfl)))
      (try simp only [Act.put, List.setIfInBounds_toArray, List.set_cons_zero, List.set_cons_succ])
      (first | (refine takeS_no 5 rfl (by kernel_rfl) (by kernel_rfl) (by kernel_rfl) (fun _ _ _ h => h) (by rfl) (by assumption) ?_) | (refine takeS_yes (v := ?_) 5 rfl (by kernel_rfl) (by kernel_rfl) (by kernel_rfl) (fun _ _ _ h => h) (by rfl) (by assumption) ?_ ?_; rotate_left; focus (intro wS hSw; obtain ⟨e0, e1⟩ := HD.out wS hSw; go_simp; first | done | with_reducible rfl)))
      (try simp only [Act.put, List.setIfInBounds_toArray, List.set_cons_zero, List.set_cons_succ])
      (first | (refine takeS_no 6 rfl (by kernel_rfl) (by kernel_rfl) (by kernel_rfl) (fun _ _ _ h => h) (by rfl) (by assumption) ?_) | (refine takeS_yes (v := ?_) 6 rfl (by kernel_rfl) (by kernel_rfl) (by kernel_rfl) (fun _ _ _ h => h) (by rfl) (by assumption) ?_ ?_; rotate_left; focus (intro wS hSw; obtain ⟨e0, e1⟩ := HD.out wS hSw; go_simp; first | done | with_reducible rfl)))
      (try simp only [Act.put, List.setIfInBounds_toArray, List.set_cons_zero, List.set_cons_succ])
      (first | (refine takeS_no 7 rfl (by kernel_rfl) (by kernel_rfl) (by kernel_rfl) (fun _ _ _ h => h) (by rfl) (by assumption) ?_) | (refine takeS_yes (v := ?_) 7 rfl (by kernel_rfl) (by kernel_rfl) (by kernel_rfl) (fun _ _ _ h => h) (by rfl) (by assumption) ?_ ?_; rotate_left; focus (intro wS hSw; obtain ⟨e0, e1⟩ := HD.out wS hSw; go_simp; first | done | with_reducible rfl)))
      (try simp only [Act.put, List.setIfInBounds_toArray, List.set_cons_zero, List.set_cons_succ])
      (first | (refine takeS_no 8 rfl (by kernel_rfl) (by kernel_rfl) (by kernel_rfl) (fun _ _ _ h => h) (by rfl) (by assumption) ?_) | (refine takeS_yes (v := ?_) 8 rfl (by kernel_rfl) (by kernel_rfl) (by kernel_rfl) (fun _ _ _ h => h) (by rfl) (by assumption) ?_ ?_; rotate_left; focus (intro wS hSw; obtain ⟨e0, e1⟩ := HD.out wS hSw; go_simp; first | done | with_reducible rfl)))
      (try simp only [Act.put, List.setIfInBounds_toArray, List.set_cons_zero, List.set_cons_succ])
      (first | (refine takeS_no 9 rfl (by kernel_rfl) (by kernel_rfl) (by kernel_rfl) (fun _ _ _ h => h) (by rfl) (by assumption) ?_) | (refine takeS_yes (v := ?_) 9 rfl (by kernel_rfl) (by kernel_rfl) (by kernel_rfl) (fun _ _ _ h => h) (by rfl) (by assumption) ?_ ?_; rotate_left; focus (intro wS hSw; obtain ⟨e0, e1⟩ := HD.out wS hSw; go_simp; first | done | with_reducible rfl)))
      (try simp only [Act.put, List.setIfInBounds_toArray, List.set_cons_zero, List.set_cons_succ])
      (first | (refine takeS_no 10 rfl (by kernel_rfl) (by kernel_rfl) (by kernel_rfl) (fun _ _ _ h => h) (by rfl) (by assumption) ?_) | (refine takeS_yes (v := ?_) 10 rfl (by kernel_rfl) (by kernel_rfl) (by kernel_rfl) (fun _ _ _ h => h) (by rfl) (by assumption) ?_ ?_; rotate_left; focus (intro wS hSw; obtain ⟨e0, e1⟩ := HD.out wS hSw; go_simp; first | done | with_reducible rfl)))
      (try simp only [Act.put, List.setIfInBounds_toArray, List.set_cons_zero, List.set_cons_succ])
      (first | (refine takeS_no 11 rfl (by kernel_rfl) (by kernel_rfl) (by kernel_rfl) (fun _ _ _ h => h) (by rfl) (by assumption) ?_) | (refine takeS_yes (v := ?_) 11 rfl (by kernel_rfl) (by kernel_rfl) (by kernel_rfl) (fun _ _ _ h => h) (by rfl) (by assumption) ?_ ?_; rotate_left; focus (intro wS hSw; obtain ⟨e0, e1⟩ := HD.out wS hSw; go_simp; first | done | with_reducible rfl)))
      (try simp only [Act.put, List.setIfInBounds_toArray, List.set_cons_zero, List.set_cons_succ])
      (first | (refine takeS_no 12 rfl (by kernel_rfl) (by kernel_rfl) (by kernel_rfl) (fun _ _ _ h => h) (by rfl) (by assumption) ?_) | (refine takeS_yes (v := ?_) 12 rfl (by kernel_rfl) (by kernel_rfl) (by kernel_rfl) (fun _ _ _ h => h) (by rfl) (by assumption) ?_ ?_; rotate_left; focus (intro wS hSw; obtain ⟨e0, e1⟩ := HD.out wS hSw; go_simp; first | done | with_reducible rfl)))
      (try simp only [Act.put, List.setIfInBounds_toArray, List.set_cons_zero, List.set_cons_succ])
      (first | (refine takeS_no 13 rfl (by kernel_rfl) (by kernel_rfl) (by kernel_rfl) (fun _ _ _ h => h) (by rfl) (by assumption) ?_) | (refine takeS_yes (v := ?_) 13 rfl (by kernel_rfl) (by kernel_rfl) (by kernel_rfl) (fun _ _ _ h => h) (by rfl) (by assumption) ?_ ?_; rotate_left; focus (intro wS hSw; obtain ⟨e0, e1⟩ := HD.out wS hSw; go_simp; first | done | with_reducible rfl)))
      (try simp only [Act.put, List.setIfInBounds_toArray, List.set_cons_zero, List.set_cons_succ])
      (first | (refine takeS_no 14 rfl (by kernel_rfl) (by kernel_rfl) (by kernel_rfl) (fun _ _ _ h => h) (by rfl) (by assumption) ?_) | (refine takeS_yes (v := ?_) 14 rfl (by kernel_rfl) (by kernel_rfl) (by kernel_rfl) (fun _ _ _ h => h) (by rfl) (by assumption) ?_ ?_; rotate_left; focus (intro wS hSw; obtain ⟨e0, e1⟩ := HD.out wS hSw; go_simp; first | done | with_reducible rfl)))
      (try simp only [Act.put, List.setIfInBounds_toArray, List.set_cons_zero, List.set_cons_succ])
      (first | (refine takeS_no 15 rfl (by kernel_rfl) (by kernel_rfl) (by kernel_rfl) (fun _ _ _ h => h) (by rfl) (by assumption) ?_) | (refine takeS_yes (v := ?_) 15 rfl (by kernel_rfl) (by kernel_rfl) (by kernel_rfl) (fun _ _ _ h => h) (by rfl) (by assumption) ?_ ?_; rotate_left; focus (intro wS hSw; obtain ⟨e0, e1⟩ := HD.out wS hSw; go_simp; first | done | with_reducible rfl)))
      (try simp only [Act.put, List.setIfInBounds_toArray, List.set_cons_zero, List.set_cons_succ])
      refine takeS_alone 0 rfl (by kernel_rfl) (by rfl) (fun K hK => ?_)
      go_simp
      (have hS1 := Below.alloc (show Below w.heap.size w _ from hS0) (by simp) (Obj.cells #[] 5))
      refine hK.out _ _ (by assumption) ?_
      clear hK K
      (try simp only [Act.put, List.setIfInBounds_toArray, List.set_cons_zero, List.set_cons_succ])
      refine takeS_alone 16 rfl (by kernel_rfl) (by rfl) (fun K hK => ?_)
      skip
      (refine oper_append_bytes (.tmp 27) (.tmp 42) rfl w.heap.size _ [] 0 rfl rfl (World.ownsRow_lit _ #[] 0 (by simp) (by unfold maxLen; omega) rfl) (subA ao cap k 1) n (cap - k) ((xs.drop k).take n) HL2.out rfl M ((H.out.off.sub k n (by rw [H.out.len]; exact hroom)).below hS1 H.out.le) (fun e => by have := H.out.nil (subA_eq_none e); omega) (by omega) (by simp) ?_; intro v5 w5 hown5 hg5; rw [Nat.zero_add, List.nil_append] at hown5; have hS2 : Below w.heap.size w w5 := hS1.grown hg5 (by simp) (fun b e => by cases e; simp))
      refine hK.out _ _ (by assumption) ?_
      clear hK K
      (try simp only [Act.put, List.setIfInBounds_toArray, List.set_cons_zero, List.set_cons_succ])
      (first | (refine takeS_no 17 rfl (by kernel_rfl) (by kernel_rfl) (by kernel_rfl) (fun _ _ _ h => h) (by rfl) (by assumption) ?_) | (refine takeS_yes (v := ?_) 17 rfl (by kernel_rfl) (by kernel_rfl) (by kernel_rfl) (fun _ _ _ h => h) (by rfl) (by assumption) ?_ ?_; rotate_left; focus (intro wS hSw; obtain ⟨e0, e1⟩ := HD.out wS hSw; go_simp; first | done | with_reducible rfl)))
      (try simp only [Act.put, List.setIfInBounds_toArray, List.set_cons_zero, List.set_cons_succ])
      refine wpAnyH_done (by kernel_rfl) ?_ _
      clear hsl i4
      obtain ⟨a5, c5, hv5⟩ := row_slice hown5
      subst hv5
      have e1 := (HD.out w5 hS2).2
      have g1 : w5.frozen? ⟨db, 1, none⟩ = false := Go.Joins.unfrozen_of_block ((hS2.block db hdb).trans H.out.blk) 1
      have HO5 := Lib.hid hown5
      clear hg5 hown5
      go_wp2_with fail
      go_ret
      have hR := (H.out.below hS2 (Nat.le_refl _)).setAt (k + n) (by omega)
      have e : ((k + n : Nat) : Int) = (k : Int) + n := by omega
      rw [e] at hR
      have hown := own_only' HO5.out (Only.set db w5 1 (.int .i64 ((k : Int) + n))) hdb
      exact ⟨a5, n, c5, HL2.out, rfl, hown, ⟨k + n, ao, m, cap, xs, hR, by rw [List.drop_drop]⟩, (Only.of_below hS2).trans (Only.set _ _ _ _)⟩
/- The reader of the document's answer: said, count, Number, Text. Conditions: its bytes lie as their reading says. -/
theorem or_u64 (V x : Int) (hV : 0 ≤ V) (hV2 : V < 72057594037927936) (h0 : 0 ≤ x) (h1 : x < 256) : bits .or .u64 (V * 256) x = V * 256 + x := by
  obtain ⟨y, rfl⟩ : ∃ y : Nat, x = y := ⟨x.toNat, by omega⟩
  obtain ⟨m, rfl⟩ : ∃ m : Nat, V = m := ⟨V.toNat, by omega⟩
  have g1 : (BitVec.ofInt 64 ((m : Int) * 256)).toNat = m * 256 := by
    rw [show (m : Int) * 256 = ((m * 256 : Nat) : Int) by omega, BitVec.ofInt_natCast, BitVec.toNat_ofNat]; exact Nat.mod_eq_of_lt (by omega)
  have g2 : (BitVec.ofInt 64 (y : Int)).toNat = y := by
    rw [BitVec.ofInt_natCast, BitVec.toNat_ofNat]; exact Nat.mod_eq_of_lt (by omega)
  show IntKind.u64.wrap ((BitVec.ofInt 64 ((m : Int) * 256) ||| BitVec.ofInt 64 (y : Int)).toNat : Int) = _
  rw [BitVec.toNat_or, g1, g2]
  have h := Nat.two_pow_add_eq_or_of_lt (i := 8) (b := y) (by omega) m
  have e : 2 ^ 8 * m = m * 256 := by omega
  rw [e] at h
  rw [← h]
  unfold IntKind.wrap
  simp [IntKind.signed, IntKind.bits]
  omega
def RSaidAt (M db : Nat) (v : Int) (bad : Bool) (left : List Int) (w : World) (e : Ending) (w' : World) : Prop :=
  e = .returned (.int .u64 v) ∧ Ref w' M db bad left ∧ Only db w w'
set_option maxHeartbeats 1000000 in
theorem rsaid_any (M db n : Nat) (bad : Bool) (left : List Int) (w : World) (h : Ref w M db bad left) (hw : BytesWf left) (hn : n ≤ 8) :
    Calls Tryz.prog 106 #[.pointer (some ⟨db, 0, none⟩), .int .i64 n] w (RSaidAt M db (getN (takeS n bad left).1) (takeS n bad left).2.1 (takeS n bad left).2.2 w) := by
  have H := Lib.hid h
  obtain ⟨⟨got, bad2, left2⟩, hts⟩ : ∃ r, takeS n bad left = r := ⟨_, rfl⟩
  have hgw := takeS_wf (n := n) (bad := bad) hw
  have hrb := rbytes_any M db n bad left w h (by omega)
  rw [hts] at hgw hrb ⊢
  dsimp only at hgw ⊢
  obtain ⟨g, hg⟩ : ∃ g, got.length = g := ⟨_, rfl⟩
  have hg8 : g ≤ 8 := by have := hgw.2.2.1; omega
  have HB := Lib.hid hrb
  have HGW := Lib.hid hgw.1
  have HG := Lib.hid hg
  obtain ⟨R, hR⟩ : ∃ R, getN got = R := ⟨_, rfl⟩
  rw [hR]
  have HR0 := Lib.hid hR
  clear h hts hgw hw hrb hg hR
  go_enter Tryz.func106, Tryz.ntmps106
  go_wp2_with fail
  refine HB.out.mono ?_
  rintro e w1 ⟨a, n1, c, hn1, rfl, hown, hr, hon⟩
  have e1 : n1 = g := by have := HG.out; dsimp only at hn1; omega
  subst e1
  have HO := Lib.hid (own_in HG.out hown)
  have HR := Lib.hid hr
  have HON := Lib.hid hon
  clear hown hr hon hn1 HB
  go_wp2_with fail
  go_loopw [6, 7] (fun v i wr => ∃ k : Nat, k ≤ n1 ∧ i = .int .i64 k ∧ v = .int .u64 (getN (got.take k)) ∧ wr = w1) (fun _ i _ => n1 - (intOf i).toNat)
  case atStart => exact ⟨0, by omega, rfl, by rfl, rfl⟩
  case round =>
    obtain ⟨k, hk, rfl, rfl, rfl⟩ := hrel
    by_cases hlt : k < n1
    · rcases HO.out with h0 | ⟨b, off, hao, hb, hcell⟩
      · have := HG.out; rw [h0] at this; simp at this; omega
      have hkx : k < got.length := by rw [HG.out]; exact hlt
      have c0 := hcell k hkx
      have hx := HGW.out (got.getD k 0) (by simp [List.getD, List.getElem?_eq_getElem hkx])
      have hsn : getN (got.take (k + 1)) = getN (got.take k) * 256 + got.getD k 0 := by
        rw [List.take_succ_eq_append_getElem hkx, getN_snoc]
        simp [List.getD, List.getElem?_eq_getElem hkx]
      generalize got.getD k 0 = x at c0 hx hsn
      have hVb := getN_small (HGW.out.take k) (n := 7) (by rw [List.length_take]; omega)
      obtain ⟨V, hV⟩ : ∃ V, getN (got.take k) = V := ⟨_, rfl⟩
      rw [hV] at hsn hVb ⊢
      have HSN := Lib.hid hsn
      obtain ⟨hV0, hV1⟩ := hVb
      have hV2 : V < 72057594037927936 := hV1
      have i1 : (k : Int) < n1 := by omega
      have hwr : IntKind.u64.wrap (V * 256) = V * 256 := by
        unfold IntKind.wrap
        simp [IntKind.signed, IntKind.bits]
        omega
      subst hao
      obtain ⟨hx0, hx1⟩ := hx
      have hor := or_u64 V x hV0 hV2 hx0 hx1
      clear hcell hsn hV hV1
      go_wp2_with fail
      go_roundw
      case rel =>
        refine ⟨k + 1, by omega, by go_num, ?_, by trivial⟩
        rw [HSN.out]
        first | done | (rw [hwr, hor]) | (rw [hor]) | (simp [hor, hwr])
      case measure => simp [intOf]; omega
    · obtain rfl : k = n1 := by omega
      have hf : got.take k = got := List.take_of_length_le (by rw [HG.out]; exact Nat.le_refl _)
      rw [hf, HR0.out]
      clear hf
      go_wp2_with fail
      go_ret
      exact ⟨rfl, HR.out, HON.out⟩
/-- The document's count. -/
theorem rcount_any (M db : Nat) (bad : Bool) (left : List Int) (v : Int) (b2 : Bool) (l2 : List Int) (w : World) (hs : countS bad left = (v, b2, l2)) (h : Ref w M db bad left) (hw : BytesWf left) :
    Calls Tryz.prog 108 #[.pointer (some ⟨db, 0, none⟩)] w fun e w' => e = .returned (.int .i64 v) ∧ Ref w' M db b2 l2 ∧ Only db w w' := by
  have hrs := rsaid_any M db 4 bad left w h hw (by omega)
  have hb := getN_small (takeS_wf (n := 4) (bad := bad) hw).1 (takeS_wf (n := 4) (bad := bad) hw).2.2.1
  unfold countS at hs
  generalize takeS 4 bad left = r at hrs hb hs
  obtain ⟨got, b1, l1⟩ := r
  dsimp only at hrs hb hs
  obtain ⟨N, hN⟩ : ∃ N, getN got = N := ⟨_, rfl⟩
  rw [hN] at hrs hb hs
  have hb0 : 0 ≤ N := hb.1
  have hb1 : N < 4294967296 := hb.2
  have HS := Lib.hid hrs
  clear hrs hb hN h hw
  by_cases hgt : 65536 < N
  · have j1 : (65536 : Int) < N := hgt
    rw [if_pos (Or.inr hgt)] at hs
    simp only [Prod.mk.injEq] at hs
    obtain ⟨rfl, rfl, rfl⟩ := hs
    go_enter Tryz.func108, Tryz.ntmps108
    go_wp2_with fail
    refine HS.out.mono ?_
    rintro e w1 ⟨rfl, hr, ho⟩
    have e1 := hr.badCell.1
    have e2 := hr.badCell.2
    have hlt := hr.lt
    have HR := Lib.hid hr
    clear hr HS
    go_wp2_with fail
    go_ret
    exact ⟨rfl, HR.out.setBad true, ho.trans (Only.set _ _ _ _)⟩
  · have j1 : (N : Int) ≤ 65536 := by omega
    have j2 : decide ((65536 : Int) < N) = false := by simpa using j1
    have j3 : IntKind.i64.wrap N = N := IntWalk.i64_in _ (by omega)
    cases b1 with
    | true =>
      rw [if_pos (Or.inl rfl)] at hs
      simp only [Prod.mk.injEq] at hs
      obtain ⟨rfl, rfl, rfl⟩ := hs
      go_enter Tryz.func108, Tryz.ntmps108
      go_wp2_with fail
      refine HS.out.mono ?_
      rintro e w1 ⟨rfl, hr, ho⟩
      have e1 := hr.badCell.1
      have HR := Lib.hid hr
      clear hr HS
      go_wp2_with fail
      go_ret
      exact ⟨rfl, HR.out, ho⟩
    | false =>
      rw [if_neg (by simp; omega)] at hs
      simp only [Prod.mk.injEq] at hs
      obtain ⟨rfl, rfl, rfl⟩ := hs
      go_enter Tryz.func108, Tryz.ntmps108
      go_wp2_with fail
      refine HS.out.mono ?_
      rintro e w1 ⟨rfl, hr, ho⟩
      have e1 := hr.badCell.1
      have HR := Lib.hid hr
      clear hr HS
      go_wp2_with fail
      go_ret
      exact ⟨rfl, HR.out, ho⟩
theorem rnum_any (M db : Nat) (bad : Bool) (left : List Int) (v : Int) (b2 : Bool) (l2 : List Int) (w : World) (hs : numS bad left = (v, b2, l2)) (h : Ref w M db bad left) (hw : BytesWf left) :
    Calls Tryz.prog 77 #[.pointer (some ⟨db, 0, none⟩)] w fun e w' => e = .returned (.int .i64 v) ∧ Ref w' M db b2 l2 ∧ Only db w w' := by
  have hrs := rsaid_any M db 8 bad left w h hw (by omega)
  unfold numS at hs
  simp only [Prod.mk.injEq] at hs
  obtain ⟨h1, h2⟩ := hs
  rw [h2] at hrs
  have hb := getN_small (takeS_wf (n := 8) (bad := bad) hw).1 (takeS_wf (n := 8) (bad := bad) hw).2.2.1
  generalize getN (takeS 8 bad left).1 = N at hrs h1 hb
  have HS := Lib.hid hrs
  clear hrs h2 h hw hb
  go_enter Tryz.func77, Tryz.ntmps77
  go_wp2_with fail
  refine HS.out.mono ?_
  rintro e w1 ⟨rfl, hr, ho⟩
  have HR := Lib.hid hr
  clear hr HS
  go_wp2_with fail
  go_ret
  exact ⟨rfl, HR.out, ho⟩
theorem conv_own {w : World} {base n c : Nat} {a : Option Addr} {l : List Int} (hn : l.length = n) (h : w.ownsRow base 5 1 (.slice a n c) n (l.map bv)) : (convert 22 9 (.slice a n c)).run Tryz.prog w = .ok (.string (strN l)) w := by
  subst hn
  refine conv_text (M := w.heap.size) (rb := w.heap.size) ?_ (own_none h)
  rcases own_bytes' h with h0 | ⟨b, off, h1, h2, h3⟩
  · exact Or.inl h0
  · exact Or.inr ⟨b, off, h1, h2, by omega, h3⟩
theorem rtext_any (M db : Nat) (bad : Bool) (left : List Int) (v : ByteArray) (b2 : Bool) (l2 : List Int) (w : World) (hs : textS bad left = (v, b2, l2)) (h : Ref w M db bad left) (hw : BytesWf left) :
    Calls Tryz.prog 130 #[.pointer (some ⟨db, 0, none⟩)] w fun e w' => e = .returned (.string v) ∧ Ref w' M db b2 l2 ∧ Only db w w' := by
  have hcw := countS_wf (bad := bad) hw
  obtain ⟨⟨n0, b0, l0⟩, hc⟩ : ∃ r, countS bad left = r := ⟨_, rfl⟩
  have HC := Lib.hid (rcount_any M db bad left n0 b0 l0 w hc h hw)
  unfold textS at hs
  rw [hc] at hs hcw
  dsimp only at hs hcw
  obtain ⟨N, rfl⟩ : ∃ N : Nat, n0 = N := ⟨n0.toNat, by omega⟩
  rw [Int.toNat_natCast] at hs
  simp only [Prod.mk.injEq] at hs
  obtain ⟨h1, h2, h3⟩ := hs
  have HB := Lib.hid (fun w1 (hr : Ref w1 M db b0 l0) => rbytes_any M db N b0 l0 w1 hr (by omega))
  generalize takeS N b0 l0 = r at HB h1 h2 h3
  obtain ⟨got, b1, l1⟩ := r
  dsimp only at h1 h2 h3
  subst h1 h2 h3
  clear hc h hw hcw
  go_enter Tryz.func130, Tryz.ntmps130
  go_wp2_with fail
  refine HC.out.mono ?_
  rintro e w1 ⟨rfl, hr, ho⟩
  have R1 := Lib.hid hr
  have O1 := Lib.hid ho
  clear hr ho HC
  go_wp2_with fail
  refine (HB.out w1 R1.out).mono ?_
  rintro e w2 ⟨a, n, c, hn, rfl, hown, hr, ho⟩
  have hcv := conv_own hn hown
  have R2 := Lib.hid hr
  have O2 := Lib.hid (O1.out.trans ho)
  clear hr ho HB hown hn R1 O1
  go_wp2_with fail
  go_ret
  exact ⟨rfl, R2.out, O2.out⟩
/- The reader of the document's answer: Value. Conditions: its bytes lie as their reading says. -/
set_option maxHeartbeats 4000000 in
theorem rvalue_any (M db : Nat) (bad : Bool) (left : List Int) (v : Va) (b9 : Bool) (l9 : List Int) (w : World) (hs : valueS bad left = (v, b9, l9)) (h : Ref w M db bad left) (hw : BytesWf left) :
    Calls Tryz.prog 143 #[.pointer (some ⟨db, 0, none⟩)] w fun e w' => e = .returned v.val ∧ Ref w' M db b9 l9 ∧ Only db w w' := by
  have hdb := h.lt
  have hM := h.le
  obtain ⟨R, hR⟩ : ∃ R, ((v, b9, l9) : Va × Bool × List Int) = R := ⟨_, rfl⟩
  have e1 : v = R.1 := by rw [← hR]
  have e2 : b9 = R.2.1 := by rw [← hR]
  have e3 : l9 = R.2.2 := by rw [← hR]
  rw [hR] at hs
  rw [e1, e2, e3]
  clear hR e1 e2 e3
  have hrs := fun w1 (hr : Ref w1 M db bad left) => rsaid_any M db 1 bad left w1 hr hw (by omega)
  have htw := takeS_wf (n := 1) (bad := bad) hw
  unfold valueS at hs
  dsimp only at hs
  generalize takeS 1 bad left = r at hrs htw hs
  obtain ⟨got, b1, l1⟩ := r
  dsimp only at hrs htw hs
  have hkb := getN_small htw.1 htw.2.2.1
  generalize getN got = kd at hrs hs hkb
  have hk0 : 0 ≤ kd := hkb.1
  have hk1 : kd < 256 := hkb.2
  have HRS := Lib.hid hrs
  have HL1 := Lib.hid htw.2.1
  have HS := Lib.hid hs
  have hu8 : IntKind.u8.wrap kd = kd := by
    unfold IntKind.wrap
    simp [IntKind.signed, IntKind.bits]
    omega
  have hA := (Below.refl w.heap.size w).alloc (Nat.le_refl _) (.cells #[.int .u8 0, .int .i64 0, .string ⟨#[]⟩] 132)
  have R0 := Lib.hid (h.below hA)
  have O0 := Lib.hid ((Only.refl db w).alloc (.cells #[.int .u8 0, .int .i64 0, .string ⟨#[]⟩] 132))
  have Z0 := Lib.hid (heap_alloc_new w (.cells #[.int .u8 0, .int .i64 0, .string ⟨#[]⟩] 132))
  have hz0 : w.heap.size + 1 ≤ (w.alloc (.cells #[.int .u8 0, .int .i64 0, .string ⟨#[]⟩] 132)).heap.size := by simp
  clear h hA hrs htw hs hkb hw
  go_enter Tryz.func143, Tryz.ntmps143
  go_wp2_with fail
  generalize w.alloc (.cells #[.int .u8 0, .int .i64 0, .string ⟨#[]⟩] 132) = w0 at R0 O0 Z0 hz0 ⊢
  refine (HRS.out w0 R0.out).mono ?_
  rintro e w1 ⟨rfl, hr, ho⟩
  have R1 := Lib.hid hr
  have O1 := Lib.hid (O0.out.trans ho)
  have hz1 : w.heap.size + 1 ≤ w1.heap.size := Nat.le_trans hz0 ho.1
  have Z1 := Lib.hid ((ho.2 w.heap.size (by omega) (by omega)).trans Z0.out)
  clear hr ho R0 O0 Z0 HRS
  by_cases hc1 : kd = 1
  · subst hc1
    have hS0 := HS.out
    rw [if_pos (by trivial)] at hS0
    obtain ⟨⟨x, b2, l2⟩, hx⟩ : ∃ r, numS b1 l1 = r := ⟨_, rfl⟩
    have hx1 : IntKind.i64.wrap (getN (takeS 8 b1 l1).1) = x := congrArg Prod.fst hx
    have hx2 : (takeS 8 b1 l1).2 = (b2, l2) := congrArg Prod.snd hx
    rw [hx1, hx2] at hS0
    dsimp only at hS0
    have HX := Lib.hid hx
    clear HS
    have HS := Lib.hid hS0
    clear hS0 hx hx1 hx2
    have hA := (Below.refl w1.heap.size w1).alloc (Nat.le_refl _) (.cells #[.int .u8 1, .int .i64 0, .string ⟨#[]⟩] 132)
    have R2 := Lib.hid (R1.out.below hA)
    have O2 := Lib.hid (O1.out.alloc (.cells #[.int .u8 1, .int .i64 0, .string ⟨#[]⟩] 132))
    have Z2 := Lib.hid ((hA.block w.heap.size (by omega)).trans Z1.out)
    have G2 := Lib.hid (heap_alloc_new w1 (.cells #[.int .u8 1, .int .i64 0, .string ⟨#[]⟩] 132))
    have hz2 : w1.heap.size + 1 ≤ (w1.alloc (.cells #[.int .u8 1, .int .i64 0, .string ⟨#[]⟩] 132)).heap.size := by simp
    clear hA R1 O1 Z1
    go_wp2_with fail
    generalize w1.alloc (.cells #[.int .u8 1, .int .i64 0, .string ⟨#[]⟩] 132) = w2 at R2 O2 Z2 G2 hz2 ⊢
    refine (rnum_any M db b1 l1 x b2 l2 w2 HX.out R2.out HL1.out).mono ?_
    rintro e w3 ⟨rfl, hr, ho⟩
    have R3 := Lib.hid hr
    have O3 := Lib.hid (O2.out.trans ho)
    have hz3 : w1.heap.size + 1 ≤ w3.heap.size := Nat.le_trans hz2 ho.1
    have Z3 := Lib.hid ((ho.2 w.heap.size (by omega) (by omega)).trans Z2.out)
    have G3 := Lib.hid ((ho.2 w1.heap.size (by omega) (by omega)).trans G2.out)
    clear hr ho R2 O2 Z2 G2
    have e0 : w3.cell? ⟨w1.heap.size, 0, none⟩ = some (.int .u8 1) := Go.Joins.cell_of_block G3.out 0
    have e1 : w3.cell? ⟨w1.heap.size, 1, none⟩ = some (.int .i64 0) := Go.Joins.cell_of_block G3.out 1
    have e2 : w3.cell? ⟨w1.heap.size, 2, none⟩ = some (.string ⟨#[]⟩) := Go.Joins.cell_of_block G3.out 2
    have f1 : w3.frozen? ⟨w1.heap.size, 1, none⟩ = false := Go.Joins.unfrozen_of_block G3.out 1
    have g0 : w3.frozen? ⟨w.heap.size, 0, none⟩ = false := Go.Joins.unfrozen_of_block Z3.out 0
    have g1 : w3.frozen? ⟨w.heap.size, 1, none⟩ = false := Go.Joins.unfrozen_of_block Z3.out 1
    have g2 : w3.frozen? ⟨w.heap.size, 2, none⟩ = false := Go.Joins.unfrozen_of_block Z3.out 2
    have hbc : ∀ u, (w3.setCell ⟨w1.heap.size, 1, none⟩ u).cell? ⟨db, 2, none⟩ = some (.bool b2) := fun u => (R3.out.other (g := w1.heap.size) (i := 1) (by omega) (by omega) u).badCell.1
    have z0 : ∀ u, (w3.setCell ⟨w1.heap.size, 1, none⟩ u).cell? ⟨w.heap.size, 0, none⟩ = some (.int .u8 0) := fun u => Go.Joins.cell_of_block ((heap_setCell_other _ _ _ _ (show w.heap.size ≠ w1.heap.size by omega)).trans Z3.out) 0
    have z1 : ∀ u, (w3.setCell ⟨w1.heap.size, 1, none⟩ u).cell? ⟨w.heap.size, 1, none⟩ = some (.int .i64 0) := fun u => Go.Joins.cell_of_block ((heap_setCell_other _ _ _ _ (show w.heap.size ≠ w1.heap.size by omega)).trans Z3.out) 1
    have z2 : ∀ u, (w3.setCell ⟨w1.heap.size, 1, none⟩ u).cell? ⟨w.heap.size, 2, none⟩ = some (.string ⟨#[]⟩) := fun u => Go.Joins.cell_of_block ((heap_setCell_other _ _ _ _ (show w.heap.size ≠ w1.heap.size by omega)).trans Z3.out) 2
    cases b2 with
    | true =>
      go_wp2_with fail
      have q : ((((w3.setCell ⟨w1.heap.size, 1, none⟩ (.int .i64 x)).setCell ⟨w.heap.size, 0, none⟩ (.int .u8 0)).setCell ⟨w.heap.size, 1, none⟩ (.int .i64 0)).setCell ⟨w.heap.size, 2, none⟩ (.string ⟨#[]⟩)).heap[w.heap.size]? = some (.cells #[.int .u8 0, .int .i64 0, .string ⟨#[]⟩] 132 (0, 0)) := (Go.Joins.block_setCell (i := 2) (Go.Joins.block_setCell (i := 1) (Go.Joins.block_setCell (i := 0) ((heap_setCell_other _ _ _ _ (show w.heap.size ≠ w1.heap.size by omega)).trans Z3.out) (.int .u8 0)) (.int .i64 0)) (.string ⟨#[]⟩))
      have r_ : Ref ((((w3.setCell ⟨w1.heap.size, 1, none⟩ (.int .i64 x)).setCell ⟨w.heap.size, 0, none⟩ (.int .u8 0)).setCell ⟨w.heap.size, 1, none⟩ (.int .i64 0)).setCell ⟨w.heap.size, 2, none⟩ (.string ⟨#[]⟩)) M db _ l2 := ((((R3.out.other (g := w1.heap.size) (i := 1) (by omega) (by omega) (.int .i64 x)).other (g := w.heap.size) (i := 0) hM (by omega) (.int .u8 0)).other (g := w.heap.size) (i := 1) hM (by omega) (.int .i64 0)).other (g := w.heap.size) (i := 2) hM (by omega) (.string ⟨#[]⟩))
      have o_ : Only db w ((((w3.setCell ⟨w1.heap.size, 1, none⟩ (.int .i64 x)).setCell ⟨w.heap.size, 0, none⟩ (.int .u8 0)).setCell ⟨w.heap.size, 1, none⟩ (.int .i64 0)).setCell ⟨w.heap.size, 2, none⟩ (.string ⟨#[]⟩)) := ((((O3.out.new (g := w1.heap.size) (i := 1) (by omega) (.int .i64 x)).new (g := w.heap.size) (i := 0) (Nat.le_refl _) (.int .u8 0)).new (g := w.heap.size) (i := 1) (Nat.le_refl _) (.int .i64 0)).new (g := w.heap.size) (i := 2) (Nat.le_refl _) (.string ⟨#[]⟩))
      generalize ((((w3.setCell ⟨w1.heap.size, 1, none⟩ (.int .i64 x)).setCell ⟨w.heap.size, 0, none⟩ (.int .u8 0)).setCell ⟨w.heap.size, 1, none⟩ (.int .i64 0)).setCell ⟨w.heap.size, 2, none⟩ (.string ⟨#[]⟩)) = w9 at q r_ o_ ⊢
      have d0 : w9.cell? ⟨w.heap.size, 0, none⟩ = some (.int .u8 0) := Go.Joins.cell_of_block q 0
      have d1 : w9.cell? ⟨w.heap.size, 1, none⟩ = some (.int .i64 0) := Go.Joins.cell_of_block q 1
      have d2 : w9.cell? ⟨w.heap.size, 2, none⟩ = some (.string ⟨#[]⟩) := Go.Joins.cell_of_block q 2
      have hS := HS.out
      try simp only [if_true, if_false, Bool.false_eq_true, reduceIte] at hS
      subst hS
      exact bodyPost_ret (v := .agg #[.int .u8 0, .int .i64 0, .string ⟨#[]⟩]) (by simp [results, Tryz.results143, go_sem, d0, d1, d2]) rfl ⟨rfl, r_, o_⟩
    | false =>
      go_wp2_with fail
      have q : ((((w3.setCell ⟨w1.heap.size, 1, none⟩ (.int .i64 x)).setCell ⟨w.heap.size, 0, none⟩ (.int .u8 1)).setCell ⟨w.heap.size, 1, none⟩ (.int .i64 x)).setCell ⟨w.heap.size, 2, none⟩ (.string ⟨#[]⟩)).heap[w.heap.size]? = some (.cells #[.int .u8 1, .int .i64 x, .string ⟨#[]⟩] 132 (0, 0)) := (Go.Joins.block_setCell (i := 2) (Go.Joins.block_setCell (i := 1) (Go.Joins.block_setCell (i := 0) ((heap_setCell_other _ _ _ _ (show w.heap.size ≠ w1.heap.size by omega)).trans Z3.out) (.int .u8 1)) (.int .i64 x)) (.string ⟨#[]⟩))
      have r_ : Ref ((((w3.setCell ⟨w1.heap.size, 1, none⟩ (.int .i64 x)).setCell ⟨w.heap.size, 0, none⟩ (.int .u8 1)).setCell ⟨w.heap.size, 1, none⟩ (.int .i64 x)).setCell ⟨w.heap.size, 2, none⟩ (.string ⟨#[]⟩)) M db _ l2 := ((((R3.out.other (g := w1.heap.size) (i := 1) (by omega) (by omega) (.int .i64 x)).other (g := w.heap.size) (i := 0) hM (by omega) (.int .u8 1)).other (g := w.heap.size) (i := 1) hM (by omega) (.int .i64 x)).other (g := w.heap.size) (i := 2) hM (by omega) (.string ⟨#[]⟩))
      have o_ : Only db w ((((w3.setCell ⟨w1.heap.size, 1, none⟩ (.int .i64 x)).setCell ⟨w.heap.size, 0, none⟩ (.int .u8 1)).setCell ⟨w.heap.size, 1, none⟩ (.int .i64 x)).setCell ⟨w.heap.size, 2, none⟩ (.string ⟨#[]⟩)) := ((((O3.out.new (g := w1.heap.size) (i := 1) (by omega) (.int .i64 x)).new (g := w.heap.size) (i := 0) (Nat.le_refl _) (.int .u8 1)).new (g := w.heap.size) (i := 1) (Nat.le_refl _) (.int .i64 x)).new (g := w.heap.size) (i := 2) (Nat.le_refl _) (.string ⟨#[]⟩))
      generalize ((((w3.setCell ⟨w1.heap.size, 1, none⟩ (.int .i64 x)).setCell ⟨w.heap.size, 0, none⟩ (.int .u8 1)).setCell ⟨w.heap.size, 1, none⟩ (.int .i64 x)).setCell ⟨w.heap.size, 2, none⟩ (.string ⟨#[]⟩)) = w9 at q r_ o_ ⊢
      have d0 : w9.cell? ⟨w.heap.size, 0, none⟩ = some (.int .u8 1) := Go.Joins.cell_of_block q 0
      have d1 : w9.cell? ⟨w.heap.size, 1, none⟩ = some (.int .i64 x) := Go.Joins.cell_of_block q 1
      have d2 : w9.cell? ⟨w.heap.size, 2, none⟩ = some (.string ⟨#[]⟩) := Go.Joins.cell_of_block q 2
      have hS := HS.out
      try simp only [if_true, if_false, Bool.false_eq_true, reduceIte] at hS
      subst hS
      exact bodyPost_ret (v := .agg #[.int .u8 1, .int .i64 x, .string ⟨#[]⟩]) (by simp [results, Tryz.results143, go_sem, d0, d1, d2]) rfl ⟨rfl, r_, o_⟩
  by_cases hc2 : kd = 2
  · subst hc2
    have hS0 := HS.out
    rw [if_neg (by decide), if_pos (by trivial)] at hS0
    obtain ⟨⟨x, b2, l2⟩, hx⟩ : ∃ r, textS b1 l1 = r := ⟨_, rfl⟩
    rw [hx] at hS0
    dsimp only at hS0
    have HX := Lib.hid hx
    clear HS
    have HS := Lib.hid hS0
    clear hS0 hx
    have hA := (Below.refl w1.heap.size w1).alloc (Nat.le_refl _) (.cells #[.int .u8 2, .int .i64 0, .string ⟨#[]⟩] 132)
    have R2 := Lib.hid (R1.out.below hA)
    have O2 := Lib.hid (O1.out.alloc (.cells #[.int .u8 2, .int .i64 0, .string ⟨#[]⟩] 132))
    have Z2 := Lib.hid ((hA.block w.heap.size (by omega)).trans Z1.out)
    have G2 := Lib.hid (heap_alloc_new w1 (.cells #[.int .u8 2, .int .i64 0, .string ⟨#[]⟩] 132))
    have hz2 : w1.heap.size + 1 ≤ (w1.alloc (.cells #[.int .u8 2, .int .i64 0, .string ⟨#[]⟩] 132)).heap.size := by simp
    clear hA R1 O1 Z1
    go_wp2_with fail
    generalize w1.alloc (.cells #[.int .u8 2, .int .i64 0, .string ⟨#[]⟩] 132) = w2 at R2 O2 Z2 G2 hz2 ⊢
    refine (rtext_any M db b1 l1 x b2 l2 w2 HX.out R2.out HL1.out).mono ?_
    rintro e w3 ⟨rfl, hr, ho⟩
    have R3 := Lib.hid hr
    have O3 := Lib.hid (O2.out.trans ho)
    have hz3 : w1.heap.size + 1 ≤ w3.heap.size := Nat.le_trans hz2 ho.1
    have Z3 := Lib.hid ((ho.2 w.heap.size (by omega) (by omega)).trans Z2.out)
    have G3 := Lib.hid ((ho.2 w1.heap.size (by omega) (by omega)).trans G2.out)
    clear hr ho R2 O2 Z2 G2
    have e0 : w3.cell? ⟨w1.heap.size, 0, none⟩ = some (.int .u8 2) := Go.Joins.cell_of_block G3.out 0
    have e1 : w3.cell? ⟨w1.heap.size, 1, none⟩ = some (.int .i64 0) := Go.Joins.cell_of_block G3.out 1
    have e2 : w3.cell? ⟨w1.heap.size, 2, none⟩ = some (.string ⟨#[]⟩) := Go.Joins.cell_of_block G3.out 2
    have f2 : w3.frozen? ⟨w1.heap.size, 2, none⟩ = false := Go.Joins.unfrozen_of_block G3.out 2
    have g0 : w3.frozen? ⟨w.heap.size, 0, none⟩ = false := Go.Joins.unfrozen_of_block Z3.out 0
    have g1 : w3.frozen? ⟨w.heap.size, 1, none⟩ = false := Go.Joins.unfrozen_of_block Z3.out 1
    have g2 : w3.frozen? ⟨w.heap.size, 2, none⟩ = false := Go.Joins.unfrozen_of_block Z3.out 2
    have hbc : ∀ u, (w3.setCell ⟨w1.heap.size, 2, none⟩ u).cell? ⟨db, 2, none⟩ = some (.bool b2) := fun u => (R3.out.other (g := w1.heap.size) (i := 2) (by omega) (by omega) u).badCell.1
    have z0 : ∀ u, (w3.setCell ⟨w1.heap.size, 2, none⟩ u).cell? ⟨w.heap.size, 0, none⟩ = some (.int .u8 0) := fun u => Go.Joins.cell_of_block ((heap_setCell_other _ _ _ _ (show w.heap.size ≠ w1.heap.size by omega)).trans Z3.out) 0
    have z1 : ∀ u, (w3.setCell ⟨w1.heap.size, 2, none⟩ u).cell? ⟨w.heap.size, 1, none⟩ = some (.int .i64 0) := fun u => Go.Joins.cell_of_block ((heap_setCell_other _ _ _ _ (show w.heap.size ≠ w1.heap.size by omega)).trans Z3.out) 1
    have z2 : ∀ u, (w3.setCell ⟨w1.heap.size, 2, none⟩ u).cell? ⟨w.heap.size, 2, none⟩ = some (.string ⟨#[]⟩) := fun u => Go.Joins.cell_of_block ((heap_setCell_other _ _ _ _ (show w.heap.size ≠ w1.heap.size by omega)).trans Z3.out) 2
    cases b2 with
    | true =>
      go_wp2_with fail
      have q : ((((w3.setCell ⟨w1.heap.size, 2, none⟩ (.string x)).setCell ⟨w.heap.size, 0, none⟩ (.int .u8 0)).setCell ⟨w.heap.size, 1, none⟩ (.int .i64 0)).setCell ⟨w.heap.size, 2, none⟩ (.string ⟨#[]⟩)).heap[w.heap.size]? = some (.cells #[.int .u8 0, .int .i64 0, .string ⟨#[]⟩] 132 (0, 0)) := (Go.Joins.block_setCell (i := 2) (Go.Joins.block_setCell (i := 1) (Go.Joins.block_setCell (i := 0) ((heap_setCell_other _ _ _ _ (show w.heap.size ≠ w1.heap.size by omega)).trans Z3.out) (.int .u8 0)) (.int .i64 0)) (.string ⟨#[]⟩))
      have r_ : Ref ((((w3.setCell ⟨w1.heap.size, 2, none⟩ (.string x)).setCell ⟨w.heap.size, 0, none⟩ (.int .u8 0)).setCell ⟨w.heap.size, 1, none⟩ (.int .i64 0)).setCell ⟨w.heap.size, 2, none⟩ (.string ⟨#[]⟩)) M db _ l2 := ((((R3.out.other (g := w1.heap.size) (i := 2) (by omega) (by omega) (.string x)).other (g := w.heap.size) (i := 0) hM (by omega) (.int .u8 0)).other (g := w.heap.size) (i := 1) hM (by omega) (.int .i64 0)).other (g := w.heap.size) (i := 2) hM (by omega) (.string ⟨#[]⟩))
      have o_ : Only db w ((((w3.setCell ⟨w1.heap.size, 2, none⟩ (.string x)).setCell ⟨w.heap.size, 0, none⟩ (.int .u8 0)).setCell ⟨w.heap.size, 1, none⟩ (.int .i64 0)).setCell ⟨w.heap.size, 2, none⟩ (.string ⟨#[]⟩)) := ((((O3.out.new (g := w1.heap.size) (i := 2) (by omega) (.string x)).new (g := w.heap.size) (i := 0) (Nat.le_refl _) (.int .u8 0)).new (g := w.heap.size) (i := 1) (Nat.le_refl _) (.int .i64 0)).new (g := w.heap.size) (i := 2) (Nat.le_refl _) (.string ⟨#[]⟩))
      generalize ((((w3.setCell ⟨w1.heap.size, 2, none⟩ (.string x)).setCell ⟨w.heap.size, 0, none⟩ (.int .u8 0)).setCell ⟨w.heap.size, 1, none⟩ (.int .i64 0)).setCell ⟨w.heap.size, 2, none⟩ (.string ⟨#[]⟩)) = w9 at q r_ o_ ⊢
      have d0 : w9.cell? ⟨w.heap.size, 0, none⟩ = some (.int .u8 0) := Go.Joins.cell_of_block q 0
      have d1 : w9.cell? ⟨w.heap.size, 1, none⟩ = some (.int .i64 0) := Go.Joins.cell_of_block q 1
      have d2 : w9.cell? ⟨w.heap.size, 2, none⟩ = some (.string ⟨#[]⟩) := Go.Joins.cell_of_block q 2
      have hS := HS.out
      try simp only [if_true, if_false, Bool.false_eq_true, reduceIte] at hS
      subst hS
      exact bodyPost_ret (v := .agg #[.int .u8 0, .int .i64 0, .string ⟨#[]⟩]) (by simp [results, Tryz.results143, go_sem, d0, d1, d2]) rfl ⟨rfl, r_, o_⟩
    | false =>
      go_wp2_with fail
      have q : ((((w3.setCell ⟨w1.heap.size, 2, none⟩ (.string x)).setCell ⟨w.heap.size, 0, none⟩ (.int .u8 2)).setCell ⟨w.heap.size, 1, none⟩ (.int .i64 0)).setCell ⟨w.heap.size, 2, none⟩ (.string x)).heap[w.heap.size]? = some (.cells #[.int .u8 2, .int .i64 0, .string x] 132 (0, 0)) := (Go.Joins.block_setCell (i := 2) (Go.Joins.block_setCell (i := 1) (Go.Joins.block_setCell (i := 0) ((heap_setCell_other _ _ _ _ (show w.heap.size ≠ w1.heap.size by omega)).trans Z3.out) (.int .u8 2)) (.int .i64 0)) (.string x))
      have r_ : Ref ((((w3.setCell ⟨w1.heap.size, 2, none⟩ (.string x)).setCell ⟨w.heap.size, 0, none⟩ (.int .u8 2)).setCell ⟨w.heap.size, 1, none⟩ (.int .i64 0)).setCell ⟨w.heap.size, 2, none⟩ (.string x)) M db _ l2 := ((((R3.out.other (g := w1.heap.size) (i := 2) (by omega) (by omega) (.string x)).other (g := w.heap.size) (i := 0) hM (by omega) (.int .u8 2)).other (g := w.heap.size) (i := 1) hM (by omega) (.int .i64 0)).other (g := w.heap.size) (i := 2) hM (by omega) (.string x))
      have o_ : Only db w ((((w3.setCell ⟨w1.heap.size, 2, none⟩ (.string x)).setCell ⟨w.heap.size, 0, none⟩ (.int .u8 2)).setCell ⟨w.heap.size, 1, none⟩ (.int .i64 0)).setCell ⟨w.heap.size, 2, none⟩ (.string x)) := ((((O3.out.new (g := w1.heap.size) (i := 2) (by omega) (.string x)).new (g := w.heap.size) (i := 0) (Nat.le_refl _) (.int .u8 2)).new (g := w.heap.size) (i := 1) (Nat.le_refl _) (.int .i64 0)).new (g := w.heap.size) (i := 2) (Nat.le_refl _) (.string x))
      generalize ((((w3.setCell ⟨w1.heap.size, 2, none⟩ (.string x)).setCell ⟨w.heap.size, 0, none⟩ (.int .u8 2)).setCell ⟨w.heap.size, 1, none⟩ (.int .i64 0)).setCell ⟨w.heap.size, 2, none⟩ (.string x)) = w9 at q r_ o_ ⊢
      have d0 : w9.cell? ⟨w.heap.size, 0, none⟩ = some (.int .u8 2) := Go.Joins.cell_of_block q 0
      have d1 : w9.cell? ⟨w.heap.size, 1, none⟩ = some (.int .i64 0) := Go.Joins.cell_of_block q 1
      have d2 : w9.cell? ⟨w.heap.size, 2, none⟩ = some (.string x) := Go.Joins.cell_of_block q 2
      have hS := HS.out
      try simp only [if_true, if_false, Bool.false_eq_true, reduceIte] at hS
      subst hS
      exact bodyPost_ret (v := .agg #[.int .u8 2, .int .i64 0, .string x]) (by simp [results, Tryz.results143, go_sem, d0, d1, d2]) rfl ⟨rfl, r_, o_⟩
  have n1 : (kd == 1) = false := by simpa using hc1
  have n2 : decide (kd = 1) = false := by simpa using hc1
  have n3 : (kd == 2) = false := by simpa using hc2
  have n4 : decide (kd = 2) = false := by simpa using hc2
  have hS0 := HS.out
  rw [if_neg hc1, if_neg hc2] at hS0
  clear HS
  have HS := Lib.hid hS0
  clear hS0
  have hA := fun o => (Below.refl w1.heap.size w1).alloc (Nat.le_refl _) o
  have R2 := Lib.hid (R1.out.below (hA (.cells #[.int .u8 kd, .int .i64 0, .string ⟨#[]⟩] 132)))
  have O2 := Lib.hid (O1.out.alloc (.cells #[.int .u8 kd, .int .i64 0, .string ⟨#[]⟩] 132))
  have Z2 := Lib.hid (((hA (.cells #[.int .u8 kd, .int .i64 0, .string ⟨#[]⟩] 132)).block w.heap.size (by omega)).trans Z1.out)
  have G2 := Lib.hid (heap_alloc_new w1 (.cells #[.int .u8 kd, .int .i64 0, .string ⟨#[]⟩] 132))
  have hf2 : ∀ o, (w1.alloc o).frozen? ⟨db, 2, none⟩ = false := fun o => (R1.out.below (hA o)).badCell.2
  have hc2' : ∀ o, (w1.alloc o).cell? ⟨db, 2, none⟩ = some (.bool b1) := fun o => (R1.out.below (hA o)).badCell.1
  have g0 : ∀ u o, ((w1.alloc o).setCell ⟨db, 2, none⟩ u).frozen? ⟨w.heap.size, 0, none⟩ = false := fun u o => Go.Joins.unfrozen_of_block ((heap_setCell_other _ _ _ _ (show w.heap.size ≠ db by omega)).trans (((hA o).block w.heap.size (by omega)).trans Z1.out)) 0
  have z0 : ∀ u o, ((w1.alloc o).setCell ⟨db, 2, none⟩ u).cell? ⟨w.heap.size, 0, none⟩ = some (.int .u8 0) := fun u o => Go.Joins.cell_of_block ((heap_setCell_other _ _ _ _ (show w.heap.size ≠ db by omega)).trans (((hA o).block w.heap.size (by omega)).trans Z1.out)) 0
  have g1 : ∀ u o, ((w1.alloc o).setCell ⟨db, 2, none⟩ u).frozen? ⟨w.heap.size, 1, none⟩ = false := fun u o => Go.Joins.unfrozen_of_block ((heap_setCell_other _ _ _ _ (show w.heap.size ≠ db by omega)).trans (((hA o).block w.heap.size (by omega)).trans Z1.out)) 1
  have z1 : ∀ u o, ((w1.alloc o).setCell ⟨db, 2, none⟩ u).cell? ⟨w.heap.size, 1, none⟩ = some (.int .i64 0) := fun u o => Go.Joins.cell_of_block ((heap_setCell_other _ _ _ _ (show w.heap.size ≠ db by omega)).trans (((hA o).block w.heap.size (by omega)).trans Z1.out)) 1
  have g2 : ∀ u o, ((w1.alloc o).setCell ⟨db, 2, none⟩ u).frozen? ⟨w.heap.size, 2, none⟩ = false := fun u o => Go.Joins.unfrozen_of_block ((heap_setCell_other _ _ _ _ (show w.heap.size ≠ db by omega)).trans (((hA o).block w.heap.size (by omega)).trans Z1.out)) 2
  have z2 : ∀ u o, ((w1.alloc o).setCell ⟨db, 2, none⟩ u).cell? ⟨w.heap.size, 2, none⟩ = some (.string ⟨#[]⟩) := fun u o => Go.Joins.cell_of_block ((heap_setCell_other _ _ _ _ (show w.heap.size ≠ db by omega)).trans (((hA o).block w.heap.size (by omega)).trans Z1.out)) 2
  clear hA
  have R3 := Lib.hid (R2.out.setBad true)
  have O3 := Lib.hid (O2.out.trans (Only.set db _ 2 (.bool true)))
  have Z3 := Lib.hid ((heap_setCell_other _ ⟨db, 2, none⟩ _ (.bool true) (show w.heap.size ≠ db by omega)).trans Z2.out)
  go_wp2_with fail
  have q : (((((w1.alloc (.cells #[.int .u8 kd, .int .i64 0, .string ⟨#[]⟩] 132)).setCell ⟨db, 2, none⟩ (.bool true)).setCell ⟨w.heap.size, 0, none⟩ (.int .u8 0)).setCell ⟨w.heap.size, 1, none⟩ (.int .i64 0)).setCell ⟨w.heap.size, 2, none⟩ (.string ⟨#[]⟩)).heap[w.heap.size]? = some (.cells #[.int .u8 0, .int .i64 0, .string ⟨#[]⟩] 132 (0, 0)) := (Go.Joins.block_setCell (i := 2) (Go.Joins.block_setCell (i := 1) (Go.Joins.block_setCell (i := 0) Z3.out (.int .u8 0)) (.int .i64 0)) (.string ⟨#[]⟩))
  have r_ : Ref (((((w1.alloc (.cells #[.int .u8 kd, .int .i64 0, .string ⟨#[]⟩] 132)).setCell ⟨db, 2, none⟩ (.bool true)).setCell ⟨w.heap.size, 0, none⟩ (.int .u8 0)).setCell ⟨w.heap.size, 1, none⟩ (.int .i64 0)).setCell ⟨w.heap.size, 2, none⟩ (.string ⟨#[]⟩)) M db _ l1 := (((R3.out.other (g := w.heap.size) (i := 0) hM (by omega) (.int .u8 0)).other (g := w.heap.size) (i := 1) hM (by omega) (.int .i64 0)).other (g := w.heap.size) (i := 2) hM (by omega) (.string ⟨#[]⟩))
  have o_ : Only db w (((((w1.alloc (.cells #[.int .u8 kd, .int .i64 0, .string ⟨#[]⟩] 132)).setCell ⟨db, 2, none⟩ (.bool true)).setCell ⟨w.heap.size, 0, none⟩ (.int .u8 0)).setCell ⟨w.heap.size, 1, none⟩ (.int .i64 0)).setCell ⟨w.heap.size, 2, none⟩ (.string ⟨#[]⟩)) := (((O3.out.new (g := w.heap.size) (i := 0) (Nat.le_refl _) (.int .u8 0)).new (g := w.heap.size) (i := 1) (Nat.le_refl _) (.int .i64 0)).new (g := w.heap.size) (i := 2) (Nat.le_refl _) (.string ⟨#[]⟩))
  generalize (((((w1.alloc (.cells #[.int .u8 kd, .int .i64 0, .string ⟨#[]⟩] 132)).setCell ⟨db, 2, none⟩ (.bool true)).setCell ⟨w.heap.size, 0, none⟩ (.int .u8 0)).setCell ⟨w.heap.size, 1, none⟩ (.int .i64 0)).setCell ⟨w.heap.size, 2, none⟩ (.string ⟨#[]⟩)) = w9 at q r_ o_ ⊢
  have d0 : w9.cell? ⟨w.heap.size, 0, none⟩ = some (.int .u8 0) := Go.Joins.cell_of_block q 0
  have d1 : w9.cell? ⟨w.heap.size, 1, none⟩ = some (.int .i64 0) := Go.Joins.cell_of_block q 1
  have d2 : w9.cell? ⟨w.heap.size, 2, none⟩ = some (.string ⟨#[]⟩) := Go.Joins.cell_of_block q 2
  have hS := HS.out
  subst hS
  exact bodyPost_ret (v := .agg #[.int .u8 0, .int .i64 0, .string ⟨#[]⟩]) (by simp [results, Tryz.results143, go_sem, d0, d1, d2]) rfl ⟨rfl, r_, o_⟩
/- The reader of the document's answer: Values. Conditions: its bytes lie as their reading says. -/
def RRowVAt (M db : Nat) (v : List Va) (b : Bool) (l : List Int) (w : World) (e : Ending) (w' : World) : Prop := ∃ a n c, v.length = n ∧ e = .returned (.slice a n c) ∧ VasOwn w' w.heap.size a n c v ∧ Ref w' M db b l ∧ Only db w w'
set_option maxHeartbeats 4000000 in
theorem rvalues_any (M db : Nat) (bad : Bool) (left : List Int) (v : List Va) (b9 : Bool) (l9 : List Int) (w : World) (hs : valuesS bad left = (v, b9, l9)) (h : Ref w M db bad left) (hw : BytesWf left) :
    Calls Tryz.prog 131 #[.pointer (some ⟨db, 0, none⟩)] w (RRowVAt M db v b9 l9 w) := by
  have hM := h.le
  have hrb := h.lt
  have hcw := countS_wf (bad := bad) hw
  unfold valuesS rowsS at hs
  dsimp only at hs
  obtain ⟨⟨n0, b0, l0⟩, hc⟩ : ∃ r, countS bad left = r := ⟨_, rfl⟩
  have HC := Lib.hid (rcount_any M db bad left n0 b0 l0 w hc h hw)
  rw [hc] at hs hcw
  dsimp only at hs hcw
  obtain ⟨N, rfl⟩ : ∃ N : Nat, n0 = N := ⟨n0.toNat, by omega⟩
  have hN : N ≤ 65536 := by omega
  rw [Int.toNat_natCast] at hs
  obtain ⟨⟨tot, b8, l8⟩, hr⟩ : ∃ r, rowS valueS N b0 l0 = r := ⟨_, rfl⟩
  rw [hr] at hs
  dsimp only at hs
  simp only [Prod.mk.injEq] at hs
  obtain ⟨hv, rfl, rfl⟩ := hs
  have HV := Lib.hid hv
  have HRW := Lib.hid hr
  have HCW := Lib.hid hcw
  clear h hc hr hcw hw hv
  obtain ⟨R, hR⟩ : ∃ R, ((v, b8, l8) : List Va × Bool × List Int) = R := ⟨_, rfl⟩
  have e1 : v = R.1 := by rw [← hR]
  have e2 : b8 = R.2.1 := by rw [← hR]
  have e3 : l8 = R.2.2 := by rw [← hR]
  show Calls _ _ _ _ (RRowVAt M db v b8 l8 w)
  have HQP := Lib.hid hR
  rw [e1, e2, e3]
  rw [e1] at HV
  rw [e2] at HV HRW
  rw [e3] at HRW
  clear hR e1 e2 e3 HQP
  go_enter Tryz.func131, Tryz.ntmps131
  go_wp2_with fail
  refine HC.out.mono ?_
  rintro e w0 ⟨rfl, hr0, ho0⟩
  have R0 := Lib.hid hr0
  have O0 := Lib.hid ho0
  clear hr0 ho0 HC
  go_wp2_with fail
  go_loopw [3, 4] (fun v i wr => ∃ (m : Nat) (acc : List Va) (b : Bool) (l : List Int), i = .int .i64 m ∧ (acc ++ (rowS valueS m b l).1, (rowS valueS m b l).2) = (tot, R.2.1, R.2.2) ∧ acc.length + m ≤ 65536 ∧ wr.ownsRow w.heap.size 132 3 v acc.length (acc.flatMap vaCells) ∧ Ref wr M db b l ∧ Only db w wr ∧ BytesWf l) (fun _ i _ => (intOf i).toNat)
  case atStart => exact ⟨N, [], b0, l0, rfl, by rw [HRW.out]; rfl, by simpa using hN, World.ownsRow_nil _ _ _ _, R0.out, O0.out, HCW.out.2.2.1⟩
  case round =>
    clear R0 O0 HCW HRW
    obtain ⟨m, acc, b, l, rfl, heq, hlen, hown, hR, hO, hwf⟩ := hrel
    have HE := Lib.hid heq
    have HOW := Lib.hid hown
    have HR := Lib.hid hR
    have HO := Lib.hid hO
    have HWF := Lib.hid hwf
    have d1 := hR.badCell.1
    clear heq hown hR hO hwf
    by_cases hend : b = true ∨ m = 0
    · obtain ⟨a, c, hv⟩ := row_slice HOW.out
      subst hv
      have hfin : acc = tot ∧ b = R.2.1 ∧ l = R.2.2 := by
        have h1 := HE.out
        rcases hend with h0 | h0
        · subst h0
          rw [rowS_bad] at h1
          simpa using h1
        · subst h0
          simpa [rowS] using h1
      obtain ⟨rfl, hb9, hl9⟩ := hfin
      have HV2 := Lib.hid (show (if b = true then [] else acc) = R.1 by rw [hb9]; exact HV.out)
      have HRT := Lib.hid (show ∀ w', Ref w' M db b l → Ref w' M db R.2.1 R.2.2 from fun w' h => by rw [← hb9, ← hl9]; exact h)
      obtain ⟨q, hq⟩ : ∃ q, acc.length = q := ⟨_, rfl⟩
      rw [hq] at hlen HOW ⊢
      have HQ := Lib.hid hq
      clear hq HE HV hb9 hl9
      cases b with
      | true =>
        clear hend
        by_cases hm0 : m = 0
        · subst hm0
          go_wp2_with fail
          go_ret
          have h5 := HV2.out
          simp only [if_true, if_false, Bool.false_eq_true, reduceIte] at h5
          rw [← h5]
          exact ⟨none, 0, 0, rfl, rfl, VasOwn.nil _ _, HRT.out _ HR.out, HO.out⟩
        · obtain ⟨m2, rfl⟩ : ∃ m2, m = m2 + 1 := ⟨m - 1, by omega⟩
          have j1 : (0 : Int) < (m2 : Int) + 1 := by omega
          clear hm0
          go_wp2_with fail
          go_ret
          have h5 := HV2.out
          simp only [if_true, if_false, Bool.false_eq_true, reduceIte] at h5
          rw [← h5]
          exact ⟨none, 0, 0, rfl, rfl, VasOwn.nil _ _, HRT.out _ HR.out, HO.out⟩
      | false =>
        obtain rfl : m = 0 := hend.resolve_left (by simp)
        clear hend
        go_wp2_with fail
        go_ret
        have h5 := HV2.out
        simp only [if_true, if_false, Bool.false_eq_true, reduceIte] at h5
        rw [← h5]
        exact ⟨a, q, c, HQ.out, rfl, HOW.out, HRT.out _ HR.out, HO.out⟩
    · obtain ⟨rfl, m', rfl⟩ : b = false ∧ ∃ m', m = m' + 1 := by
        refine ⟨by cases b with
          | true => exact absurd (Or.inl rfl) hend
          | false => rfl, m - 1, by omega⟩
      have j1 : (0 : Int) < (m' : Int) + 1 := by omega
      clear hend
      have hsh := valueS_shrinks false l HWF.out
      have HE2 := HE.out
      rw [rowS, if_neg (by simp)] at HE2
      obtain ⟨⟨x, b1, l1⟩, hx⟩ : ∃ r, valueS false l = r := ⟨_, rfl⟩
      have hone := rvalue_any M db false l x b1 l1 wr hx HR.out HWF.out
      rw [hx] at hsh HE2
      dsimp only at hsh HE2
      have H2 := Lib.hid HE2
      have HSH := Lib.hid hsh
      have HONE := Lib.hid hone
      have hsz := HO.out.1
      clear HE2 hsh hone HE hx
      go_wp2_with fail
      refine HONE.out.mono ?_
      rintro e w0 ⟨he, hr1, ho1⟩
      unfold Va.val at he
      subst he
      have hne : ∀ g, (Value.ownBlock _) = some g → w.heap.size ≤ g := fun g hg => (HOW.out.lt g hg).1
      have hB := (Below.refl w0.heap.size w0).alloc (Nat.le_refl _) (.cells #[.int .u8 x.kind, .int .i64 x.num, .string x.text] 132)
      have HOW1 := Lib.hid ((own_only HOW.out ho1 (fun e => by have := hne _ e; omega)).alloc (.cells #[.int .u8 x.kind, .int .i64 x.num, .string x.text] 132))
      have R1 := Lib.hid (hr1.below hB)
      have O1 := Lib.hid ((HO.out.trans ho1).alloc (.cells #[.int .u8 x.kind, .int .i64 x.num, .string x.text] 132))
      have hsz1 : w.heap.size ≤ (w0.alloc (.cells #[.int .u8 x.kind, .int .i64 x.num, .string x.text] 132)).heap.size := ((HO.out.trans ho1).alloc (.cells #[.int .u8 x.kind, .int .i64 x.num, .string x.text] 132)).1
      have hsz3 : ∀ o, w.heap.size ≤ ((w0.alloc (.cells #[.int .u8 x.kind, .int .i64 x.num, .string x.text] 132)).alloc o).heap.size := fun o => by rw [World.size_alloc]; omega
      clear hr1 ho1 HONE d1 HR HO HOW hB
      go_wp2_with (at_builtin; go_loud (refine wpList_append_rows (sub := noSub) Tryz.underlying55 infoVa rfl (by decide) vaCells_len vaCells_one rfl (.tmp 21) (.tmp 23) rfl w.heap.size _ acc.length (acc.flatMap vaCells) rfl (HOW1.out.alloc _) _ 1 1 [x] rfl rfl ((w0.alloc (.cells #[.int .u8 x.kind, .int .i64 x.num, .string x.text] 132)).heap.size + 1) (by have hRI := rowsIn_block (B := (w0.alloc (.cells #[.int .u8 x.kind, .int .i64 x.num, .string x.text] 132)).heap.size + 1) (sub := noSub) vaCells_len [x] _ (heap_alloc_new (w0.alloc (.cells #[.int .u8 x.kind, .int .i64 x.num, .string x.text] 132)) (.cells #[.int .u8 x.kind, .int .i64 x.num, .string x.text] 132)) rfl (by omega) (fun _ _ => trivial); first | exact hRI | (rw [World.size_alloc] at hRI; simpa using hRI)) (by simp) (by unfold maxLen; omega) (by omega) (hsz3 _) ?_))
      intro v2 w2 h2 hg2 _
      generalize w0.alloc (.cells #[.int .u8 x.kind, .int .i64 x.num, .string x.text] 132) = w1 at HOW1 R1 O1 hsz1 hg2
      have hA := (Below.refl w1.heap.size w1).alloc (Nat.le_refl _) (.cells #[.int .u8 x.kind, .int .i64 x.num, .string x.text] 132)
      have R2 := Lib.hid ((R1.out.below hA).grown hg2 (fun g hg => by have := hne g hg; omega))
      have O2 := Lib.hid ((O1.out.alloc (.cells #[.int .u8 x.kind, .int .i64 x.num, .string x.text] 132)).grown hg2 hne)
      have H3 := Lib.hid h2
      clear hA h2 hg2 HOW1 R1 O1 hne
      go_wp2_with fail
      go_roundw
      case rel => exact ⟨m', acc ++ [x], b1, l1, by go_num, by rw [List.append_assoc]; exact H2.out, by simp; omega, by rw [List.length_append, List.flatMap_append]; exact H3.out, R2.out, O2.out, HSH.out.1⟩
      case measure => simp [intOf]
end Go.Proofs.YtnhnabcpkaeaaaaGreatDoor
