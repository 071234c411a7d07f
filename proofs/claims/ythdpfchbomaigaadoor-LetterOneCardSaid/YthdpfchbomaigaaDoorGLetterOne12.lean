/- What letter reads off its bytes: take, count, number. Conditions: as each says. -/
import Derived.Test.YthdpfchbomaigaaDoorGLetterOne11
import Derived.Test.YthdpfchbomaigaaDoorGLetterOne2
import Derived.Test.YthdpfchbomaigaaDoorGLetterOne5
set_option linter.unusedVariables false
set_option linter.unusedSimpArgs false
namespace Go.Proofs.YthdpfchbomaigaaDoor
open Go.RowKit
set_option maxRecDepth 20000
theorem i64_or_nat (x y : Nat) (hx : x < 2 ^ 62) (hy : y < 2 ^ 62) : bits .or .i64 (x : Int) (y : Int) = ((x ||| y : Nat) : Int) := by
  show IntKind.i64.wrap ((BitVec.ofInt 64 x ||| BitVec.ofInt 64 y).toNat : Nat) = _
  rw [BitVec.toNat_or, BitVec.toNat_ofInt, BitVec.toNat_ofInt, IntKind.wrap_i64]
  have hor : x ||| y < 2 ^ 62 := Nat.or_lt_two_pow hx hy
  have e : ∀ z : Nat, z < 2 ^ 62 → ((z : Int) % ((2 ^ 64 : Nat) : Int)).toNat = z := by intro z hz; omega
  rw [e x hx, e y hy]
  omega
theorem i64_or_add (i a b : Nat) (hb : b < 2 ^ i) (h : 2 ^ i * a + b < 4294967296) : bits .or .i64 ((2 ^ i * a : Nat) : Int) ((b : Nat) : Int) = ((2 ^ i * a + b : Nat) : Int) := by
  rw [i64_or_nat _ _ (by omega) (by omega), Nat.two_pow_add_eq_or_of_lt hb]
theorem said_bits64 {a b c d : Int} (ha : 0 ≤ a ∧ a < 256) (hb : 0 ≤ b ∧ b < 256) (hc : 0 ≤ c ∧ c < 256) (hd : 0 ≤ d ∧ d < 256) :
    bits .or .i64 (bits .or .i64 (bits .or .i64 (a * 16777216) (b * 65536)) (c * 256)) d = a * 16777216 + b * 65536 + c * 256 + d := by
  obtain ⟨x, rfl⟩ := Int.eq_ofNat_of_zero_le ha.1
  obtain ⟨y, rfl⟩ := Int.eq_ofNat_of_zero_le hb.1
  obtain ⟨z, rfl⟩ := Int.eq_ofNat_of_zero_le hc.1
  obtain ⟨u, rfl⟩ := Int.eq_ofNat_of_zero_le hd.1
  have e1 := i64_or_add 24 x (65536 * y) (by omega) (by omega)
  have e2 := i64_or_add 16 (256 * x + y) (256 * z) (by omega) (by omega)
  have e3 := i64_or_add 8 (65536 * x + 256 * y + z) u (by omega) (by omega)
  have f1 : (x : Int) * 16777216 = ((2 ^ 24 * x : Nat) : Int) := by omega
  have f2 : (y : Int) * 65536 = ((65536 * y : Nat) : Int) := by omega
  have f3 : (z : Int) * 256 = ((256 * z : Nat) : Int) := by omega
  rw [f1, f2, f3, e1]
  rw [show 2 ^ 24 * x + 65536 * y = 2 ^ 16 * (256 * x + y) by omega, e2]
  rw [show 2 ^ 16 * (256 * x + y) + 256 * z = 2 ^ 8 * (65536 * x + 256 * y + z) by omega, e3]
  omega
theorem getN4 (a b c d : Int) : getN [a, b, c, d] = a * 16777216 + b * 65536 + c * 256 + d := by
  simp [getN]
  omega
theorem sizeRest : ∀ w, (sizeOf (Tryd.prog.elem 81)).run Tryd.prog w = .ok 1 w := fun _ => by kernel_rfl
theorem sliceRest : Tryd.prog.underlying 81 = some (.slice (Tryd.prog.elem 81)) := by kernel_rfl
theorem blk_to {w : World} {g i : Nat} {cs cs' : Array Value} {T : TypeId} {fr : Nat × Nat} (h : w.heap[g]? = some (.cells cs T fr)) (v : Value) (he : cs.setIfInBounds i v = cs') : (w.setCell ⟨g, i, none⟩ v).heap[g]? = some (.cells cs' T fr) := he ▸ Go.Joins.block_setCell h v
/-- What is not read yet: a slice in a block of its own. -/
structure RestIs (w : World) (B rb : Nat) (left : List Int) (ao : Option Addr) (cap : Nat) : Prop where
  blk : w.heap[rb]? = some (.cells #[.slice ao left.length cap] 81 (0, 0))
  off : BytesIn w B ao left
  hcap : left.length ≤ cap
  nil : ao = none → cap = 0
  lo : B ≤ rb
def Rest (w : World) (B rb : Nat) (left : List Int) : Prop := ∃ ao cap, RestIs w B rb left ao cap
theorem Rest.lt {w : World} {B rb : Nat} {left : List Int} (h : Rest w B rb left) : rb < w.heap.size := by
  obtain ⟨_, _, h⟩ := h
  exact (Array.getElem?_eq_some_iff.1 h.blk).1
theorem Rest.only {w w' : World} {B rb rr : Nat} {left : List Int} (h : Rest w B rb left) (ho : Only rr w w') (hn : rb ≠ rr) (hB : B ≤ rr) : Rest w' B rb left := by
  have hlt := h.lt
  obtain ⟨ao, cap, h⟩ := h
  exact ⟨ao, cap, (ho.block rb hlt hn).trans h.blk, h.off.below (ho.toBelow (B := B) (by have := h.lo; omega) hB) (Nat.le_refl _), h.hcap, h.nil, h.lo⟩
theorem Rest.below {w w' : World} {B rb : Nat} {left : List Int} (h : Rest w B rb left) (hb : Below w.heap.size w w') : Rest w' B rb left := by
  have hlt := h.lt
  obtain ⟨ao, cap, h⟩ := h
  exact ⟨ao, cap, (hb.block rb hlt).trans h.blk, h.off.below hb (by have := h.lo; omega), h.hcap, h.nil, h.lo⟩
theorem RestIs.set {w : World} {B rb : Nat} {left l2 : List Int} {ao a2 : Option Addr} {cap c2 n2 : Nat} (h : RestIs w B rb left ao cap) (h1 : BytesIn w B a2 l2) (hn : l2.length = n2) (h2 : n2 ≤ c2) (h3 : a2 = none → c2 = 0) : Rest (w.setCell ⟨rb, 0, none⟩ (.slice a2 n2 c2)) B rb l2 := by
  subst hn
  refine ⟨a2, c2, blk_to h.blk _ rfl, ?_, h2, h3, h.lo⟩
  exact h1.below ((Below.refl B w).setCell (p := ⟨rb, 0, none⟩) h.lo _) (Nat.le_refl _)
theorem take_short (B rb n : Nat) (left : List Int) (w : World) (h : Rest w B rb left) (hs : left.length < n) (hn : n ≤ 1099511627776) :
    Calls Tryd.prog 34 #[.pointer (some ⟨rb, 0, none⟩), .int .i64 (n : Int)] w fun e w' => e = .returned (.tuple #[.slice none 0 0, .bool false]) ∧ w = w' := by
  obtain ⟨ao, cap, h⟩ := h
  obtain ⟨m, hm⟩ : ∃ m, left.length = m := ⟨_, rfl⟩
  have hb := h.blk
  rw [hm] at hb hs
  have d0 : w.cell? ⟨rb, 0, none⟩ = some (.slice ao m cap) := Go.Joins.cell_of_block hb 0
  have i1 : (m : Int) < n := by omega
  clear h hb hm
  go_enter Tryd.func34, Tryd.ntmps34
  go_wp2_with fail
  go_ret2
  exact ⟨rfl, by first | rfl | trivial⟩
def TakeAt (B rb n : Nat) (left : List Int) (w : World) (e : Ending) (w' : World) : Prop :=
  ∃ a c, e = .returned (.tuple #[.slice a n c, .bool true]) ∧ BytesIn w' B a (left.take n) ∧ (a = none → c = 0) ∧ n ≤ c ∧ Rest w' B rb (left.drop n) ∧ Only rb w w'
theorem take_ok (B rb n : Nat) (left : List Int) (w : World) (h : Rest w B rb left) (hs : n ≤ left.length) (hn : left.length ≤ 1099511627776) :
    Calls Tryd.prog 34 #[.pointer (some ⟨rb, 0, none⟩), .int .i64 (n : Int)] w (TakeAt B rb n left w) := by
  have hlt := h.lt
  obtain ⟨ao, cap, h⟩ := h
  obtain ⟨m, hm⟩ : ∃ m, left.length = m := ⟨_, rfl⟩
  have hb := h.blk
  have hcap := h.hcap
  rw [hm] at hb hs hn hcap
  have d0 : w.cell? ⟨rb, 0, none⟩ = some (.slice ao m cap) := Go.Joins.cell_of_block hb 0
  have f0 : w.frozen? ⟨rb, 0, none⟩ = false := Go.Joins.unfrozen_of_block hb 0
  have i1 : ¬ (m : Int) < n := by omega
  have hsl1 : ∀ w', (Instr.sliceAt 81 (.slice ao m cap) none (some (.int .i64 (n : Int))) none).run Tryd.prog w' = .ok (.slice (subA ao cap 0 1) n cap) w' := fun w' => run_sub_h sliceRest sizeRest ao m cap n (by omega) .i64 n rfl w'
  have hsl2 : ∀ w', (Instr.sliceAt 81 (.slice ao m cap) (some (.int .i64 (n : Int))) none none).run Tryd.prog w' = .ok (.slice (subA ao cap n 1) (m - n) (cap - n)) w' := fun w' => run_sub_l sliceRest sizeRest ao m cap n (by omega) .i64 n rfl w'
  have H := Lib.hid h
  have HM := Lib.hid hm
  clear h hb hm
  go_enter Tryd.func34, Tryd.ntmps34
  go_wp2_with fail
  go_still_tail 13, (by kernel_rfl)
  change wpList _ _ _ _ _ w.drew
  have hdr := (Below.refl w.heap.size w).drew
  have hblk := (hdr.block rb hlt).trans H.out.blk
  have hoff := H.out.off.below hdr (Nat.le_trans H.out.lo (Nat.le_of_lt hlt))
  have H2 := Lib.hid (RestIs.mk hblk hoff H.out.hcap H.out.nil H.out.lo)
  have e0 : w.drew.cell? ⟨rb, 0, none⟩ = some (.slice ao m cap) := by rw [← HM.out]; exact Go.Joins.cell_of_block hblk 0
  have e1 : w.drew.frozen? ⟨rb, 0, none⟩ = false := Go.Joins.unfrozen_of_block hblk 0
  have HO := Lib.hid (Only.of_below (rb := rb) hdr)
  clear d0 f0 hblk hoff hdr H
  generalize w.drew = w2 at H2 e0 e1 HO ⊢
  go_wp2_with fail
  go_ret2
  have hc2 : left.length ≤ cap := H2.out.hcap
  have hset := H2.out.set (a2 := subA ao cap n 1) (l2 := left.drop n) (n2 := m - n) (c2 := cap - n) (H2.out.off.drop n hc2) (by rw [List.length_drop, HM.out]) (by omega) (fun e => by have := H2.out.nil (subA_eq_none e); omega)
  refine ⟨subA ao cap 0 1, cap, rfl, ?_, fun e => H2.out.nil (subA_eq_none e), by omega, hset, HO.out.trans (Only.set rb w2 0 _)⟩
  have hb := (H2.out.off.drop 0 hc2).take n
  rw [List.drop_zero] at hb
  exact hb.below ((Below.refl B w2).setCell (p := ⟨rb, 0, none⟩) H2.out.lo _) (Nat.le_refl _)
set_option maxHeartbeats 1000000 in
theorem lrcount_any (B rb : Nat) (left : List Int) (r : Int × Bool × List Int) (w : World) (hr : cntS left = r) (h : Rest w B rb left) (hw : BytesWf left) (hn : left.length ≤ 1099511627776) :
    Calls Tryd.prog 37 #[.pointer (some ⟨rb, 0, none⟩)] w fun e w' => e = .returned (.tuple #[.int .i64 r.1, .bool r.2.1]) ∧ Rest w' B rb r.2.2 ∧ Only rb w w' := by
  subst hr
  unfold cntS
  by_cases h4 : left.length < 4
  · rw [if_pos h4]
    have H := Lib.hid h
    have HT := Lib.hid (take_short B rb 4 left w h h4 (by omega))
    clear h
    go_enter Tryd.func37, Tryd.ntmps37
    go_wp2_with fail
    refine HT.out.mono ?_
    rintro e w1 ⟨rfl, rfl⟩
    go_wp2_with fail
    go_ret2
    exact ⟨rfl, H.out, Only.refl rb w⟩
  · rw [if_neg h4]
    have HT := Lib.hid (take_ok B rb 4 left w h (by omega) hn)
    have hlt := h.lt
    clear h
    obtain ⟨x0, x1, x2, x3, l2, rfl⟩ : ∃ x0 x1 x2 x3 l2, left = x0 :: x1 :: x2 :: x3 :: l2 := by
      match left, h4 with
      | x0 :: x1 :: x2 :: x3 :: l2, _ => exact ⟨x0, x1, x2, x3, l2, rfl⟩
      | [], h => simp at h
      | [_], h => simp at h
      | [_, _], h => simp at h
      | [_, _, _], h => simp at h
    have w0 := hw x0 (by simp)
    have w1' := hw x1 (by simp)
    have w2' := hw x2 (by simp)
    have w3' := hw x3 (by simp)
    have hbits := said_bits64 w0 w1' w2' w3'
    obtain ⟨V, hV⟩ : ∃ V, x0 * 16777216 + x1 * 65536 + x2 * 256 + x3 = V := ⟨_, rfl⟩
    rw [hV] at hbits
    have hvn : getN [x0, x1, x2, x3] = V := by rw [getN4, hV]
    have HVN := Lib.hid hvn
    have hv0 : 0 ≤ V ∧ V ≤ 4294967295 := by omega
    clear h4 hw hvn hV
    go_enter Tryd.func37, Tryd.ntmps37
    go_wp2_with fail
    refine HT.out.mono ?_
    rintro e w1 ⟨a, c, rfl, h1, h2, h3, h4, h5⟩
    simp only [List.take_succ_cons, List.take_zero, List.drop_succ_cons, List.drop_zero] at h1 h4
    have h1b : ∃ b off, a = some ⟨b, off, none⟩ ∧ ∀ i, i < 4 → w1.cell? ⟨b, off + i, none⟩ = some (.int .u8 ([x0, x1, x2, x3].getD i 0)) := by
      rcases h1 with h | ⟨b, off, e1, _, e3⟩
      · cases h
      · exact ⟨b, off, e1, e3⟩
    obtain ⟨b, off, rfl, hcc⟩ := h1b
    have k0 : w1.cell? ⟨b, off, none⟩ = some (.int .u8 x0) := hcc 0 (by decide)
    have k1 : w1.cell? ⟨b, off + 1, none⟩ = some (.int .u8 x1) := hcc 1 (by decide)
    have k2 : w1.cell? ⟨b, off + 2, none⟩ = some (.int .u8 x2) := hcc 2 (by decide)
    have k3 : w1.cell? ⟨b, off + 3, none⟩ = some (.int .u8 x3) := hcc 3 (by decide)
    obtain ⟨ao2, cap2, hq⟩ := h4
    obtain ⟨m2, hm2⟩ : ∃ m2, l2.length = m2 := ⟨_, rfl⟩
    have kb := hq.blk
    rw [hm2] at kb
    have k4 : w1.cell? ⟨rb, 0, none⟩ = some (.slice ao2 m2 cap2) := Go.Joins.cell_of_block kb 0
    have HQ := Lib.hid (show Rest w1 B rb l2 from ⟨ao2, cap2, hq⟩)
    have HO := Lib.hid h5
    have HM := Lib.hid hm2
    clear h1 hcc hq kb h5 hm2
    have HFIN := Lib.hid (show ∀ (bq : Bool) (w' : World), decide (V ≤ (m2 : Int)) = bq → Below w1.heap.size w1 w' → (Ending.returned (.tuple #[.int .i64 V, .bool bq]) = .returned (.tuple #[.int .i64 (getN ((x0 :: x1 :: x2 :: x3 :: l2).take 4)), .bool (decide (getN ((x0 :: x1 :: x2 :: x3 :: l2).take 4) ≤ (((x0 :: x1 :: x2 :: x3 :: l2).drop 4).length : Int)))]) ∧ Rest w' B rb ((x0 :: x1 :: x2 :: x3 :: l2).drop 4) ∧ Only rb w w') by
      intro bq w' hbq hbel
      simp only [List.take_succ_cons, List.take_zero, List.drop_succ_cons, List.drop_zero]
      rw [HVN.out, HM.out, hbq]
      exact ⟨rfl, HQ.out.below hbel, HO.out.trans (Only.of_below hbel)⟩)
    by_cases hV : V ≤ (m2 : Int)
    · have j1 : decide (V ≤ (m2 : Int)) = true := decide_eq_true hV
      go_wp2_with fail
      go_quiet (fail)
      go_wp2_with fail
      go_quiet (fail)
      go_wp2_with fail
      go_ret2
      exact HFIN.out true _ (decide_eq_true (by omega)) (by first | exact below_drewN (Below.refl _ _) _ | exact below_drewN (below_drewN (Below.refl _ _) _) _)
    · have j1 : decide (V ≤ (m2 : Int)) = false := decide_eq_false hV
      go_wp2_with fail
      go_quiet (fail)
      go_wp2_with fail
      go_quiet (fail)
      go_wp2_with fail
      go_ret2
      exact HFIN.out false _ (decide_eq_false (by omega)) (by first | exact below_drewN (Below.refl _ _) _ | exact below_drewN (below_drewN (Below.refl _ _) _) _)
theorem lnumber_any (M rb : Nat) (bad : Bool) (left : List Int) (v : Int) (b2 : Bool) (l2 : List Int) (w : World) (hs : numS bad left = (v, b2, l2)) (h : Rdr w M rb bad left) (hw : BytesWf left) (hl : left.length ≤ 140737488351232) :
    Calls Tryd.prog 36 #[.agg #[.pointer (some ⟨rb, 0, none⟩)]] w (SaidAt M rb v b2 l2 w) := by
  have hba := (Below.refl w.heap.size w).alloc (Nat.le_refl _) (.cells #[.pointer (some ⟨rb, 0, none⟩)] 87)
  have H := Lib.hid (h.below hba)
  have HB := Lib.hid (Only.of_below (rb := rb) hba)
  have HS := Lib.hid hs
  have HW := Lib.hid hw
  clear h hs hw hba
  go_enter Tryd.func36, Tryd.ntmps36
  go_wp2_with fail
  refine (number_at M rb bad left v b2 l2 _ HS.out H.out HW.out hl).mono ?_
  rintro e w1 ⟨rfl, h1, h2⟩
  have H1 := Lib.hid h1
  have H2 := Lib.hid h2
  clear h1 h2
  go_wp2_with fail
  go_ret
  exact ⟨rfl, H1.out, HB.out.trans H2.out⟩
end Go.Proofs.YthdpfchbomaigaaDoor
/- What is read of bytes is no greater than these. No program. Conditions: as each says. -/
namespace Go.Proofs.YthdpfchbomaigaaDoor
open Go.RowKit
set_option maxRecDepth 20000
theorem rowS_upto {α : Type} {one : Bool → List Int → α × Bool × List Int} (hs : Shrinks one) (N : Nat) (P : α → Prop) (hP : ∀ b l, BytesWf l → l.length ≤ N → P (one b l).1) : ∀ (n : Nat) (b : Bool) (l : List Int), BytesWf l → l.length ≤ N → ∀ x ∈ (rowS one n b l).1, P x := by
  intro n
  induction n with
  | zero => intro b l _ _ x hx; cases hx
  | succ n ih =>
    intro b l hw hl x hx
    unfold rowS at hx
    split at hx
    · cases hx
    · rcases List.mem_cons.1 hx with rfl | hx
      · exact hP b l hw hl
      · exact ih _ _ (hs b l hw).1 (Nat.le_trans (hs b l hw).2 hl) x hx
theorem rowsS_upto {α : Type} {one : Bool → List Int → α × Bool × List Int} (hs : Shrinks one) (N : Nat) (P : α → Prop) (hP : ∀ b l, BytesWf l → l.length ≤ N → P (one b l).1) (b : Bool) (l : List Int) (hw : BytesWf l) (hl : l.length ≤ N) : ∀ x ∈ (rowsS one b l).1, P x := by
  intro x hx
  have hc := countS_wf (bad := b) hw
  unfold rowsS at hx
  dsimp only at hx
  split at hx
  · cases hx
  · exact rowS_upto hs N P hP _ _ _ hc.2.2.1 (Nat.le_trans hc.2.2.2 hl) x hx
theorem flat_ge {α : Type} {oneB : α → List Int} (h : ∀ x, 1 ≤ (oneB x).length) : ∀ xs : List α, xs.length ≤ (xs.flatMap oneB).length := by
  intro xs
  induction xs with
  | nil => simp
  | cons x xs ih => have := h x; rw [List.flatMap_cons, List.length_append, List.length_cons]; omega
theorem rowsS_few {α : Type} {one : Bool → List Int → α × Bool × List Int} {oneB : α → List Int} (h : ∀ x, 1 ≤ (oneB x).length) (ht : There one oneB) (b : Bool) (l : List Int) (hw : BytesWf l) : (rowsS one b l).1.length ≤ l.length := by
  cases hb : (rowsS one b l).2.1 with
  | false =>
    obtain ⟨_, h2, _⟩ := rowsS_there ht b l hw hb
    have := flat_ge h (rowsS one b l).1
    have h3 := congrArg List.length h2
    simp only [List.length_append] at h3
    omega
  | true =>
    unfold rowsS at hb ⊢
    dsimp only at hb ⊢
    rw [if_pos hb]
    exact Nat.zero_le _
theorem numB_pos (n : Int) : 1 ≤ (numB 8 n).length := by rw [numB_len]; omega
theorem takeS_len (n : Nat) (b : Bool) (l : List Int) : (takeS n b l).1.length ≤ l.length := by
  unfold takeS
  split
  · exact Nat.zero_le _
  · rw [List.length_take]; omega
theorem textS_size (b : Bool) (l : List Int) (hw : BytesWf l) : (textS b l).1.size ≤ l.length := by
  have hc := countS_wf (bad := b) hw
  unfold textS
  dsimp only
  rw [strN_size]
  exact Nat.le_trans (takeS_len _ _ _) hc.2.2.2
theorem valueS_size (b : Bool) (l : List Int) (hw : BytesWf l) : (valueS b l).1.text.size ≤ l.length := by
  have hk := takeS_wf (n := 1) (bad := b) hw
  have hk2 := (kindS_shrinks b l hw).2
  unfold valueS
  dsimp only
  split
  · dsimp only
    split <;> exact Nat.zero_le _
  · split
    · dsimp only
      split
      · exact Nat.zero_le _
      · exact Nat.le_trans (textS_size _ _ hk.2.1) hk2
    · exact Nat.zero_le _
/-- Values that are no more than N, nor any text of theirs. -/
def Fit (N : Nat) (xs : List Va) : Prop := xs.length ≤ N ∧ ∀ v ∈ xs, v.text.size ≤ N
theorem Fit.nil (N : Nat) : Fit N [] := ⟨Nat.zero_le _, fun _ h => by cases h⟩
theorem valuesS_fit (N : Nat) (b : Bool) (l : List Int) (hw : BytesWf l) (hl : l.length ≤ N) : Fit N (valuesS b l).1 :=
  ⟨Nat.le_trans (rowsS_few valueB_pos valueS_there b l hw) hl, rowsS_upto valueS_shrinks N _ (fun b l hw hl => Nat.le_trans (valueS_size b l hw) hl) b l hw hl⟩
theorem commandS_fit (N : Nat) (b : Bool) (l : List Int) (hw : BytesWf l) (hl : l.length ≤ N) : (commandS b l).1.text.size ≤ N ∧ Fit N (commandS b l).1.args := by
  have w1 := kindS_shrinks b l hw
  have w2 := textS_shrinks (kindS b l).2.1 _ w1.1
  have w3 := numS_shrinks (textS (kindS b l).2.1 (kindS b l).2.2).2.1 _ w2.1
  have h1 := textS_size (kindS b l).2.1 _ w1.1
  unfold commandS
  dsimp only
  split
  · exact ⟨Nat.zero_le _, Fit.nil N⟩
  · exact ⟨by dsimp only; omega, valuesS_fit N _ _ w3.1 (by omega)⟩
theorem intsS_len (b : Bool) (l : List Int) (hw : BytesWf l) : (intsS b l).1.length ≤ l.length := rowsS_few numB_pos numS_there b l hw
theorem entryS_fit (N : Nat) (b : Bool) (l : List Int) (hw : BytesWf l) (hl : l.length ≤ N) : (entryS b l).1.text.size ≤ N ∧ Fit N (entryS b l).1.args ∧ (entryS b l).1.vs.length ≤ N := by
  have w1 := numS_shrinks b l hw
  have w2 := kindS_shrinks (numS b l).2.1 _ w1.1
  have w3 := numS_shrinks (kindS (numS b l).2.1 (numS b l).2.2).2.1 _ w2.1
  have w4 := numS_shrinks (numS (kindS (numS b l).2.1 (numS b l).2.2).2.1 (kindS (numS b l).2.1 (numS b l).2.2).2.2).2.1 _ w3.1
  unfold entryS
  dsimp only
  have w5 := commandS_shrinks (numS (numS (kindS (numS b l).2.1 (numS b l).2.2).2.1 (kindS (numS b l).2.1 (numS b l).2.2).2.2).2.1 (numS (kindS (numS b l).2.1 (numS b l).2.2).2.1 (kindS (numS b l).2.1 (numS b l).2.2).2.2).2.2).2.1 _ w4.1
  have h5 := commandS_fit N (numS (numS (kindS (numS b l).2.1 (numS b l).2.2).2.1 (kindS (numS b l).2.1 (numS b l).2.2).2.2).2.1 (numS (kindS (numS b l).2.1 (numS b l).2.2).2.1 (kindS (numS b l).2.1 (numS b l).2.2).2.2).2.2).2.1 _ w4.1 (by omega)
  have h6 := intsS_len (commandS (numS (numS (kindS (numS b l).2.1 (numS b l).2.2).2.1 (kindS (numS b l).2.1 (numS b l).2.2).2.2).2.1 (numS (kindS (numS b l).2.1 (numS b l).2.2).2.1 (kindS (numS b l).2.1 (numS b l).2.2).2.2).2.2).2.1 (numS (numS (kindS (numS b l).2.1 (numS b l).2.2).2.1 (kindS (numS b l).2.1 (numS b l).2.2).2.2).2.1 (numS (kindS (numS b l).2.1 (numS b l).2.2).2.1 (kindS (numS b l).2.1 (numS b l).2.2).2.2).2.2).2.2).2.1 _ w5.1
  split
  · exact ⟨Nat.zero_le _, Fit.nil N, Nat.zero_le _⟩
  · exact ⟨h5.1, h5.2, by dsimp only; omega⟩
end Go.Proofs.YthdpfchbomaigaaDoor
/- Entries put behind others, of a call's own. Conditions: as each says. -/
namespace Go.Proofs.YthdpfchbomaigaaDoor
open Go.RowKit
set_option maxRecDepth 20000
/-- Two operations that may come up in either order. -/
theorem take_two {P : Program} {md : Region.Mode} {ops : Array Oper} {Q : Exit → Act → World → Prop} (i j : Nat) {oi oj : Oper} {fuel : Nat} {listed : Array Bool} {a : Act} {w : World} (hi : ops.toList[i]? = some oi) (hj : ops.toList[j]? = some oj) (hr : Region.ready md ops listed = [i, j]) (hwi : Region.wanted oi (yielded ops a.tmps) = true) (hwj : Region.wanted oj (yielded ops a.tmps) = true)
    (h1 : ∀ K' : Act → World → Prop, Shut (∀ a w, wpAnyH P md ops Q (fun _ => True) fuel (listed.setIfInBounds i true) a w → K' a w) → Oper.wp P oi a w K' Q)
    (h2 : ∀ K' : Act → World → Prop, Shut (∀ a w, wpAnyH P md ops Q (fun _ => True) fuel (listed.setIfInBounds j true) a w → K' a w) → Oper.wp P oj a w K' Q) : wpAnyH P md ops Q (fun _ => True) (fuel + 1) listed a w :=
  wpAnyH_ready (rs := [i, j]) hr (by simp) (AllReadyH.cons (by rw [← Array.getElem?_toList]; exact hi) (fun K hK => by rw [if_pos hwi]; exact h1 K (fun a w hW => hK.out a w trivial (fun _ => hW)))
    (AllReadyH.cons (by rw [← Array.getElem?_toList]; exact hj) (fun K hK => by rw [if_pos hwj]; exact h2 K (fun a w hW => hK.out a w trivial (fun _ => hW))) AllReadyH.nil))
theorem own_two {w : World} {B1 B2 E1 E2 s1 s2 n1 n2 : Nat} {v1 v2 : Value} {x1 x2 : List Value} (h1 : w.ownsRow B1 E1 s1 v1 n1 x1) (h2 : w.ownsRow B2 E2 s2 v2 n2 x2) (hE : E1 ≠ E2) : v1.ownBlock = none ∨ v1.ownBlock ≠ v2.ownBlock := by
  rcases h1.2 with ⟨rfl, _⟩ | ⟨g, c, cur, rfl, _, k1, _⟩
  · exact Or.inl rfl
  · rcases h2.2 with ⟨rfl, _⟩ | ⟨g2, c2, cur2, rfl, _, k2, _⟩
    · exact Or.inr (by simp [Value.ownBlock])
    · refine Or.inr fun e => ?_
      have e : g = g2 := by simpa [Value.ownBlock] using e
      subst e
      rw [k1] at k2
      injection k2 with k2
      injection k2 with _ k3
      exact hE k3
theorem ent_va : (50 : Nat) ≠ 47 := by decide
theorem ent_i : (3 : Nat) ≠ 47 := by decide
theorem EnsOwn.push {wp w w' : World} {base B : Nat} {v v' : Value} {es : List En} {e : En} (h : EnsOwn w base v es) (hp : ∀ f ∈ es, enOwn wp base f) (hB : wp.heap.size ≤ B) (hb : base ≤ B) (ho : enOwn w B e)
    (hown : w'.ownsRow base 47 9 v' (es.length + 1) (es.flatMap enCells ++ enCells e)) (hg : w.grownBy w' v.ownBlock) : EnsOwn w' base v' (es ++ [e]) := by
  have hall : ∀ f ∈ es ++ [e], enOwn w base f := fun f hf => by
    rcases List.mem_append.1 hf with hf | hf
    · exact h.own f hf
    · rw [List.mem_singleton.1 hf]
      exact ho.le hb
  refine ⟨?_, fun f hf => ?_, ?_⟩
  · rw [List.length_append, List.flatMap_append]
    simpa using hown
  · have hf2 := hall f hf
    exact ⟨hf2.1.kept hg (own_two hf2.1 h.row ent_va), hf2.2.kept hg (own_two hf2.2 h.row ent_i)⟩
  · rw [List.pairwise_append]
    refine ⟨h.sep, List.pairwise_singleton _ _, fun f hf g hg2 => ?_⟩
    rw [List.mem_singleton.1 hg2]
    have hf2 := hp f hf
    constructor
    · cases hq : (argV f).ownBlock with
      | none => exact Or.inl rfl
      | some q =>
        refine Or.inr fun e2 => ?_
        have h1 := (World.ownsRow.lt hf2.1 q hq).2
        have h2 := (World.ownsRow.lt ho.1 q e2.symm).1
        omega
    · cases hq : (votV f).ownBlock with
      | none => exact Or.inl rfl
      | some q =>
        refine Or.inr fun e2 => ?_
        have h1 := (World.ownsRow.lt hf2.2 q hq).2
        have h2 := (World.ownsRow.lt ho.2 q e2.symm).1
        omega
theorem rowN_told : ∀ (n : Nat) (b : Bool) (l : List Int), ∀ v ∈ (rowS numS n b l).1, N64 v := by
  intro n
  induction n with
  | zero => intro b l v hv; cases hv
  | succ n ih =>
    intro b l v hv
    unfold rowS at hv
    split at hv
    · cases hv
    · rcases List.mem_cons.1 hv with rfl | hv
      · exact wrap_N64 _
      · exact ih _ _ v hv
theorem entry_more {b : Bool} {l : List Int} (hw : BytesWf l) (h : (entryS b l).2.1 = false) : N64 (entryS b l).1.term ∧ (∀ v ∈ (entryS b l).1.args, Bare v ∧ VaFit v) ∧ (∀ v ∈ (entryS b l).1.vs, N64 v) := by
  have hth := entryS_there b l hw h
  have hwe : BytesWf (entryB (entryS b l).1) := by
    have := hth.2.1
    rw [this] at hw
    exact (wf_mid hw).1
  obtain ⟨t, ht⟩ : ∃ t, numS b l = t := ⟨_, rfl⟩
  obtain ⟨k, hk⟩ : ∃ k, kindS t.2.1 t.2.2 = k := ⟨_, rfl⟩
  obtain ⟨s, hs⟩ : ∃ s, numS k.2.1 k.2.2 = s := ⟨_, rfl⟩
  obtain ⟨q, hq⟩ : ∃ q, numS s.2.1 s.2.2 = q := ⟨_, rfl⟩
  obtain ⟨c, hc⟩ : ∃ c, commandS q.2.1 q.2.2 = c := ⟨_, rfl⟩
  obtain ⟨v, hv⟩ : ∃ v, intsS c.2.1 c.2.2 = v := ⟨_, rfl⟩
  have he : entryS b l = (if v.2.1 = true then ⟨0, 0, 0, 0, 0, ByteArray.empty, [], 0, []⟩ else ⟨t.1, k.1, s.1, q.1, c.1.kind, c.1.text, c.1.args, c.1.num, v.1⟩, v.2) := by subst hv hc hq hs hk ht; rfl
  have w1 := numS_shrinks b l hw
  rw [ht] at w1
  have w2 := kindS_shrinks t.2.1 _ w1.1
  rw [hk] at w2
  have w3 := numS_shrinks k.2.1 _ w2.1
  rw [hs] at w3
  have w4 := numS_shrinks s.2.1 _ w3.1
  rw [hq] at w4
  have w5 := commandS_shrinks q.2.1 _ w4.1
  rw [hc] at w5
  rw [he] at h ⊢
  dsimp only at h ⊢
  have hcb : c.2.1 = false := by
    have := intsS_there c.2.1 _ w5.1 (by rw [hv]; exact h)
    exact this.1
  rw [h, if_neg (by simp)]
  obtain ⟨k', hk'⟩ : ∃ k', kindS q.2.1 q.2.2 = k' := ⟨_, rfl⟩
  obtain ⟨t', ht'⟩ : ∃ t', textS k'.2.1 k'.2.2 = t' := ⟨_, rfl⟩
  obtain ⟨n', hn'⟩ : ∃ n', numS t'.2.1 t'.2.2 = n' := ⟨_, rfl⟩
  obtain ⟨v', hv'⟩ : ∃ v', valuesS n'.2.1 n'.2.2 = v' := ⟨_, rfl⟩
  have he' : c = (if v'.2.1 = true then ⟨0, ByteArray.empty, [], 0⟩ else ⟨k'.1, t'.1, v'.1, n'.1⟩, v'.2) := by subst hv' hn' ht' hk' hc; rfl
  have k1 := kindS_shrinks q.2.1 _ w4.1
  rw [hk'] at k1
  have k2 := textS_shrinks k'.2.1 _ k1.1
  rw [ht'] at k2
  have k3 := numS_shrinks t'.2.1 _ k2.1
  rw [hn'] at k3
  rw [he'] at hcb ⊢
  dsimp only at hcb ⊢
  have c3 : n'.2.1 = false := (valuesS_there n'.2.1 _ k3.1 (by rw [hv']; exact hcb)).1
  have c2 : t'.2.1 = false := (numS_there t'.2.1 _ k2.1 (by rw [hn']; exact c3)).1
  rw [hcb, if_neg (by simp)]
  have e0 : N64 t.1 := by rw [← ht]; exact wrap_N64 _
  have e5 : ∀ x ∈ v'.1, Bare x ∧ VaFit x := by
    have h1 : (valuesS n'.2.1 n'.2.2).2.1 = false := by rw [hv']; exact hcb
    have hc2 := countS_wf (bad := n'.2.1) k3.1
    have key := rowV_told (countS n'.2.1 n'.2.2).1.toNat (countS n'.2.1 n'.2.2).2.1 _ hc2.2.2.1 h1
    have h6 : (valuesS n'.2.1 n'.2.2).1 = (rowS valueS (countS n'.2.1 n'.2.2).1.toNat (countS n'.2.1 n'.2.2).2.1 (countS n'.2.1 n'.2.2).2.2).1 := by
      show (if _ then _ else _) = _
      rw [show (rowS valueS (countS n'.2.1 n'.2.2).1.toNat (countS n'.2.1 n'.2.2).2.1 (countS n'.2.1 n'.2.2).2.2).2.1 = false from h1, if_neg (by simp)]
    rw [← hv', h6]
    exact key
  have e6 : ∀ x ∈ v.1, N64 x := by
    rw [← hv]
    unfold intsS rowsS
    dsimp only
    split
    · intro x hx; cases hx
    · exact rowN_told _ _ _
  exact ⟨e0, e5, e6⟩
/-- An entry that was read is fine. -/
theorem entry_fine {l : List Int} {f : En} (hw : BytesWf l) (h : (entryS false l).2.1 = false) (hl : l.length ≤ 1048576) (hp : f.plain = (entryS false l).1) (ha : f.aao = none → f.acap = 0) (hv : f.vao = none → f.vcap = 0) (hac : f.args.length ≤ f.acap) (hvc : f.vs.length ≤ f.vcap) : EnFine f := by
  have h1 := entry_ok hw h
  have h2 := entry_more hw h
  have h3 := entryS_there false l hw h
  have h4 := entryS_fit 1048576 false l hw hl
  have hwe : BytesWf (entryB (entryS false l).1) := by
    have := h3.2.1
    rw [this] at hw
    exact (wf_mid hw).1
  have hle : (entryB (entryS false l).1).length ≤ 1048576 := by
    have := congrArg List.length h3.2.1
    rw [List.length_append] at this
    omega
  rw [← hp] at h1 h2 h4 hwe hle
  rw [entryB_len] at hle
  have hk : 0 ≤ f.plain.kind ∧ f.plain.kind < 256 := hwe _ (by simp [entryB])
  have hc : 0 ≤ f.plain.ck ∧ f.plain.ck < 256 := hwe _ (by simp [entryB, commandB])
  obtain ⟨g1, g2, g3⟩ := h2
  obtain ⟨k1, k2, k3⟩ := h4
  have hval : (valuesB f.args).length ≤ 1048576 := by have : (valuesB f.plain.args).length ≤ 1048576 := by omega
                                                      exact this
  have hvs : f.vs.length ≤ 1048576 := k3
  have hargs : f.args.length ≤ 1048576 := k2.1
  have htext : f.text.size ≤ 1048576 := k1
  refine ⟨⟨lit_of g1, of_u8 hk, lit_of h1.session, lit_of h1.seq, of_u8 hc, by omega, fun v hv => ?_, lit_of h1.num, fun v hv => lit_of (g3 v hv), by omega, by omega, ha, hv, hac, hvc⟩, by omega, by omega, by omega, fun v hv => ?_, by omega⟩
  · have hb := g2 v hv
    refine ⟨?_, lit_of hb.2.1, by have := hb.2.2; have e : reachBytes = 140737488351232 := by decide
                                  omega⟩
    rcases hb.1 with ⟨e, _⟩ | ⟨e, _⟩
    · exact of_u8 (by omega)
    · exact of_u8 (by omega)
  · have hb := g2 v hv
    have := hb.2.2
    omega
theorem EnsOwn.only {w w' : World} {rr base : Nat} {v : Value} {es : List En} (h : EnsOwn w base v es) (ho : Only rr w w') (hr : rr < base) : EnsOwn w' base v es :=
  ⟨own_only' h.row ho hr, fun e he => ⟨own_only' (h.own e he).1 ho hr, own_only' (h.own e he).2 ho hr⟩, h.sep⟩
/-- Entries stay where a block is written that was made behind them. -/
theorem EnsOwn.only2 {w0 w w' : World} {rr base : Nat} {v : Value} {es : List En} (h : EnsOwn w base v es) (ho : Only rr w w') (hr : w0.heap.size ≤ rr) (h0 : EnsOwn w0 base v es) : EnsOwn w' base v es := by
  have far : ∀ {B E s n : Nat} {u : Value} {xs : List Value}, w0.ownsRow B E s u n xs → u.ownBlock ≠ some rr := fun hrow e => by
    have := (World.ownsRow.lt hrow rr e).2
    omega
  exact ⟨own_only h.row ho (far h0.row), fun e he => ⟨own_only (h.own e he).1 ho (far (h0.own e he).1), own_only (h.own e he).2 ho (far (h0.own e he).2)⟩, h.sep⟩
/-- A new reader's bytes are a copy: what is written below it changes nothing of it. -/
theorem newReader_off (ao : Option Addr) (n cap : Nat) (xs : List Int) (w : World) (B : Nat) (hn : xs.length = n) (hx : BytesIn w B ao xs) (hB : B ≤ w.heap.size) (hao : ao = none → cap = 0) (hl : n ≤ 140737488351232) :
    Calls Tryd.prog 35 #[.slice ao n cap] w fun e w' => ∃ rb a c, e = .returned (.pointer (some ⟨rb, 0, none⟩)) ∧ w.heap.size ≤ rb ∧ RdrIs w' rb rb false xs a c ∧ (∀ ad, a = some ad → w.heap.size ≤ ad.block) ∧ Below w.heap.size w w' := by
  subst hn
  have HX := Lib.hid hx
  have HA := Lib.hid hao
  clear hx hao
  go_enter Tryd.func35, Tryd.ntmps35
  go_wp2_with fail
  refine (clone_any ao cap xs w B HX.out hB HA.out hl).mono ?_
  rintro e w1 ⟨v, rfl, ho, hb⟩
  obtain ⟨a, c, hv⟩ := row_slice ho
  subst hv
  have HO := Lib.hid ho
  clear ho
  go_wp2_with fail
  go_ret
  have hA : Below w1.heap.size w1 (w1.alloc (.cells #[.bool true, .bool false, .slice a xs.length c] 105)) := (Below.refl _ _).alloc (Nat.le_refl _) _
  refine ⟨w1.heap.size, a, c, rfl, hb.size, ⟨heap_alloc_new w1 _, ?_, own_capG HO.out, own_none HO.out, by simp⟩, ?_, hb.alloc hb.size _⟩
  · rcases (own_bytes' HO.out) with h | ⟨b, off, h1, h2, h3⟩
    · exact Or.inl h
    · refine Or.inr ⟨b, off, h1, h2, by omega, fun i hi => ?_⟩
      rw [hA.cell (p := ⟨b, _, none⟩) h2]
      exact h3 i hi
  · intro ad e
    subst e
    exact (HO.out.lt ad.block rfl).1
/-- A reader whose bytes lie far off stays where a cell below is written. -/
theorem rdr_off {w : World} {lo rb q i : Nat} {left : List Int} {a : Option Addr} {c : Nat} (h : RdrIs w rb rb false left a c) (hf : ∀ ad, a = some ad → lo ≤ ad.block) (hq : q < lo) (hr : rb ≠ q) (v : Value) : Rdr (w.setCell ⟨q, i, none⟩ v) rb rb false left := by
  refine ⟨a, c, (heap_setCell_other _ _ _ _ hr).trans h.blk, ?_, h.cap, h.nil, by simpa using h.le⟩
  rcases h.off with h0 | ⟨b, off, h1, h2, h4, h3⟩
  · exact Or.inl h0
  · have := hf _ h1
    exact Or.inr ⟨b, off, h1, h2, h4, fun j hj => (cell_block (heap_setCell_other _ _ _ _ (show b ≠ q by simp only at this; omega))).trans (h3 j hj)⟩
end Go.Proofs.YthdpfchbomaigaaDoor
