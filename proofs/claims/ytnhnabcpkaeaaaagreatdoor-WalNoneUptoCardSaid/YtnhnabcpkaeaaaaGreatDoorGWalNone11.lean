/- A frame is done to what a file says. Conditions: the frame's bytes lie as they read; what is said is of a block of its own. -/
import Derived.Test.YtnhnabcpkaeaaaaGreatDoorGWalNone10
import Derived.Laws.BitsAllLaws
import Derived.Test.YtnhnabcpkaeaaaaGreatDoorGWalNone0
import Derived.Test.YtnhnabcpkaeaaaaGreatDoorGWalNone1
import Derived.StillTailTactics
set_option linter.unusedVariables false
set_option linter.unusedSimpArgs false
namespace Go.Proofs.YtnhnabcpkaeaaaaGreatDoor
open Go.RowKit Go.ChangeMaps
set_option maxRecDepth 20000
theorem doW_one (s : WP) (data : List Int) : doW s 1 data = voteW s (numS false data).1 (numS false data).2.1 (numS false data).2.2 := by
  unfold doW voteW
  dsimp only
  rw [if_pos rfl]
theorem doW_two (s : WP) (data : List Int) : doW s 2 data = entryW s (numS false data).1 (numS false data).2.1 (numS false data).2.2 := by
  unfold doW entryW
  dsimp only
  rw [if_neg (by decide), if_pos rfl]
theorem doW_three (s : WP) (data : List Int) : doW s 3 data = baseW s (numS false data).1 (numS false data).2.1 (numS false data).2.2 := by
  unfold doW baseW
  dsimp only
  rw [if_neg (by decide), if_neg (by decide), if_pos rfl]
theorem doW_other (s : WP) (kind : Int) (data : List Int) (h1 : kind ≠ 1) (h2 : kind ≠ 2) (h3 : kind ≠ 3) : doW s kind data = none := by
  unfold doW
  dsimp only
  rw [if_neg h1, if_neg h2, if_neg h3]
theorem find_one (t u : Nat) : Instr.findNow (.int .i64) (.int .i64 1) (threeM t u).toList 0 = some (some (0, fnV 67 t u)) := rfl
theorem find_two (t u : Nat) : Instr.findNow (.int .i64) (.int .i64 2) (threeM t u).toList 0 = some (some (1, fnV 70 t u)) := rfl
theorem find_three (t u : Nat) : Instr.findNow (.int .i64) (.int .i64 3) (threeM t u).toList 0 = some (some (2, fnV 72 t u)) := rfl
theorem find_other (k : Int) (t u : Nat) (h1 : k ≠ 1) (h2 : k ≠ 2) (h3 : k ≠ 3) : Instr.findNow (.int .i64) (.int .i64 k) (threeM t u).toList 0 = some none := by
  have e1 : (k == 1) = false := by simpa using h1
  have e2 : (k == 2) = false := by simpa using h2
  have e3 : (k == 3) = false := by simpa using h3
  simp [threeM, Instr.findNow, Instr.sameNow, e1, e2, e3]
/-- Any of the closures, at a frame's number. -/
theorem wdo_clo (F : Nat) (kind : Int) (hk : kind = 1 ∧ F = 67 ∨ kind = 2 ∧ F = 70 ∨ kind = 3 ∧ F = 72) (W : World) (B sb tb ub rb n : Nat) (s : WP) (data : List Int) (x : Int) (bad : Bool) (left : List Int) (w : World) (hq : numS false data = (x, bad, left)) (hs : SayIs W B sb s) (hok : s.Ok n) (hn : n ≤ 1048576) (h : DoIn W sb tb ub rb bad left w) (hw : BytesWf left) (hl : left.length ≤ 140737488351232) :
    Calls Tryz.prog F #[.int .i64 x, .pointer (some ⟨tb, 0, none⟩), .pointer (some ⟨ub, 0, none⟩)] w (DoneAt W B sb (doW s kind data)) := by
  rcases hk with ⟨rfl, rfl⟩ | ⟨rfl, rfl⟩ | ⟨rfl, rfl⟩
  · exact wdo1_any W B sb tb ub rb s x bad left w _ (by rw [doW_one, hq]) hs h hw hl
  · exact wdo2_any W B sb tb ub rb n s x bad left w _ (by rw [doW_two, hq]) hs hok hn h hw hl
  · exact wdo3_any W B sb tb ub rb s x bad left w _ (by rw [doW_three, hq]) hs h hw hl
set_option maxHeartbeats 2000000 in
theorem wdo_any (B sb n nd cap : Nat) (s : WP) (kind : Int) (ao : Option Addr) (data : List Int) (w : World) (hs : SayIs w B sb s) (hok : s.Ok n) (hn : n ≤ 1048576) (hd : data.length = nd) (hx : BytesIn w w.heap.size ao data) (hw : BytesWf data) (hnil : ao = none → cap = 0) (hl : nd ≤ 140737488351232) (hk : (Lit.int .i64 kind).wf = true) :
    Calls Tryz.prog 33 #[.pointer (some ⟨sb, 0, none⟩), .agg #[.int .i64 kind, .slice ao nd cap]] w (DoneAt w B sb (doW s kind data)) := by
  have hb0 := (Below.refl w.heap.size w).alloc (Nat.le_refl _) (.cells #[.pointer (some ⟨sb, 0, none⟩)] 43)
  have hk0 := heap_alloc_new w (.cells #[.pointer (some ⟨sb, 0, none⟩)] 43)
  have hz0 : (w.alloc (.cells #[.pointer (some ⟨sb, 0, none⟩)] 43)).heap.size = w.heap.size + 1 := by simp
  have hmf : ∀ (fn : Fn) (first cap : Array Value) (w : World), (Instr.makeFunc fn first cap).run Tryz.prog w = .ok (.func fn first cap) w := fun _ _ _ _ => rfl
  have HS := Lib.hid hs
  have HX := Lib.hid hx
  have HD := Lib.hid hd
  have HW := Lib.hid hw
  have HNIL := Lib.hid hnil
  have HOK := Lib.hid hok
  clear hs hx hd hw hnil hok
  go_enter Tryz.func33, Tryz.ntmps33
  go_upto_region 1 with fail
  have hb1 := hb0.alloc hb0.size (.cells #[.int .i64 kind, .slice ao nd cap] 83)
  have hk1 := heap_alloc_new (w.alloc (.cells #[.pointer (some ⟨sb, 0, none⟩)] 43)) (.cells #[.int .i64 kind, .slice ao nd cap] 83)
  have hz1 : ((w.alloc (.cells #[.pointer (some ⟨sb, 0, none⟩)] 43)).alloc (.cells #[.int .i64 kind, .slice ao nd cap] 83)).heap.size = w.heap.size + 2 := by simp
  have hk0' : ((w.alloc (.cells #[.pointer (some ⟨sb, 0, none⟩)] 43)).alloc (.cells #[.int .i64 kind, .slice ao nd cap] 83)).heap[w.heap.size]? = some (.cells #[.pointer (some ⟨sb, 0, none⟩)] 43 (0, 0)) :=
    (((Below.refl _ _).alloc (Nat.le_refl _) _).block _ (by rw [hz0]; omega)).trans hk0
  rw [hz0] at hk1
  generalize (w.alloc (.cells #[.pointer (some ⟨sb, 0, none⟩)] 43)).alloc (.cells #[.int .i64 kind, .slice ao nd cap] 83) = w1 at hb1 hk1 hz1 hk0' ⊢
  have d0 := Go.Joins.cell_of_block hk1 0
  have d1 := Go.Joins.cell_of_block hk1 1
  have hz1' : w.heap.size + 2 ≤ w1.heap.size := by omega
  clear hb0 hk0 hz0 hz1
  go_wp2_with fail
  refine (newReader_any ao nd cap data w1 w.heap.size HD.out (HX.out.below hb1 (Nat.le_refl _)) (by omega) HNIL.out hl).mono ?_
  rintro e w2 ⟨rb, rfl, hrb, hrd, hb2⟩
  have hb3 := (Below.refl w2.heap.size w2).alloc (Nat.le_refl _) (.cells #[.pointer (some ⟨rb, 0, none⟩)] 112)
  have hk3 := heap_alloc_new w2 (.cells #[.pointer (some ⟨rb, 0, none⟩)] 112)
  have HRD := Lib.hid hrd
  go_upto_region 2 with fail
  generalize w2.alloc (.cells #[.pointer (some ⟨rb, 0, none⟩)] 112) = w3 at hb3 hk3 ⊢
  have hlt2 := hrd.lt
  have hdo : DoIn w sb w2.heap.size w.heap.size rb false data w3 :=
    ⟨hb1.trans ((hb2.mono (by omega)).trans (hb3.mono (by have := hb2.size; omega))), hk3, (hb3.block _ (by have := hb2.size; omega)).trans ((hb2.block _ (by omega)).trans hk0'), hrd.below hb3, by have := hb2.size; omega, Nat.le_refl _, by omega, by omega, by omega⟩
  have hkd := (hb3.block _ (by have := hb2.size; omega)).trans ((hb2.block _ (by omega)).trans hk1)
  have hhz : w.heap.size + 2 ≤ w3.heap.size := by have := hb2.size; have := hb3.size; omega
  generalize w2.heap.size = tb at hdo ⊢
  have HDO := Lib.hid hdo
  have HKD := Lib.hid hkd
  clear hdo hkd hb1 hb2 hb3 hk1 hk0' hk3 hrd HRD d0 d1 hlt2 hrb hz1'
  have hm1 : (Instr.mapUpdate 118 (.map (some w3.heap.size)) (.int .i64 1) (.func (.func 67) #[] #[.pointer (some ⟨tb, 0, none⟩), .pointer (some ⟨w.heap.size, 0, none⟩)])).run Tryz.prog (w3.alloc (.map #[] 0)) = .ok () (w3.alloc (.map #[⟨.int .i64 1, fnV 67 tb w.heap.size, 0⟩] 1)) := run_putF 1 (by decide) _ #[] 0 w3 rfl
  have hm2 : (Instr.mapUpdate 118 (.map (some w3.heap.size)) (.int .i64 2) (.func (.func 70) #[] #[.pointer (some ⟨tb, 0, none⟩), .pointer (some ⟨w.heap.size, 0, none⟩)])).run Tryz.prog (w3.alloc (.map #[⟨.int .i64 1, fnV 67 tb w.heap.size, 0⟩] 1)) = .ok () (w3.alloc (.map #[⟨.int .i64 1, fnV 67 tb w.heap.size, 0⟩, ⟨.int .i64 2, fnV 70 tb w.heap.size, 1⟩] 2)) := run_putF 2 (by decide) _ #[⟨.int .i64 1, fnV 67 tb w.heap.size, 0⟩] 1 w3 rfl
  have hm3 : (Instr.mapUpdate 118 (.map (some w3.heap.size)) (.int .i64 3) (.func (.func 72) #[] #[.pointer (some ⟨tb, 0, none⟩), .pointer (some ⟨w.heap.size, 0, none⟩)])).run Tryz.prog (w3.alloc (.map #[⟨.int .i64 1, fnV 67 tb w.heap.size, 0⟩, ⟨.int .i64 2, fnV 70 tb w.heap.size, 1⟩] 2)) = .ok () (w3.alloc (.map (threeM tb w.heap.size) 3)) := run_putF 3 (by decide) _ #[⟨.int .i64 1, fnV 67 tb w.heap.size, 0⟩, ⟨.int .i64 2, fnV 70 tb w.heap.size, 1⟩] 2 w3 rfl
  have hmk := @run_makeMap Tryz.prog
  have hb4 := (Below.refl w3.heap.size w3).alloc (Nat.le_refl _) (.map (threeM tb w.heap.size) 3)
  have hkd4 := (hb4.block _ (by omega)).trans HKD.out
  have d0 := Go.Joins.cell_of_block hkd4 0
  have HB4 := Lib.hid hb4
  clear hb4 hkd4
  by_cases hkn : kind = 1 ∨ kind = 2 ∨ kind = 3
  · obtain ⟨F, i, hF, hfind⟩ : ∃ F i, (kind = 1 ∧ F = 67 ∨ kind = 2 ∧ F = 70 ∨ kind = 3 ∧ F = 72) ∧ Instr.findNow (.int .i64) (.int .i64 kind) (threeM tb w.heap.size).toList 0 = some (some (i, fnV F tb w.heap.size)) := by
      rcases hkn with rfl | rfl | rfl
      · exact ⟨_, _, Or.inl ⟨rfl, rfl⟩, find_one _ _⟩
      · exact ⟨_, _, Or.inr (Or.inl ⟨rfl, rfl⟩), find_two _ _⟩
      · exact ⟨_, _, Or.inr (Or.inr ⟨rfl, rfl⟩), find_three _ _⟩
    have hlk := run_getF_some kind hk tb w.heap.size i _ w3 hfind
    have hfn : ∀ args w, (callFunc F args).run Tryz.prog w = .ok (.enter F args) w := by
      rcases hF with ⟨_, rfl⟩ | ⟨_, rfl⟩ | ⟨_, rfl⟩ <;> exact fun _ _ => rfl
    have HF := Lib.hid hF
    unfold fnV at hlk
    clear hfind hF hkn
    go_upto_region 3 with fail
    have h4 := HDO.out.grow HB4.out
    generalize w3.alloc (.map (threeM tb w.heap.size) 3) = w4 at h4 ⊢
    have H4 := Lib.hid h4
    have c4 := h4.c0
    obtain ⟨⟨x, b1, l1⟩, hq⟩ : ∃ q, numS false data = q := ⟨_, rfl⟩
    have hsh := numS_shrinks false data HW.out
    rw [hq] at hsh
    dsimp only at hsh
    have hll : l1.length ≤ 140737488351232 := by have := HD.out; omega
    have HQ := Lib.hid hq
    have HW1 := Lib.hid hsh.1
    have HLL := Lib.hid hll
    clear h4 hm1 hm2 hm3 hmk hlk d0 hq hsh hll hmf
    go_wp2_with fail
    refine (num_at rb rb false data x b1 l1 w4 HQ.out H4.out.rd HW.out (by rw [HD.out]; exact hl)).mono ?_
    rintro e w5 ⟨rfl, hr5, ho5⟩
    have h5 := H4.out.only hr5 ho5
    have H5 := Lib.hid h5
    clear hr5 ho5 h5 c4
    go_wp2_with fail
    refine (wdo_clo F kind HF.out w B sb tb w.heap.size rb n s data x b1 l1 w5 HQ.out HS.out HOK.out hn H5.out HW1.out HLL.out).mono ?_
    obtain ⟨r, hrr⟩ : ∃ r, doW s kind data = r := ⟨_, rfl⟩
    intro e w6 hda
    rw [hrr] at hda
    have HRR := Lib.hid hrr
    clear hrr
    have HDA := Lib.hid hda
    cases r with
    | none =>
      obtain ⟨rfl, _⟩ := hda
      go_wp2_with fail
      go_ret
      rw [HRR.out]
      exact HDA.out
    | some t =>
      obtain ⟨rfl, _⟩ := hda
      go_wp2_with fail
      go_ret
      rw [HRR.out]
      exact HDA.out
  · have hlk := run_getF_none kind hk tb w.heap.size w3 (find_other kind tb w.heap.size (fun h => hkn (Or.inl h)) (fun h => hkn (Or.inr (Or.inl h))) (fun h => hkn (Or.inr (Or.inr h))))
    have hno := doW_other s kind data (fun h => hkn (Or.inl h)) (fun h => hkn (Or.inr (Or.inl h))) (fun h => hkn (Or.inr (Or.inr h)))
    have HNO := Lib.hid hno
    clear hno hkn
    go_wp2_with fail
    go_ret
    exact done_no HNO.out (HDO.out.grow HB4.out).below
end Go.Proofs.YtnhnabcpkaeaaaaGreatDoor
/- The sum of bytes, in plain Lean. No program. Conditions: bytes are below 256. -/
namespace Go.Proofs.YtnhnabcpkaeaaaaGreatDoor
open Go
def bitN (w : Nat) : Nat := (w / 2) ^^^ (if w % 2 = 1 then 3988292384 else 0)
def itN : Nat → Nat → Nat
  | 0, w => w
  | j + 1, w => bitN (itN j w)
def byteN (w : Nat) (x : Int) : Nat := itN 8 (w ^^^ x.toNat)
def sumTo (xs : List Int) (k : Nat) : Nat := (xs.take k).foldl byteN 4294967295
/-- The sum of bytes. -/
def sumS (xs : List Int) : Nat := sumTo xs xs.length ^^^ 4294967295
theorem bitN_lt {w : Nat} (h : w < 4294967296) : bitN w < 4294967296 := by
  unfold bitN
  refine Nat.xor_lt_two_pow (n := 32) (by omega) ?_
  split <;> omega
theorem itN_lt {w : Nat} (h : w < 4294967296) (j : Nat) : itN j w < 4294967296 := by
  induction j with
  | zero => exact h
  | succ j ih => exact bitN_lt ih
theorem byteN_lt {w : Nat} (h : w < 4294967296) {x : Int} (hx : 0 ≤ x ∧ x < 256) : byteN w x < 4294967296 :=
  itN_lt (Nat.xor_lt_two_pow (n := 32) (by omega) (by omega)) 8
theorem sumTo_succ {xs : List Int} {k : Nat} (h : k < xs.length) : sumTo xs (k + 1) = byteN (sumTo xs k) (xs.getD k 0) := by
  unfold sumTo
  rw [List.take_succ_eq_append_getElem h, List.foldl_append]
  simp [List.getD, List.getElem?_eq_getElem h]
theorem sumTo_lt {xs : List Int} (hw : ∀ x ∈ xs, 0 ≤ x ∧ x < 256) (k : Nat) : sumTo xs k < 4294967296 := by
  unfold sumTo
  have : ∀ (l : List Int) (s : Nat), s < 4294967296 → (∀ x ∈ l, 0 ≤ x ∧ x < 256) → l.foldl byteN s < 4294967296 := by
    intro l
    induction l with
    | nil => intro s h _; exact h
    | cons a l ih => intro s h hl; exact ih _ (byteN_lt h (hl a List.mem_cons_self)) (fun x hx => hl x (List.mem_cons_of_mem _ hx))
  exact this _ _ (by decide) (fun x hx => hw x (List.mem_of_mem_take hx))
theorem sumS_lt {xs : List Int} (hw : ∀ x ∈ xs, 0 ≤ x ∧ x < 256) : sumS xs < 4294967296 :=
  Nat.xor_lt_two_pow (n := 32) (sumTo_lt hw _) (by decide)
theorem and_one (w : Nat) (h : w < 4294967296) : bits .and .u32 (w : Int) 1 = ((w % 2 : Nat) : Int) := by
  have := u32_and_nat w 1 h (by decide)
  rw [Nat.and_one_is_mod] at this
  exact this
theorem bit_prog {w : Nat} (h : w < 4294967296) : bits .xor .u32 ((w : Int) / 2) (bits .and .u32 3988292384 (-bits .and .u32 (w : Int) 1 % 4294967296)) = (bitN w : Int) := by
  have e : bits .and .u32 3988292384 (-bits .and .u32 (w : Int) 1 % 4294967296) = ((if w % 2 = 1 then 3988292384 else 0 : Nat) : Int) := by
    rw [and_one w h]
    by_cases h2 : w % 2 = 1
    · rw [if_pos h2, h2]; decide
    · have h3 : w % 2 = 0 := by omega
      rw [if_neg h2, h3]; decide
  rw [e]
  have h3 : ((w : Int) / 2) = ((w / 2 : Nat) : Int) := by omega
  rw [h3]
  exact u32_xor_nat _ _ (by omega) (by split <;> omega)
theorem byte_in {w : Nat} (h : w < 4294967296) {x : Int} (hx : 0 ≤ x ∧ x < 256) : bits .xor .u32 (w : Int) x = ((w ^^^ x.toNat : Nat) : Int) := by
  have := u32_xor_nat w x.toNat h (by omega)
  rw [Int.toNat_of_nonneg hx.1] at this
  exact this
theorem u32_not {z : Nat} (h : z < 4294967296) : bits .xor .u32 IntKind.u32.max (z : Int) = ((z ^^^ 4294967295 : Nat) : Int) := by
  rw [Nat.xor_comm]
  exact u32_xor_nat 4294967295 z (by decide) h
end Go.Proofs.YtnhnabcpkaeaaaaGreatDoor
/- The sum of bytes, of the program and of its reference. Conditions: the slice's cells lie as its reading says. -/
namespace Go.Proofs.YtnhnabcpkaeaaaaGreatDoor
open Go.RowKit
set_option maxRecDepth 20000
theorem sum_any (ao : Option Addr) (cap : Nat) (xs : List Int) (w : World) (B : Nat) (hx : BytesIn w B ao xs) (hw : BytesWf xs) (hl : xs.length ≤ 4611686018427387904) :
    Calls Tryz.prog 63 #[.slice ao xs.length cap] w fun e w' => e = .returned (.int .u32 (sumS xs)) ∧ w = w' := by
  have HX := Lib.hid hx
  clear hx
  go_enter Tryz.func63, Tryz.ntmps63
  go_wp2_with fail
  go_loopw [3, 5, 8] (fun v _ i wr => wr = w ∧ ∃ (k : Nat) (z : Nat), k ≤ xs.length ∧ i = .int .i64 k ∧ v = .int .u32 z ∧ z = sumTo xs k ∧ z < 4294967296) (fun _ _ i _ => xs.length - (intOf i).toNat)
  case atStart => exact ⟨rfl, 0, 4294967295, by omega, rfl, rfl, rfl, by decide⟩
  case round =>
    obtain ⟨rfl, k, z, hk, rfl, rfl, hz, h1⟩ := hrel
    have HZ := Lib.hid hz
    clear hz
    by_cases hlt : k < xs.length
    · have i1 : (k : Int) < xs.length := by omega
      rcases HX.out with h0 | ⟨b, off, rfl, hb, hc⟩
      · rw [h0] at hlt; simp at hlt
      have c0 := hc k hlt
      have hxw := hw _ (bytes_mem hlt)
      have hst := sumTo_succ hlt
      obtain ⟨x, hxe⟩ : ∃ x, x = xs.getD k 0 := ⟨_, rfl⟩
      rw [← hxe] at c0 hxw hst
      rw [← HZ.out] at hst
      have HS := Lib.hid hst
      have HB := Lib.hid (byte_in h1 hxw)
      have h2 := Nat.xor_lt_two_pow (n := 32) (x := z) (y := x.toNat) (by omega) (by omega)
      clear hxe hc hst
      go_wp2_with fail
      go_loopw [3, 16] (fun v i wx => wx = wr ∧ ∃ (j : Nat), j ≤ 8 ∧ i = .int .i64 j ∧ v = .int .u32 (itN j (z ^^^ x.toNat))) (fun _ i _ => 8 - (intOf i).toNat)
      case atStart => exact ⟨rfl, 0, by omega, rfl, congrArg (Value.int .u32) HB.out⟩
      case round =>
        obtain ⟨rfl, j, hj, rfl, rfl⟩ := hrel
        by_cases hlj : j < 8
        · have i2 : (j : Int) < 8 := by omega
          have h3 := itN_lt h2 j
          have HQ := Lib.hid (bit_prog h3)
          have HR := Lib.hid (show itN (j + 1) (z ^^^ x.toNat) = bitN (itN j (z ^^^ x.toNat)) from rfl)
          generalize itN j (z ^^^ x.toNat) = u at h3 HQ HR ⊢
          go_wp2_with fail
          go_roundw
          case rel => exact ⟨trivial, j + 1, by omega, by go_num, congrArg (Value.int .u32) (by rw [HR.out]; exact HQ.out)⟩
          case measure => simp [intOf]; omega
        · obtain rfl : j = 8 := by omega
          have h3 := itN_lt h2 8
          have HR := Lib.hid (show byteN z x = itN 8 (z ^^^ x.toNat) from rfl)
          generalize itN 8 (z ^^^ x.toNat) = u at h3 HR ⊢
          go_wp2_with fail
          go_roundw
          case rel => exact ⟨trivial, k + 1, u, by omega, by go_num, rfl, by rw [HS.out, HR.out], h3⟩
          case measure => simp [intOf]; omega
    · obtain rfl : k = xs.length := by omega
      have H5 := Lib.hid (u32_not h1)
      go_wp2_with fail
      go_ret
      exact ⟨congrArg (fun n => Ending.returned (.int .u32 n)) (by rw [H5.out]; unfold sumS; rw [HZ.out]), rfl⟩
end Go.Proofs.YtnhnabcpkaeaaaaGreatDoor
/- Frames in bytes, in plain Lean: what is put, what is scanned, and that the one undoes the other. No program. Conditions: bytes are below 256. -/
namespace Go.Proofs.YtnhnabcpkaeaaaaGreatDoor
open Go
/-- A number as four bytes. -/
def fourB (n : Nat) : List Int := [(n : Int) / 16777216, (n : Int) / 65536 % 256, (n : Int) / 256 % 256, (n : Int) % 256]
/-- What four bytes say. -/
def saidS (b : List Int) : Nat := (b.getD 0 0 * 16777216 + b.getD 1 0 * 65536 + b.getD 2 0 * 256 + b.getD 3 0).toNat
/-- A frame's bytes. -/
def frameB (kind : Int) (data : List Int) : List Int := fourB data.length ++ [kind] ++ fourB (sumS (kind :: data)) ++ data
theorem frameB_len (kind : Int) (data : List Int) : (frameB kind data).length = 9 + data.length := by simp [frameB, fourB]; omega
theorem said_four (n : Nat) (rest : List Int) : saidS (fourB n ++ rest) = n := by
  simp [saidS, fourB]; omega
theorem four_said {b : List Int} (hb : ∀ x ∈ b, 0 ≤ x ∧ x < 256) (hl : 4 ≤ b.length) : fourB (saidS b) = b.take 4 := by
  match b, hl with
  | x0 :: x1 :: x2 :: x3 :: r, _ =>
    have h0 := hb x0 (by simp)
    have h1 := hb x1 (by simp)
    have h2 := hb x2 (by simp)
    have h3 := hb x3 (by simp)
    simp [saidS, fourB]
    omega
inductive Stp where
  | stop (spoilt : Bool)
  | one (kind : Int) (data : List Int)
/-- The kind that stands behind the length; the data. -/
def kindF (b : List Int) : Int := b.getD 4 0
def dataS (b : List Int) : List Int := (b.drop 9).take (saidS b)
/-- What bytes begin with. -/
def stepS (b : List Int) : Stp :=
  if b.length < 4 then .stop false
  else if 1048576 < saidS b then .stop true
  else if b.length < 9 + saidS b then .stop false
  else if saidS (b.drop 5) ≠ sumS (kindF b :: dataS b) then .stop true
  else .one (kindF b) (dataS b)
def scanF : Nat → List Int → List (Int × List Int) × Nat × Bool
  | 0, _ => ([], 0, false)
  | f + 1, b => match stepS b with
    | .stop s => ([], 0, s)
    | .one k d => ((k, d) :: (scanF f (b.drop (9 + d.length))).1, 9 + d.length + (scanF f (b.drop (9 + d.length))).2.1, (scanF f (b.drop (9 + d.length))).2.2)
/-- The frames that bytes begin with, how many bytes they are, whether the next one is spoilt. -/
def scanS (b : List Int) : List (Int × List Int) × Nat × Bool := scanF (b.length + 1) b
theorem dataS_len {b : List Int} (h : 9 + saidS b ≤ b.length) : (dataS b).length = saidS b := by simp [dataS]; omega
theorem step_one {b : List Int} {k : Int} {d : List Int} (h : stepS b = .one k d) : 4 ≤ b.length ∧ saidS b ≤ 1048576 ∧ 9 + saidS b ≤ b.length ∧ saidS (b.drop 5) = sumS (kindF b :: dataS b) ∧ k = kindF b ∧ d = dataS b ∧ d.length = saidS b := by
  unfold stepS at h
  split at h
  · cases h
  · split at h
    · cases h
    · split at h
      · cases h
      · rename_i h1 h2 h3
        split at h
        · cases h
        · rename_i h4
          injection h with e1 e2
          refine ⟨by omega, by omega, by omega, by omega, e1.symm, e2.symm, ?_⟩
          rw [← e2]
          exact dataS_len (by omega)
theorem scanF_more : ∀ (f : Nat) (b : List Int), b.length < f → ∀ g, b.length < g → scanF f b = scanF g b := by
  intro f
  induction f with
  | zero => intro b h; omega
  | succ f ih =>
    intro b h g hg
    cases g with
    | zero => omega
    | succ g =>
      unfold scanF
      cases hs : stepS b with
      | stop s => rfl
      | one k d =>
        have h1 := step_one hs
        have h2 : (b.drop (9 + d.length)).length < f := by simp; omega
        have h3 : (b.drop (9 + d.length)).length < g := by simp; omega
        show (_, _) = _
        rw [ih _ h2 g h3]
theorem scanS_stop {b : List Int} {s : Bool} (h : stepS b = .stop s) : scanS b = ([], 0, s) := by
  unfold scanS scanF; rw [h]
theorem scanS_one {b : List Int} {k : Int} {d : List Int} (h : stepS b = .one k d) : scanS b = ((k, d) :: (scanS (b.drop (9 + d.length))).1, 9 + d.length + (scanS (b.drop (9 + d.length))).2.1, (scanS (b.drop (9 + d.length))).2.2) := by
  have h1 := step_one h
  have h2 : scanF b.length (b.drop (9 + d.length)) = scanS (b.drop (9 + d.length)) := scanF_more _ _ (by simp; omega) _ (by omega)
  conv => lhs; unfold scanS scanF
  rw [h]
  show (_, _) = _
  rw [h2]
/-- Frames that were found go ahead of what is found behind them. -/
def joinS (acc : List (Int × List Int)) (used : Nat) (r : List (Int × List Int) × Nat × Bool) : List (Int × List Int) × Nat × Bool := (acc ++ r.1, used + r.2.1, r.2.2)
theorem join_one {b : List Int} {acc : List (Int × List Int)} {used : Nat} {k : Int} {d : List Int} {r : List (Int × List Int) × Nat × Bool} (h : stepS (b.drop used) = .one k d) (hr : r = joinS acc used (scanS (b.drop used))) :
    r = joinS (acc ++ [(k, d)]) (used + 9 + d.length) (scanS (b.drop (used + 9 + d.length))) := by
  rw [hr, scanS_one h]
  unfold joinS
  rw [List.drop_drop, show used + (9 + d.length) = used + 9 + d.length by omega]
  simp
  omega
theorem join_stop {b : List Int} {acc : List (Int × List Int)} {used : Nat} {s : Bool} {r : List (Int × List Int) × Nat × Bool} (h : stepS (b.drop used) = .stop s) (hr : r = joinS acc used (scanS (b.drop used))) : r = (acc, used, s) := by
  rw [hr, scanS_stop h]; simp [joinS]
/-- Is it a frame that may be? -/
def okP (p : Int × List Int) : Prop := 0 ≤ p.1 ∧ p.1 ≤ 255 ∧ p.2.length ≤ 1048576 ∧ ∀ x ∈ p.2, 0 ≤ x ∧ x < 256
def putP (l : List (Int × List Int)) : List Int := l.flatMap fun p => frameB p.1 p.2
theorem putP_cons (p : Int × List Int) (l : List (Int × List Int)) : putP (p :: l) = frameB p.1 p.2 ++ putP l := by simp [putP]
theorem frame_drop5 (k : Int) (d rest : List Int) : (frameB k d ++ rest).drop 5 = fourB (sumS (k :: d)) ++ (d ++ rest) := by simp [frameB, fourB]
theorem frame_drop9 (k : Int) (d rest : List Int) : (frameB k d ++ rest).drop 9 = d ++ rest := by simp [frameB, fourB]
theorem frame_said (k : Int) (d rest : List Int) : saidS (frameB k d ++ rest) = d.length := by
  have := said_four d.length ([k] ++ fourB (sumS (k :: d)) ++ d ++ rest)
  simpa [frameB] using this
theorem frame_kind (k : Int) (d rest : List Int) : kindF (frameB k d ++ rest) = k := by simp [kindF, frameB, fourB]
theorem frame_data (k : Int) (d rest : List Int) : dataS (frameB k d ++ rest) = d := by
  unfold dataS
  rw [frame_drop9, frame_said, List.take_left]
theorem step_frame {k : Int} {d rest : List Int} (h : d.length ≤ 1048576) : stepS (frameB k d ++ rest) = .one k d := by
  have hl : (frameB k d ++ rest).length = 9 + d.length + rest.length := by rw [List.length_append, frameB_len]
  unfold stepS
  rw [frame_said, frame_kind, frame_data, frame_drop5, said_four, if_neg (by omega), if_neg (by omega), if_neg (by omega), if_neg (by simp)]
/-- What is put is scanned. -/
theorem scan_put : ∀ (l : List (Int × List Int)), (∀ p ∈ l, okP p) → ∀ rest, scanS (putP l ++ rest) = joinS l (putP l).length (scanS rest) := by
  intro l
  induction l with
  | nil => intro _ rest; simp [putP, joinS]
  | cons p l ih =>
    intro h rest
    have hp := h p List.mem_cons_self
    have hd : ((frameB p.1 p.2 ++ (putP l ++ rest)).drop (9 + p.2.length)) = putP l ++ rest := by
      rw [← frameB_len p.1 p.2, List.drop_left]
    rw [putP_cons, List.append_assoc, scanS_one (step_frame hp.2.2.1), hd, ih (fun q hq => h q (List.mem_cons_of_mem _ hq))]
    simp [joinS, frameB_len]
    omega
theorem scan_nil : scanS [] = ([], 0, false) := scanS_stop (by unfold stepS; rw [if_pos (by simp)])
theorem scan_all (l : List (Int × List Int)) (h : ∀ p ∈ l, okP p) : scanS (putP l) = (l, (putP l).length, false) := by
  have := scan_put l h []
  rw [List.append_nil, scan_nil] at this
  rw [this]; simp [joinS]
/-- What is scanned is put as just the bytes that were used. -/
theorem step_put {b : List Int} (hb : ∀ x ∈ b, 0 ≤ x ∧ x < 256) {k : Int} {d : List Int} (h : stepS b = .one k d) : b.take (9 + d.length) = frameB k d ∧ okP (k, d) := by
  obtain ⟨h1, h2, h3, h4, rfl, rfl, h5⟩ := step_one h
  have hk : kindF b ∈ b := by unfold kindF; rw [List.getD_eq_getElem?_getD, List.getElem?_eq_getElem (by omega)]; simp
  have hd : ∀ x ∈ dataS b, x ∈ b := fun x hx => List.mem_of_mem_drop (List.mem_of_mem_take hx)
  refine ⟨?_, (hb _ hk).1, by have := (hb _ hk).2; show kindF b ≤ 255; omega, by rw [h5]; exact h2, fun x hx => hb x (hd x hx)⟩
  unfold frameB
  rw [← h4, h5, four_said hb h1, four_said (fun x hx => hb x (List.mem_of_mem_drop hx)) (by simp; omega)]
  have e1 : [kindF b] = (b.drop 4).take 1 := by
    unfold kindF
    rw [List.getD_eq_getElem?_getD, List.getElem?_eq_getElem (by omega), List.drop_eq_getElem_cons (i := 4) (l := b) (by omega), List.take_succ_cons, List.take_zero]
    rfl
  rw [e1]
  unfold dataS
  have t : ∀ i j : Nat, b.take (i + j) = b.take i ++ (b.drop i).take j := fun i j => List.take_add
  rw [t 9, t 5 4, t 4 1]
theorem scanF_put : ∀ (f : Nat) (b : List Int), b.length < f → (∀ x ∈ b, 0 ≤ x ∧ x < 256) → (scanF f b).2.1 ≤ b.length ∧ putP (scanF f b).1 = b.take (scanF f b).2.1 ∧ ∀ p ∈ (scanF f b).1, okP p := by
  intro f
  induction f with
  | zero => intro b h; omega
  | succ f ih =>
    intro b h hb
    unfold scanF
    cases hs : stepS b with
    | stop s => exact ⟨by simp, by simp [putP], by simp⟩
    | one k d =>
      have h1 := step_one hs
      obtain ⟨h2, h3⟩ := step_put hb hs
      obtain ⟨i1, i2, i3⟩ := ih (b.drop (9 + d.length)) (by simp; omega) (fun x hx => hb x (List.mem_of_mem_drop hx))
      rw [List.length_drop] at i1
      refine ⟨by show 9 + d.length + _ ≤ _; omega, ?_, ?_⟩
      · show putP ((k, d) :: _) = b.take (9 + d.length + _)
        rw [putP_cons, i2, List.take_add, h2]
      · intro p hp
        rcases List.mem_cons.1 hp with rfl | hp
        · exact h3
        · exact i3 p hp
theorem scanS_put {b : List Int} (hb : ∀ x ∈ b, 0 ≤ x ∧ x < 256) : (scanS b).2.1 ≤ b.length ∧ putP (scanS b).1 = b.take (scanS b).2.1 ∧ ∀ p ∈ (scanS b).1, okP p := scanF_put _ _ (by omega) hb
end Go.Proofs.YtnhnabcpkaeaaaaGreatDoor
/- The frame's writer: what it writes stands behind what it held. Conditions: the buffer holds bytes, and has only been written. -/
namespace Go.Proofs.YtnhnabcpkaeaaaaGreatDoor
open Go.RowKit
set_option maxRecDepth 20000
/-- Block b is a writer that holds these bytes. -/
def BufF (w : World) (B b : Nat) (bs : List Int) : Prop := LibA.IsBuffer 142 (fun _ => none) 5 B b 0 (bs.map bv) w
theorem writeByteF_any (B b : Nat) (bs : List Int) (c : Int) (w : World) (h : BufF w B b bs) (hBw : B ≤ w.heap.size) (hlim : bs.length + 1 ≤ 140737488355328) :
    Calls Tryz.prog 117 #[.pointer (some ⟨b, 0, none⟩), .int .u8 c] w fun e w' => e = .returned .nilIface ∧ BufF w' B b (bs ++ [c]) ∧ Below B w w' ∧ Lib.OthersKept 5 (some b) w w' := by
  refine (Tryz.Buffer_WriteByte_at _ _ B b 0 _ c w h hBw (bytes_oneCell _) (by simpa using hlim)).mono ?_
  rintro e w' ⟨h1, h2, h3, h4⟩
  exact ⟨h1, by unfold BufF; rw [List.map_append]; exact h2, h3, h4⟩
theorem four_any (B b : Nat) (bs : List Int) (n : Nat) (w : World) (hn : n < 4294967296) (h : BufF w B b bs) (hBw : B ≤ w.heap.size) (hlim : bs.length + 4 ≤ 140737488355328) :
    Calls Tryz.prog 120 #[.pointer (some ⟨b, 0, none⟩), .int .u32 n] w fun e w' => e = .returned (.tuple #[]) ∧ BufF w' B b (bs ++ fourB n) ∧ Below B w w' ∧ Lib.OthersKept 5 (some b) w w' := by
  go_enter Tryz.func120, Tryz.ntmps120
  go_wp2_with fail
  go_loopw [5, 14] (fun _ i wr => ∃ k : Nat, k ≤ 4 ∧ i = .int .i64 k ∧ BufF wr B b (bs ++ (fourB n).take k) ∧ Below B w wr ∧ Lib.OthersKept 5 (some b) w wr) (fun _ i _ => 4 - (intOf i).toNat)
  case atStart => exact ⟨0, by omega, rfl, by simpa using h, Below.refl _ _, Lib.OthersKept.refl _ _ _⟩
  case round =>
    obtain ⟨k, hk, rfl, hbuf, hbel, hoth⟩ := hrel
    have hs := hbel.size
    have hlen : ∀ k : Nat, ((fourB n).take k).length ≤ 4 := fun k => Nat.le_trans (List.length_take_le' _ _) (by simp [fourB])
    obtain rfl | rfl | rfl | rfl | rfl : k = 0 ∨ k = 1 ∨ k = 2 ∨ k = 3 ∨ k = 4 := by omega
    · rw [show ((0 : Nat) : Int) = 0 from rfl]
      have i0 : ∀ w, (Instr.index 190 (.agg #[.int .u32 ((n : Int) / 16777216), .int .u32 ((n : Int) / 65536), .int .u32 ((n : Int) / 256), .int .u32 (n : Int)]) (.int .i64 0)).run Tryz.prog w = .ok (.int .u32 ((n : Int) / 16777216)) w := fun _ => by kernel_rfl
      go_wp2_with fail
      refine (writeByteF_any B b _ _ _ hbuf (by omega) (by simp [fourB]; omega)).mono ?_
      rintro e w2 ⟨rfl, hb2, hW2, hO2⟩
      go_wp2_with fail
      go_roundw
      case rel => exact ⟨1, by omega, by go_num, by simpa [fourB] using hb2, hbel.trans hW2, hoth.trans hO2⟩
      case measure => simp [intOf]
    · rw [show ((1 : Nat) : Int) = 1 from rfl]
      have i0 : ∀ w, (Instr.index 190 (.agg #[.int .u32 ((n : Int) / 16777216), .int .u32 ((n : Int) / 65536), .int .u32 ((n : Int) / 256), .int .u32 (n : Int)]) (.int .i64 1)).run Tryz.prog w = .ok (.int .u32 ((n : Int) / 65536)) w := fun _ => by kernel_rfl
      go_wp2_with fail
      refine (writeByteF_any B b _ _ _ hbuf (by omega) (by simp [fourB]; omega)).mono ?_
      rintro e w2 ⟨rfl, hb2, hW2, hO2⟩
      go_wp2_with fail
      go_roundw
      case rel => exact ⟨2, by omega, by go_num, by simpa [fourB] using hb2, hbel.trans hW2, hoth.trans hO2⟩
      case measure => simp [intOf]
    · rw [show ((2 : Nat) : Int) = 2 from rfl]
      have i0 : ∀ w, (Instr.index 190 (.agg #[.int .u32 ((n : Int) / 16777216), .int .u32 ((n : Int) / 65536), .int .u32 ((n : Int) / 256), .int .u32 (n : Int)]) (.int .i64 2)).run Tryz.prog w = .ok (.int .u32 ((n : Int) / 256)) w := fun _ => by kernel_rfl
      go_wp2_with fail
      refine (writeByteF_any B b _ _ _ hbuf (by omega) (by simp [fourB]; omega)).mono ?_
      rintro e w2 ⟨rfl, hb2, hW2, hO2⟩
      go_wp2_with fail
      go_roundw
      case rel => exact ⟨3, by omega, by go_num, by simpa [fourB] using hb2, hbel.trans hW2, hoth.trans hO2⟩
      case measure => simp [intOf]
    · rw [show ((3 : Nat) : Int) = 3 from rfl]
      have i0 : ∀ w, (Instr.index 190 (.agg #[.int .u32 ((n : Int) / 16777216), .int .u32 ((n : Int) / 65536), .int .u32 ((n : Int) / 256), .int .u32 (n : Int)]) (.int .i64 3)).run Tryz.prog w = .ok (.int .u32 ((n : Int))) w := fun _ => by kernel_rfl
      go_wp2_with fail
      refine (writeByteF_any B b _ _ _ hbuf (by omega) (by simp [fourB]; omega)).mono ?_
      rintro e w2 ⟨rfl, hb2, hW2, hO2⟩
      go_wp2_with fail
      go_roundw
      case rel => exact ⟨4, by omega, by go_num, by simpa [fourB] using hb2, hbel.trans hW2, hoth.trans hO2⟩
      case measure => simp [intOf]
    · rw [show ((4 : Nat) : Int) = 4 from rfl]
      go_wp2_with fail
      go_end0
      exact ⟨rfl, by simpa [fourB] using hbuf, hbel, hoth⟩
theorem write_empty (B b : Nat) (bs : List Int) (ao : Option Addr) (cap : Nat) (w : World) (h : BufF w B b bs) (hBw : B ≤ w.heap.size) :
    Calls Tryz.prog 121 #[.pointer (some ⟨b, 0, none⟩), .slice ao 0 cap] w fun e w' => e = .returned (.tuple #[.int .i64 0, .nilIface]) ∧ BufF w' B b bs ∧ Below B w w' ∧ Lib.OthersKept 5 (some b) w w' := by
  go_enter Tryz.func121, Tryz.ntmps121
  have h1 : BufF (w.setCell ⟨b, 2, none⟩ (.int .i8 0)) B b bs := LibA.IsBuffer.setLast h 0
  have hb1 : Below B w (w.setCell ⟨b, 2, none⟩ (.int .i8 0)) := (Below.refl B w).setCell (p := ⟨b, 2, none⟩) h.1 _
  have ho1 : Lib.OthersKept 5 (some b) w (w.setCell ⟨b, 2, none⟩ (.int .i8 0)) := (Lib.OthersKept.refl _ _ w).setCell ⟨b, 2, none⟩ rfl _
  obtain ⟨hBb, v, lr, h3, hown, hvb⟩ := h
  have c2 := h3.c2
  have f2 := h3.f (0 + 2)
  have hcp := fun (d : Option Addr) (dl dc : Nat) (w : World) => run_copy_none (P := Tryz.prog) w 22 22 3 5 d ao dl dc 0 cap Tryz.underlying22 (by kernel_rfl) (Nat.zero_min _)
  clear h3 hown
  go_wp2_with fail
  generalize w.setCell ⟨b, 2, none⟩ (.int .i8 0) = w1 at h1 hb1 ho1 ⊢
  refine (Tryz.Buffer_tryGrow_at _ _ B b 0 0 _ w1 h1).mono ?_
  rintro e w2 (⟨rfl, ys, hy, h2, hB2, hO2, _⟩ | ⟨_, _, _, l, c, _, hlt⟩)
  · obtain rfl := List.eq_nil_of_length_eq_zero hy
    rw [List.append_nil] at h2
    have h5 : BufF w2 B b bs := h2
    obtain ⟨_, v', lr', k3, kown, _⟩ := h2
    have hfm : ∃ g c, v' = .slice g bs.length c ∧ bs.length ≤ c := by
      rcases kown.2 with ⟨rfl, h⟩ | ⟨g, cap, cur, rfl, _, _, h1, h2, _⟩
      · have : bs.length = 0 := by simpa using h
        exact ⟨none, 0, by rw [this], by omega⟩
      · exact ⟨some ⟨g, 0, none⟩, cap, by rw [List.length_map], by simpa using h1⟩
    obtain ⟨g, c, rfl, hlc⟩ := hfm
    have c0 := k3.c0
    have hlen : (bs.map bv).length = bs.length := by simp
    rw [hlen]
    clear k3 kown
    go_wp2_with fail
    all_goals
      go_ret2
      exact ⟨rfl, h5, hb1.trans hB2, ho1.trans hO2⟩
  · omega
theorem write_any (B b : Nat) (bs : List Int) (ao : Option Addr) (cap : Nat) (data : List Int) (w : World) (h : BufF w B b bs) (hBw : B ≤ w.heap.size) (hd : BytesIn w B ao data) (hao : ao = none → cap = 0) (hlim : bs.length + data.length ≤ 140737488355328) :
    Calls Tryz.prog 121 #[.pointer (some ⟨b, 0, none⟩), .slice ao data.length cap] w fun e w' => e = .returned (.tuple #[.int .i64 data.length, .nilIface]) ∧ BufF w' B b (bs ++ data) ∧ Below B w w' ∧ Lib.OthersKept 5 (some b) w w' := by
  have hBb : B ≤ b := h.1
  rcases hd with rfl | ⟨bb, off, rfl, hb, hc⟩
  · refine (write_empty B b bs ao cap w h hBw).mono ?_
    rintro e w' ⟨h1, h2, h3, h4⟩
    exact ⟨h1, by simpa using h2, h3, h4⟩
  · refine (Tryz.Buffer_Write_at _ _ B b 0 _ (data.map bv) ⟨bb, off, none⟩ data.length cap w h hBw (bytes_oneCell _) (by simp) (by show bb ≠ b; omega) (fun j u hu => cells_of_bytes (Or.inr ⟨bb, off, rfl, hb, hc⟩) (Below.refl B w) rfl hu) (bytes_oneCell _) (by simpa using hlim)).mono ?_
    rintro e w' ⟨h1, h2, h3, h4⟩
    exact ⟨h1, by unfold BufF; rw [List.map_append]; exact h2, h3, h4⟩
theorem frame_any (B b : Nat) (bs : List Int) (kind : Int) (ao : Option Addr) (cap : Nat) (data : List Int) (w : World) (hk : 0 ≤ kind ∧ kind < 256) (hd : BytesIn w B ao data) (hwd : BytesWf data) (hao : ao = none → cap = 0) (h : BufF w B b bs) (hBw : B ≤ w.heap.size) (hl : data.length ≤ 4294967295) (hlim : bs.length + data.length + 9 ≤ 140737488355328) :
    Calls Tryz.prog 93 #[.pointer (some ⟨b, 0, none⟩), .agg #[.int .i64 kind, .slice ao data.length cap]] w fun e w' => e = .returned (.tuple #[]) ∧ BufF w' B b (bs ++ frameB kind data) ∧ Below B w w' ∧ Lib.OthersKept 5 (some b) w w' := by
  have HD := Lib.hid hd
  clear hd
  have hbl : b < w.heap.size := h.lt
  have fr : (w.alloc (.cells #[.int .i64 kind, .slice ao data.length cap] 83)).heap[w.heap.size]? = some (.cells #[.int .i64 kind, .slice ao data.length cap] 83 (0, 0)) := heap_alloc_new w _
  have h0 : BufF (w.alloc (.cells #[.int .i64 kind, .slice ao data.length cap] 83)) B b bs := LibA.IsBuffer.alloc h _
  have hb0 := (Below.refl B w).alloc hBw (.cells #[.int .i64 kind, .slice ao data.length cap] 83)
  have ho0 := (Lib.OthersKept.refl 5 (some b) w).alloc (.cells #[.int .i64 kind, .slice ao data.length cap] 83)
  have hz0 : (w.alloc (.cells #[.int .i64 kind, .slice ao data.length cap] 83)).heap.size = w.heap.size + 1 := by simp
  have hne : some w.heap.size ≠ some b := by simp; omega
  have hty : ∀ c fz, Obj.cells #[.int .i64 kind, .slice ao data.length cap] 83 (0, 0) ≠ .cells c 5 fz := by intro c fz h; injection h with _ h2 _; cases h2
  go_enter Tryz.func93, Tryz.ntmps93
  go_wp2_with fail
  generalize w.alloc (.cells #[.int .i64 kind, .slice ao data.length cap] 83) = w0 at fr h0 hb0 ho0 hz0 ⊢
  refine (four_any B b bs data.length w0 (by omega) h0 (by omega) (by omega)).mono ?_
  rintro e w1 ⟨rfl, h1, hB1, hO1⟩
  have fr1 := hO1 _ _ fr hne hty
  have hs1 := hB1.size
  go_wp2_with fail
  refine (writeByteF_any B b _ kind w1 h1 (by omega) (by simp [fourB]; omega)).mono ?_
  rintro e w2 ⟨rfl, h2, hB2, hO2⟩
  have fr2 := hO2 _ _ fr1 hne hty
  have c2 : w2.cell? ⟨w.heap.size, 1, none⟩ = some (.slice ao data.length cap) := by rw [Lib.cell_of_heap fr2]; rfl
  have BB2 : Below B w w2 := (hb0.trans hB1).trans hB2
  have OO2 := (ho0.trans hO1).trans hO2
  have hD2 := HD.out.below BB2 (Nat.le_refl _)
  have hs2 := hB2.size
  have c3 : ∀ o, (w2.alloc o).cell? ⟨w.heap.size, 1, none⟩ = some (.slice ao data.length cap) := fun o => (((Below.refl w2.heap.size w2).alloc (Nat.le_refl _) o).cell (p := ⟨w.heap.size, 1, none⟩) (show w.heap.size < w2.heap.size by omega)).trans c2
  have hao' := hao
  go_wp2_with (at_builtin; refine wpList_append_bytes rfl (.tmp 21) (.tmp 23) rfl w2.heap.size _ [kind] rfl (World.ownsRow_lit w2 #[.int .u8 kind] 1 (Nat.le_refl _) (by unfold maxLen; omega) rfl) ao cap data rfl B (hD2.below ((Below.refl B w2).alloc (by omega) _) (Nat.le_refl _)) hao' (by simp; omega) (by simp) ?_)
  intro v3 w3 hown3 hg3
  have hb3 : Below w2.heap.size w2 w3 := ((Below.refl w2.heap.size w2).alloc (Nat.le_refl _) _).grown hg3 (by simp) (fun k hk => by cases hk; exact Nat.le_refl _)
  obtain ⟨a3, cap3, hv3, hD3⟩ := own_bytes (l := kind :: data) hown3
  subst hv3
  have hs3 := hb3.size
  have fr3 := (hb3.block w.heap.size (by omega)).trans fr2
  have h3 : BufF w3 B b _ := LibA.IsBuffer.old h2 hb3
  have BB3 := BB2.trans (hb3.mono (by omega))
  have OO3 := OO2.below hb3
  have hw3 : BytesWf (kind :: data) := by
    intro x hx
    rcases List.mem_cons.1 hx with hx | hx
    · rw [hx]; exact hk
    · exact hwd x hx
  clear hown3 hg3 c2 c3
  go_wp2_with fail
  refine (sum_any a3 cap3 (kind :: data) w3 _ hD3 hw3 (by simp; omega)).mono ?_
  rintro e w' ⟨rfl, rfl⟩
  go_wp2_with fail
  refine (four_any B b _ _ w3 (sumS_lt hw3) h3 (by omega) (by simp [fourB]; omega)).mono ?_
  rintro e w4 ⟨rfl, h4, hB4, hO4⟩
  have hs4 := hB4.size
  have fr4 := hO4 _ _ fr3 hne hty
  have BB4 := BB3.trans hB4
  have OO4 := OO3.trans hO4
  have c4 : w4.cell? ⟨w.heap.size, 1, none⟩ = some (.slice ao data.length cap) := by rw [Lib.cell_of_heap fr4]; rfl
  have hD4 := HD.out.below BB4 (Nat.le_refl _)
  have hBb : B ≤ b := h.1
  clear hb0 ho0 hB1 hO1 hB2 hO2 hB4 hO4 BB2 BB3 OO2 OO3 fr fr1 fr2 fr3 fr4
  go_wp2_with fail
  go_still_tail 5, (by kernel_rfl)
  change wpList _ _ _ _ _ w4.drew
  have h4' : BufF w4.drew B b _ := h4
  have hD4' : BytesIn w4.drew B ao data := hD4
  have BB4' : Below B w w4.drew := BB4.drew
  have OO4' : Lib.OthersKept 5 (some b) w w4.drew := OO4
  have hs4' : w4.drew.heap.size = w4.heap.size := rfl
  generalize w4.drew = w6 at h4' hD4' BB4' OO4' hs4' ⊢
  clear c4
  go_wp2_with fail
  refine (write_any B b _ ao cap data w6 h4' (by omega) hD4' hao (by simp [fourB]; omega)).mono ?_
  rintro e w5 ⟨rfl, h5, hB5, hO5⟩
  go_wp2_with fail
  go_end0
  exact ⟨rfl, by simpa [frameB] using h5, BB4'.trans hB5, OO4'.trans hO5⟩
end Go.Proofs.YtnhnabcpkaeaaaaGreatDoor
/- bytes.Clone: a row of its own with the same bytes; nil for nil. Conditions: the slice's cells lie as its reading says. -/
namespace Go.Proofs.YtnhnabcpkaeaaaaGreatDoor
open Go.RowKit
set_option maxRecDepth 20000
def ClonePostF (xs : List Int) (w : World) (e : Ending) (w' : World) : Prop :=
  ∃ v, e = .returned v ∧ w'.ownsRow w.heap.size 5 1 v xs.length (xs.map bv) ∧ Below w.heap.size w w'
theorem clone_anyF (ao : Option Addr) (cap : Nat) (xs : List Int) (w : World) (B : Nat) (hx : BytesIn w B ao xs) (hB : B ≤ w.heap.size) (hao : ao = none → cap = 0) (hl : xs.length ≤ 140737488351232) :
    Calls Tryz.prog 64 #[.slice ao xs.length cap] w (ClonePostF xs w) := by
  cases ao with
  | none =>
    have hnil : xs = [] := by
      rcases hx with h | ⟨b, off, h1, _⟩
      · exact h
      · cases h1
    subst hnil
    obtain rfl := hao rfl
    have he : ∀ w, (binOp .eql 22 (.slice none 0 0) (.slice none 0 0)).run Tryz.prog w = .ok (.bool true) w := fun _ => by kernel_rfl
    go_enter Tryz.func64, Tryz.ntmps64
    go_wp2_with fail
    go_ret
    exact ⟨_, rfl, World.ownsRow_nil _ _ _ _, Below.refl _ _⟩
  | some ad =>
    have he : ∀ w, (binOp .eql 22 (.slice (some ad) xs.length cap) (.slice none 0 0)).run Tryz.prog w = .ok (.bool false) w := fun _ => by kernel_rfl
    go_enter Tryz.func64, Tryz.ntmps64
    go_wp2_with (at_builtin; refine wpList_append_bytes rfl (.tmp 5) (.tmp 6) rfl w.heap.size _ [] rfl (World.ownsRow_lit w #[] 0 (Nat.le_refl _) (by unfold maxLen; omega) rfl) (some ad) cap xs rfl B (hx.below ((Below.refl B w).alloc hB _) (Nat.le_refl _)) (by simp) (by simp; omega) (by simp) ?_)
    intro v' w' hown hg
    have hb := ((Below.refl w.heap.size w).alloc (Nat.le_refl _) (.cells #[] 5)).grown hg (by simp) (fun k hk => by cases hk; exact Nat.le_refl _)
    clear hg he
    go_wp2_with fail
    go_ret
    exact ⟨_, rfl, by simpa using hown, hb⟩
end Go.Proofs.YtnhnabcpkaeaaaaGreatDoor
