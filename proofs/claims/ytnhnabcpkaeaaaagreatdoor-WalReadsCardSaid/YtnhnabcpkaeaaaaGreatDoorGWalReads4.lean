/- SameInts, SameValues, SameCommand, SameEntry, SameEntries: what reads alike is told to be the same. Conditions: the cells lie as their readings say. -/
import Derived.Test.YtnhnabcpkaeaaaaGreatDoorGWalReads1
set_option linter.unusedVariables false
set_option linter.unusedSimpArgs false
namespace Go.Proofs.YtnhnabcpkaeaaaaGreatDoor
open Go.RowKit
set_option maxRecDepth 20000
theorem same_val (t : TypeId) (h : t = 132) (a b : Int) (s : ByteArray) (w : World) : (binOp .neq t (.agg #[.int .u8 a, .int .i64 b, .string s]) (.agg #[.int .u8 a, .int .i64 b, .string s])).run Tryz.prog w = .ok (.bool false) w := by
  subst h
  simp [go_sem, Tryz.underlying132]
theorem sameI_any (ao : Option Addr) (n cap : Nat) (co : Option Addr) (m cap2 : Nat) (xs : List Int) (w : World) (B : Nat) (hn : xs.length = n) (hm : xs.length = m) (hx : NumsIn w B ao xs) (hy : NumsIn w B co xs) (hB : B ≤ w.heap.size) (hl : n ≤ 4611686018427387904) :
    Calls Tryz.prog 110 #[.slice ao n cap, .slice co m cap2] w fun e w' => e = .returned (.bool true) ∧ Below w.heap.size w w' := by
  obtain rfl : n = m := by omega
  have HX := Lib.hid (hx.mono noSub_rising hB)
  have HY := Lib.hid (hy.mono noSub_rising hB)
  have HN := Lib.hid hn
  clear hx hy hn hm
  go_enter Tryz.func110, Tryz.ntmps110
  go_wp2_with fail
  go_loopw [5] (fun i wr => ∃ k : Nat, k ≤ n ∧ i = .int .i64 k ∧ Below w.heap.size w wr) (fun i _ => n - (intOf i).toNat)
  case atStart => exact ⟨0, by omega, rfl, Below.refl _ _⟩
  case round =>
    obtain ⟨k, hk, rfl, hbel⟩ := hrel
    by_cases hlt : k < n
    · have hkx : xs[k]? = some (xs[k]'(by rw [HN.out]; exact hlt)) := List.getElem?_eq_getElem _
      obtain ⟨b, off, hao, hb, hc, _⟩ := HX.out.at hkx
      obtain ⟨b2, off2, hco, hb2, hc2, _⟩ := HY.out.at hkx
      have d0 := hc 0 (by decide)
      have d1 := hc2 0 (by decide)
      generalize xs[k]'(by rw [HN.out]; exact hlt) = x at d0 d1
      subst hao hco
      have c0 : ∀ x' : Calm w.heap.size w, x'.1.cell? ⟨b, off + k, none⟩ = some (.int .i64 x) := fun x' => x'.cell (by simpa [iCells] using d0) hb
      have c1 : ∀ x' : Calm w.heap.size w, x'.1.cell? ⟨b2, off2 + k, none⟩ = some (.int .i64 x) := fun x' => x'.cell (by simpa [iCells] using d1) hb2
      have i1 : (k : Int) < n := by omega
      clear d0 d1 hc hc2 hkx
      go_wp2_with fail
      refine wp_region_calm (B := w.heap.size) (W0 := w) hbel (by kernel_rfl) (by kernel_rfl) ?_
      repeat (go_big_quiet_step (fail))
      refine wpQuiet_nil ?_
      intro w5 hb5
      clear c0 c1
      go_wp2_with fail
      go_roundw
      case rel => exact ⟨k + 1, by omega, by go_num, hb5⟩
      case measure => simp [intOf]; omega
    · obtain rfl : k = n := by omega
      go_wp2_with fail
      go_ret
      exact ⟨rfl, hbel⟩
theorem sameV_any (ao : Option Addr) (n cap : Nat) (co : Option Addr) (m cap2 : Nat) (xs : List Va) (w : World) (B : Nat) (hn : xs.length = n) (hm : xs.length = m) (hx : ValsIn w B ao xs) (hy : ValsIn w B co xs) (hB : B ≤ w.heap.size) (hl : n ≤ 4611686018427387904) :
    Calls Tryz.prog 132 #[.slice ao n cap, .slice co m cap2] w fun e w' => e = .returned (.bool true) ∧ Below w.heap.size w w' := by
  obtain rfl : n = m := by omega
  have HX := Lib.hid (hx.mono noSub_rising hB)
  have HY := Lib.hid (hy.mono noSub_rising hB)
  have HN := Lib.hid hn
  clear hx hy hn hm
  go_enter Tryz.func132, Tryz.ntmps132
  go_wp2_with fail
  go_loopw [5] (fun i wr => ∃ k : Nat, k ≤ n ∧ i = .int .i64 k ∧ Below w.heap.size w wr) (fun i _ => n - (intOf i).toNat)
  case atStart => exact ⟨0, by omega, rfl, Below.refl _ _⟩
  case round =>
    obtain ⟨k, hk, rfl, hbel⟩ := hrel
    by_cases hlt : k < n
    · have hkx : xs[k]? = some (xs[k]'(by rw [HN.out]; exact hlt)) := List.getElem?_eq_getElem _
      obtain ⟨b, off, hao, hb, hc, _⟩ := HX.out.at hkx
      obtain ⟨b2, off2, hco, hb2, hc2, _⟩ := HY.out.at hkx
      have d0 := hc 0 (by decide)
      have d1 := hc 1 (by decide)
      have d2 := hc 2 (by decide)
      have g0 := hc2 0 (by decide)
      have g1 := hc2 1 (by decide)
      have g2 := hc2 2 (by decide)
      generalize xs[k]'(by rw [HN.out]; exact hlt) = x at d0 d1 d2 g0 g1 g2
      obtain ⟨xk, xn, xt⟩ := x
      subst hao hco
      have c0 : ∀ x' : Calm w.heap.size w, x'.1.cell? ⟨b, off + k * 3, none⟩ = some (.int .u8 xk) := fun x' => x'.cell d0 hb
      have c1 : ∀ x' : Calm w.heap.size w, x'.1.cell? ⟨b, off + k * 3 + 1, none⟩ = some (.int .i64 xn) := fun x' => x'.cell d1 hb
      have c2 : ∀ x' : Calm w.heap.size w, x'.1.cell? ⟨b, off + k * 3 + 2, none⟩ = some (.string xt) := fun x' => x'.cell d2 hb
      have c2' : ∀ x' : Calm w.heap.size w, x'.1.cell? ⟨b, off + k * 3 + 1 + 1, none⟩ = some (.string xt) := c2
      have e0 : ∀ x' : Calm w.heap.size w, x'.1.cell? ⟨b2, off2 + k * 3, none⟩ = some (.int .u8 xk) := fun x' => x'.cell g0 hb2
      have e1 : ∀ x' : Calm w.heap.size w, x'.1.cell? ⟨b2, off2 + k * 3 + 1, none⟩ = some (.int .i64 xn) := fun x' => x'.cell g1 hb2
      have e2 : ∀ x' : Calm w.heap.size w, x'.1.cell? ⟨b2, off2 + k * 3 + 2, none⟩ = some (.string xt) := fun x' => x'.cell g2 hb2
      have e2' : ∀ x' : Calm w.heap.size w, x'.1.cell? ⟨b2, off2 + k * 3 + 1 + 1, none⟩ = some (.string xt) := e2
      have hq := fun w => same_val 132 rfl xk xn xt w
      have i1 : (k : Int) < n := by omega
      clear d0 d1 d2 g0 g1 g2 hc hc2 hkx
      go_wp2_with fail
      refine wp_region_calm (B := w.heap.size) (W0 := w) hbel (by kernel_rfl) (by kernel_rfl) ?_
      repeat (go_big_quiet_step (fail))
      refine wpQuiet_nil ?_
      intro w5 hb5
      clear c0 c1 c2 e0 e1 e2 c2' e2' hq
      go_wp2_with fail
      go_roundw
      case rel => exact ⟨k + 1, by omega, by go_num, hb5⟩
      case measure => simp [intOf]; omega
    · obtain rfl : k = n := by omega
      go_wp2_with fail
      go_ret
      exact ⟨rfl, hbel⟩
theorem sameC_any (ck : Int) (text : ByteArray) (num : Int) (ao : Option Addr) (n cap : Nat) (co : Option Addr) (cap2 : Nat) (xs : List Va) (w : World) (B : Nat) (hn : xs.length = n) (hx : ValsIn w B ao xs) (hy : ValsIn w B co xs) (hB : B ≤ w.heap.size) (hl : n ≤ 4611686018427387904) :
    Calls Tryz.prog 109 #[.agg #[.int .u8 ck, .string text, .slice ao n cap, .int .i64 num], .agg #[.int .u8 ck, .string text, .slice co n cap2, .int .i64 num]] w fun e w' => e = .returned (.bool true) ∧ Below w.heap.size w w' := by
  have HX := Lib.hid hx
  have HY := Lib.hid hy
  have HN := Lib.hid hn
  clear hx hy hn
  have hb := ((Below.refl w.heap.size w).alloc (Nat.le_refl _) (.cells #[.int .u8 ck, .string text, .slice ao n cap, .int .i64 num] 57)).alloc (by simp) (.cells #[.int .u8 ck, .string text, .slice co n cap2, .int .i64 num] 57)
  have hs1 := hb.size
  have k1 : ((w.alloc (.cells #[.int .u8 ck, .string text, .slice ao n cap, .int .i64 num] 57)).alloc (.cells #[.int .u8 ck, .string text, .slice co n cap2, .int .i64 num] 57)).heap[w.heap.size]? = some (.cells #[.int .u8 ck, .string text, .slice ao n cap, .int .i64 num] 57 (0, 0)) :=
    ((World.grownBy_alloc _ _ none).block _ (by simp) (by simp)).trans (heap_alloc_new w _)
  have k2 : ((w.alloc (.cells #[.int .u8 ck, .string text, .slice ao n cap, .int .i64 num] 57)).alloc (.cells #[.int .u8 ck, .string text, .slice co n cap2, .int .i64 num] 57)).heap[w.heap.size + 1]? = some (.cells #[.int .u8 ck, .string text, .slice co n cap2, .int .i64 num] 57 (0, 0)) := by
    have := heap_alloc_new (w.alloc (.cells #[.int .u8 ck, .string text, .slice ao n cap, .int .i64 num] 57)) (.cells #[.int .u8 ck, .string text, .slice co n cap2, .int .i64 num] 57)
    simpa using this
  have K1 := Lib.hid k1
  have K2 := Lib.hid k2
  clear k1 k2
  go_enter Tryz.func109, Tryz.ntmps109
  go_wp2_with fail
  refine (sameV_any ao n cap co n cap2 xs _ B HN.out HN.out (HX.out.below noSub_kept (hb.mono hB) (Nat.le_refl _)) (HY.out.below noSub_kept (hb.mono hB) (Nat.le_refl _)) (Nat.le_trans hB hs1) hl).mono ?_
  rintro e w' ⟨rfl, hb2⟩
  have hlt1 := (Array.getElem?_eq_some_iff.1 K1.out).1
  have hlt2 := (Array.getElem?_eq_some_iff.1 K2.out).1
  have c1 : w'.cell? ⟨w.heap.size, 3, none⟩ = some (.int .i64 num) := Go.Joins.cell_of_block ((hb2.block _ hlt1).trans K1.out) 3
  have c2 : w'.cell? ⟨w.heap.size + 1, 3, none⟩ = some (.int .i64 num) := Go.Joins.cell_of_block ((hb2.block _ hlt2).trans K2.out) 3
  have hb3 := hb.trans (hb2.mono hs1)
  go_wp2_with fail
  go_ret
  exact ⟨rfl, hb3⟩
theorem sameE_any (x y : En) (w : World) (B : Nat) (hp : x.plain = y.plain) (hx : enSub w B x) (hy : enSub w B y) (hB : B ≤ w.heap.size) (hl : x.args.length ≤ 4611686018427387904) (hl2 : x.vs.length ≤ 4611686018427387904) :
    Calls Tryz.prog 81 #[enVal x, enVal y] w fun e w' => e = .returned (.bool true) ∧ Below w.heap.size w w' := by
  obtain ⟨t, k, s, q, ck, text, aao, args, acap, num, vao, vs, vcap⟩ := x
  obtain ⟨t2, k2, s2, q2, ck2, text2, aao2, args2, acap2, num2, vao2, vs2, vcap2⟩ := y
  simp only [En.plain, EnP.mk.injEq] at hp
  obtain ⟨rfl, rfl, rfl, rfl, rfl, rfl, rfl, rfl, rfl⟩ := hp
  unfold enVal
  dsimp only at hl hl2 ⊢
  have HX := Lib.hid hx
  have HY := Lib.hid hy
  clear hx hy
  obtain ⟨n, hn⟩ : ∃ n, args.length = n := ⟨_, rfl⟩
  obtain ⟨m, hm⟩ : ∃ m, vs.length = m := ⟨_, rfl⟩
  rw [hn] at hl ⊢
  rw [hm] at hl2 ⊢
  have HN := Lib.hid hn
  have HM := Lib.hid hm
  clear hn hm
  have hb := ((Below.refl w.heap.size w).alloc (Nat.le_refl _) (.cells #[.int .i64 t, .int .u8 k, .int .i64 s, .int .i64 q, .int .u8 ck, .string text, .slice aao n acap, .int .i64 num, .slice vao m vcap] 60)).alloc (by simp) (.cells #[.int .i64 t, .int .u8 k, .int .i64 s, .int .i64 q, .int .u8 ck, .string text, .slice aao2 n acap2, .int .i64 num, .slice vao2 m vcap2] 60)
  have hs1 := hb.size
  have k1 : ((w.alloc (.cells #[.int .i64 t, .int .u8 k, .int .i64 s, .int .i64 q, .int .u8 ck, .string text, .slice aao n acap, .int .i64 num, .slice vao m vcap] 60)).alloc (.cells #[.int .i64 t, .int .u8 k, .int .i64 s, .int .i64 q, .int .u8 ck, .string text, .slice aao2 n acap2, .int .i64 num, .slice vao2 m vcap2] 60)).heap[w.heap.size]? = some (.cells #[.int .i64 t, .int .u8 k, .int .i64 s, .int .i64 q, .int .u8 ck, .string text, .slice aao n acap, .int .i64 num, .slice vao m vcap] 60 (0, 0)) :=
    ((World.grownBy_alloc _ _ none).block _ (by simp) (by simp)).trans (heap_alloc_new w _)
  have k2 : ((w.alloc (.cells #[.int .i64 t, .int .u8 k, .int .i64 s, .int .i64 q, .int .u8 ck, .string text, .slice aao n acap, .int .i64 num, .slice vao m vcap] 60)).alloc (.cells #[.int .i64 t, .int .u8 k, .int .i64 s, .int .i64 q, .int .u8 ck, .string text, .slice aao2 n acap2, .int .i64 num, .slice vao2 m vcap2] 60)).heap[w.heap.size + 1]? = some (.cells #[.int .i64 t, .int .u8 k, .int .i64 s, .int .i64 q, .int .u8 ck, .string text, .slice aao2 n acap2, .int .i64 num, .slice vao2 m vcap2] 60 (0, 0)) := by
    have := heap_alloc_new (w.alloc (.cells #[.int .i64 t, .int .u8 k, .int .i64 s, .int .i64 q, .int .u8 ck, .string text, .slice aao n acap, .int .i64 num, .slice vao m vcap] 60)) (.cells #[.int .i64 t, .int .u8 k, .int .i64 s, .int .i64 q, .int .u8 ck, .string text, .slice aao2 n acap2, .int .i64 num, .slice vao2 m vcap2] 60)
    simpa using this
  have K1 := Lib.hid k1
  have K2 := Lib.hid k2
  clear k1 k2
  go_enter Tryz.func81, Tryz.ntmps81
  go_wp2_with fail
  refine (sameC_any ck text num aao n acap aao2 acap2 args _ B HN.out (HX.out.1.below noSub_kept (hb.mono hB) (Nat.le_refl _)) (HY.out.1.below noSub_kept (hb.mono hB) (Nat.le_refl _)) (Nat.le_trans hB hs1) hl).mono ?_
  rintro e w' ⟨rfl, hb2⟩
  have hlt1 := (Array.getElem?_eq_some_iff.1 K1.out).1
  have hlt2 := (Array.getElem?_eq_some_iff.1 K2.out).1
  have c1 : w'.cell? ⟨w.heap.size, 8, none⟩ = some (.slice vao m vcap) := Go.Joins.cell_of_block ((hb2.block _ hlt1).trans K1.out) 8
  have c2 : w'.cell? ⟨w.heap.size + 1, 8, none⟩ = some (.slice vao2 m vcap2) := Go.Joins.cell_of_block ((hb2.block _ hlt2).trans K2.out) 8
  have hb3 := hb.trans (hb2.mono hs1)
  have hs3 := hb3.size
  go_wp2_with fail
  refine (sameI_any vao m vcap vao2 m vcap2 vs _ B HM.out HM.out (HX.out.2.below noSub_kept (hb3.mono hB) (Nat.le_refl _)) (HY.out.2.below noSub_kept (hb3.mono hB) (Nat.le_refl _)) (Nat.le_trans hB hs3) hl2).mono ?_
  rintro e w' ⟨rfl, hb4⟩
  clear c1 c2
  go_wp2_with fail
  go_ret
  exact ⟨rfl, hb3.trans (hb4.mono hs3)⟩
/-- An entry's lists have bounded lengths. -/
def EnSmall (e : En) : Prop := e.args.length ≤ 1099511627776 ∧ e.vs.length ≤ 1099511627776
theorem sameEs_any (ao : Option Addr) (n cap : Nat) (co : Option Addr) (m cap2 : Nat) (xs ys : List En) (w : World) (B : Nat) (hn : xs.length = n) (hm : ys.length = m) (he : xs.map En.plain = ys.map En.plain) (hx : EnsIn w B ao xs) (hy : EnsIn w B co ys) (hB : B ≤ w.heap.size) (hl : n ≤ 1099511627776) (hsm : ∀ x ∈ xs, EnSmall x) :
    Calls Tryz.prog 41 #[.slice ao n cap, .slice co m cap2] w fun e w' => e = .returned (.bool true) ∧ Below w.heap.size w w' := by
  have hnm : xs.length = ys.length := by have := congrArg List.length he; simpa using this
  obtain rfl : n = m := by omega
  have HX := Lib.hid (hx.mono enSub_rising hB)
  have HY := Lib.hid (hy.mono enSub_rising hB)
  have HN := Lib.hid hn
  have HM := Lib.hid hm
  have HE := Lib.hid he
  have HS := Lib.hid hsm
  clear hx hy hn hm he hnm hsm
  go_enter Tryz.func41, Tryz.ntmps41
  go_wp2_with fail
  go_loopw [5] (fun i wr => ∃ k : Nat, k ≤ n ∧ i = .int .i64 k ∧ Below w.heap.size w wr) (fun i _ => n - (intOf i).toNat)
  case atStart => exact ⟨0, by omega, rfl, Below.refl _ _⟩
  case round =>
    obtain ⟨k, hk, rfl, hbel⟩ := hrel
    by_cases hlt : k < n
    · have hkx : xs[k]? = some (xs[k]'(by rw [HN.out]; exact hlt)) := List.getElem?_eq_getElem _
      have hky : ys[k]? = some (ys[k]'(by rw [HM.out]; exact hlt)) := List.getElem?_eq_getElem _
      have hsx := HS.out _ (List.getElem_mem (l := xs) (n := k) (by rw [HN.out]; exact hlt))
      have hp : (xs[k]'(by rw [HN.out]; exact hlt)).plain = (ys[k]'(by rw [HM.out]; exact hlt)).plain := by
        have := congrArg (fun l => l[k]?) HE.out
        simp only [List.getElem?_map, hkx, hky] at this
        simpa using this
      obtain ⟨b, off, hao, hb, hc, hcs⟩ := HX.out.at hkx
      obtain ⟨b2, off2, hco, hb2, hc2, hcs2⟩ := HY.out.at hky
      generalize xs[k]'(by rw [HN.out]; exact hlt) = x at hc hcs hp hsx
      generalize ys[k]'(by rw [HM.out]; exact hlt) = y at hc2 hcs2 hp
      have hcall : ∀ x' : Calm w.heap.size w, Calls Tryz.prog 81 #[enVal x, enVal y] x'.1 fun e w' => e = .returned (.bool true) ∧ Below x'.1.heap.size x'.1 w' := fun x' =>
        sameE_any x y x'.1 w.heap.size hp (enSub_kept _ _ _ _ _ hcs x'.2 (Nat.le_refl _)) (enSub_kept _ _ _ _ _ hcs2 x'.2 (Nat.le_refl _)) x'.2.size (by have := hsx.1; omega) (by have := hsx.2; omega)
      obtain ⟨t, kd, s, q, ck, text, aao, args, acap, num, vao, vs, vcap⟩ := x
      obtain ⟨t2, kd2, s2, q2, ck2, text2, aao2, args2, acap2, num2, vao2, vs2, vcap2⟩ := y
      simp only [En.plain, EnP.mk.injEq] at hp
      obtain ⟨rfl, rfl, rfl, rfl, rfl, rfl, rfl, rfl, rfl⟩ := hp
      unfold enVal at hcall
      dsimp only at hcall
      obtain ⟨an, han⟩ : ∃ an, args.length = an := ⟨_, rfl⟩
      obtain ⟨vn, hvn⟩ : ∃ vn, vs.length = vn := ⟨_, rfl⟩
      rw [han, hvn] at hcall
      have HC := Lib.hid hcall
      subst hao hco
      have c0 : ∀ x' : Calm w.heap.size w, x'.1.cell? ⟨b, off + k * 9, none⟩ = some (.int .i64 t) := fun x' => x'.cell (hc 0 (by decide)) hb
      have c1 : ∀ x' : Calm w.heap.size w, x'.1.cell? ⟨b, off + k * 9 + 1, none⟩ = some (.int .u8 kd) := fun x' => x'.cell (hc 1 (by decide)) hb
      have c2 : ∀ x' : Calm w.heap.size w, x'.1.cell? ⟨b, off + k * 9 + 2, none⟩ = some (.int .i64 s) := fun x' => x'.cell (hc 2 (by decide)) hb
      have c3 : ∀ x' : Calm w.heap.size w, x'.1.cell? ⟨b, off + k * 9 + 3, none⟩ = some (.int .i64 q) := fun x' => x'.cell (hc 3 (by decide)) hb
      have c4 : ∀ x' : Calm w.heap.size w, x'.1.cell? ⟨b, off + k * 9 + 4, none⟩ = some (.int .u8 ck) := fun x' => x'.cell (hc 4 (by decide)) hb
      have c5 : ∀ x' : Calm w.heap.size w, x'.1.cell? ⟨b, off + k * 9 + 5, none⟩ = some (.string text) := fun x' => x'.cell (hc 5 (by decide)) hb
      have c6 : ∀ x' : Calm w.heap.size w, x'.1.cell? ⟨b, off + k * 9 + 6, none⟩ = some (.slice aao an acap) := fun x' => x'.cell (han ▸ hc 6 (by decide)) hb
      have c7 : ∀ x' : Calm w.heap.size w, x'.1.cell? ⟨b, off + k * 9 + 7, none⟩ = some (.int .i64 num) := fun x' => x'.cell (hc 7 (by decide)) hb
      have c8 : ∀ x' : Calm w.heap.size w, x'.1.cell? ⟨b, off + k * 9 + 8, none⟩ = some (.slice vao vn vcap) := fun x' => x'.cell (hvn ▸ hc 8 (by decide)) hb
      have e0 : ∀ x' : Calm w.heap.size w, x'.1.cell? ⟨b2, off2 + k * 9, none⟩ = some (.int .i64 t) := fun x' => x'.cell (hc2 0 (by decide)) hb2
      have e1 : ∀ x' : Calm w.heap.size w, x'.1.cell? ⟨b2, off2 + k * 9 + 1, none⟩ = some (.int .u8 kd) := fun x' => x'.cell (hc2 1 (by decide)) hb2
      have e2 : ∀ x' : Calm w.heap.size w, x'.1.cell? ⟨b2, off2 + k * 9 + 2, none⟩ = some (.int .i64 s) := fun x' => x'.cell (hc2 2 (by decide)) hb2
      have e3 : ∀ x' : Calm w.heap.size w, x'.1.cell? ⟨b2, off2 + k * 9 + 3, none⟩ = some (.int .i64 q) := fun x' => x'.cell (hc2 3 (by decide)) hb2
      have e4 : ∀ x' : Calm w.heap.size w, x'.1.cell? ⟨b2, off2 + k * 9 + 4, none⟩ = some (.int .u8 ck) := fun x' => x'.cell (hc2 4 (by decide)) hb2
      have e5 : ∀ x' : Calm w.heap.size w, x'.1.cell? ⟨b2, off2 + k * 9 + 5, none⟩ = some (.string text) := fun x' => x'.cell (hc2 5 (by decide)) hb2
      have e6 : ∀ x' : Calm w.heap.size w, x'.1.cell? ⟨b2, off2 + k * 9 + 6, none⟩ = some (.slice aao2 an acap2) := fun x' => x'.cell (han ▸ hc2 6 (by decide)) hb2
      have e7 : ∀ x' : Calm w.heap.size w, x'.1.cell? ⟨b2, off2 + k * 9 + 7, none⟩ = some (.int .i64 num) := fun x' => x'.cell (hc2 7 (by decide)) hb2
      have e8 : ∀ x' : Calm w.heap.size w, x'.1.cell? ⟨b2, off2 + k * 9 + 8, none⟩ = some (.slice vao2 vn vcap2) := fun x' => x'.cell (hvn ▸ hc2 8 (by decide)) hb2
      have i1 : (k : Int) < n := by omega
      clear hc hc2 hkx hky hcs hcs2 hsx hcall han hvn
      go_wp2_with fail
      refine wp_region_calm (B := w.heap.size) (W0 := w) hbel (by kernel_rfl) (by kernel_rfl) ?_
      repeat (go_big_quiet_step ((go_at_call 81; exact Calm.call (Nat.le_refl _) (HC.out _))))
      refine wpQuiet_nil ?_
      intro w5 hb5
      clear c0 c1 c2 c3 c4 c5 c6 c7 c8 e0 e1 e2 e3 e4 e5 e6 e7 e8
      go_wp2_with fail
      go_roundw
      case rel => exact ⟨k + 1, by omega, by go_num, hb5⟩
      case measure => simp [intOf]; omega
    · obtain rfl : k = n := by omega
      go_wp2_with fail
      go_ret
      exact ⟨rfl, hbel⟩
end Go.Proofs.YtnhnabcpkaeaaaaGreatDoor
/- Facts and replies as they lie in memory; SameFact, SameFacts, SameReply tell that what reads alike is the same. Conditions: the cells lie as their readings say. -/
namespace Go.Proofs.YtnhnabcpkaeaaaaGreatDoor
open Go.RowKit
set_option maxRecDepth 20000
end Go.Proofs.YtnhnabcpkaeaaaaGreatDoor
