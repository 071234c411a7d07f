/- SameInts, SameValues, SameCommand, SameEntry, SameEntries: what reads alike is told to be the same. Conditions: the cells lie as their readings say. -/
import Derived.Test.YtnfldkebjeigiaaDoorEn
namespace Go.Proofs.YtnfldkebjeigiaaDoor
open Go.RowKit
set_option maxRecDepth 20000

theorem same_val (t : TypeId) (h : t = 24) (a b : Int) (s : ByteArray) (w : World) : (binOp .neq t (.agg #[.int .u8 a, .int .i64 b, .string s]) (.agg #[.int .u8 a, .int .i64 b, .string s])).run Tryd.prog w = .ok (.bool false) w := by
  subst h
  simp [go_sem, Tryd.underlying24]
theorem sameI_any (ao : Option Addr) (n cap : Nat) (co : Option Addr) (m cap2 : Nat) (xs : List Int) (w : World) (B : Nat) (hn : xs.length = n) (hm : xs.length = m) (hx : NumsIn w B ao xs) (hy : NumsIn w B co xs) (hB : B ≤ w.heap.size) (hl : n ≤ 4611686018427387904) :
    Calls Tryd.prog 61 #[.slice ao n cap, .slice co m cap2] w fun e w' => e = .returned (.bool true) ∧ Below w.heap.size w w' := by
  obtain rfl : n = m := by omega
  have HX := Lib.hid (hx.mono noSub_rising hB)
  have HY := Lib.hid (hy.mono noSub_rising hB)
  have HN := Lib.hid hn
  clear hx hy hn hm
  go_enter Tryd.func61, Tryd.ntmps61
  go_wp2_with fail
  go_loopw [5] (fun i wr => ∃ k : Nat, k ≤ n ∧ i = .int .i64 k ∧ Below w.heap.size w wr) (fun i _ => n - (intOf i).toNat)
  case atStart => exact ⟨0, by omega, rfl, Below.refl _ _⟩
  case round =>
    obtain ⟨k, hk, rfl, hbel⟩ := hrel
    by_cases hlt : k < n
    · have hkx : xs[k]? = some (xs[k]'(by rw [HN.out]; exact hlt)) := List.getElem?_eq_getElem _
      obtain ⟨b, off, hao, hb, hc, _⟩ := HX.out.at hkx
      obtain ⟨b2, off2, hco, hb2, hc2, _⟩ := HY.out.at hkx
      have d0 := hc 0 (by decide)
      have d1 := hc2 0 (by decide)
      generalize xs[k]'(by rw [HN.out]; exact hlt) = x at d0 d1
      subst hao hco
      have c0 : ∀ x' : Calm w.heap.size w, x'.1.cell? ⟨b, off + k, none⟩ = some (.int .i64 x) := fun x' => x'.cell (by simpa [iCells] using d0) hb
      have c1 : ∀ x' : Calm w.heap.size w, x'.1.cell? ⟨b2, off2 + k, none⟩ = some (.int .i64 x) := fun x' => x'.cell (by simpa [iCells] using d1) hb2
      have i1 : (k : Int) < n := by omega
      clear d0 d1 hc hc2 hkx
      go_wp2_with fail
      refine wp_region_calm (B := w.heap.size) (W0 := w) hbel (by kernel_rfl) (by kernel_rfl) ?_
      repeat (go_big_quiet_step (fail))
      refine wpQuiet_nil ?_
      intro w5 hb5
      clear c0 c1
      go_wp2_with fail
      go_roundw
      case rel => exact ⟨k + 1, by omega, by go_num, hb5⟩
      case measure => simp [intOf]; omega
    · obtain rfl : k = n := by omega
      go_wp2_with fail
      go_ret
      exact ⟨rfl, hbel⟩
theorem sameV_any (ao : Option Addr) (n cap : Nat) (co : Option Addr) (m cap2 : Nat) (xs : List Va) (w : World) (B : Nat) (hn : xs.length = n) (hm : xs.length = m) (hx : ValsIn w B ao xs) (hy : ValsIn w B co xs) (hB : B ≤ w.heap.size) (hl : n ≤ 4611686018427387904) :
    Calls Tryd.prog 30 #[.slice ao n cap, .slice co m cap2] w fun e w' => e = .returned (.bool true) ∧ Below w.heap.size w w' := by
  obtain rfl : n = m := by omega
  have HX := Lib.hid (hx.mono noSub_rising hB)
  have HY := Lib.hid (hy.mono noSub_rising hB)
  have HN := Lib.hid hn
  clear hx hy hn hm
  go_enter Tryd.func30, Tryd.ntmps30
  go_wp2_with fail
  go_loopw [5] (fun i wr => ∃ k : Nat, k ≤ n ∧ i = .int .i64 k ∧ Below w.heap.size w wr) (fun i _ => n - (intOf i).toNat)
  case atStart => exact ⟨0, by omega, rfl, Below.refl _ _⟩
  case round =>
    obtain ⟨k, hk, rfl, hbel⟩ := hrel
    by_cases hlt : k < n
    · have hkx : xs[k]? = some (xs[k]'(by rw [HN.out]; exact hlt)) := List.getElem?_eq_getElem _
      obtain ⟨b, off, hao, hb, hc, _⟩ := HX.out.at hkx
      obtain ⟨b2, off2, hco, hb2, hc2, _⟩ := HY.out.at hkx
      have d0 := hc 0 (by decide)
      have d1 := hc 1 (by decide)
      have d2 := hc 2 (by decide)
      have g0 := hc2 0 (by decide)
      have g1 := hc2 1 (by decide)
      have g2 := hc2 2 (by decide)
      generalize xs[k]'(by rw [HN.out]; exact hlt) = x at d0 d1 d2 g0 g1 g2
      obtain ⟨xk, xn, xt⟩ := x
      subst hao hco
      have c0 : ∀ x' : Calm w.heap.size w, x'.1.cell? ⟨b, off + k * 3, none⟩ = some (.int .u8 xk) := fun x' => x'.cell d0 hb
      have c1 : ∀ x' : Calm w.heap.size w, x'.1.cell? ⟨b, off + k * 3 + 1, none⟩ = some (.int .i64 xn) := fun x' => x'.cell d1 hb
      have c2 : ∀ x' : Calm w.heap.size w, x'.1.cell? ⟨b, off + k * 3 + 2, none⟩ = some (.string xt) := fun x' => x'.cell d2 hb
      have c2' : ∀ x' : Calm w.heap.size w, x'.1.cell? ⟨b, off + k * 3 + 1 + 1, none⟩ = some (.string xt) := c2
      have e0 : ∀ x' : Calm w.heap.size w, x'.1.cell? ⟨b2, off2 + k * 3, none⟩ = some (.int .u8 xk) := fun x' => x'.cell g0 hb2
      have e1 : ∀ x' : Calm w.heap.size w, x'.1.cell? ⟨b2, off2 + k * 3 + 1, none⟩ = some (.int .i64 xn) := fun x' => x'.cell g1 hb2
      have e2 : ∀ x' : Calm w.heap.size w, x'.1.cell? ⟨b2, off2 + k * 3 + 2, none⟩ = some (.string xt) := fun x' => x'.cell g2 hb2
      have e2' : ∀ x' : Calm w.heap.size w, x'.1.cell? ⟨b2, off2 + k * 3 + 1 + 1, none⟩ = some (.string xt) := e2
      have hq := fun w => same_val 24 rfl xk xn xt w
      have i1 : (k : Int) < n := by omega
      clear d0 d1 d2 g0 g1 g2 hc hc2 hkx
      go_wp2_with fail
      refine wp_region_calm (B := w.heap.size) (W0 := w) hbel (by kernel_rfl) (by kernel_rfl) ?_
      repeat (go_big_quiet_step (fail))
      refine wpQuiet_nil ?_
      intro w5 hb5
      clear c0 c1 c2 e0 e1 e2 c2' e2' hq
      go_wp2_with fail
      go_roundw
      case rel => exact ⟨k + 1, by omega, by go_num, hb5⟩
      case measure => simp [intOf]; omega
    · obtain rfl : k = n := by omega
      go_wp2_with fail
      go_ret
      exact ⟨rfl, hbel⟩
theorem sameC_any (ck : Int) (text : ByteArray) (num : Int) (ao : Option Addr) (n cap : Nat) (co : Option Addr) (cap2 : Nat) (xs : List Va) (w : World) (B : Nat) (hn : xs.length = n) (hx : ValsIn w B ao xs) (hy : ValsIn w B co xs) (hB : B ≤ w.heap.size) (hl : n ≤ 4611686018427387904) :
    Calls Tryd.prog 32 #[.agg #[.int .u8 ck, .string text, .slice ao n cap, .int .i64 num], .agg #[.int .u8 ck, .string text, .slice co n cap2, .int .i64 num]] w fun e w' => e = .returned (.bool true) ∧ Below w.heap.size w w' := by
  have HX := Lib.hid hx
  have HY := Lib.hid hy
  have HN := Lib.hid hn
  clear hx hy hn
  have hb := ((Below.refl w.heap.size w).alloc (Nat.le_refl _) (.cells #[.int .u8 ck, .string text, .slice ao n cap, .int .i64 num] 30)).alloc (by simp) (.cells #[.int .u8 ck, .string text, .slice co n cap2, .int .i64 num] 30)
  have hs1 := hb.size
  have k1 : ((w.alloc (.cells #[.int .u8 ck, .string text, .slice ao n cap, .int .i64 num] 30)).alloc (.cells #[.int .u8 ck, .string text, .slice co n cap2, .int .i64 num] 30)).heap[w.heap.size]? = some (.cells #[.int .u8 ck, .string text, .slice ao n cap, .int .i64 num] 30 (0, 0)) :=
    ((World.grownBy_alloc _ _ none).block _ (by simp) (by simp)).trans (heap_alloc_new w _)
  have k2 : ((w.alloc (.cells #[.int .u8 ck, .string text, .slice ao n cap, .int .i64 num] 30)).alloc (.cells #[.int .u8 ck, .string text, .slice co n cap2, .int .i64 num] 30)).heap[w.heap.size + 1]? = some (.cells #[.int .u8 ck, .string text, .slice co n cap2, .int .i64 num] 30 (0, 0)) := by
    have := heap_alloc_new (w.alloc (.cells #[.int .u8 ck, .string text, .slice ao n cap, .int .i64 num] 30)) (.cells #[.int .u8 ck, .string text, .slice co n cap2, .int .i64 num] 30)
    simpa using this
  have K1 := Lib.hid k1
  have K2 := Lib.hid k2
  clear k1 k2
  go_enter Tryd.func32, Tryd.ntmps32
  go_wp2_with fail
  refine (sameV_any ao n cap co n cap2 xs _ B HN.out HN.out (HX.out.below noSub_kept (hb.mono hB) (Nat.le_refl _)) (HY.out.below noSub_kept (hb.mono hB) (Nat.le_refl _)) (Nat.le_trans hB hs1) hl).mono ?_
  rintro e w' ⟨rfl, hb2⟩
  have hlt1 := (Array.getElem?_eq_some_iff.1 K1.out).1
  have hlt2 := (Array.getElem?_eq_some_iff.1 K2.out).1
  have c1 : w'.cell? ⟨w.heap.size, 3, none⟩ = some (.int .i64 num) := Go.Joins.cell_of_block ((hb2.block _ hlt1).trans K1.out) 3
  have c2 : w'.cell? ⟨w.heap.size + 1, 3, none⟩ = some (.int .i64 num) := Go.Joins.cell_of_block ((hb2.block _ hlt2).trans K2.out) 3
  have hb3 := hb.trans (hb2.mono hs1)
  go_wp2_with fail
  go_ret
  exact ⟨rfl, hb3⟩
theorem sameE_any (x y : En) (w : World) (B : Nat) (hp : x.plain = y.plain) (hx : enSub w B x) (hy : enSub w B y) (hB : B ≤ w.heap.size) (hl : x.args.length ≤ 4611686018427387904) (hl2 : x.vs.length ≤ 4611686018427387904) :
    Calls Tryd.prog 28 #[enVal x, enVal y] w fun e w' => e = .returned (.bool true) ∧ Below w.heap.size w w' := by
  obtain ⟨t, k, s, q, ck, text, aao, args, acap, num, vao, vs, vcap⟩ := x
  obtain ⟨t2, k2, s2, q2, ck2, text2, aao2, args2, acap2, num2, vao2, vs2, vcap2⟩ := y
  simp only [En.plain, EnP.mk.injEq] at hp
  obtain ⟨rfl, rfl, rfl, rfl, rfl, rfl, rfl, rfl, rfl⟩ := hp
  unfold enVal
  dsimp only at hl hl2 ⊢
  have HX := Lib.hid hx
  have HY := Lib.hid hy
  clear hx hy
  obtain ⟨n, hn⟩ : ∃ n, args.length = n := ⟨_, rfl⟩
  obtain ⟨m, hm⟩ : ∃ m, vs.length = m := ⟨_, rfl⟩
  rw [hn] at hl ⊢
  rw [hm] at hl2 ⊢
  have HN := Lib.hid hn
  have HM := Lib.hid hm
  clear hn hm
  have hb := ((Below.refl w.heap.size w).alloc (Nat.le_refl _) (.cells #[.int .i64 t, .int .u8 k, .int .i64 s, .int .i64 q, .int .u8 ck, .string text, .slice aao n acap, .int .i64 num, .slice vao m vcap] 38)).alloc (by simp) (.cells #[.int .i64 t, .int .u8 k, .int .i64 s, .int .i64 q, .int .u8 ck, .string text, .slice aao2 n acap2, .int .i64 num, .slice vao2 m vcap2] 38)
  have hs1 := hb.size
  have k1 : ((w.alloc (.cells #[.int .i64 t, .int .u8 k, .int .i64 s, .int .i64 q, .int .u8 ck, .string text, .slice aao n acap, .int .i64 num, .slice vao m vcap] 38)).alloc (.cells #[.int .i64 t, .int .u8 k, .int .i64 s, .int .i64 q, .int .u8 ck, .string text, .slice aao2 n acap2, .int .i64 num, .slice vao2 m vcap2] 38)).heap[w.heap.size]? = some (.cells #[.int .i64 t, .int .u8 k, .int .i64 s, .int .i64 q, .int .u8 ck, .string text, .slice aao n acap, .int .i64 num, .slice vao m vcap] 38 (0, 0)) :=
    ((World.grownBy_alloc _ _ none).block _ (by simp) (by simp)).trans (heap_alloc_new w _)
  have k2 : ((w.alloc (.cells #[.int .i64 t, .int .u8 k, .int .i64 s, .int .i64 q, .int .u8 ck, .string text, .slice aao n acap, .int .i64 num, .slice vao m vcap] 38)).alloc (.cells #[.int .i64 t, .int .u8 k, .int .i64 s, .int .i64 q, .int .u8 ck, .string text, .slice aao2 n acap2, .int .i64 num, .slice vao2 m vcap2] 38)).heap[w.heap.size + 1]? = some (.cells #[.int .i64 t, .int .u8 k, .int .i64 s, .int .i64 q, .int .u8 ck, .string text, .slice aao2 n acap2, .int .i64 num, .slice vao2 m vcap2] 38 (0, 0)) := by
    have := heap_alloc_new (w.alloc (.cells #[.int .i64 t, .int .u8 k, .int .i64 s, .int .i64 q, .int .u8 ck, .string text, .slice aao n acap, .int .i64 num, .slice vao m vcap] 38)) (.cells #[.int .i64 t, .int .u8 k, .int .i64 s, .int .i64 q, .int .u8 ck, .string text, .slice aao2 n acap2, .int .i64 num, .slice vao2 m vcap2] 38)
    simpa using this
  have K1 := Lib.hid k1
  have K2 := Lib.hid k2
  clear k1 k2
  go_enter Tryd.func28, Tryd.ntmps28
  go_wp2_with fail
  refine (sameC_any ck text num aao n acap aao2 acap2 args _ B HN.out (HX.out.1.below noSub_kept (hb.mono hB) (Nat.le_refl _)) (HY.out.1.below noSub_kept (hb.mono hB) (Nat.le_refl _)) (Nat.le_trans hB hs1) hl).mono ?_
  rintro e w' ⟨rfl, hb2⟩
  have hlt1 := (Array.getElem?_eq_some_iff.1 K1.out).1
  have hlt2 := (Array.getElem?_eq_some_iff.1 K2.out).1
  have c1 : w'.cell? ⟨w.heap.size, 8, none⟩ = some (.slice vao m vcap) := Go.Joins.cell_of_block ((hb2.block _ hlt1).trans K1.out) 8
  have c2 : w'.cell? ⟨w.heap.size + 1, 8, none⟩ = some (.slice vao2 m vcap2) := Go.Joins.cell_of_block ((hb2.block _ hlt2).trans K2.out) 8
  have hb3 := hb.trans (hb2.mono hs1)
  have hs3 := hb3.size
  go_wp2_with fail
  refine (sameI_any vao m vcap vao2 m vcap2 vs _ B HM.out HM.out (HX.out.2.below noSub_kept (hb3.mono hB) (Nat.le_refl _)) (HY.out.2.below noSub_kept (hb3.mono hB) (Nat.le_refl _)) (Nat.le_trans hB hs3) hl2).mono ?_
  rintro e w' ⟨rfl, hb4⟩
  clear c1 c2
  go_wp2_with fail
  go_ret
  exact ⟨rfl, hb3.trans (hb4.mono hs3)⟩
/-- An entry's lists have bounded lengths. -/
def EnSmall (e : En) : Prop := e.args.length ≤ 1099511627776 ∧ e.vs.length ≤ 1099511627776
end Go.Proofs.YtnfldkebjeigiaaDoor
