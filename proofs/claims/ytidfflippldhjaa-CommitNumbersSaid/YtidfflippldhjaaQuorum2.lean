/- The reference's functions of layer 22, the law's own example, and the law QuorumTells: of any two rows it returns true, and nothing that was there is changed. No condition. -/
import Derived.Test.YtidfflippldhjaaQuorum
import Derived.Test.YtidfflippldhjaaLent
namespace Go.Proofs.Ytidfflippldhjaa
open Go.RowKit

theorem renough_any (ao co : Option Addr) (cap cap2 : Nat) (v u : List Int) (w : World) (B : Nat) (hx : IntsIn w B ao v) (hy : IntsIn w B co u) (hl : v.length ≤ 4611686018427387904) (hl2 : u.length ≤ 4611686018427387904) :
    Calls Try.prog 18 #[.slice ao v.length cap, .slice co u.length cap2] w fun e w' => e = .returned (.bool (enoughS v u)) ∧ w = w' := by
  have HX := Lib.hid hx
  have HY := Lib.hid hy
  clear hx hy
  cases hr : rightS v
  · have HR := Lib.hid hr
    clear hr
    go_enter Try.func18, Try.ntmps18
    go_wp2_with fail
    refine (rright_any _ _ v _ B HX.out hl).mono ?_
    rw [HR.out]
    rintro e w' ⟨rfl, rfl⟩
    go_wp2_with fail
    go_ret
    exact ⟨ret_bool (by rw [enoughS, HR.out]; rfl), rfl⟩
  · have hvl := ((right_iff v).1 hr).2.2.2
    have HR := Lib.hid hr
    clear hr
    go_enter Try.func18, Try.ntmps18
    go_wp2_with fail
    refine (rright_any _ _ v _ B HX.out hl).mono ?_
    rw [HR.out]
    rintro e w' ⟨rfl, rfl⟩
    go_wp2_with fail
    go_loop [5, 6] (fun n i => ∃ k : Nat, k ≤ v.length ∧ i = .int .i64 k ∧ n = .int .i64 (commonS (v.take k) u)) (fun _ i => v.length - (intOf i).toNat)
    case atStart => exact ⟨0, by omega, rfl, rfl⟩
    case round =>
      obtain ⟨k, hk, rfl, rfl⟩ := hrel
      have hle := commonS_le (v.take k) u
      have hle2 : (v.take k).length ≤ k := List.length_take_le _ _
      by_cases hlt : k < v.length
      · rcases HX.out with h0 | ⟨b, off, rfl, hb, hc⟩
        · rw [h0] at hlt; simp at hlt
        have c0 := hc k hlt
        clear hc
        have hst := commonS_take (u := u) hlt
        obtain ⟨x, hxe⟩ : ∃ x, x = v.getD k 0 := ⟨_, rfl⟩
        rw [← hxe] at c0 hst
        clear hxe
        generalize commonS (v.take k) u = m at hst hle ⊢
        have HS := Lib.hid hst
        clear hst
        cases hh : hasB u x
        all_goals
          have HH := Lib.hid hh
          clear hh
          go_wp2_with fail
          refine (rhas_any _ _ u x _ B HY.out hl2).mono ?_
          rw [HH.out]
          rintro e w' ⟨rfl, rfl⟩
          go_wp2_with fail
          go_round
          case rel => exact ⟨k + 1, by omega, by go_num, by rw [HS.out, HH.out]; go_num⟩
          case measure => simp [intOf]; omega
      · have he : commonS (v.take k) u = commonS v u := by rw [List.take_of_length_le (by omega)]
        rw [he]
        rw [he] at hle
        clear he
        go_wp2_with fail
        go_ret
        refine ⟨ret_bool ?_, rfl⟩
        rw [enoughS, HR.out, Bool.true_and, Bool.eq_iff_iff]
        simp
        omega

/-! ### At numbers that are written out -/
theorem enough_at (ao co : Option Addr) (n m cap cap2 : Nat) (v u : List Int) (r : Bool) (w : World) (hn : v.length = n) (hm : u.length = m) (hr : enoughS v u = r) (hx : IntsIn w w.heap.size ao v) (hy : IntsIn w w.heap.size co u) (hl : v.length ≤ 4611686018427387904) (hl2 : u.length ≤ 4611686018427387904) :
    Calls Try.prog 16 #[.slice ao n cap, .slice co m cap2] w fun e w' => e = .returned (.bool r) ∧ Below w.heap.size w w' := by
  subst hn hm hr; exact enough_any ao co cap cap2 v u w hx hy hl hl2
theorem right_at (ao : Option Addr) (n cap : Nat) (v : List Int) (r : Bool) (w : World) (hn : v.length = n) (hr : rightS v = r) (hx : IntsIn w w.heap.size ao v) (hl : v.length ≤ 4611686018427387904) :
    Calls Try.prog 19 #[.slice ao n cap] w fun e w' => e = .returned (.bool r) ∧ Below w.heap.size w w' := by
  subst hn hr; exact right_any ao cap v w _ hx (Nat.le_refl _) hl
theorem ints_new (w : World) (T : TypeId) (xs : List Int) (cs : Array Value) (g B : Nat) (hcs : cs = (xs.map (Value.int .i64)).toArray) (hg : g = w.heap.size) (hB : g < B) : IntsIn (w.alloc (.cells cs T)) B (some ⟨g, 0, none⟩) xs := by
  subst hcs hg
  refine Or.inr ⟨w.heap.size, 0, rfl, hB, fun i hi => ?_⟩
  rw [World.cell?_alloc_at _ _ _ _ rfl]
  simp [List.getD, List.getElem?_eq_getElem hi]
theorem IntsIn.alloc {w : World} {B B' : Nat} {ao : Option Addr} {xs : List Int} (h : IntsIn w B ao xs) (hB : B ≤ w.heap.size) (hB' : B ≤ B') (o : Obj) : IntsIn (w.alloc o) B' ao xs :=
  (h.below ((Below.refl w.heap.size w).alloc (Nat.le_refl _) o) hB).mono hB'

theorem keep_alloc {w0 wk w1 : World} {B : Nat} {ao : Option Addr} {xs : List Int} {o : Obj} (hL : IntsIn wk B ao xs) (hB : Below B w0 wk) (hx : B ≤ wk.heap.size) (hb : Below (wk.alloc o).heap.size (wk.alloc o) w1) : IntsIn w1 B ao xs ∧ Below B w0 w1 ∧ B ≤ w1.heap.size := by
  have h1 := hb.size
  simp only [World.size_alloc] at h1
  exact ⟨(hL.alloc hx (Nat.le_refl _) _).below hb (by simp; omega), (hB.alloc hx _).trans (hb.mono (by simp; omega)), by omega⟩
theorem keep_same {w0 wk w1 : World} {B : Nat} {ao : Option Addr} {xs : List Int} (hL : IntsIn wk B ao xs) (hB : Below B w0 wk) (hx : B ≤ wk.heap.size) (hb : Below wk.heap.size wk w1) : IntsIn w1 B ao xs ∧ Below B w0 w1 ∧ B ≤ w1.heap.size :=
  ⟨hL.below hb hx, hB.trans (hb.mono hx), Nat.le_trans hx hb.size⟩

/-- What was told, lies as it lay. -/
structure Told (w : World) (B : Nat) (ao co : Option Addr) (xs ys : List Int) (g g' b1 b2 : Nat) : Prop where
  x : IntsIn w B ao xs
  y : IntsIn w B co ys
  hL : Lent w b1 g xs
  hL' : Lent w b2 g' ys
  gB : g < B
  gB' : g' < B
  size : B ≤ w.heap.size
theorem Told.next {w w' : World} {B : Nat} {ao co : Option Addr} {xs ys : List Int} {g g' b1 b2 : Nat} (h : Told w B ao co xs ys g g' b1 b2) (hb : Below w.heap.size w w') : Told w' B ao co xs ys g g' b1 b2 :=
  ⟨h.x.below hb h.size, h.y.below hb h.size, h.hL.below hb (Nat.lt_of_lt_of_le h.gB h.size), h.hL'.below hb (Nat.lt_of_lt_of_le h.gB' h.size), h.gB, h.gB', Nat.le_trans h.size hb.size⟩
theorem Told.lx {w : World} {B : Nat} {ao co : Option Addr} {xs ys : List Int} {g g' b1 b2 : Nat} (h : Told w B ao co xs ys g g' b1 b2) : IntsIn w B (some ⟨g, 0, none⟩) xs := h.hL.ints.mono h.gB
theorem Told.ly {w : World} {B : Nat} {ao co : Option Addr} {xs ys : List Int} {g g' b1 b2 : Nat} (h : Told w B ao co xs ys g g' b1 b2) : IntsIn w B (some ⟨g', 0, none⟩) ys := h.hL'.ints.mono h.gB'

end Go.Proofs.Ytidfflippldhjaa
