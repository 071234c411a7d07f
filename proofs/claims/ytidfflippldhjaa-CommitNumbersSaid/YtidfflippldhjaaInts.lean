/- Slices of integers that are only read: what slices.Index, Contains, IsSorted of the library return. Conditions: the slice's cells lie as its reading says. -/
import Derived.Test.YtidfflippldhjaaBase
import Derived.Test.YtidfflippldhjaaQuorumPlain
namespace Go.Proofs.Ytidfflippldhjaa
open Go.RowKit

/-- The integers xs lie behind the slice's address, in a block below B. -/
def IntsIn (w : World) (B : Nat) (ao : Option Addr) (xs : List Int) : Prop :=
  xs = [] ∨ ∃ b off, ao = some ⟨b, off, none⟩ ∧ b < B ∧ ∀ i, i < xs.length → w.cell? ⟨b, off + i, none⟩ = some (.int .i64 (xs.getD i 0))
theorem IntsIn.below {w w' : World} {B B' : Nat} {ao : Option Addr} {xs : List Int} (h : IntsIn w B ao xs) (hb : Below B' w w') (hB : B ≤ B') : IntsIn w' B ao xs := by
  rcases h with h | ⟨b, off, h1, h2, h3⟩
  · exact Or.inl h
  · exact Or.inr ⟨b, off, h1, h2, fun i hi => by rw [hb.cell (p := ⟨b, _, none⟩) (by show b < B'; omega)]; exact h3 i hi⟩
theorem IntsIn.mono {w : World} {B B' : Nat} {ao : Option Addr} {xs : List Int} (h : IntsIn w B ao xs) (hB : B ≤ B') : IntsIn w B' ao xs := by
  rcases h with h | ⟨b, off, h1, h2, h3⟩
  · exact Or.inl h
  · exact Or.inr ⟨b, off, h1, by omega, h3⟩
theorem IntsIn.drewN {w : World} {B : Nat} {ao : Option Addr} {xs : List Int} (h : IntsIn w B ao xs) (n : Nat) : IntsIn (w.drewN n) B ao xs := h

theorem below_draws {w wr : World} {B : Nat} (h : ∃ q, wr = w.drewN q) : Below B w wr := h.elim fun q hq => by rw [hq]; exact below_drewN (Below.refl _ _) _

/-- A slice of integers among the arguments. -/
theorem open_intsIn {H : Type} {enc : TypeId × Value → H} {P : Program} {W : World} {sp : Nat → Bool} {hd : Bool} {t e : TypeId} {ao : Option Addr} {len cap : Nat} {d : DataW H} {p : List MemPlace}
    (ht : P.underlying t = some (.slice e)) (he : P.underlying e = some (.int .i64)) (hC : P.cellsOf e = 1) (h : DataW.Trod enc P W 0 sp hd t (.slice ao len cap) d p) :
    ∃ xs : List Int, len = xs.length ∧ IntsIn W W.heap.size ao xs ∧ (∀ x ∈ xs, (Lit.int .i64 x).wf = true) := by
  obtain ⟨_, h0 | ⟨b, off, n, D, Pl, h1, _, hb, hx⟩⟩ := slice_cases ht hC (by decide) h
  · exact ⟨[], h0, Or.inl rfl, by simp⟩
  · obtain ⟨f, hf⟩ := Go.Deep.choose_lt (α := Int) (n := len) (p := fun i z => W.cell? ⟨b, off + i, none⟩ = some (.int .i64 z) ∧ (Lit.int .i64 z).wf = true) (fun i hi => by
      obtain ⟨cs, hl, hc, ht'⟩ := hx i hi
      obtain ⟨z, rfl, _, hw⟩ := DataW.trod_int he ht'
      exact ⟨z, by simpa using hc 0 (by decide), hw⟩)
    refine ⟨(List.range len).map f, by simp, Or.inr ⟨b, off, h1, hb, fun i hi => ?_⟩, ?_⟩
    · have hi' : i < len := by simpa using hi
      rw [(hf i hi').1]
      simp [List.getD, hi']
    · intro x hx'
      obtain ⟨i, hi, rfl⟩ := List.mem_map.1 hx'
      exact (hf i (List.mem_range.1 hi)).2

theorem getD_mem {xs : List Int} {k : Nat} (h : k < xs.length) : xs.getD k 0 ∈ xs := by
  simp [List.getD, List.getElem?_eq_getElem h]

theorem nan_any (a : Int) (w : World) :
    Calls Try.prog 30 #[.int .i64 a] w fun e w' => e = .returned (.bool false) ∧ w = w' := by
  go_enter Try.func30, Try.ntmps30
  go_wp2
  go_ret
  exact ⟨by simp, rfl⟩

theorem less_any (a b : Int) (w : World) :
    Calls Try.prog 29 #[.int .i64 a, .int .i64 b] w fun e w' => e = .returned (.bool (decide (a < b))) ∧ w = w' := by
  go_enter Try.func29, Try.ntmps29
  go_wp2_with (go_at_call 30; refine (nan_any _ _).mono ?_; rintro e w' ⟨rfl, rfl⟩)
  all_goals
    go_ret
    refine ⟨ret_bool ?_, rfl⟩
    grind

def IndexPost (xs : List Int) (n : Int) (w : World) (e : Ending) (w' : World) : Prop := ∃ r : Int, e = .returned (.int .i64 r) ∧ (decide (0 ≤ r)) = hasB xs n ∧ w = w'

def RisesFrom (xs : List Int) (k : Int) : Prop := ∀ j : Nat, k < j → 0 < j → j < xs.length → ¬ xs.getD j 0 < xs.getD (j - 1) 0
theorem sorted_any (ao : Option Addr) (cap : Nat) (xs : List Int) (w : World) (B : Nat) (hx : IntsIn w B ao xs) (hl : xs.length ≤ 4611686018427387904) :
    Calls Try.prog 24 #[.slice ao xs.length cap] w fun e w' => e = .returned (.bool (risesB xs)) ∧ Below w.heap.size w w' := by
  have HX := Lib.hid hx
  clear hx
  go_enter Try.func24, Try.ntmps24
  go_wp2
  go_loopw [3] (fun i wr => (∃ q, wr = w.drewN q) ∧ ∃ k : Int, -1 ≤ k ∧ k < xs.length ∧ i = .int .i64 k ∧ RisesFrom xs k) (fun i _ => (intOf i).toNat)
  case atStart => exact ⟨⟨0, rfl⟩, xs.length - 1, by omega, by omega, rfl, fun j h1 h2 h3 => by omega⟩
  case round =>
    obtain ⟨hq, k, hk0, hk, rfl, hall⟩ := hrel
    have HQ := Lib.hid hq
    clear hq
    by_cases hpos : 0 < k
    · rcases HX.out with h0 | ⟨b, off, rfl, hb, hc⟩
      · rw [h0] at hk; simp at hk; omega
      obtain ⟨m, rfl⟩ : ∃ m : Nat, k = (m : Int) + 1 := ⟨(k - 1).toNat, by omega⟩
      have c0 := hc (m + 1) (by omega)
      have c1 := hc m (by omega)
      clear hc
      obtain ⟨x, hxe⟩ : ∃ x, x = xs.getD (m + 1) 0 := ⟨_, rfl⟩
      obtain ⟨y, hye⟩ : ∃ y, y = xs.getD m 0 := ⟨_, rfl⟩
      rw [← hxe] at c0
      rw [← hye] at c1
      have HE := Lib.hid hxe
      have HE2 := Lib.hid hye
      clear hxe hye
      obtain ⟨q, hq⟩ := HQ.out
      rw [show w.cell? _ = wr.cell? _ from by rw [hq]; rfl] at c0 c1
      clear hq
      have i1 : (m : Int) + 1 < xs.length := by omega
      have i2 : (m : Int) < xs.length := by omega
      have i3 : 0 ≤ (m : Int) + 1 := by omega
      go_wp2_with fail
      have n1 : ((m : Int) + 1).toNat = m + 1 := by omega
      have n2 : IntKind.i64.wrap (m : Int) = m := IntWalk.i64_in _ (by omega)
      go_quiet ((go_at_call 29; exact quietly (less_any _ _ _)))
      clear n1 n2
      by_cases hlt : x < y
      · go_wp2
        go_ret
        refine ⟨ret_bool ?_, below_drewN (below_draws HQ.out) _⟩
        rw [eq_comm, Bool.eq_false_iff]
        intro h
        exact (risesB_iff xs).1 h (m + 1) (by omega) (by omega) (by rw [← HE.out, Nat.add_sub_cancel, ← HE2.out]; exact hlt)
      · go_wp2
        go_roundw
        case rel =>
          refine ⟨HQ.out.elim fun q hq => ⟨q + nq, by rw [hq, World.drewN_drewN]⟩, m, by omega, by omega, by go_num, fun j h1 h2 h3 => ?_⟩
          by_cases h : j = m + 1
          · subst h; rw [← HE.out, Nat.add_sub_cancel, ← HE2.out]; exact hlt
          · exact hall j (by omega) h2 h3
        case measure => simp [intOf]
    · go_wp2_with fail
      go_ret
      refine ⟨ret_bool ?_, below_draws HQ.out⟩
      rw [eq_comm, risesB_iff]
      have hneg : ¬ 0 < k := by omega
      exact fun j h1 h2 => hall j (by omega) h1 h2
end Go.Proofs.Ytidfflippldhjaa
