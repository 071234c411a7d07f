/- The map that the laws of layer 25 make of pairs: what it holds, and that of makes it. Conditions: the pairs' cells lie as their reading says. -/
import Derived.Test.YtidfflippldhjaaLent
import Derived.Maps.Own
import Derived.Maps.OwnOps
import Derived.Maps.OwnSet
import Derived.Maps.Views
import Derived.StillTailTactics
namespace Go.Proofs.Ytidfflippldhjaa
open Go.RowKit Go.Maps

theorem intLaw : Keyed Try.prog 3 := int_keyed Try.underlying3
theorem zeroInt (w : World) : (zeroValue 3).run Try.prog w = .ok (.int .i64 0) w := by kernel_rfl
/-- The map's datum, of pairs one behind the other. -/
def mapD (ps : List (Int × Int)) : DataW Unit := ps.foldl (fun D p => D.put (.int .i64 p.1) (.lit (.int .i64 p.2))) (.map [])
def mget (ps : List (Int × Int)) (k : Int) : Int := ps.foldl (fun a p => if p.1 = k then p.2 else a) 0
theorem mapD_snoc (ps : List (Int × Int)) (a b : Int) : mapD (ps ++ [(a, b)]) = (mapD ps).put (.int .i64 a) (.lit (.int .i64 b)) := by simp [mapD, List.foldl_append]
theorem mget_snoc (ps : List (Int × Int)) (a b k : Int) : mget (ps ++ [(a, b)]) k = if a = k then b else mget ps k := by simp [mget, List.foldl_append]
theorem mapD_isMap (ps : List (Int × Int)) : IsMap (mapD ps) := by
  unfold mapD
  have : ∀ (l : List (Int × Int)) (D : DataW Unit), IsMap D → IsMap (l.foldl (fun D p => D.put (.int .i64 p.1) (.lit (.int .i64 p.2))) D) := by
    intro l
    induction l with
    | nil => intro D h; exact h
    | cons p l ih => intro D h; exact ih _ (h.put _ _)
  exact this ps _ isMap_empty
theorem mapD_at (ps : List (Int × Int)) (k : Int) : (mapD ps).atKey (.int .i64 k) (.lit (.int .i64 0)) = .lit (.int .i64 (mget ps k)) := by
  induction h : ps.length generalizing ps with
  | zero =>
    have : ps = [] := List.eq_nil_of_length_eq_zero h
    subst this; rfl
  | succ n ih =>
    obtain ⟨qs, p, rfl⟩ : ∃ qs p, ps = qs ++ [p] := ⟨ps.dropLast, ps.getLast (by intro e; rw [e] at h; simp at h), (List.dropLast_concat_getLast _).symm⟩
    obtain ⟨a, b⟩ := p
    rw [mapD_snoc, mget_snoc]
    by_cases e : a = k
    · subst e
      rw [if_pos rfl, atKey_put_same (mapD_isMap qs) (show WideAt.IsKeyLit (.int .i64 a) from trivial)]
    · rw [if_neg e, atKey_put_other (by simpa using fun h => e h.symm)]
      exact ih qs (by simpa using h)

/-- Block b of w is the map of these pairs. -/
def MapIs (w : World) (b : Nat) (ps : List (Int × Int)) : Prop := ∃ n, n ≤ ps.length ∧ w.ownsMap Try.prog 3 (plainElem Try.prog 3) b n (mapD ps)
theorem MapIs.lt {w : World} {b : Nat} {ps : List (Int × Int)} (h : MapIs w b ps) : b < w.heap.size := h.elim fun _ h => h.2.lt
theorem MapIs.below {w w' : World} {b B : Nat} {ps : List (Int × Int)} (h : MapIs w b ps) (hb : Below B w w') (hB : b < B) : MapIs w' b ps := by
  obtain ⟨n, hn, es, clock, h1, h2⟩ := h
  exact ⟨n, hn, es, clock, by rw [hb.block b hB]; exact h1, h2⟩
theorem MapIs.look {w : World} {b : Nat} {ps : List (Int × Int)} (h : MapIs w b ps) {k : Int} (hk : (Lit.int .i64 k).wf = true) : (Instr.lookup 31 (.map (some b)) (.int .i64 k) false).run Try.prog w = .ok (.int .i64 (mget ps k)) w ∧ (Lit.int .i64 (mget ps k)).wf = true := by
  obtain ⟨n, hn, h⟩ := h
  obtain ⟨c, hrun, hat, hwf⟩ := h.lookup_int intLaw Try.underlying31 Try.underlying3 (zeroInt _) (keyOf_int_mk Try.underlying3 hk)
  rw [mapD_at] at hat
  simp at hat
  rw [hat]
  exact ⟨hrun, hwf⟩

/-- The pairs lie behind the slice's address, in a block below B. -/
def PairsIn (w : World) (B : Nat) (ao : Option Addr) (ps : List (Int × Int)) : Prop :=
  ps = [] ∨ ∃ b off, ao = some ⟨b, off, none⟩ ∧ b < B ∧ ∀ i, i < ps.length → w.cell? ⟨b, off + i * 2, none⟩ = some (.int .i64 (ps.getD i (0, 0)).1) ∧ w.cell? ⟨b, off + i * 2 + 1, none⟩ = some (.int .i64 (ps.getD i (0, 0)).2)
theorem PairsIn.below {w w' : World} {B B' : Nat} {ao : Option Addr} {ps : List (Int × Int)} (h : PairsIn w B ao ps) (hb : Below B' w w') (hB : B ≤ B') : PairsIn w' B ao ps := by
  rcases h with h | ⟨b, off, h1, h2, h3⟩
  · exact Or.inl h
  · refine Or.inr ⟨b, off, h1, h2, fun i hi => ?_⟩
    rw [hb.cell (p := ⟨b, _, none⟩) (by show b < B'; omega), hb.cell (p := ⟨b, _, none⟩) (by show b < B'; omega)]
    exact h3 i hi
theorem PairsIn.mono {w : World} {B B' : Nat} {ao : Option Addr} {ps : List (Int × Int)} (h : PairsIn w B ao ps) (hB : B ≤ B') : PairsIn w B' ao ps := by
  rcases h with h | ⟨b, off, h1, h2, h3⟩
  · exact Or.inl h
  · exact Or.inr ⟨b, off, h1, by omega, h3⟩
def PairsWf (ps : List (Int × Int)) : Prop := ∀ p ∈ ps, (Lit.int .i64 p.1).wf = true ∧ (Lit.int .i64 p.2).wf = true
theorem pair_mem {ps : List (Int × Int)} {k : Nat} (h : k < ps.length) : ps.getD k (0, 0) ∈ ps := by
  simp [List.getD, List.getElem?_eq_getElem h]
theorem pair_take {ps : List (Int × Int)} {k : Nat} (h : k < ps.length) : ps.take (k + 1) = ps.take k ++ [ps.getD k (0, 0)] := by
  rw [List.take_succ_eq_append_getElem h]; simp [List.getD, List.getElem?_eq_getElem h]

def OfPost (ps : List (Int × Int)) (w : World) (e : Ending) (w' : World) : Prop := ∃ b, e = .returned (.map (some b)) ∧ w.heap.size ≤ b ∧ MapIs w' b ps ∧ Below w.heap.size w w'
theorem of_any (ao : Option Addr) (cap : Nat) (ps : List (Int × Int)) (w : World) (hx : PairsIn w w.heap.size ao ps) (hw : PairsWf ps) (hl : ps.length ≤ 4611686018427387904) :
    Calls Try.prog 8 #[.slice ao ps.length cap] w (OfPost ps w) := by
  have HX := Lib.hid hx
  have HW := Lib.hid hw
  clear hx hw
  have hmm := @run_makeMap Try.prog
  go_enter Try.func8, Try.ntmps8
  go_wp2_with fail
  clear hmm
  have h0 : MapIs (w.alloc (.map #[] 0)) w.heap.size [] := ⟨0, Nat.le_refl _, World.ownsMap_made _ _ _ _⟩
  have hb0 := (Below.refl w.heap.size w).alloc (Nat.le_refl _) (.map #[] 0)
  go_loopw [4] (fun i wr => ∃ k : Nat, k ≤ ps.length ∧ i = .int .i64 k ∧ MapIs wr w.heap.size (ps.take k) ∧ Below w.heap.size w wr) (fun i _ => ps.length - (intOf i).toNat)
  case atStart => exact ⟨0, by omega, rfl, h0, hb0⟩
  case round =>
    obtain ⟨k, hk, rfl, hmap, hbel⟩ := hrel
    clear h0 hb0
    by_cases hlt : k < ps.length
    · rcases HX.out with h0 | ⟨b, off, rfl, hb, hc⟩
      · rw [h0] at hlt; simp at hlt
      obtain ⟨c0, c1⟩ := hc k hlt
      rw [← hbel.cell (p := ⟨b, _, none⟩) hb] at c0 c1
      clear hc
      have hpt := pair_take hlt
      obtain ⟨w1, w2⟩ := HW.out _ (pair_mem hlt)
      generalize ps.getD k (0, 0) = q at c0 c1 hpt w1 w2
      obtain ⟨x, y⟩ := q
      dsimp only at c0 c1 w1 w2
      have HP := Lib.hid hpt
      clear hpt
      have i1 : (k : Int) < ps.length := by omega
      go_wp2_with fail
      go_still_tail 11, (by kernel_rfl)
      obtain ⟨n, hn, hown⟩ := hmap
      refine wpList_mapUpdate_own _ rfl _ _ _ 31 rfl 3 3 intLaw Try.underlying31 _ w.heap.size n _ rfl (World.ownsMap.drew hown) (by have : (ps.take k).length ≤ k := List.length_take_le _ _; unfold maxLen; omega) _ _ _ rfl rfl (keyOf_int_mk Try.underlying3 w1) _ [] (plainElem_int Try.underlying3 w2) ?_
      intro w3 hown3 hg3
      have hb3 : Below w.heap.size w w3 := (hbel.drew).grown hg3 hbel.size (fun j hj => by cases hj; exact Nat.le_refl _)
      have hmap3 : MapIs w3 w.heap.size (ps.take (k + 1)) := by
        rw [HP.out]
        exact ⟨n + 1, by simp at hn ⊢; omega, by rw [mapD_snoc]; exact hown3⟩
      clear hown hown3 hg3
      go_wp2_with fail
      go_roundw
      case rel => exact ⟨k + 1, by omega, by go_num, hmap3, hb3⟩
      case measure => simp [intOf]; omega
    · obtain rfl : k = ps.length := by omega
      rw [List.take_length] at hmap
      go_wp2_with fail
      go_ret
      exact ⟨_, rfl, Nat.le_refl _, hmap, hbel⟩
end Go.Proofs.Ytidfflippldhjaa
