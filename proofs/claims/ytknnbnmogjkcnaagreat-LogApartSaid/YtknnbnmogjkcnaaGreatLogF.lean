/- A log's Compact at an index that it knows.  Conditions: the log is one that was made; its numbers are not too great. -/
import Derived.Test.YtknnbnmogjkcnaaGreatLogE
import Derived.Deep.RegionLaw
namespace Go.Proofs.YtknnbnmogjkcnaaGreat
open Go.RowKit
set_option maxRecDepth 20000

def CompactAt (B lb : Nat) (i t : Int) (es : List En) (w : World) (e : Ending) (w' : World) : Prop :=
  ∃ v', e = .returned (.int .i64 0) ∧ LogAt w' B lb i t v' es ∧ Below B w w'
set_option maxHeartbeats 4000000 in
theorem compact_any (B lb : Nat) (base term t : Int) (v : Value) (es : List En) (k : Nat) (i : Int) (w : World) (hi : i = base + k) (hk : k ≤ es.length) (hr : termS base term (es.map En.plain) i = (t, true)) (hL : LogAt w B lb base term v es) (hN : LogNums base es.length i) (hB : B ≤ w.heap.size) :
    Calls Tryz.prog 13 #[.pointer (some ⟨lb, 0, none⟩), .int .i64 i] w (CompactAt B lb i t (es.drop k) w) := by
  obtain ⟨a, c, hv⟩ := hL.form
  subst hv
  have HN := Lib.hid hN
  obtain ⟨h1, h2, h3, h4, h5⟩ := hN
  have hc0 := hL.c0
  have HL := Lib.hid hL
  have HR := Lib.hid hr
  obtain ⟨n, hn0⟩ : ∃ n, es.length = n := ⟨_, rfl⟩
  rw [hn0] at h5 hk
  have HE := Lib.hid hn0
  have hsl : ∀ w', (Instr.sliceAt 22 (.slice a n c) (some (.int .i64 (i - base))) none none).run Tryz.prog w' = .ok (.slice (subA a c k 9) (n - k) (c - k)) w' := fun w' => run_sub_l sliceEn sizeEn a n c k hk .i64 (i - base) (by omega) w'
  have w1 : IntKind.i64.wrap (i - base) = i - base := IntWalk.i64_in _ (by omega)
  have HSL := Lib.hid hsl
  have HW1 := Lib.hid w1
  clear hL hn0 hr hi hsl w1
  go_enter Tryz.func13, Tryz.ntmps13
  go_wp2_with (go_at_call 18; (with_reducible refine (there_any lb w hc0).mono ?_); rintro e w' ⟨rfl, rfl⟩)
  refine (term_any B lb base term _ es i t true _ HR.out (HL.out.below (by first | exact below_drewN (Below.refl _ _) _ | exact Below.drew (Below.refl _ _) | exact Below.refl _ _) (Nat.le_refl _)) HN.out).mono ?_
  rintro e w2 ⟨rfl, hp⟩
  have hL2 := HL.out.below hp (Nat.le_refl _)
  have d1 := hL2.c1
  have d2 := hL2.c2
  have d3 : w2.cell? ⟨lb, 3, none⟩ = some (.slice a n c) := by have := hL2.c3; rw [HE.out] at this; exact this
  have HL2 := Lib.hid hL2
  have HP := Lib.hid hp
  have hsl := HSL.out
  have w1 := HW1.out
  clear hL2 hp hc0
  go_wp2_with fail
  have hlt2 := HL2.out.lt
  have hle : (es.drop k).length = n - k := by rw [List.length_drop, HE.out]
  have hin : ∀ w', Below w2.heap.size w2 w' → EnsIn w' w2.heap.size (subA a c k 9) (es.drop k) := fun w' hb => by
    obtain ⟨a', c', hv, hc', _, hin'⟩ := HL2.out.ens.lie
    cases hv
    have := EnsIn.sub (hin'.below enSub_kept hb (Nat.le_refl _)) k (es.length - k) hc' (by rw [HE.out]; omega)
    rwa [List.take_of_length_le (by simp)] at this
  have hnil : subA a c k 9 = none → c - k = 0 := fun h => by
    have h1 := subA_eq_none h
    have h2 := own_none HL2.out.ens.row h1
    omega
  have HLE := Lib.hid hle
  have HIN := Lib.hid hin
  have HNIL := Lib.hid hnil
  clear hle hin hnil
  go_region_law (first | (go_simp; go_at_call 19; refine (cloneE_any enSub (subA a c k 9) (n - k) (c - k) (es.drop k) _ w2.heap.size HLE.out (HIN.out _ (Below.drew (Below.refl _ _))) enSub_kept (by simp) HNIL.out (by omega)).mono ?_; rintro e x3 ⟨a3, c3, rfl, ho3, hb3⟩; have hx := (Below.drew (Below.refl w2.heap.size w2)).trans hb3; have hs3 := hx.size; have hL3 := HL2.out.below hx (Nat.le_refl _); have e1 := hL3.c1; have e2 := hL3.c2; have e3 := hL3.c3; rw [HE.out] at e3; have f1 : x3.frozen? ⟨lb, 1, none⟩ = false := Go.Joins.unfrozen_of_block hL3.blk 1; have f2 : x3.frozen? ⟨lb, 2, none⟩ = false := Go.Joins.unfrozen_of_block hL3.blk 2; have f3 : x3.frozen? ⟨lb, 3, none⟩ = false := Go.Joins.unfrozen_of_block hL3.blk 3; have HO3 := Lib.hid ho3; have HL3 := Lib.hid hL3; clear hb3 hsl w1 d1 d2 d3 ho3 hL3))
  all_goals (have hB2 : B ≤ w2.heap.size := Nat.le_trans hB HP.out.size)
  all_goals (have hr3 : x3.ownsRow B 38 9 (.slice a3 (n - k) c3) (es.drop k).length ((es.drop k).flatMap enCells) := (by rw [HLE.out]; exact Go.Joins.ownsRow_le HO3.out (by simpa using hB2)))
  all_goals (have he3 : EnsOwn x3 B (.slice a3 (n - k) c3) (es.drop k) := EnsOwn.cut HL2.out.ens hx (Nat.le_refl _) k hr3)
  all_goals (have b3 := HL3.out.blk; have he4 := he3.store b3 1 (.int .i64 i); have b4 := log_store1 i b3; have he5 := he4.store b4 2 (.int .i64 t); have b5 := log_store2 t b4; have he6 := he5.store b5 3 (.slice a3 (n - k) c3); have b6 := log_store (u := .slice a3 (n - k) c3) b5)
  all_goals (have hL6 : LogAt (((x3.setCell ⟨lb, 1, none⟩ (.int .i64 i)).setCell ⟨lb, 2, none⟩ (.int .i64 t)).setCell ⟨lb, 3, none⟩ (.slice a3 (n - k) c3)) B lb i t (.slice a3 (n - k) c3) (es.drop k) := ⟨b6, he6, HL3.out.low⟩)
  all_goals (have hb6 : Below B w (((x3.setCell ⟨lb, 1, none⟩ (.int .i64 i)).setCell ⟨lb, 2, none⟩ (.int .i64 t)).setCell ⟨lb, 3, none⟩ (.slice a3 (n - k) c3)) := Below.setCell (Below.setCell (Below.setCell ((HP.out.mono hB).trans (hx.mono hB2)) HL3.out.low _) HL3.out.low _) HL3.out.low _)
  all_goals (clear hr3 he3 b3 he4 b4 he5 b5 he6 b6 e1 e2 e3 f1 f2 f3)
  all_goals (generalize ((x3.setCell ⟨lb, 1, none⟩ (.int .i64 i)).setCell ⟨lb, 2, none⟩ (.int .i64 t)).setCell ⟨lb, 3, none⟩ (.slice a3 (n - k) c3) = x6 at hL6 hb6 ⊢)
  all_goals (simp only [Exit.then])
  all_goals (rename (∀ (_ : Act) (_ : World), _ → _) => hK0)
  all_goals (refine hK0 _ _ ?_; clear hK0)
  all_goals (go_wp2_with fail)
  all_goals go_ret
  all_goals (exact ⟨_, rfl, hL6, hb6⟩)
end Go.Proofs.YtknnbnmogjkcnaaGreat
