/- A log as it lies in memory; its reading methods: there, place, Term, Last, Base. Conditions: the log is one that was made. -/
import Derived.Test.YtknnbnmogjkcnaaGreatCopied
namespace Go.Proofs.YtknnbnmogjkcnaaGreat
open Go.RowKit
set_option maxRecDepth 20000

/-- Block lb is a log of these entries behind base, whose term is term. -/
structure LogAt (w : World) (B lb : Nat) (base term : Int) (v : Value) (es : List En) : Prop where
  blk : w.heap[lb]? = some (.cells #[.bool true, .int .i64 base, .int .i64 term, v] 49 (0, 0))
  ens : EnsOwn w B v es
  low : B ≤ lb
theorem LogAt.lt {w : World} {B lb : Nat} {base term : Int} {v : Value} {es : List En} (h : LogAt w B lb base term v es) : lb < w.heap.size := (Array.getElem?_eq_some_iff.1 h.blk).1
theorem LogAt.below {w w' : World} {B B' lb : Nat} {base term : Int} {v : Value} {es : List En} (h : LogAt w B lb base term v es) (hb : Below B' w w') (hB : w.heap.size ≤ B') : LogAt w' B lb base term v es :=
  ⟨(hb.block lb (Nat.lt_of_lt_of_le h.lt hB)).trans h.blk, h.ens.below hb hB, h.low⟩
theorem LogAt.le {w : World} {B B' lb : Nat} {base term : Int} {v : Value} {es : List En} (h : LogAt w B lb base term v es) (hB : B' ≤ B) : LogAt w B' lb base term v es := ⟨h.blk, h.ens.le hB, Nat.le_trans hB h.low⟩
theorem LogAt.c0 {w : World} {B lb : Nat} {base term : Int} {v : Value} {es : List En} (h : LogAt w B lb base term v es) : w.cell? ⟨lb, 0, none⟩ = some (.bool true) := Go.Joins.cell_of_block h.blk 0
theorem LogAt.c1 {w : World} {B lb : Nat} {base term : Int} {v : Value} {es : List En} (h : LogAt w B lb base term v es) : w.cell? ⟨lb, 1, none⟩ = some (.int .i64 base) := Go.Joins.cell_of_block h.blk 1
theorem LogAt.c2 {w : World} {B lb : Nat} {base term : Int} {v : Value} {es : List En} (h : LogAt w B lb base term v es) : w.cell? ⟨lb, 2, none⟩ = some (.int .i64 term) := Go.Joins.cell_of_block h.blk 2
theorem LogAt.c3 {w : World} {B lb : Nat} {base term : Int} {v : Value} {es : List En} (h : LogAt w B lb base term v es) : w.cell? ⟨lb, 3, none⟩ = some v := Go.Joins.cell_of_block h.blk 3
theorem LogAt.form {w : World} {B lb : Nat} {base term : Int} {v : Value} {es : List En} (h : LogAt w B lb base term v es) : ∃ a c, v = .slice a es.length c := row_slice h.ens.row

theorem there_any (lb : Nat) (w : World) (h0 : w.cell? ⟨lb, 0, none⟩ = some (.bool true)) :
    Calls Tryz.prog 18 #[.pointer (some ⟨lb, 0, none⟩)] w fun e w' => e = .returned (.bool true) ∧ w = w' := by
  go_enter Tryz.func18, Tryz.ntmps18
  go_wp2_with fail
  go_ret
  exact ⟨rfl, rfl⟩
def placeS (base : Int) (n : Nat) (i : Int) : Int × Bool := if base < i ∧ i - base ≤ n then (i - base - 1, true) else (0, false)
def PlaceAt (k : Int) (ok : Bool) (w : World) (e : Ending) (w' : World) : Prop := e = .returned (.tuple #[.int .i64 k, .bool ok]) ∧ Below w.heap.size w w'
set_option maxHeartbeats 1000000 in
theorem place_any (lb : Nat) (base : Int) (a : Option Addr) (n c : Nat) (i : Int) (w : World) (h0 : w.cell? ⟨lb, 0, none⟩ = some (.bool true)) (h1 : w.cell? ⟨lb, 1, none⟩ = some (.int .i64 base)) (h3 : w.cell? ⟨lb, 3, none⟩ = some (.slice a n c))
    (hb : 0 ≤ base ∧ base ≤ 1152921504606846976) (hi : -1152921504606846976 ≤ i ∧ i ≤ 1152921504606846976) (hn : n ≤ 1099511627776) :
    Calls Tryz.prog 17 #[.pointer (some ⟨lb, 0, none⟩), .int .i64 i] w (PlaceAt (placeS base n i).1 (placeS base n i).2 w) := by
  have w1 : IntKind.i64.wrap (i - base) = i - base := IntWalk.i64_in _ (by omega)
  have hcall : ∀ q, Calls Tryz.prog 18 #[.pointer (some ⟨lb, 0, none⟩)] (w.drewN q) fun e w' => e = .returned (.bool true) ∧ w.drewN q = w' := fun q => there_any lb (w.drewN q) h0
  by_cases c1 : i ≤ base
  · have hs : placeS base n i = (0, false) := if_neg (by omega)
    have d1 : decide (i ≤ base) = true := by simpa using c1
    rw [hs]
    have HC := Lib.hid hcall
    clear hcall hs
    go_enter Tryz.func17, Tryz.ntmps17
    go_wp2_with fail
    go_quiet ((go_at_call 18; exact quietly (HC.out _)))
    go_wp2_with fail
    go_ret2
    exact ⟨rfl, below_drewN (Below.refl _ _) _⟩
  · have d1 : decide (i ≤ base) = false := by simpa using c1
    by_cases c2 : (n : Int) < i - base
    · have hs : placeS base n i = (0, false) := if_neg (by omega)
      have d2 : decide ((n : Int) < i - base) = true := by simpa using c2
      rw [hs]
      have HC := Lib.hid hcall
      clear hcall hs
      go_enter Tryz.func17, Tryz.ntmps17
      go_wp2_with fail
      go_quiet ((go_at_call 18; exact quietly (HC.out _)))
      go_wp2_with fail
      go_ret2
      exact ⟨rfl, below_drewN (Below.refl _ _) _⟩
    · have hs : placeS base n i = (i - base - 1, true) := if_pos (by omega)
      have d2 : decide ((n : Int) < i - base) = false := by simpa using c2
      rw [hs]
      have HC := Lib.hid hcall
      clear hcall hs
      go_enter Tryz.func17, Tryz.ntmps17
      go_wp2_with fail
      go_quiet ((go_at_call 18; exact quietly (HC.out _)))
      go_wp2_with fail
      go_ret2
      exact ⟨rfl, below_drewN (Below.refl _ _) _⟩
end Go.Proofs.YtknnbnmogjkcnaaGreat
