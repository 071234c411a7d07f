/- A log's Compact. Conditions: the log is one that was made; its numbers are not too great. -/
import Derived.Test.YtknnbnmogjkcnaaGreatLogD
namespace Go.Proofs.YtknnbnmogjkcnaaGreat
open Go.RowKit
set_option maxRecDepth 20000

theorem log_store1 {w : World} {lb : Nat} {base term : Int} {v0 : Value} (u : Int) (h : w.heap[lb]? = some (.cells #[.bool true, .int .i64 base, .int .i64 term, v0] 49 (0, 0))) : (w.setCell ⟨lb, 1, none⟩ (.int .i64 u)).heap[lb]? = some (.cells #[.bool true, .int .i64 u, .int .i64 term, v0] 49 (0, 0)) := by
  have hlt := (Array.getElem?_eq_some_iff.1 h).1
  have h' := (Array.getElem?_eq_some_iff.1 h).2
  show (w.heap.modify lb _)[lb]? = _
  rw [Array.getElem?_eq_getElem (by simpa using hlt), Array.getElem_modify_self, h']
  rfl
theorem log_store2 {w : World} {lb : Nat} {base term : Int} {v0 : Value} (u : Int) (h : w.heap[lb]? = some (.cells #[.bool true, .int .i64 base, .int .i64 term, v0] 49 (0, 0))) : (w.setCell ⟨lb, 2, none⟩ (.int .i64 u)).heap[lb]? = some (.cells #[.bool true, .int .i64 base, .int .i64 u, v0] 49 (0, 0)) := by
  have hlt := (Array.getElem?_eq_some_iff.1 h).1
  have h' := (Array.getElem?_eq_some_iff.1 h).2
  show (w.heap.modify lb _)[lb]? = _
  rw [Array.getElem?_eq_getElem (by simpa using hlt), Array.getElem_modify_self, h']
  rfl
/-- Entries of which the row has been copied and cut: the old rows of args stay. -/
theorem EnsOwn.cut {w w' : World} {B B' : Nat} {v v' : Value} {es : List En} (h : EnsOwn w B v es) (hb : Below B' w w') (hB : w.heap.size ≤ B') (k : Nat) (hr : w'.ownsRow B 38 9 v' (es.drop k).length ((es.drop k).flatMap enCells)) : EnsOwn w' B v' (es.drop k) :=
  ⟨hr, fun e he => (h.own e (List.mem_of_mem_drop he)).below hb hB, h.sep.sublist (List.drop_sublist k es)⟩
/-- Compact at an index that the log does not know. -/
theorem compact_no (B lb : Nat) (base term : Int) (v : Value) (es : List En) (i r : Int) (w : World) (hr : termS base term (es.map En.plain) i = (r, false)) (hL : LogAt w B lb base term v es) (hN : LogNums base es.length i) :
    Calls Tryz.prog 13 #[.pointer (some ⟨lb, 0, none⟩), .int .i64 i] w fun e w' => e = .returned (.int .i64 2) ∧ Below w.heap.size w w' := by
  have hc0 := hL.c0
  have HL := Lib.hid hL
  have HN := Lib.hid hN
  have HR := Lib.hid hr
  clear hL hN hr
  go_enter Tryz.func13, Tryz.ntmps13
  go_wp2_with (first | (go_at_call 18; (with_reducible refine (there_any lb w hc0).mono ?_); rintro e w' ⟨rfl, rfl⟩) | (go_at_call 10; (refine (term_any B lb base term v es i r false _ HR.out (HL.out.below (by first | exact below_drewN (Below.refl _ _) _ | exact Below.drew (Below.refl _ _) | exact Below.refl _ _) (Nat.le_refl _)) HN.out).mono ?_); rintro e w2 ⟨rfl, hp⟩))
  go_ret
  exact ⟨rfl, hp⟩
end Go.Proofs.YtknnbnmogjkcnaaGreat
