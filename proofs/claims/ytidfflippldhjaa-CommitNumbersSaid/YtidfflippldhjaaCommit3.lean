/- The example of the laws of layer 25, and the laws CommitNext and CommitIndex: each returns true, and nothing that was there is changed. No condition. -/
import Derived.Test.YtidfflippldhjaaCommit2
namespace Go.Proofs.Ytidfflippldhjaa
open Go.RowKit Go.Maps

theorem of_at (ao : Option Addr) (n cap : Nat) (ps : List (Int × Int)) (w : World) (hn : ps.length = n) (hx : PairsIn w w.heap.size ao ps) (hw : PairsWf ps) (hl : ps.length ≤ 4611686018427387904) :
    Calls Try.prog 8 #[.slice ao n cap] w (OfPost ps w) := by
  subst hn; exact of_any ao cap ps w hx hw hl
theorem index_at (b : Nat) (ao : Option Addr) (n cap : Nat) (vs : List Int) (ps : List (Int × Int)) (r : Int) (w : World) (hn : vs.length = n) (hr : indexS vs (mget ps) = r) (hx : IntsIn w w.heap.size ao vs) (hm : MapIs w b ps) (hw : WfAll vs) (hl : vs.length ≤ 1099511627776) :
    Calls Try.prog 9 #[.slice ao n cap, .map (some b)] w fun e w' => e = .returned (.int .i64 r) ∧ Below w.heap.size w w' := by
  subst hn hr; exact index_any25 b ao cap vs ps w hx hm hw hl
theorem index_nil (w : World) : Calls Try.prog 9 #[.slice none 0 0, .map none] w fun e w' => e = .returned (.int .i64 0) ∧ Below w.heap.size w w' := by
  have hb0 := ((Below.refl w.heap.size w).alloc (Nat.le_refl _) (.cells #[.slice none 0 0] 22)).alloc (by simp) (.cells #[.map none] 31)
  go_enter Try.func9, Try.ntmps9
  go_wp2_with fail
  go_loopw [6, 8, 9, 13] (fun v _ _ i wr => i = .int .i64 0 ∧ v = .int .i64 0 ∧ Below w.heap.size w wr) (fun _ _ _ _ _ => 0)
  case atStart => exact ⟨rfl, rfl, hb0⟩
  case round =>
    obtain ⟨rfl, rfl, hbel⟩ := hrel
    clear hb0
    go_wp2_with fail
    go_ret
    exact ⟨rfl, hbel⟩
theorem pairs_new (w : World) (T : TypeId) (ps : List (Int × Int)) (cs : Array Value) (g B : Nat) (hcs : cs = (ps.flatMap fun p => [Value.int .i64 p.1, Value.int .i64 p.2]).toArray) (hg : g = w.heap.size) (hB : g < B) : PairsIn (w.alloc (.cells cs T)) B (some ⟨g, 0, none⟩) ps := by
  subst hcs hg
  refine Or.inr ⟨w.heap.size, 0, rfl, hB, fun i hi => ?_⟩
  rw [World.cell?_alloc_at _ _ _ _ rfl, World.cell?_alloc_at _ _ _ _ rfl]
  have key : ∀ (l : List (Int × Int)) (i : Nat), i < l.length → (l.flatMap fun p => [Value.int .i64 p.1, Value.int .i64 p.2])[i * 2]? = some (.int .i64 (l.getD i (0, 0)).1) ∧ (l.flatMap fun p => [Value.int .i64 p.1, Value.int .i64 p.2])[i * 2 + 1]? = some (.int .i64 (l.getD i (0, 0)).2) := by
    intro l
    induction l with
    | nil => intro i hi; simp at hi
    | cons p l ih =>
      intro i hi
      cases i with
      | zero => exact ⟨rfl, rfl⟩
      | succ i =>
        have := ih i (by simpa using hi)
        have e1 : (i + 1) * 2 = i * 2 + 1 + 1 := by omega
        rw [e1, List.flatMap_cons]
        simpa using this
  have := key ps i hi
  simpa using this
theorem PairsIn.alloc {w : World} {B B' : Nat} {ao : Option Addr} {ps : List (Int × Int)} (h : PairsIn w B ao ps) (hB : B ≤ w.heap.size) (hB' : B ≤ B') (o : Obj) : PairsIn (w.alloc o) B' ao ps :=
  (h.below ((Below.refl w.heap.size w).alloc (Nat.le_refl _) o) hB).mono hB'
theorem next_at (a b c d r : Int) (hr : nextS a b c d = r) (w : World) :
    Calls Try.prog 12 #[.int .i64 a, .int .i64 b, .int .i64 c, .int .i64 d] w fun e w' => e = .returned (.int .i64 r) ∧ w = w' := by
  subst hr; exact next_any a b c d w

set_option maxHeartbeats 2000000 in
theorem awake25_any (w : World) : Calls Try.prog 6 #[] w fun e w' => e = .returned (.bool true) ∧ Below w.heap.size w w' := by
  go_enter Try.func6, Try.ntmps6
  go_wp2_with fail
  have hL := ints_new w 3 [1, 2, 3] #[.int .i64 1, .int .i64 2, .int .i64 3] _ (w.heap.size + 1) rfl rfl (by omega)
  have hb0 := (Below.refl w.heap.size w).alloc (Nat.le_refl _) (.cells #[.int .i64 1, .int .i64 2, .int .i64 3] 3)
  have hz : (w.alloc (.cells #[.int .i64 1, .int .i64 2, .int .i64 3] 3)).heap.size = w.heap.size + 1 := by simp
  generalize w.alloc (.cells #[.int .i64 1, .int .i64 2, .int .i64 3] 3) = w0 at hL hb0 hz ⊢
  have hx0 : w.heap.size + 1 ≤ w0.heap.size := by omega
  have hB0 : Below (w.heap.size + 1) w0 w0 := Below.refl _ _
  refine (of_at _ _ _ [(1, 5), (2, 7)] _ rfl (pairs_new _ _ _ _ _ _ rfl (by omega) (by simp; omega)) (by unfold PairsWf; decide) (by decide)).mono ?_
  rintro e w1 ⟨b1, rfl, hb1, hm1, hW1⟩
  obtain ⟨hL1, hB1, hx1⟩ := keep_alloc hL hB0 hx0 hW1
  go_wp2_with fail
  refine (index_at _ _ _ _ [1, 2, 3] [(1, 5), (2, 7)] 5 _ rfl (by decide +kernel) (hL1.mono hx1) hm1 (by unfold WfAll; decide) (by decide)).mono ?_
  rintro e w2 ⟨rfl, hW2⟩
  obtain ⟨hL2, hB2, hx2⟩ := keep_same hL1 hB1 hx1 hW2
  go_wp2_with fail
  refine (of_at _ _ _ [(1, 5), (3, 9), (2, 7)] _ rfl (pairs_new _ _ _ _ _ _ rfl rfl (by simp)) (by unfold PairsWf; decide) (by decide)).mono ?_
  rintro e w3 ⟨b3, rfl, hb3, hm3, hW3⟩
  obtain ⟨hL3, hB3, hx3⟩ := keep_alloc hL2 hB2 hx2 hW3
  go_wp2_with fail
  refine (index_at _ _ _ _ [1, 2, 3] [(1, 5), (3, 9), (2, 7)] 7 _ rfl (by decide +kernel) (hL3.mono hx3) hm3 (by unfold WfAll; decide) (by decide)).mono ?_
  rintro e w4 ⟨rfl, hW4⟩
  obtain ⟨hL4, hB4, hx4⟩ := keep_same hL3 hB3 hx3 hW4
  go_wp2_with fail
  have hM := ints_new w4 3 [1, 2] #[.int .i64 1, .int .i64 2] w4.heap.size (w4.heap.size + 1) rfl rfl (by omega)
  have hB5 := hB4.alloc hx4 (.cells #[.int .i64 1, .int .i64 2] 3)
  have hz5 : (w4.alloc (.cells #[.int .i64 1, .int .i64 2] 3)).heap.size = w4.heap.size + 1 := by simp
  generalize w4.alloc (.cells #[.int .i64 1, .int .i64 2] 3) = w5 at hM hB5 hz5 ⊢
  refine (of_at _ _ _ [(1, 5)] _ rfl (pairs_new _ _ _ _ _ _ rfl (by omega) (by simp; omega)) (by unfold PairsWf; decide) (by decide)).mono ?_
  rintro e w6 ⟨b6, rfl, hb6, hm6, hW6⟩
  obtain ⟨hM6, hB6, hx6⟩ := keep_alloc hM (Below.refl _ w5) (by omega) hW6
  go_wp2_with fail
  refine (index_at _ _ _ _ [1, 2] [(1, 5)] 0 _ rfl (by decide +kernel) (hM6.mono hx6) hm6 (by unfold WfAll; decide) (by decide)).mono ?_
  rintro e w7 ⟨rfl, hW7⟩
  obtain ⟨hM7, hB7, hx7⟩ := keep_same hM6 hB6 hx6 hW7
  go_wp2_with fail
  refine (index_nil _).mono ?_
  rintro e w8 ⟨rfl, hW8⟩
  go_wp2_with fail
  refine (next_at 3 5 2 2 5 (by decide) _).mono ?_
  rintro e w' ⟨rfl, rfl⟩
  go_wp2_with fail
  refine (next_at 3 5 1 2 3 (by decide) _).mono ?_
  rintro e w' ⟨rfl, rfl⟩
  go_wp2_with fail
  refine (next_at 5 3 2 2 5 (by decide) _).mono ?_
  rintro e w' ⟨rfl, rfl⟩
  go_wp2_with fail
  go_ret
  exact ⟨rfl, hb0.trans ((hB5.trans ((hB7.trans (hW8.mono hx7)).mono (by omega))).mono (by omega))⟩

theorem walk_CommitNext (W : World) (a : Int) (_ : (Lit.int .i64 a).wf = true) (b : Int) (_ : (Lit.int .i64 b).wf = true) (c : Int) (_ : (Lit.int .i64 c).wf = true) (d : Int) (_ : (Lit.int .i64 d).wf = true) :
    Calls Try.prog 5 #[.int .i64 a, .int .i64 b, .int .i64 c, .int .i64 d] W fun e w' => e = .returned (.bool true) ∧ Below W.heap.size W w' := by
  go_enter Try.func5, Try.ntmps5
  go_wp2_with fail
  refine (next_any _ _ _ _ _).mono ?_
  rintro e w' ⟨rfl, rfl⟩
  go_wp2_with fail
  refine (rnext_any _ _ _ _ _).mono ?_
  rintro e w' ⟨rfl, rfl⟩
  go_wp2_with fail
  refine (awake25_any _).mono ?_
  rintro e w2 ⟨rfl, hb2⟩
  go_wp2_with fail
  go_ret
  exact ⟨rfl, hb2⟩
end Go.Proofs.Ytidfflippldhjaa
