/- The walk of the law function VoteOnce: of whatever questions it returns true, and nothing that was there is changed. No condition. -/
import Derived.Test.YthokoihgbionmaaVote
namespace Go.Proofs.Ythokoihgbionmaa
open Go.RowKit

theorem pick_eq (a k : Int) (hk : 1 ≤ k) : a.tmod k = a % k ∨ (a.tmod k < 0 ∧ a.tmod k + k = a % k) := by
  have h4 := Int.emod_lt_of_pos a (show 0 < k by omega)
  rw [Int.tmod_eq_emod]
  split
  · left; omega
  · right; omega

theorem pick_any (a k : Int) (hk : 1 ≤ k) (hk2 : k ≤ 1000000) (w : World) :
    Calls Try.prog 13 #[.int .i64 a, .int .i64 k] w fun e w' => e = .returned (.int .i64 (a % k)) ∧ w = w' := by
  have he := pick_eq a k hk
  have hlo : -k < a.tmod k := Int.lt_tmod_of_pos a (by omega)
  have hhi : a.tmod k < k := Int.tmod_lt_of_pos a (by omega)
  have h1 := Int.emod_nonneg a (show k ≠ 0 by omega)
  have HE := Lib.hid he
  clear he
  by_cases hn : a.tmod k < 0
  · go_enter Try.func13, Try.ntmps13
    go_wp2
    go_ret
    exact ⟨ret_int (by have := HE.out; omega), rfl⟩
  · go_enter Try.func13, Try.ntmps13
    go_wp2
    go_ret
    exact ⟨ret_int (by have := HE.out; omega), rfl⟩

/-- One question, at a slice's place i. -/
theorem ask_at {H : Type} {enc : TypeId × Value → H} {W : World} {base : Nat} {sp : Nat → Bool} {hd : Bool} {n : Nat} {cs : List Value} {x : DataW H × List MemPlace}
    (h : DataW.trod enc Try.prog W base sp hd n 32 cs = some x) : ∃ (t f : Int) (nw : Bool), cs = [.int .i64 t, .int .i64 f, .bool nw] ∧ (Lit.int .i64 t).wf = true ∧ (Lit.int .i64 f).wf = true := by
  obtain ⟨xs, m, rfl, _, hl, hxs, hx⟩ := DataW.trod_struct Try.underlying32 h
  have hc : Try.prog.cellsOf 32 = 3 := by kernel_rfl
  have hi : Try.prog.cellsOf 3 = 1 := by kernel_rfl
  have hb : Try.prog.cellsOf 4 = 1 := by kernel_rfl
  rw [hc] at hl
  match cs, hl with
  | [c0, c1, c2], _ =>
    have q0 := hx 0 _ rfl
    have q1 := hx 1 _ rfl
    have q2 := hx 2 _ rfl
    match xs, hxs with
    | [x0, x1, x2], _ =>
      simp [hi, hb] at q0 q1 q2
      obtain ⟨a, ea, _, wa⟩ := DataW.trod_int Try.underlying3 q0
      obtain ⟨b, eb, _, wb⟩ := DataW.trod_int Try.underlying3 q1
      obtain ⟨c, ec, _⟩ := DataW.trod_bool Try.underlying4 q2
      simp at ea eb ec
      exact ⟨a, b, c, by rw [ea, eb, ec], wa, wb⟩

theorem grant_at (a b c d : Int) (n r : Bool) (i : Int) (h : gB a b c d n = r) (h' : gI a b c d n = i) (w : World) :
    Calls Try.prog 11 #[.int .i64 a, .int .i64 b, .int .i64 c, .int .i64 d, .bool n] w fun e w' => e = .returned (.tuple #[.bool r, .int .i64 i]) ∧ w = w' := by
  rw [← h, ← h']; exact grant_any a b c d n w

/-- What the follower is told, by cases. -/
theorem once_cases (t o v f wt : Int) (nw : Bool) (hf : 1 ≤ f) (hv : t = o → wt = v) (hw : o < t → wt = 0) :
    (gB t o v f nw = false ∧ gI t o v f nw = v ∧ t < o) ∨ (gB t o v f nw = true ∧ gI t o v f nw = f ∧ nw = true ∧ o ≤ t ∧ (wt = 0 ∨ wt = f)) ∨
    (gB t o v f nw = false ∧ gI t o v f nw = wt ∧ o ≤ t ∧ (nw = false ∨ (wt ≠ 0 ∧ wt ≠ f))) := by
  by_cases h1 : t < o
  · left; grind [gB, gI, vOf]
  · right
    by_cases h2 : o < t
    · have h3 := hw h2
      cases nw <;> grind [gB, gI, vOf]
    · have h3 := hv (by omega)
      cases nw <;> grind [gB, gI, vOf]

/-- Whom each term's vote was granted lies in block g. -/
def WhoAt (g : Nat) (who : Nat → Int) (w : World) : Prop := (∀ j, j < 13 → w.cell? ⟨g, j, none⟩ = some (.int .i64 (who j))) ∧ (∀ j, w.frozen? ⟨g, j, none⟩ = false)
def OnceInv (own : Nat) (who : Nat → Int) : Prop := ∀ j, own < j → who j = 0
theorem whoAt_new (w : World) : WhoAt w.heap.size (fun _ => 0) (w.alloc (.cells #[.int .i64 0, .int .i64 0, .int .i64 0, .int .i64 0, .int .i64 0, .int .i64 0, .int .i64 0, .int .i64 0, .int .i64 0, .int .i64 0, .int .i64 0, .int .i64 0, .int .i64 0] 29)) := by
  refine ⟨fun j hj => ?_, fun j => ?_⟩
  · rw [World.cell?_alloc_at _ _ _ _ rfl]
    match j, hj with
    | 0, _ | 1, _ | 2, _ | 3, _ | 4, _ | 5, _ | 6, _ | 7, _ | 8, _ | 9, _ | 10, _ | 11, _ | 12, _ => rfl
  · simp

theorem WhoAt.drewN {g : Nat} {who : Nat → Int} {w : World} (h : WhoAt g who w) (n : Nat) : WhoAt g who (w.drewN n) := h
def upd (f : Nat → Int) (T : Nat) (F : Int) (j : Nat) : Int := if j = T then F else f j
theorem upd_same (f : Nat → Int) (T : Nat) (F : Int) : upd f T F T = F := if_pos rfl
theorem upd_other {f : Nat → Int} {T : Nat} {F : Int} {j : Nat} (h : j ≠ T) : upd f T F j = f j := if_neg h
theorem WhoAt.set {g : Nat} {who : Nat → Int} {w : World} (h : WhoAt g who w) (T : Nat) (F : Int) : WhoAt g (upd who T F) (w.setCell ⟨g, T, none⟩ (.int .i64 F)) := by
  refine ⟨fun j hj => ?_, fun j => ?_⟩
  · by_cases e : j = T
    · subst e
      have := h.1 j hj
      rw [upd_same]; exact World.cell?_setCell_same _ _ _ this
    · rw [upd_other e, World.cell?_setCell_other _ _ _ _ (fun h => e (by cases h; rfl))]
      exact h.1 j hj
  · rw [← h.2 j]; simp

set_option maxHeartbeats 1000000 in
set_option maxRecDepth 100000 in
theorem walk_VoteOnce {H : Type} {enc : TypeId × Value → H} {d : DataW H} {p : List MemPlace} (W : World) (ao : Option Addr) (len cap : Nat) (h : DataW.Trod enc Try.prog W 0 (fun _ => true) true 28 (.slice ao len cap) d p) :
    Calls Try.prog 6 #[.slice ao len cap] W fun e w' => e = .returned (.bool true) ∧ Below W.heap.size W w' := by
  obtain ⟨hlen, hsl⟩ := slice_cases Try.underlying28 (C := 3) (by kernel_rfl) (by decide) h
  unfold maxLen at hlen
  have hsl' : Hid (len = 0 ∨ ∃ (b off : Nat), ao = some ⟨b, off, none⟩ ∧ b < W.heap.size ∧ ∀ i, i < len → ∃ (t f : Int) (nw : Bool), W.cell? ⟨b, off + i * 3, none⟩ = some (.int .i64 t) ∧ W.cell? ⟨b, off + i * 3 + 1, none⟩ = some (.int .i64 f) ∧ W.cell? ⟨b, off + i * 3 + 2, none⟩ = some (.bool nw)) := by
    rcases hsl with h0 | ⟨b, off, n, D, Pl, rfl, _, hb, hx⟩
    · exact Or.inl h0
    · refine Or.inr ⟨b, off, rfl, hb, fun i hi => ?_⟩
      obtain ⟨cs, _, h2, h3⟩ := hx i hi
      obtain ⟨t, f, nw, rfl, _, _⟩ := ask_at h3
      exact ⟨t, f, nw, h2 0 (by decide), h2 1 (by decide), h2 2 (by decide)⟩
  clear h hsl
  go_enter Try.func6, Try.ntmps6
  go_wp2_with fail
  refine (awake_any _).mono ?_
  rintro e w1 ⟨rfl, hb1⟩
  go_wp2_with fail
  have hw0 : WhoAt w1.heap.size (fun _ => 0) (w1.alloc (.cells #[.int .i64 0, .int .i64 0, .int .i64 0, .int .i64 0, .int .i64 0, .int .i64 0, .int .i64 0, .int .i64 0, .int .i64 0, .int .i64 0, .int .i64 0, .int .i64 0, .int .i64 0] 29)) := whoAt_new w1
  have hg := hb1.size
  have hb2 : Below W.heap.size W (w1.alloc (.cells #[.int .i64 0, .int .i64 0, .int .i64 0, .int .i64 0, .int .i64 0, .int .i64 0, .int .i64 0, .int .i64 0, .int .i64 0, .int .i64 0, .int .i64 0, .int .i64 0, .int .i64 0] 29)) := hb1.alloc hg _
  generalize w1.alloc (.cells #[.int .i64 0, .int .i64 0, .int .i64 0, .int .i64 0, .int .i64 0, .int .i64 0, .int .i64 0, .int .i64 0, .int .i64 0, .int .i64 0, .int .i64 0, .int .i64 0, .int .i64 0] 29) = w2 at hw0 hb2 ⊢
  generalize w1.heap.size = g at hw0 hg ⊢
  clear hb1
  go_loopw [3, 4, 6] (fun o v i wr => ∃ (own : Nat) (who : Nat → Int) (k : Nat), k ≤ len ∧ i = .int .i64 k ∧ own ≤ 12 ∧ o = .int .i64 own ∧ v = .int .i64 (who own) ∧ OnceInv own who ∧ WhoAt g who wr ∧ Below W.heap.size W wr) (fun _ _ i _ => len - (intOf i).toNat)
  case atStart => exact ⟨0, fun _ => 0, 0, by omega, rfl, by omega, rfl, rfl, fun _ _ => rfl, hw0, hb2⟩
  case round =>
    obtain ⟨own, who, k, hk, rfl, ho, rfl, rfl, hinv, hwho, hbel⟩ := hrel
    clear hw0 hb2
    by_cases hkl : k < len
    · by_cases hk3 : k < 300
      · rcases hsl'.out with h0 | ⟨b, off, rfl, hbb, hx⟩
        · omega
        obtain ⟨t, f, nw, c0, c1, c2⟩ := hx k hkl
        clear hx
        rw [← hbel.cell (p := ⟨b, _, none⟩) hbb] at c0 c1 c2
        have hk3' : (k : Int) < 300 := by omega
        have hkl' : (k : Int) < len := by omega
        have t1 := Int.emod_nonneg t (show (12 : Int) ≠ 0 by decide)
        have t2 := Int.emod_lt_of_pos t (show (0 : Int) < 12 by decide)
        have f1 := Int.emod_nonneg f (show (9 : Int) ≠ 0 by decide)
        have f2 := Int.emod_lt_of_pos f (show (0 : Int) < 9 by decide)
        go_wp2_with fail
        go_quiet ((go_at_call 13; first | (with_reducible exact quietly (pick_any t 12 (by decide) (by decide) _)) | (with_reducible exact quietly (pick_any f 9 (by decide) (by decide) _))))
        obtain ⟨T, hT, T1, T2⟩ : ∃ T : Nat, 1 + t % 12 = (T : Int) ∧ 1 ≤ T ∧ T ≤ 12 := ⟨(1 + t % 12).toNat, by omega, by omega, by omega⟩
        obtain ⟨F, hF, F1⟩ : ∃ F : Int, 1 + f % 9 = F ∧ 1 ≤ F := ⟨_, rfl, by omega⟩
        rw [hT, hF]
        clear hT hF t1 t2 f1 f2
        have hcs := once_cases T own (who own) F (who T) nw F1 (fun e => by rw [show T = own by omega]) (fun e => hinv T (by omega))
        have cT := hwho.1 T (by omega)
        have cO := hwho.1 own (by omega)
        have fT := hwho.2 T
        rcases hcs with ⟨hg1, hi1, hlt⟩ | ⟨hg1, hi1, hn, hle, hor⟩ | ⟨hg1, hi1, hle, hor⟩
        · have hlt' : T < own := by omega
          go_wp2_with (go_at_call 11; (with_reducible refine (grant_at _ _ _ _ _ _ _ hg1 hi1 _).mono ?_); rintro e w' ⟨rfl, rfl⟩)
          go_roundw
          case rel => exact ⟨own, who, k + 1, by omega, by go_num, ho, rfl, rfl, hinv, hwho.drewN _, below_drewN hbel _⟩
          case measure => simp [intOf]; omega
        · obtain hle' | rfl : own < T ∨ T = own := by omega
          all_goals
            subst hn
            have hwho' : WhoAt g (upd who T F) ((wr.drewN nq).setCell ⟨g, T, none⟩ (.int .i64 F)) := (hwho.drewN nq).set T F
            have hinv' : OnceInv T (upd who T F) := fun j hj => by rw [upd_other (by omega)]; exact hinv j (by omega)
            have HW := Lib.hid hwho'
            have HI := Lib.hid hinv'
            clear hwho' hinv'
            by_cases hz : who T = 0
            · have z1 : (who T != 0) = false := by simp [hz]
              clear hz hor
              go_wp2_with (go_at_call 11; (with_reducible refine (grant_at _ _ _ _ _ _ _ hg1 hi1 _).mono ?_); rintro e w' ⟨rfl, rfl⟩)
              go_roundw
              case rel => exact ⟨T, _, k + 1, by omega, by go_num, T2, by go_num, by rw [upd_same], HI.out, HW.out, (below_drewN hbel _).setCell hg _⟩
              case measure => simp [intOf]; omega
            · have z1 : (who T != 0) = true := by simp [hz]
              have z2 : (who T != F) = false := by rcases hor with h | h; (exact absurd h hz); simp [h]
              clear hz hor
              go_wp2_with (go_at_call 11; (with_reducible refine (grant_at _ _ _ _ _ _ _ hg1 hi1 _).mono ?_); rintro e w' ⟨rfl, rfl⟩)
              go_roundw
              case rel => exact ⟨T, _, k + 1, by omega, by go_num, T2, by go_num, by rw [upd_same], HI.out, HW.out, (below_drewN hbel _).setCell hg _⟩
              case measure => simp [intOf]; omega
        · obtain hle' | rfl : own < T ∨ T = own := by omega
          all_goals
            have hinv' : OnceInv T who := fun j hj => hinv j (by omega)
            cases nw
            · clear hor
              go_wp2_with (go_at_call 11; (with_reducible refine (grant_at _ _ _ _ _ _ _ hg1 hi1 _).mono ?_); rintro e w' ⟨rfl, rfl⟩)
              go_roundw
              case rel => exact ⟨T, who, k + 1, by omega, by go_num, T2, by go_num, rfl, hinv', hwho.drewN _, below_drewN hbel _⟩
              case measure => simp [intOf]; omega
            · have hor' : who T ≠ 0 ∧ who T ≠ F := by simpa using hor
              have z1 : (who T == 0) = false := by simp [hor'.1]
              have z2 : (who T == F) = false := by simp [hor'.2]
              clear hor hor'
              go_wp2_with (go_at_call 11; (with_reducible refine (grant_at _ _ _ _ _ _ _ hg1 hi1 _).mono ?_); rintro e w' ⟨rfl, rfl⟩)
              go_roundw
              case rel => exact ⟨T, who, k + 1, by omega, by go_num, T2, by go_num, rfl, hinv', hwho.drewN _, below_drewN hbel _⟩
              case measure => simp [intOf]; omega
      · go_wp2
        go_ret
        exact ⟨rfl, hbel⟩
    · go_wp2
      go_ret
      exact ⟨rfl, hbel⟩
end Go.Proofs.Ythokoihgbionmaa
