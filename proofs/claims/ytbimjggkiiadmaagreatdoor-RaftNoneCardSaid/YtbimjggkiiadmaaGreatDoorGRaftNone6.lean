/- A call behind which the peer leads: what it tells. Conditions: it has told no round yet. -/
import Derived.Test.YtbimjggkiiadmaaGreatDoorGRaftNone5
import Derived.StillTailTactics
import Derived.Shelf.SlicesE.DeleteFunc
import Derived.Lib.SliceRun
set_option linter.unusedVariables false
set_option linter.unusedSimpArgs false
namespace Go.Proofs.YtbimjggkiiadmaaGreatDoor
open Go.RowKit
set_option maxRecDepth 20000
/-- What stays where memory only grows, and where what is told or a peer is written. -/
def Firm2 (Q : World → Prop) : Prop := (∀ w w', Q w → Below w.heap.size w w' → Q w') ∧ ∀ w w' g cs T fr, Q w → w.heap[g]? = some (.cells cs T fr) → (T = 45 ∨ T = 52) → w.grownBy w' (some g) → Q w'
theorem firm2_true : Firm2 fun _ => True := ⟨fun _ _ _ _ => trivial, fun _ _ _ _ _ _ _ _ _ _ => trivial⟩
theorem firm2_num (b : Nat) (x : Int) : Firm2 fun w => w.heap[b]? = some (.cells #[.int .i64 x] 3 (0, 0)) := ⟨fun w w' h hb => (hb.block b (Array.getElem?_eq_some_iff.1 h).1).trans h, fun w w' g cs T fr h hg hT hgr => (hgr.block b (Array.getElem?_eq_some_iff.1 h).1 (fun e => by
    have e := Option.some.inj e
    subst e
    rw [h] at hg
    simp only [Option.some.injEq, Obj.cells.injEq] at hg
    obtain ⟨_, rfl, _⟩ := hg
    rcases hT with e | e <;> exact absurd e (by decide))).trans h⟩
theorem PP.rd_zero (t : PP) (h : t.rd = .all 0) : t.cells.setIfInBounds 29 (.int .i64 0) = t.cells := by
  rw [PP.set_rd1]
  cases t
  simp only at h
  subst h
  rfl
theorem arr_ten (k : Nat) (h : k < 10) (w : World) : (Instr.index 46 (.agg #[.int .i64 0, .int .i64 0, .int .i64 0, .int .i64 0, .int .i64 0, .int .i64 0, .int .i64 0, .int .i64 0, .int .i64 0, .int .i64 0]) (.int .i64 k)).run Tryz.prog w = .ok (.int .i64 0) w := by
  obtain rfl | rfl | rfl | rfl | rfl | rfl | rfl | rfl | rfl | rfl : k = 0 ∨ k = 1 ∨ k = 2 ∨ k = 3 ∨ k = 4 ∨ k = 5 ∨ k = 6 ∨ k = 7 ∨ k = 8 ∨ k = 9 := by omega
  all_goals kernel_rfl
theorem rd_cells {w : World} {B pb lb : Nat} {t : PP} {vs : List Int} {ps : List EnP} (h : PeerIs w B pb lb t vs ps) (hrd : t.rd = .all 0) : w.cell? ⟨pb, 28, none⟩ = some (.int .i64 0) ∧ w.cell? ⟨pb, 29, none⟩ = some (.int .i64 0) ∧ w.cell? ⟨pb, 30, none⟩ = some (.int .i64 0) ∧ w.cell? ⟨pb, 31, none⟩ = some (.int .i64 0) ∧ w.cell? ⟨pb, 32, none⟩ = some (.int .i64 0) ∧ w.cell? ⟨pb, 33, none⟩ = some (.int .i64 0) ∧ w.cell? ⟨pb, 34, none⟩ = some (.int .i64 0) ∧ w.cell? ⟨pb, 35, none⟩ = some (.int .i64 0) ∧ w.cell? ⟨pb, 36, none⟩ = some (.int .i64 0) ∧ w.cell? ⟨pb, 37, none⟩ = some (.int .i64 0) := by
  refine ⟨(h.cells 28).trans ?_, (h.cells 29).trans ?_, (h.cells 30).trans ?_, (h.cells 31).trans ?_, (h.cells 32).trans ?_, (h.cells 33).trans ?_, (h.cells 34).trans ?_, (h.cells 35).trans ?_, (h.cells 36).trans ?_, (h.cells 37).trans ?_⟩ <;> (simp only [PP.cells, hrd]; rfl)
set_option maxHeartbeats 16000000 in
theorem pcall_led {w : World} {B pb lb : Nat} {s : PP} {vs : List Int} {ps : List EnP} (F : Nat) (cap : Array Value) (e1 : ∀ args w, (callFunc F args).run Tryz.prog w = .ok (.enter F args) w) (h : PeerIs w B pb lb s vs ps) (hi : 0 < s.id) (led : Bool) (hr : decide (s.role = 3) = led) (qs : List EnP) (R : PP → Prop) (Q : World → Prop) (hQQ : Firm2 Q) (ht : ∀ t, R t → (t.role = 3 ∧ t.rd = .all 0 ∧ t.own = 0 ∧ t.id = 1 ∧ t.sure = 0) ∧ t.lost = false ∧ t.letters.oneCell' = true ∧ t.snap.oneCell' = true)
    (hF : ∀ w1, w.grownBy w1 (some pb) → PeerIs w1 B pb lb s.begun vs ps → Calls Tryz.prog F cap w1 (EndIs fun w2 => ∃ t, PeerIs w2 B pb lb t vs qs ∧ R t ∧ Q w2 ∧ Below B w1 w2 ∧ KB w1 w2)) (hB : B ≤ w.heap.size) :
    Calls Tryz.prog 21 #[.pointer (some ⟨pb, 0, none⟩), .func (.func F) #[] cap] w (TickIs (fun t w => R t ∧ Q w) B pb lb vs qs w) := by
  have c0 : w.cell? ⟨pb, 38, none⟩ = some (.int .i64 s.id) := h.cells 38
  have c1 : w.cell? ⟨pb, 41, none⟩ = some (.int .u8 s.role) := h.cells 41
  have hb0 := (Below.refl w.heap.size w).alloc (Nat.le_refl _) (.cells #[.int .i64 0, .int .i64 0, .int .i64 0, .slice none 0 0, .int .i64 0, .pointer none, .int .i64 0, .bool false] 45)
  have hk0 := heap_alloc_new w (.cells #[.int .i64 0, .int .i64 0, .int .i64 0, .slice none 0 0, .int .i64 0, .pointer none, .int .i64 0, .bool false] 45)
  go_enter Tryz.func21, Tryz.ntmps21
  go_upto_region 1 with fail
  generalize w.alloc (.cells #[.int .i64 0, .int .i64 0, .int .i64 0, .slice none 0 0, .int .i64 0, .pointer none, .int .i64 0, .bool false] 45) = w0 at hb0 hk0 ⊢
  have d0 := (hb0.cell (p := ⟨pb, 38, none⟩) h.lt).trans c0
  have d1 := (hb0.cell (p := ⟨pb, 41, none⟩) h.lt).trans c1
  have H0 := Lib.hid (h.below hb0 (Nat.le_refl _))
  have hne : (s.role == 3) = led := by rw [← hr]; by_cases h3 : s.role = 3 <;> simp [h3]
  have HB0 := Lib.hid hb0
  have HK0 := Lib.hid hk0
  have hpl := h.lt
  have HF := Lib.hid hF
  have HT := Lib.hid ht
  have HQQ := Lib.hid hQQ
  have HKB := Lib.hid (fun (wq : World) (hg : w.grownBy wq (some pb)) => (KB.refl w).grow h.blk (Or.inl rfl) hg)
  clear h c0 c1 hb0 hk0 hF ht hr hQQ
  go_wp2_with fail
  refine (pthere_any pb s.id w0 d0 hi).mono ?_
  rintro e w' ⟨rfl, rfl⟩
  go_upto_region 4 with fail
  have HC := Lib.hid (fun (wS : World) (hS : ∃ q, PeerIs wS B pb lb q vs ps ∧ q.term = s.term ∧ q.voted = s.voted ∧ q.commit = s.commit) => (show wS.cell? ⟨pb, 0, none⟩ = some (.int .i64 s.term) ∧ wS.cell? ⟨pb, 1, none⟩ = some (.int .i64 s.voted) ∧ wS.cell? ⟨pb, 4, none⟩ = some (.int .i64 s.commit) from by
    obtain ⟨q, hq, e1, e2, e3⟩ := hS
    exact ⟨by rw [← e1]; exact hq.cells 0, by rw [← e2]; exact hq.cells 1, by rw [← e3]; exact hq.cells 4⟩))
  refine heldS_begin (fun wS => ∃ q, PeerIs wS B pb lb q vs ps ∧ q.term = s.term ∧ q.voted = s.voted ∧ q.commit = s.commit) (by kernel_rfl) (⟨s, H0.out.below (Below.refl w0.heap.size w0).drew (Nat.le_refl _), rfl, rfl, rfl⟩) ?_
  intro hS0
  (first | (refine takeS_no 0 rfl (by kernel_rfl) (by kernel_rfl) (by kernel_rfl) (fun _ _ _ h => h) (by rfl) (by assumption) ?_) | (refine takeS_yes (v := ?_) 0 rfl (by kernel_rfl) (by kernel_rfl) (by kernel_rfl) (fun _ _ _ h => h) (by rfl) (by assumption) ?_ ?_; rotate_left; focus (intro wS hSw; obtain ⟨q0, q1, q4⟩ := HC.out wS hSw; go_simp; first | done | with_reducible rfl)))
  (try simp only [Act.put, List.setIfInBounds_toArray, List.set_cons_zero, List.set_cons_succ])
  (first | (refine takeS_no 1 rfl (by kernel_rfl) (by kernel_rfl) (by kernel_rfl) (fun _ _ _ h => h) (by rfl) (by assumption) ?_) | (refine takeS_yes (v := ?_) 1 rfl (by kernel_rfl) (by kernel_rfl) (by kernel_rfl) (fun _ _ _ h => h) (by rfl) (by assumption) ?_ ?_; rotate_left; focus (intro wS hSw; obtain ⟨q0, q1, q4⟩ := HC.out wS hSw; go_simp; first | done | with_reducible rfl)))
  (try simp only [Act.put, List.setIfInBounds_toArray, List.set_cons_zero, List.set_cons_succ])
  (first | (refine takeS_no 2 rfl (by kernel_rfl) (by kernel_rfl) (by kernel_rfl) (fun _ _ _ h => h) (by rfl) (by assumption) ?_) | (refine takeS_yes (v := ?_) 2 rfl (by kernel_rfl) (by kernel_rfl) (by kernel_rfl) (fun _ _ _ h => h) (by rfl) (by assumption) ?_ ?_; rotate_left; focus (intro wS hSw; obtain ⟨q0, q1, q4⟩ := HC.out wS hSw; go_simp; first | done | with_reducible rfl)))
  (try simp only [Act.put, List.setIfInBounds_toArray, List.set_cons_zero, List.set_cons_succ])
  (first | (refine takeS_no 3 rfl (by kernel_rfl) (by kernel_rfl) (by kernel_rfl) (fun _ _ _ h => h) (by rfl) (by assumption) ?_) | (refine takeS_yes (v := ?_) 3 rfl (by kernel_rfl) (by kernel_rfl) (by kernel_rfl) (fun _ _ _ h => h) (by rfl) (by assumption) ?_ ?_; rotate_left; focus (intro wS hSw; obtain ⟨q0, q1, q4⟩ := HC.out wS hSw; go_simp; first | done | with_reducible rfl)))
  (try simp only [Act.put, List.setIfInBounds_toArray, List.set_cons_zero, List.set_cons_succ])
  (first | (refine takeS_no 4 rfl (by kernel_rfl) (by kernel_rfl) (by kernel_rfl) (fun _ _ _ h => h) (by rfl) (by assumption) ?_) | (refine takeS_yes (v := ?_) 4 rfl (by kernel_rfl) (by kernel_rfl) (by kernel_rfl) (fun _ _ _ h => h) (by rfl) (by assumption) ?_ ?_; rotate_left; focus (intro wS hSw; obtain ⟨q0, q1, q4⟩ := HC.out wS hSw; go_simp; first | done | with_reducible rfl)))
  (try simp only [Act.put, List.setIfInBounds_toArray, List.set_cons_zero, List.set_cons_succ])
  (first | (refine takeS_no 5 rfl (by kernel_rfl) (by kernel_rfl) (by kernel_rfl) (fun _ _ _ h => h) (by rfl) (by assumption) ?_) | (refine takeS_yes (v := ?_) 5 rfl (by kernel_rfl) (by kernel_rfl) (by kernel_rfl) (fun _ _ _ h => h) (by rfl) (by assumption) ?_ ?_; rotate_left; focus (intro wS hSw; obtain ⟨q0, q1, q4⟩ := HC.out wS hSw; go_simp; first | done | with_reducible rfl)))
  (try simp only [Act.put, List.setIfInBounds_toArray, List.set_cons_zero, List.set_cons_succ])
  (first | (refine takeS_no 6 rfl (by kernel_rfl) (by kernel_rfl) (by kernel_rfl) (fun _ _ _ h => h) (by rfl) (by assumption) ?_) | (refine takeS_yes (v := ?_) 6 rfl (by kernel_rfl) (by kernel_rfl) (by kernel_rfl) (fun _ _ _ h => h) (by rfl) (by assumption) ?_ ?_; rotate_left; focus (intro wS hSw; obtain ⟨q0, q1, q4⟩ := HC.out wS hSw; go_simp; first | done | with_reducible rfl)))
  (try simp only [Act.put, List.setIfInBounds_toArray, List.set_cons_zero, List.set_cons_succ])
  (first | (refine takeS_no 7 rfl (by kernel_rfl) (by kernel_rfl) (by kernel_rfl) (fun _ _ _ h => h) (by rfl) (by assumption) ?_) | (refine takeS_yes (v := ?_) 7 rfl (by kernel_rfl) (by kernel_rfl) (by kernel_rfl) (fun _ _ _ h => h) (by rfl) (by assumption) ?_ ?_; rotate_left; focus (intro wS hSw; obtain ⟨q0, q1, q4⟩ := HC.out wS hSw; go_simp; first | done | with_reducible rfl)))
  (try simp only [Act.put, List.setIfInBounds_toArray, List.set_cons_zero, List.set_cons_succ])
  (first | (refine takeS_no 8 rfl (by kernel_rfl) (by kernel_rfl) (by kernel_rfl) (fun _ _ _ h => h) (by rfl) (by assumption) ?_) | (refine takeS_yes (v := ?_) 8 rfl (by kernel_rfl) (by kernel_rfl) (by kernel_rfl) (fun _ _ _ h => h) (by rfl) (by assumption) ?_ ?_; rotate_left; focus (intro wS hSw; obtain ⟨q0, q1, q4⟩ := HC.out wS hSw; go_simp; first | done | with_reducible rfl)))
  (try simp only [Act.put, List.setIfInBounds_toArray, List.set_cons_zero, List.set_cons_succ])
  (first | (refine takeS_no 9 rfl (by kernel_rfl) (by kernel_rfl) (by kernel_rfl) (fun _ _ _ h => h) (by rfl) (by assumption) ?_) | (refine takeS_yes (v := ?_) 9 rfl (by kernel_rfl) (by kernel_rfl) (by kernel_rfl) (fun _ _ _ h => h) (by rfl) (by assumption) ?_ ?_; rotate_left; focus (intro wS hSw; obtain ⟨q0, q1, q4⟩ := HC.out wS hSw; go_simp; first | done | with_reducible rfl)))
  (try simp only [Act.put, List.setIfInBounds_toArray, List.set_cons_zero, List.set_cons_succ])
  (first | (refine takeS_no 10 rfl (by kernel_rfl) (by kernel_rfl) (by kernel_rfl) (fun _ _ _ h => h) (by rfl) (by assumption) ?_) | (refine takeS_yes (v := ?_) 10 rfl (by kernel_rfl) (by kernel_rfl) (by kernel_rfl) (fun _ _ _ h => h) (by rfl) (by assumption) ?_ ?_; rotate_left; focus (intro wS hSw; obtain ⟨q0, q1, q4⟩ := HC.out wS hSw; go_simp; first | done | with_reducible rfl)))
  (try simp only [Act.put, List.setIfInBounds_toArray, List.set_cons_zero, List.set_cons_succ])
  (first | (refine takeS_no 11 rfl (by kernel_rfl) (by kernel_rfl) (by kernel_rfl) (fun _ _ _ h => h) (by rfl) (by assumption) ?_) | (refine takeS_yes (v := ?_) 11 rfl (by kernel_rfl) (by kernel_rfl) (by kernel_rfl) (fun _ _ _ h => h) (by rfl) (by assumption) ?_ ?_; rotate_left; focus (intro wS hSw; obtain ⟨q0, q1, q4⟩ := HC.out wS hSw; go_simp; first | done | with_reducible rfl)))
  (try simp only [Act.put, List.setIfInBounds_toArray, List.set_cons_zero, List.set_cons_succ])
  (first | (refine takeS_no 12 rfl (by kernel_rfl) (by kernel_rfl) (by kernel_rfl) (fun _ _ _ h => h) (by rfl) (by assumption) ?_) | (refine takeS_yes (v := ?_) 12 rfl (by kernel_rfl) (by kernel_rfl) (by kernel_rfl) (fun _ _ _ h => h) (by rfl) (by assumption) ?_ ?_; rotate_left; focus (intro wS hSw; obtain ⟨q0, q1, q4⟩ := HC.out wS hSw; go_simp; first | done | with_reducible rfl)))
  (try simp only [Act.put, List.setIfInBounds_toArray, List.set_cons_zero, List.set_cons_succ])
  (first | (refine takeS_no 13 rfl (by kernel_rfl) (by kernel_rfl) (by kernel_rfl) (fun _ _ _ h => h) (by rfl) (by assumption) ?_) | (refine takeS_yes (v := ?_) 13 rfl (by kernel_rfl) (by kernel_rfl) (by kernel_rfl) (fun _ _ _ h => h) (by rfl) (by assumption) ?_ ?_; rotate_left; focus (intro wS hSw; obtain ⟨q0, q1, q4⟩ := HC.out wS hSw; go_simp; first | done | with_reducible rfl)))
  (try simp only [Act.put, List.setIfInBounds_toArray, List.set_cons_zero, List.set_cons_succ])
  (first | (refine takeS_no 14 rfl (by kernel_rfl) (by kernel_rfl) (by kernel_rfl) (fun _ _ _ h => h) (by rfl) (by assumption) ?_) | (refine takeS_yes (v := ?_) 14 rfl (by kernel_rfl) (by kernel_rfl) (by kernel_rfl) (fun _ _ _ h => h) (by rfl) (by assumption) ?_ ?_; rotate_left; focus (intro wS hSw; obtain ⟨q0, q1, q4⟩ := HC.out wS hSw; go_simp; first | done | with_reducible rfl)))
  (try simp only [Act.put, List.setIfInBounds_toArray, List.set_cons_zero, List.set_cons_succ])
  (first | (refine takeS_no 15 rfl (by kernel_rfl) (by kernel_rfl) (by kernel_rfl) (fun _ _ _ h => h) (by rfl) (by assumption) ?_) | (refine takeS_yes (v := ?_) 15 rfl (by kernel_rfl) (by kernel_rfl) (by kernel_rfl) (fun _ _ _ h => h) (by rfl) (by assumption) ?_ ?_; rotate_left; focus (intro wS hSw; obtain ⟨q0, q1, q4⟩ := HC.out wS hSw; go_simp; first | done | with_reducible rfl)))
  (try simp only [Act.put, List.setIfInBounds_toArray, List.set_cons_zero, List.set_cons_succ])
  (first | (refine takeS_no 16 rfl (by kernel_rfl) (by kernel_rfl) (by kernel_rfl) (fun _ _ _ h => h) (by rfl) (by assumption) ?_) | (refine takeS_yes (v := ?_) 16 rfl (by kernel_rfl) (by kernel_rfl) (by kernel_rfl) (fun _ _ _ h => h) (by rfl) (by assumption) ?_ ?_; rotate_left; focus (intro wS hSw; obtain ⟨q0, q1, q4⟩ := HC.out wS hSw; go_simp; first | done | with_reducible rfl)))
  (try simp only [Act.put, List.setIfInBounds_toArray, List.set_cons_zero, List.set_cons_succ])
  (first | (refine takeS_no 17 rfl (by kernel_rfl) (by kernel_rfl) (by kernel_rfl) (fun _ _ _ h => h) (by rfl) (by assumption) ?_) | (refine takeS_yes (v := ?_) 17 rfl (by kernel_rfl) (by kernel_rfl) (by kernel_rfl) (fun _ _ _ h => h) (by rfl) (by assumption) ?_ ?_; rotate_left; focus (intro wS hSw; obtain ⟨q0, q1, q4⟩ := HC.out wS hSw; go_simp; first | done | with_reducible rfl)))
  (try simp only [Act.put, List.setIfInBounds_toArray, List.set_cons_zero, List.set_cons_succ])
  (first | (refine takeS_no 18 rfl (by kernel_rfl) (by kernel_rfl) (by kernel_rfl) (fun _ _ _ h => h) (by rfl) (by assumption) ?_) | (refine takeS_yes (v := ?_) 18 rfl (by kernel_rfl) (by kernel_rfl) (by kernel_rfl) (fun _ _ _ h => h) (by rfl) (by assumption) ?_ ?_; rotate_left; focus (intro wS hSw; obtain ⟨q0, q1, q4⟩ := HC.out wS hSw; go_simp; first | done | with_reducible rfl)))
  (try simp only [Act.put, List.setIfInBounds_toArray, List.set_cons_zero, List.set_cons_succ])
  refine takeS_alone 19 rfl (by kernel_rfl) (by rfl) (fun K hK => ?_)
  skip
  (have hp := H0.out.below (Below.refl w0.heap.size w0).drew (Nat.le_refl _); refine wp_store_mid 45 (.tmp 39) (.tmp 37) rfl pb 0 #[.int .i64 s.term, .int .i64 s.voted, .int .i64 0, .slice none 0 0, .int .i64 s.commit, .pointer none, .int .i64 0, .bool false] rfl rfl hp.there info_out (by simp [Value.oneCell']) ?_; have hS9 : ∃ q, PeerIs (w0.drew.setCells pb 0 [.int .i64 s.term, .int .i64 s.voted, .int .i64 0, .slice none 0 0, .int .i64 s.commit, .pointer none, .int .i64 0, .bool false]) B pb lb q vs ps ∧ q.term = s.term ∧ q.voted = s.voted ∧ q.commit = s.commit := ⟨_, hp.begun, rfl, rfl, rfl⟩; have HP := Lib.hid hp.begun)
  refine hK.out _ _ (by assumption) ?_
  clear hK K
  (try simp only [Act.put, List.setIfInBounds_toArray, List.set_cons_zero, List.set_cons_succ])
  refine wpAnyH_done (by kernel_rfl) ?_ _
  (try simp only [Exit.then])
  (try (rename (∀ (_ : Act) (_ : World), _ → _) => hK0; refine hK0 _ _ ?_; clear hK0))
  have HG := Lib.hid ((grown_bel HB0.out (some pb)).trans ((grown_bel (Below.refl w0.heap.size w0).drew (some pb)).trans (grown_cells pb [.int .i64 s.term, .int .i64 s.voted, .int .i64 0, .slice none 0 0, .int .i64 s.commit, .pointer none, .int .i64 0, .bool false] w0.drew 0)))
  have HG0 := Lib.hid ((grown_bel (Below.refl w0.heap.size w0).drew (some pb)).trans (grown_cells pb [.int .i64 s.term, .int .i64 s.voted, .int .i64 0, .slice none 0 0, .int .i64 s.commit, .pointer none, .int .i64 0, .bool false] w0.drew 0))
  clear hS0 hS9 hp d0 d1
  generalize w0.drew.setCells pb 0 [.int .i64 s.term, .int .i64 s.voted, .int .i64 0, .slice none 0 0, .int .i64 s.commit, .pointer none, .int .i64 0, .bool false] = w1 at HG HG0 HP ⊢
  go_wp2_with fail
  refine (HF.out w1 HG.out HP.out).mono ?_
  rintro e w2 ⟨rfl, t, hp2, hq2, hqw, hb2, hg2⟩
  have HQW := Lib.hid hqw
  clear hqw
  obtain ⟨⟨ht, hrd, hown, hid, hsure⟩, htl, htm⟩ := HT.out t hq2
  have HT := Lib.hid ht
  have HRD := Lib.hid hrd
  have HOWN := Lib.hid hown
  have HID := Lib.hid hid
  have HSU := Lib.hid hsure
  have HQ2 := Lib.hid hq2
  clear hq2 ht hrd hown hid hsure
  have hlt0 : w.heap.size < w0.heap.size := (Array.getElem?_eq_some_iff.1 HK0.out).1
  have hk2 : w2.heap[w.heap.size]? = some (.cells #[.int .i64 0, .int .i64 0, .int .i64 0, .slice none 0 0, .int .i64 0, .pointer none, .int .i64 0, .bool false] 45 (0, 0)) := by
    have hk1 := (HG0.out.block _ hlt0 (fun e => by injection e with e; have := hpl; omega)).trans HK0.out
    exact (hg2 _ _ _ _ hk1 (by decide) (by decide) (by decide) (by decide) (by decide)).trans hk1
  have HKB2 := Lib.hid ((HKB.out _ HG.out).trans hg2)
  have hrg := hp2.range
  have HP2 := Lib.hid hp2
  have HB2 := Lib.hid hb2
  have hb3 := (Below.refl w2.heap.size w2).alloc (Nat.le_refl _) (.cells #[.int .i64 0, .int .i64 0, .int .i64 0, .slice none 0 0, .int .i64 0, .pointer none, .int .i64 0, .bool false] 45)
  have hk3 := heap_alloc_new w2 (.cells #[.int .i64 0, .int .i64 0, .int .i64 0, .slice none 0 0, .int .i64 0, .pointer none, .int .i64 0, .bool false] 45)
  clear hg2 hb2 hp2
  go_upto_region 7 with (first | (refine wpList_load_mid rfl 45 (.tmp 44) rfl pb 0 rfl t.out.toList _ hrg Tryz.underlying45 rfl info_out ?_) | (refine wpList_store_row rfl 45 (.tmp 6) (.tmp 45) rfl w2.heap.size t.out.toList.toArray rfl rfl 45 _ hk3 info_out rfl (by simp [PP.out, Value.oneCell']; exact htm) ?_))
  have hb4 := hb3.grown (grown_rowR (w2.alloc (.cells #[.int .i64 0, .int .i64 0, .int .i64 0, .slice none 0 0, .int .i64 0, .pointer none, .int .i64 0, .bool false] 45)) w2.heap.size t.out.toList.toArray) hb3.size (fun q hq => by cases hq; exact Nat.le_refl _)
  have hk4 := setRow_heap (w2.alloc (.cells #[.int .i64 0, .int .i64 0, .int .i64 0, .slice none 0 0, .int .i64 0, .pointer none, .int .i64 0, .bool false] 45)) w2.heap.size _ t.out.toList.toArray _ _ hk3
  generalize (w2.alloc (.cells #[.int .i64 0, .int .i64 0, .int .i64 0, .slice none 0 0, .int .i64 0, .pointer none, .int .i64 0, .bool false] 45)).setRow w2.heap.size t.out.toList.toArray = w3 at hb4 hk4 ⊢
  clear hb3 hk3 hrg
  have hp3 := HP2.out.below hb4 (Nat.le_refl _)
  have hl2 : w.heap.size < w2.heap.size := (Array.getElem?_eq_some_iff.1 hk2).1
  have e0 : w3.cell? ⟨pb, 41, none⟩ = some (.int .u8 t.role) := hp3.cells 41
  have e2 : w3.cell? ⟨w2.heap.size, 7, none⟩ = some (.bool t.lost) := Go.Joins.cell_of_block hk4 7
  have f2 := Go.Joins.unfrozen_of_block hk4 7
  have hne3 : (t.role == 3) = true := by simpa using HT.out
  have hne4 : (t.role != 3) = false := by simp [HT.out]
  have hk5 := Go.Joins.block_setCell (i := 7) hk4 (.bool false)
  have HP3 := Lib.hid hp3
  have HB4 := Lib.hid hb4
  have HK4 := Lib.hid hk4
  have HTL := Lib.hid htl
  have hq7 : t.out.toList.toArray.setIfInBounds 7 (.bool false) = t.out := by simp [PP.out, htl]
  rw [hq7] at hk5
  have hb5 := hb4.setCell (p := ⟨w2.heap.size, 7, none⟩) (Nat.le_refl _) (.bool false)
  have hone : t.out.toList.toArray.all (·.oneCell') = true := by simp [PP.out, Value.oneCell']; exact htm
  clear hp3 hb4 hk4 htl htm hq7
  cases led
  all_goals
    go_upto_region 8 with fail
    generalize w3.setCell ⟨w2.heap.size, 7, none⟩ (.bool false) = w4 at hk5 hb5 ⊢
    have hp4 := HP2.out.below hb5 (Nat.le_refl _)
    have g0 : w4.cell? ⟨pb, 41, none⟩ = some (.int .u8 t.role) := hp4.cells 41
    have g1 : w4.cell? ⟨pb, 38, none⟩ = some (.int .i64 1) := (hp4.cells 38).trans (congrArg (fun x => some (Value.int .i64 x)) HID.out)
    have g2 : w4.cell? ⟨pb, 46, none⟩ = some (.int .i64 0) := (hp4.cells 46).trans (congrArg (fun x => some (Value.int .i64 x)) HOWN.out)
    have hp5 := hp4.below (Below.refl w4.heap.size w4).drew (Nat.le_refl _)
    have c5 : w4.drew.cell? ⟨pb, 29, none⟩ = some (.int .i64 t.rd.a1) := hp5.cells 29
    have f5 := hp5.soft 29
    have hp6 := hp5.set 29 (.int .i64 0) t (PP.rd_zero t HRD.out) rfl rfl
    have hn2 : pb ≠ w2.heap.size := fun e => absurd HP2.out.lt (by rw [e]; exact Nat.lt_irrefl _)
    have hn1 : pb ≠ w.heap.size := fun e => absurd hpl (by rw [e]; exact Nat.lt_irrefl _)
    have hk6 := (heap_setCell_other w4.drew ⟨pb, 29, none⟩ w2.heap.size (.int .i64 0) (fun e => hn2 e.symm)).trans hk5
    have hk7 := (heap_setCell_other w4.drew ⟨pb, 29, none⟩ w.heap.size (.int .i64 0) (fun e => hn1 e.symm)).trans ((hb5.block _ hl2).trans hk2)
    have HB6 := Lib.hid (((hb5.mono (Nat.le_trans hB (Nat.le_of_lt hl2))).drew).setCell (p := ⟨pb, 29, none⟩) hp5.low (.int .i64 0))
    have HP6 := Lib.hid hp6
    have HK6 := Lib.hid hk6
    have HK7 := Lib.hid hk7
    have HKB6 := Lib.hid ((HKB2.out.low hb5.drew (Nat.le_of_lt hl2)).grow hp5.blk (Or.inl rfl) (grown_setL w4.drew ⟨pb, 29, none⟩ (.int .i64 0)))
    have HQ6 := Lib.hid (HQQ.out.2 _ _ _ _ _ _ (HQQ.out.1 _ _ HQW.out hb5.drew) hp5.blk (Or.inr rfl) (grown_setL w4.drew ⟨pb, 29, none⟩ (.int .i64 0)))
    clear hb5 hk5 hp4 e0 e2 f2 hp5 hp6 hk6 hk7
    go_upto_region 9 with fail
    go_still_tail 13, (by kernel_rfl)
    change wpList _ _ _ _ _ w4.drew
    generalize w4.drew = w4d at c5 f5 HB6 HP6 HK6 HK7 HKB6 HQ6 ⊢
    go_upto_region 10 with fail
    generalize w4d.setCell ⟨pb, 29, none⟩ (.int .i64 0) = w5 at HB6 HP6 HK6 HK7 HKB6 HQ6 ⊢
    obtain ⟨z0, z1, z2, z3, z4, z5, z6, z7, z8, z9⟩ := rd_cells HP6.out HRD.out
    clear c5 f5 g0 g1 g2
    obtain ⟨i9, hi9, hz0, hz1, hz2⟩ := info_parts infoInt
    go_wp2_with fail
    go_loopw [8, 9, 10, 11, 78] (fun _ _ _ _ i wr => ∃ k : Nat, k ≤ 10 ∧ i = .int .i64 k ∧ Below w5.heap.size w5 wr) (fun _ _ _ _ i _ => 10 - (intOf i).toNat)
    case atStart => exact ⟨0, by omega, rfl, Below.refl _ _⟩
    case round =>
      obtain ⟨k, hk, rfl, hbel⟩ := hrel
      by_cases hlt : k < 10
      · generalize wr = wx at hbel ⊢
        have i0 := arr_ten k hlt
        have dk : decide ((k : Int) < 10) = true := by simp; omega
        have HPr := Lib.hid (HP6.out.below hbel (Nat.le_refl _))
        clear z0 z1 z2 z3 z4 z5 z6 z7 z8 z9
        obtain ⟨z0, z1, z2, z3, z4, z5, z6, z7, z8, z9⟩ := rd_cells HPr.out HRD.out
        go_wp2_with fail
        go_loopw [9, 10, 11, 86] (fun v _ _ j wq => ∃ m : Nat, m ≤ 10 ∧ j = .int .i64 m ∧ (∃ l, wq.ownsRow wx.heap.size 3 1 v m l) ∧ Below wx.heap.size wx wq) (fun _ _ _ j _ => 10 - (intOf j).toNat)
        case atStart => exact ⟨0, by omega, rfl, ⟨[], World.ownsRow_nil _ _ _ _⟩, Below.refl _ _⟩
        case round =>
          obtain ⟨m, hm, rfl, ⟨l, hown⟩, hbq⟩ := hrel
          by_cases hlm : m < 10
          · have j0 := arr_ten m hlm
            have hbs := hbq.size
            clear z0 z1 z2 z3 z4 z5 z6 z7 z8 z9
            go_wp2_with (at_builtin; refine wpList_append_own _ rfl (.tmp 93) (.tmp 95) 24 rfl wx.heap.size 3 i9 (.int .i64 0) 1 8 Tryz.underlying24 hi9 hz0 hz1 hz2 rfl (by decide) _ _ _ rfl (World.ownsRow.alloc hown _) ⟨wr.heap.size, 0, none⟩ 1 1 [.int .i64 m] rfl rfl (cell_one_new _ _ _) (by simp [Value.oneCell']) (by unfold maxLen; omega) (by omega) (by simp; omega) ?_)
            intro v' w9 hown' hgrow _
            have hb9 := (hbq.alloc hbs _).grown hgrow (by simp; omega) (own_below' hown)
            clear hown hgrow
            go_wp2_with fail
            go_roundw
            case rel => exact ⟨m + 1, by omega, by go_num, ⟨_, by simpa using hown'⟩, hb9⟩
            case measure => simp [intOf]; omega
          · obtain rfl : m = 10 := by omega
            have hb9 := hbel.trans (hbq.mono hbel.size)
            have y6 : wr.cell? ⟨w2.heap.size, 6, none⟩ = some (.int .i64 0) := (Go.Joins.cell_of_block ((hb9.block _ (Array.getElem?_eq_some_iff.1 HK6.out).1).trans HK6.out) 6).trans (congrArg (fun x => some (Value.int .i64 x)) HSU.out)
            clear z0 z1 z2 z3 z4 z5 z6 z7 z8 z9 hown
            go_wp2_with fail
            go_roundw
            case rel => exact ⟨k + 1, by omega, by go_num, hb9⟩
            case measure => simp [intOf]; omega
      · obtain rfl : k = 10 := by omega
        clear z0 z1 z2 z3 z4 z5 z6 z7 z8 z9
        have hk8 := (hbel.block _ (Array.getElem?_eq_some_iff.1 HK6.out).1).trans HK6.out
        have hkr := (hbel.block _ (Array.getElem?_eq_some_iff.1 HK7.out).1).trans HK7.out
        have hrg5 : wr.rangeAt w2.heap.size 0 t.out.toList := World.rangeAt_of_block hk8 0 8
        have hgr := grown_rowR wr w.heap.size t.out.toList.toArray
        have HZ := Lib.hid (setRow_heap wr w.heap.size _ t.out.toList.toArray _ _ hkr)
        have HP9 := Lib.hid ((HP6.out.below hbel (Nat.le_refl _)).keptT hkr (by decide) (by decide) (by decide) (by decide) (by decide) hgr)
        have hB6 : B ≤ w5.heap.size := Nat.le_trans HP6.out.low (Nat.le_of_lt HP6.out.lt)
        have HBZ := Lib.hid ((((((HB0.out.mono hB).trans ((show Below B w0 w1 from ⟨HG0.out.os, HG0.out.tape, HG0.out.output, HG0.out.size, fun k hk => HG0.out.block k (by omega) (fun e => by injection e with e; have := HP.out.low; omega)⟩).trans HB2.out))).trans HB6.out).trans (hbel.mono hB6)).grown hgr (Nat.le_trans hB6 hbel.size) (fun q hq => by cases hq; exact hB))
        have hw5 : w.heap.size ≤ w5.heap.size := Nat.le_trans (Nat.le_of_lt (Array.getElem?_eq_some_iff.1 HK7.out).1) (Nat.le_refl _)
        have HKB9 := Lib.hid ((HKB6.out.low hbel hw5).row hgr (Nat.le_refl _))
        have HQ9 := Lib.hid (HQQ.out.2 _ _ _ _ _ _ (HQQ.out.1 _ _ HQ6.out hbel) hkr (Or.inl rfl) hgr)
        clear hgr hk8
        go_wp2_with (first | (refine wpList_load_mid rfl 45 (.tmp 6) rfl w2.heap.size 0 rfl t.out.toList _ hrg5 Tryz.underlying45 rfl info_out ?_) | (refine wpList_store_row rfl 45 (.tmp 4) (.tmp 111) rfl w.heap.size t.out.toList.toArray rfl rfl 45 _ hkr info_out rfl hone ?_))
        exact bodyPost_ret (results_cell_row rfl _ _ w.heap.size 45 _ _ _ rfl HZ.out Tryz.underlying45 rfl info_out) rfl ⟨t, rfl, HP9.out, ⟨HQ2.out, HQ9.out⟩, HBZ.out, HKB9.out⟩
end Go.Proofs.YtbimjggkiiadmaaGreatDoor
/- A tick: what call tells of its closure, it tells. A tick that waits. Conditions: the peer lies so. -/
namespace Go.Proofs.YtbimjggkiiadmaaGreatDoor
open Go.RowKit
set_option maxRecDepth 20000
set_option maxHeartbeats 4000000 in
theorem ptick_any {w : World} {B pb lb : Nat} {vs : List Int} {qs : List EnP} (draw : Int) (R : PP → World → Prop) (hQ : ∀ t, Firm (R t)) (hB : B ≤ w.heap.size) (htm : ∀ t w, R t w → t.letters.oneCell' = true ∧ t.snap.oneCell' = true)
    (hF : ∀ w1 tb ub, Below w.heap.size w w1 → w.heap.size ≤ tb ∧ w.heap.size ≤ ub → w1.cell? ⟨tb, 0, none⟩ = some (.pointer (some ⟨pb, 0, none⟩)) → w1.cell? ⟨ub, 0, none⟩ = some (.int .i64 draw) →
      Calls Tryz.prog 21 #[.pointer (some ⟨pb, 0, none⟩), .func (.func 28) #[] #[.pointer (some ⟨tb, 0, none⟩), .pointer (some ⟨ub, 0, none⟩)]] w1 (TickIs R B pb lb vs qs w1)) :
    Calls Tryz.prog 8 #[.pointer (some ⟨pb, 0, none⟩), .int .i64 draw] w (TickIs R B pb lb vs qs w) := by
  have hb1 := (Below.refl w.heap.size w).alloc (Nat.le_refl _) (.cells #[.pointer (some ⟨pb, 0, none⟩)] 41)
  have k1 := heap_alloc_new w (.cells #[.pointer (some ⟨pb, 0, none⟩)] 41)
  have s1 : (w.alloc (.cells #[.pointer (some ⟨pb, 0, none⟩)] 41)).heap.size = w.heap.size + 1 := by simp
  have HQ := Lib.hid hQ
  have HF := Lib.hid hF
  have HTM := Lib.hid htm
  clear hQ hF htm
  go_enter Tryz.func8, Tryz.ntmps8
  go_upto_region 1 with fail
  generalize w.alloc (.cells #[.pointer (some ⟨pb, 0, none⟩)] 41) = wa at hb1 k1 s1 ⊢
  have hb2 := hb1.alloc (by omega) (.cells #[.int .i64 draw] 3)
  have hb12 := (Below.refl wa.heap.size wa).alloc (Nat.le_refl _) (.cells #[.int .i64 draw] 3)
  have k2 := heap_alloc_new wa (.cells #[.int .i64 draw] 3)
  have s2 : (wa.alloc (.cells #[.int .i64 draw] 3)).heap.size = w.heap.size + 1 + 1 := by simp [s1]
  generalize wa.alloc (.cells #[.int .i64 draw] 3) = wb at hb2 hb12 k2 s2 ⊢
  have hb3 := hb2.alloc (by omega) (.cells #[.int .i64 0, .int .i64 0, .int .i64 0, .slice none 0 0, .int .i64 0, .pointer none, .int .i64 0, .bool false] 45)
  have hb23 := (Below.refl wb.heap.size wb).alloc (Nat.le_refl _) (.cells #[.int .i64 0, .int .i64 0, .int .i64 0, .slice none 0 0, .int .i64 0, .pointer none, .int .i64 0, .bool false] 45)
  have k3 := heap_alloc_new wb (.cells #[.int .i64 0, .int .i64 0, .int .i64 0, .slice none 0 0, .int .i64 0, .pointer none, .int .i64 0, .bool false] 45)
  generalize wb.alloc (.cells #[.int .i64 0, .int .i64 0, .int .i64 0, .slice none 0 0, .int .i64 0, .pointer none, .int .i64 0, .bool false] 45) = wc at hb3 hb23 k3 ⊢
  rw [s2] at k3
  rw [s1] at k2
  have j1 : wc.cell? ⟨w.heap.size, 0, none⟩ = some (.pointer (some ⟨pb, 0, none⟩)) := Go.Joins.cell_of_block ((hb23.block _ (by omega)).trans ((hb12.block _ (by omega)).trans k1)) 0
  have j2 : wc.cell? ⟨w.heap.size + 1, 0, none⟩ = some (.int .i64 draw) := Go.Joins.cell_of_block ((hb23.block _ (by omega)).trans k2) 0
  have HB3 := Lib.hid hb3
  have HK3 := Lib.hid k3
  clear hb1 hb2 hb12 hb3 hb23 k1 k2 k3
  go_wp2_with fail
  refine (HF.out wc w.heap.size (w.heap.size + 1) HB3.out ⟨Nat.le_refl _, Nat.le_succ _⟩ j1 j2).mono ?_
  rintro e w2 ⟨t, rfl, hp2, hq2, hb2, hk2⟩
  have hone : t.out.toList.toArray.all (·.oneCell') = true := by simp [PP.out, Value.oneCell']; exact HTM.out t w2 hq2
  have hkr := (hk2 _ _ _ _ HK3.out (by decide) (by decide) (by decide) (by decide) (by decide)).trans HK3.out
  have hgr := grown_rowR w2 (w.heap.size + 1 + 1) t.out.toList.toArray
  have HZ := Lib.hid (setRow_heap w2 (w.heap.size + 1 + 1) _ t.out.toList.toArray _ _ hkr)
  have HP := Lib.hid (hp2.keptT hkr (by decide) (by decide) (by decide) (by decide) (by decide) hgr)
  have HQ4 := Lib.hid ((HQ.out t).2 _ _ _ _ _ hq2 hkr hgr)
  have HKB := Lib.hid (((KB.of_below HB3.out).trans hk2).row hgr (by omega))
  have hs2 : B ≤ w2.heap.size := Nat.le_trans hp2.low (Nat.le_of_lt hp2.lt)
  have HBZ := Lib.hid (((HB3.out.mono hB).trans hb2).grown hgr hs2 (fun q hq => by cases hq; omega))
  clear hp2 hq2 hb2 hk2 hgr j1 j2
  go_wp2_with (refine wpList_store_row rfl 45 (.tmp 4) (.tmp 7) rfl (w.heap.size + 1 + 1) t.out.toList.toArray rfl rfl 45 _ hkr info_out rfl hone ?_)
  exact bodyPost_ret (results_cell_row rfl _ _ (w.heap.size + 1 + 1) 45 _ _ _ rfl HZ.out Tryz.underlying45 rfl info_out) rfl ⟨t, rfl, HP.out, HQ4.out, HBZ.out, HKB.out⟩
theorem tick_enters : ∀ args w, (callFunc 28 args).run Tryz.prog w = .ok (.enter 28 args) w := enters_of Tryz.func28 (by kernel_rfl) rfl
theorem ptick_wait {w : World} {B pb lb : Nat} {vs : List Int} {ps : List EnP} {first log : Value} (draw k lim : Int) (h : PeerIs w B pb lb (.fresh 1 first log k lim) vs ps) (hk9 : 0 ≤ k ∧ k < 9) (hd : draw = 0 ∨ draw = 20) (hlim : lim = 0 ∨ lim = 10) :
    Calls Tryz.prog 8 #[.pointer (some ⟨pb, 0, none⟩), .int .i64 draw] w (TickIs (fun t _ => t = .fresh 1 first log (k + 1) 10) B pb lb vs ps w) := by
  have hB : B ≤ w.heap.size := Nat.le_trans h.low (Nat.le_of_lt h.lt)
  refine ptick_any draw _ (fun t => firm_const _) hB (fun t w h => by rw [h]; exact ⟨rfl, rfl⟩) fun w1 tb ub hb1 hge ht hu => ?_
  have h1 := h.below hb1 (Nat.le_refl _)
  have hpt : pb < tb ∧ pb < ub := ⟨Nat.lt_of_lt_of_le h.lt hge.1, Nat.lt_of_lt_of_le h.lt hge.2⟩
  refine pcall_rest _ _ tick_enters h1 (by show (0 : Int) < 1; decide) (by show (1 : Int) ≠ 3; decide) ps _ (fun t => firm_const _) (fun t w h => by rw [h]; exact ⟨by show (1 : Int) ≠ 3; decide, rfl, rfl, rfl⟩) (fun w2 hg2 h2 => ?_) (Nat.le_trans hB hb1.size)
  have t1 : w2.cell? ⟨tb, 0, none⟩ = some (.pointer (some ⟨pb, 0, none⟩)) := hg2.cell ht (fun e => by have := Option.some.inj e; have := hpt.1; simp only at *; omega)
  have t2 : w2.cell? ⟨ub, 0, none⟩ = some (.int .i64 draw) := hg2.cell hu (fun e => by have := Option.some.inj e; have := hpt.2; simp only at *; omega)
  refine (wait_any draw k lim h2 t1 t2 ⟨by omega, by omega⟩ rfl rfl rfl hk9 hd hlim).mono ?_
  rintro e w3 ⟨rfl, hp3, hg3⟩
  exact ⟨rfl, _, hp3, rfl, (Below.refl B w2).grown hg3 (Nat.le_trans h2.low (Nat.le_of_lt h2.lt)) (fun q hq => by cases hq; exact h2.low), (KB.refl w2).grow h2.blk (Or.inl rfl) hg3⟩
end Go.Proofs.YtbimjggkiiadmaaGreatDoor
/- The voters of a peer but itself. Conditions: the peer lies so, and it has voters. -/
namespace Go.Proofs.YtbimjggkiiadmaaGreatDoor
open Go.RowKit Go.Sort
set_option maxRecDepth 20000
/-- What a call that tells numbers tells. -/
def ListE (l : List Int) (w : World) (e : Ending) (w' : World) : Prop :=
  ∃ ao cap, e = .returned (.slice ao l.length cap) ∧ IntsIn w' w'.heap.size ao l ∧ (∀ p, ao = some p → w.heap.size ≤ p.block) ∧ Below w.heap.size w w'
theorem othersclo_any (i x : Int) (tb pb : Nat) (W : World) (h1 : W.cell? ⟨tb, 0, none⟩ = some (.pointer (some ⟨pb, 0, none⟩))) (h2 : W.cell? ⟨pb, 38, none⟩ = some (.int .i64 i)) :
    FnGives Tryz.prog 63 #[.pointer (some ⟨tb, 0, none⟩)] #[.int .i64 x] (.bool (x == i)) W := by
  show Calls Tryz.prog 63 #[.int .i64 x, .pointer (some ⟨tb, 0, none⟩)] W _
  go_enter Tryz.func63, Tryz.ntmps63
  go_wp2_with fail
  go_ret
  exact ⟨rfl, 0, rfl⟩
theorem others_pred (i : Int) (tb pb : Nat) (w : World) (h1 : w.cell? ⟨tb, 0, none⟩ = some (.pointer (some ⟨pb, 0, none⟩))) (h2 : w.cell? ⟨pb, 38, none⟩ = some (.int .i64 i)) :
    PredAt Tryz.prog 63 #[.pointer (some ⟨tb, 0, none⟩)] (Value.int .i64) (fun x => x == i) w :=
  fun W x hb => othersclo_any i x tb pb W ((hb.cell (p := ⟨tb, 0, none⟩) (World.block_lt_of_cell? w _ h1)).trans h1) ((hb.cell (p := ⟨pb, 38, none⟩) (World.block_lt_of_cell? w _ h2)).trans h2)
theorem others_over (i : Int) (tb pb blk off size : Nat) (w : World) (n1 : tb ≠ blk) (n2 : pb ≠ blk) (h1 : w.cell? ⟨tb, 0, none⟩ = some (.pointer (some ⟨pb, 0, none⟩))) (h2 : w.cell? ⟨pb, 38, none⟩ = some (.int .i64 i)) :
    PredOver Tryz.prog 63 #[.pointer (some ⟨tb, 0, none⟩)] (Value.int .i64) (fun x => x == i) blk off size w :=
  fun n os dk x _ => othersclo_any i x tb pb _
    (by
      unfold sortWorld
      rw [cell?_grow _ _ _ (by show tb < (putRow _ _ _ _ _).heap.size; rw [size_putRow]; exact World.block_lt_of_cell? w _ h1), cell?_putRow_other _ _ blk off _ _ (Or.inl n1)]
      exact h1)
    (by
      unfold sortWorld
      rw [cell?_grow _ _ _ (by show pb < (putRow _ _ _ _ _).heap.size; rw [size_putRow]; exact World.block_lt_of_cell? w _ h2), cell?_putRow_other _ _ blk off _ _ (Or.inl n2)]
      exact h2)
theorem others_enters : ∀ args w, (callFunc 63 args).run Tryz.prog w = .ok (.enter 63 args) w := enters_of Tryz.func63 (by kernel_rfl) rfl
theorem grown_putI (w : World) (g n : Nat) (d : Array Int) : w.grownBy (putRow (Value.int .i64) (Sort.ahead w n) g 0 d) (some g) := by
  refine ⟨rfl, rfl, rfl, by simp, fun k hk hne => ?_⟩
  have : g ≠ k := fun e => hne (by rw [e])
  simp [putRow, mapBlock, Sort.ahead, Array.getElem?_modify, this]
theorem holds_own {w : World} {base g c : Nat} {xs : List Int} (h : w.ownsRow base 3 1 (.slice (some ⟨g, 0, none⟩) xs.length c) xs.length (xs.flatMap iCells)) : Holds (Value.int .i64) w g 0 xs.toArray := fun j hj => by
  have hj' : j < xs.length := hj
  have hc := own_rowsIn iCells_len (sub := fun _ _ _ => True) rfl h fun _ _ => trivial
  rcases hc with h0 | ⟨b, off, he, hb, hx⟩
  · rw [h0] at hj'; exact absurd hj' (Nat.not_lt_zero _)
  · have he' := Option.some.inj he
    simp only [Addr.mk.injEq] at he'
    obtain ⟨rfl, rfl, _⟩ := he'
    have := (hx j xs[j] (List.getElem?_eq_getElem hj')).1 0 (by omega)
    refine ⟨?_, ?_⟩
    · rw [show 0 + j = 0 + j * 1 + 0 by omega, this]
      simp [iCells, hj']
    · exact World.ownsRow.frozenAt h (0 + j)
set_option maxHeartbeats 2000000 in
theorem pothers_any {w : World} {B pb lb : Nat} {s : PP} {vs us : List Int} {ps : List EnP} (h : PeerIs w B pb lb s vs ps) (hi : 0 < s.id) (hu : votS vs ps = us) (hp : PSmall ps) (hl : ps.length ≤ 1099511627776) (hv : vs.length ≤ 1099511627776) (h0 : 0 < us.length) (hul : us.length ≤ 1099511627776) :
    Calls Tryz.prog 30 #[.pointer (some ⟨pb, 0, none⟩)] w (ListE (us.filter fun x => !(x == s.id)) w) := by
  have hb1 := (Below.refl w.heap.size w).alloc (Nat.le_refl _) (.cells #[.pointer (some ⟨pb, 0, none⟩)] 41)
  have k1 := heap_alloc_new w (.cells #[.pointer (some ⟨pb, 0, none⟩)] 41)
  have H := Lib.hid h
  have HU := Lib.hid hu
  clear h hu
  go_enter Tryz.func30, Tryz.ntmps30
  go_upto_region 1 with fail
  generalize w.alloc (.cells #[.pointer (some ⟨pb, 0, none⟩)] 41) = wa at hb1 k1 ⊢
  have j1 := Go.Joins.cell_of_block k1 0
  have hla := (Array.getElem?_eq_some_iff.1 k1).1
  have HP := Lib.hid (H.out.below hb1 (Nat.le_refl _))
  have HB := Lib.hid hb1
  clear hb1 k1
  go_wp2_with fail
  refine (pvoters_any HP.out hi HU.out hp hl hv).mono ?_
  rintro e w1 ⟨a1, n1, c1, rfl, rfl, ho1, hb2⟩
  have hex : ∃ g, a1 = some ⟨g, 0, none⟩ := by
    rcases Go.Joins.ownsRow_forms ho1 with ⟨e, hz⟩ | ⟨g, c, e⟩
    · omega
    · simp only [Value.slice.injEq] at e
      exact ⟨g, e.1⟩
  obtain ⟨g, rfl⟩ := hex
  have hge := ownsRow_base ho1
  have t1 : w1.cell? ⟨w.heap.size, 0, none⟩ = some (.pointer (some ⟨pb, 0, none⟩)) := (hb2.cell (p := ⟨w.heap.size, 0, none⟩) hla).trans j1
  have t2 : w1.cell? ⟨pb, 38, none⟩ = some (.int .i64 s.id) := (hb2.cell (p := ⟨pb, 38, none⟩) HP.out.lt).trans (HP.out.cells 38)
  have hH := holds_own ho1
  have hlt := HP.out.lt
  have hcon := Tryz.slices_DeleteFunc (Value.int .i64) (fun _ => rfl) (fun x => x == s.id) 63 #[.pointer (some ⟨w.heap.size, 0, none⟩)] others_enters 0 (fun w => by kernel_rfl) g 0 c1 us.toArray w1 (others_pred s.id w.heap.size pb w1 t1 t2) (others_over s.id w.heap.size pb g 0 _ w1 (by omega) (by omega) t1 t2) hH (by show us.length ≤ _; omega) (ownsRow_cap ho1)
  change Calls Tryz.prog _ #[.slice (some ⟨g, 0, none⟩) us.length c1, _] _ _ at hcon
  have HG := Lib.hid (fun (q : Nat) (d : Array Int) => grown_putI w1 g q d)
  have HH := Lib.hid hH
  have HO := Lib.hid ho1
  have HB2 := Lib.hid hb2
  have HC := Lib.hid hcon
  clear ho1 hb2 hH hcon j1
  go_wp2_with fail
  refine HC.out.mono ?_
  rintro e w2 ⟨rfl, q, hw2⟩
  have HW := Lib.hid hw2
  clear hw2
  go_wp2_with fail
  go_ret
  refine ⟨some ⟨g, 0, none⟩, c1, rfl, Or.inr ⟨g, 0, rfl, ?_, fun i hi' => ?_⟩, fun p hp => ?_, ?_⟩
  · rw [HW.out]; exact Nat.lt_of_lt_of_le (ownsRow_lt HO.out) (HG.out q _).size
  · rw [HW.out]
    have hsz : ((us.filter fun x => !(x == s.id)) ++ List.replicate (us.length - (us.filter fun x => !(x == s.id)).length) (0 : Int)).toArray.size = us.toArray.size := by
      have := List.length_filter_le (fun x => !(x == s.id)) us
      simp
      omega
    have hh := holds_putRow (Value.int .i64) (Sort.ahead w1 q) g 0 us.toArray ((us.filter fun x => !(x == s.id)) ++ List.replicate (us.length - (us.filter fun x => !(x == s.id)).length) (0 : Int)).toArray HH.out hsz i (by
      have := List.length_filter_le (fun x => !(x == s.id)) us
      simp
      omega)
    refine hh.1.trans ?_
    congr 2
    have hi2 : i < ((us.filter fun x => !(x == s.id)) ++ List.replicate (us.length - (us.filter fun x => !(x == s.id)).length) (0 : Int)).length := by simp; omega
    rw [List.getElem!_toArray, getElem!_pos _ i hi2, List.getElem_append_left hi', List.getD_eq_getElem?_getD, List.getElem?_eq_getElem hi']
    rfl
  · cases hp; exact Nat.le_trans HB.out.size hge
  · rw [HW.out]
    exact (HB.out.trans (HB2.out.mono HB.out.size)).grown (HG.out q _) (Nat.le_trans HB.out.size HB2.out.size) (fun q hq => by cases hq; omega)
end Go.Proofs.YtbimjggkiiadmaaGreatDoor
