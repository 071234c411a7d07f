/- The small methods of a peer: there, Leads, Voters. Conditions: the peer lies so. -/
import Derived.Test.YtbimjggkiiadmaaGreatDoorGRaftNone3
import Derived.Lib.SlicesCompact
import Derived.Lib.RowBridge
import Derived.Laws.BitsAllLaws
import Derived.Test.YtbimjggkiiadmaaGreatDoorGRaftNone0
set_option linter.unusedVariables false
set_option linter.unusedSimpArgs false
namespace Go.Proofs.YtbimjggkiiadmaaGreatDoor
open Go.RowKit
set_option maxRecDepth 20000
theorem pthere_any (pb : Nat) (id : Int) (w : World) (h0 : w.cell? ⟨pb, 38, none⟩ = some (.int .i64 id)) (hi : 0 < id) :
    Calls Tryz.prog 19 #[.pointer (some ⟨pb, 0, none⟩)] w fun e w' => e = .returned (.bool true) ∧ w = w' := by
  have e1 : decide ((0 : Int) < id) = true := by simpa using hi
  go_enter Tryz.func19, Tryz.ntmps19
  go_wp2_with fail
  go_ret
  exact ⟨rfl, rfl⟩
theorem pthere_nil (w : World) : Calls Tryz.prog 19 #[.pointer none] w fun e w' => e = .returned (.bool false) ∧ w = w' := by
  go_enter Tryz.func19, Tryz.ntmps19
  go_wp2_with fail
  go_ret
  exact ⟨rfl, rfl⟩
theorem pthere_none (pb : Nat) (w : World) (h0 : w.cell? ⟨pb, 38, none⟩ = some (.int .i64 0)) : Calls Tryz.prog 19 #[.pointer (some ⟨pb, 0, none⟩)] w fun e w' => e = .returned (.bool false) ∧ w = w' := by
  go_enter Tryz.func19, Tryz.ntmps19
  go_wp2_with fail
  go_ret
  exact ⟨rfl, rfl⟩
/-- What a call reads of a peer. -/
theorem PeerIs.cells {w : World} {B pb lb : Nat} {s : PP} {vs : List Int} {ps : List EnP} (h : PeerIs w B pb lb s vs ps) (k : Nat) : w.cell? ⟨pb, k, none⟩ = s.cells[k]? := Go.Joins.cell_of_block h.blk k
theorem pleads_any {w : World} {B pb lb : Nat} {s : PP} {vs : List Int} {ps : List EnP} (h : PeerIs w B pb lb s vs ps) (hi : 0 < s.id) (b : Bool) (hr : decide (s.role = 3) = b) :
    Calls Tryz.prog 12 #[.pointer (some ⟨pb, 0, none⟩)] w fun e w' => e = .returned (.bool b) ∧ w = w' := by
  have c0 : w.cell? ⟨pb, 38, none⟩ = some (.int .i64 s.id) := h.cells 38
  have c1 : w.cell? ⟨pb, 41, none⟩ = some (.int .u8 s.role) := h.cells 41
  generalize s.role = r at c1 hr
  generalize s.id = i at c0 hi
  clear h
  subst hr
  by_cases h3 : r = 3
  · subst h3
    go_enter Tryz.func12, Tryz.ntmps12
    go_wp2_with fail
    refine (pthere_any pb i w c0 hi).mono ?_
    rintro e w' ⟨rfl, rfl⟩
    go_wp2_with fail
    go_ret
    exact ⟨rfl, rfl⟩
  · have e1 : (r == 3) = false := by simpa using h3
    go_enter Tryz.func12, Tryz.ntmps12
    go_wp2_with fail
    refine (pthere_any pb i w c0 hi).mono ?_
    rintro e w' ⟨rfl, rfl⟩
    go_wp2_with fail
    go_ret
    exact ⟨by simp [h3], rfl⟩
set_option maxHeartbeats 1000000 in
theorem pvoters_any {w : World} {B pb lb : Nat} {s : PP} {vs us : List Int} {ps : List EnP} (h : PeerIs w B pb lb s vs ps) (hi : 0 < s.id) (hu : votS vs ps = us) (hp : PSmall ps) (hl : ps.length ≤ 1099511627776) (hv : vs.length ≤ 1099511627776) :
    Calls Tryz.prog 16 #[.pointer (some ⟨pb, 0, none⟩)] w (IntsE us w) := by
  have hlt := h.lt
  have c0 : w.cell? ⟨pb, 38, none⟩ = some (.int .i64 s.id) := h.cells 38
  obtain ⟨a, c, hf, hn, hz⟩ := h.firsts
  have c1 : w.cell? ⟨pb, 39, none⟩ = some (.slice a vs.length c) := (h.cells 39).trans (congrArg some hf)
  have c2 : w.cell? ⟨pb, 40, none⟩ = some (.pointer (some ⟨lb, 0, none⟩)) := (h.cells 40).trans (congrArg some h.lg)
  obtain ⟨v, es, hL, hm⟩ := h.log
  have hlen : es.length ≤ 1099511627776 := by rw [len_map hm]; exact hl
  have HN := Lib.hid hn
  have HZ := Lib.hid hz
  have HL := Lib.hid hL
  have HQ := Lib.hid (ensArg_own hL.ens (by rw [hm]; exact hp))
  have HU := Lib.hid (show votS vs (es.map En.plain) = us by rw [hm]; exact hu)
  generalize s.id = i at c0 hi
  obtain ⟨n, hvn⟩ : ∃ n, vs.length = n := ⟨_, rfl⟩
  rw [hvn] at c1 hv
  have HVN := Lib.hid hvn
  clear h hf hn hz hL hm hu hp hvn
  go_enter Tryz.func16, Tryz.ntmps16
  go_wp2_with fail
  refine (pthere_any pb i w c0 hi).mono ?_
  rintro e w' ⟨rfl, rfl⟩
  go_upto_region 3 with fail
  have HC := Lib.hid (fun (wS : World) (hb : Below w.heap.size w wS) => And.intro ((hb.cell (p := ⟨pb, 39, none⟩) hlt).trans c1) ((hb.cell (p := ⟨pb, 40, none⟩) hlt).trans c2))
  have hS0 : Below w.heap.size w w.drew := (Below.refl _ _).drew
  refine heldS_begin (fun w' => Below w.heap.size w w') (by kernel_rfl) ((Below.refl _ _).drew) ?_
  intro hS0
  (first | (refine takeS_no 0 rfl (by kernel_rfl) (by kernel_rfl) (by kernel_rfl) (fun _ _ _ h => h) (by rfl) (by assumption) ?_) | (refine takeS_yes (v := ?_) 0 rfl (by kernel_rfl) (by kernel_rfl) (by kernel_rfl) (fun _ _ _ h => h) (by rfl) (by assumption) ?_ ?_; rotate_left; focus (intro wS hSw; obtain ⟨q0, q1⟩ := HC.out wS hSw; go_simp; first | done | with_reducible rfl)))
  (try simp only [Act.put, List.setIfInBounds_toArray, List.set_cons_zero, List.set_cons_succ])
  (first | (refine takeS_no 1 rfl (by kernel_rfl) (by kernel_rfl) (by kernel_rfl) (fun _ _ _ h => h) (by rfl) (by assumption) ?_) | (refine takeS_yes (v := ?_) 1 rfl (by kernel_rfl) (by kernel_rfl) (by kernel_rfl) (fun _ _ _ h => h) (by rfl) (by assumption) ?_ ?_; rotate_left; focus (intro wS hSw; obtain ⟨q0, q1⟩ := HC.out wS hSw; go_simp; first | done | with_reducible rfl)))
  (try simp only [Act.put, List.setIfInBounds_toArray, List.set_cons_zero, List.set_cons_succ])
  (first | (refine takeS_no 2 rfl (by kernel_rfl) (by kernel_rfl) (by kernel_rfl) (fun _ _ _ h => h) (by rfl) (by assumption) ?_) | (refine takeS_yes (v := ?_) 2 rfl (by kernel_rfl) (by kernel_rfl) (by kernel_rfl) (fun _ _ _ h => h) (by rfl) (by assumption) ?_ ?_; rotate_left; focus (intro wS hSw; obtain ⟨q0, q1⟩ := HC.out wS hSw; go_simp; first | done | with_reducible rfl)))
  (try simp only [Act.put, List.setIfInBounds_toArray, List.set_cons_zero, List.set_cons_succ])
  (first | (refine takeS_no 3 rfl (by kernel_rfl) (by kernel_rfl) (by kernel_rfl) (fun _ _ _ h => h) (by rfl) (by assumption) ?_) | (refine takeS_yes (v := ?_) 3 rfl (by kernel_rfl) (by kernel_rfl) (by kernel_rfl) (fun _ _ _ h => h) (by rfl) (by assumption) ?_ ?_; rotate_left; focus (intro wS hSw; obtain ⟨q0, q1⟩ := HC.out wS hSw; go_simp; first | done | with_reducible rfl)))
  (try simp only [Act.put, List.setIfInBounds_toArray, List.set_cons_zero, List.set_cons_succ])
  (first | (refine takeS_no 4 rfl (by kernel_rfl) (by kernel_rfl) (by kernel_rfl) (fun _ _ _ h => h) (by rfl) (by assumption) ?_) | (refine takeS_yes (v := ?_) 4 rfl (by kernel_rfl) (by kernel_rfl) (by kernel_rfl) (fun _ _ _ h => h) (by rfl) (by assumption) ?_ ?_; rotate_left; focus (intro wS hSw; obtain ⟨q0, q1⟩ := HC.out wS hSw; go_simp; first | done | with_reducible rfl)))
  (try simp only [Act.put, List.setIfInBounds_toArray, List.set_cons_zero, List.set_cons_succ])
  (first | (refine takeS_no 5 rfl (by kernel_rfl) (by kernel_rfl) (by kernel_rfl) (fun _ _ _ h => h) (by rfl) (by assumption) ?_) | (refine takeS_yes (v := ?_) 5 rfl (by kernel_rfl) (by kernel_rfl) (by kernel_rfl) (fun _ _ _ h => h) (by rfl) (by assumption) ?_ ?_; rotate_left; focus (intro wS hSw; obtain ⟨q0, q1⟩ := HC.out wS hSw; go_simp; first | done | with_reducible rfl)))
  (try simp only [Act.put, List.setIfInBounds_toArray, List.set_cons_zero, List.set_cons_succ])
  (first | (refine takeS_no 6 rfl (by kernel_rfl) (by kernel_rfl) (by kernel_rfl) (fun _ _ _ h => h) (by rfl) (by assumption) ?_) | (refine takeS_yes (v := ?_) 6 rfl (by kernel_rfl) (by kernel_rfl) (by kernel_rfl) (fun _ _ _ h => h) (by rfl) (by assumption) ?_ ?_; rotate_left; focus (intro wS hSw; obtain ⟨q0, q1⟩ := HC.out wS hSw; go_simp; first | done | with_reducible rfl)))
  (try simp only [Act.put, List.setIfInBounds_toArray, List.set_cons_zero, List.set_cons_succ])
  (first | (refine takeS_no 7 rfl (by kernel_rfl) (by kernel_rfl) (by kernel_rfl) (fun _ _ _ h => h) (by rfl) (by assumption) ?_) | (refine takeS_yes (v := ?_) 7 rfl (by kernel_rfl) (by kernel_rfl) (by kernel_rfl) (fun _ _ _ h => h) (by rfl) (by assumption) ?_ ?_; rotate_left; focus (intro wS hSw; obtain ⟨q0, q1⟩ := HC.out wS hSw; go_simp; first | done | with_reducible rfl)))
  (try simp only [Act.put, List.setIfInBounds_toArray, List.set_cons_zero, List.set_cons_succ])
  refine takeS_alone 8 rfl (by kernel_rfl) (by rfl) (fun K hK => ?_)
  go_simp
  (refine (voters_any B lb 0 0 v es a n c vs w.drew (HL.out.below hS0 (Nat.le_refl _)) HVN.out (HN.out.below noSub_kept hS0 (Nat.le_refl _)) HZ.out HQ.out hlen hv).mono ?_; rintro e w1 ⟨a1, n1, c1', rfl, hl1, ho1, hb1⟩; have hS1 : Below w.heap.size w w1 := hS0.trans hb1; have HO := Lib.hid (And.intro hl1 (And.intro ho1 hb1)); clear hl1 ho1 hb1)
  refine hK.out _ _ (by assumption) ?_
  clear hK K
  (try simp only [Act.put, List.setIfInBounds_toArray, List.set_cons_zero, List.set_cons_succ])
  (first | (refine takeS_no 9 rfl (by kernel_rfl) (by kernel_rfl) (by kernel_rfl) (fun _ _ _ h => h) (by rfl) (by assumption) ?_) | (refine takeS_yes (v := ?_) 9 rfl (by kernel_rfl) (by kernel_rfl) (by kernel_rfl) (fun _ _ _ h => h) (by rfl) (by assumption) ?_ ?_; rotate_left; focus (intro wS hSw; obtain ⟨q0, q1⟩ := HC.out wS hSw; go_simp; first | done | with_reducible rfl)))
  (try simp only [Act.put, List.setIfInBounds_toArray, List.set_cons_zero, List.set_cons_succ])
  refine wpAnyH_done (by kernel_rfl) ?_ _
  (try simp only [Exit.then])
  (try (rename (∀ (_ : Act) (_ : World), _ → _) => hK0; refine hK0 _ _ ?_; clear hK0))
  have HS := Lib.hid hS1
  clear hS0 hS1
  go_wp2_with fail
  go_ret
  exact ⟨a1, n1, c1', rfl, by rw [← HU.out]; exact HO.out.1, by rw [← HU.out]; exact HO.out.2.1, HS.out⟩
/-- A peer's own cells may be written. -/
theorem PeerIs.soft {w : World} {B pb lb : Nat} {s : PP} {vs : List Int} {ps : List EnP} (h : PeerIs w B pb lb s vs ps) (k : Nat) : w.frozen? ⟨pb, k, none⟩ = false := Go.Joins.unfrozen_of_block h.blk k
theorem preset_any {w : World} {B pb lb : Nat} {s : PP} {vs : List Int} {ps : List EnP} (h : PeerIs w B pb lb s vs ps) :
    Calls Tryz.prog 58 #[.pointer (some ⟨pb, 0, none⟩)] w fun e w' => e = .returned (.tuple #[]) ∧ PeerIs w' B pb lb { s with waited := 0, limit := 0 } vs ps ∧ w.grownBy w' (some pb) := by
  have c0 : w.cell? ⟨pb, 43, none⟩ = some (.int .i64 s.waited) := h.cells 43
  have c1 : w.cell? ⟨pb, 44, none⟩ = some (.int .i64 s.limit) := h.cells 44
  have f0 := h.soft 43
  have f1 := h.soft 44
  have H := Lib.hid h
  clear h
  go_enter Tryz.func58, Tryz.ntmps58
  go_wp2_with fail
  go_end0
  exact ⟨rfl, (H.out.set 43 _ { s with waited := 0 } rfl rfl rfl).set 44 _ _ rfl rfl rfl, (grown_setL w ⟨pb, 43, none⟩ _).trans (grown_setL _ ⟨pb, 44, none⟩ _)⟩
theorem pfollow_any {w : World} {B pb lb : Nat} {s : PP} {vs : List Int} {ps : List EnP} (h : PeerIs w B pb lb s vs ps) (l : Int) :
    Calls Tryz.prog 36 #[.pointer (some ⟨pb, 0, none⟩), .int .i64 l] w fun e w' => e = .returned (.tuple #[]) ∧ PeerIs w' B pb lb { s with role := 1, leader := l, votes := .slice none 0 0 } vs ps ∧ w.grownBy w' (some pb) := by
  have c0 : w.cell? ⟨pb, 41, none⟩ = some (.int .u8 s.role) := h.cells 41
  have c1 : w.cell? ⟨pb, 42, none⟩ = some (.int .i64 s.leader) := h.cells 42
  have c2 : w.cell? ⟨pb, 45, none⟩ = some s.votes := h.cells 45
  have f0 := h.soft 41
  have f1 := h.soft 42
  have f2 := h.soft 45
  have H := Lib.hid h
  clear h
  go_enter Tryz.func36, Tryz.ntmps36
  go_wp2_with fail
  go_end0
  have h1 := H.out.set 41 (.int .u8 1) { s with role := 1 } rfl rfl rfl
  have h2 := h1.set 42 (.int .i64 l) { s with role := 1, leader := l } rfl rfl rfl
  have h3 := h2.set 45 (.slice none 0 0) { s with role := 1, leader := l, votes := .slice none 0 0 } rfl rfl rfl
  exact ⟨rfl, h3, ((grown_setL w ⟨pb, 41, none⟩ _).trans (grown_setL _ ⟨pb, 42, none⟩ _)).trans (grown_setL _ ⟨pb, 45, none⟩ _)⟩
end Go.Proofs.YtbimjggkiiadmaaGreatDoor
/- Plain laws on lists of integers: rows of voters, sets of bits, and how many are common. No program. No condition. -/
namespace Go.Proofs.YtbimjggkiiadmaaGreatDoor
/-- Is a number among these? -/
def hasB (xs : List Int) (n : Int) : Bool := xs.contains n
def inr (x : Int) : Bool := decide (0 < x) && decide (x ≤ 9)
def anyBit (xs : List Int) (i : Nat) : Bool := xs.any fun x => inr x && x.toNat == i
def setStep (s : Nat) (n : Int) : Nat := if 0 < n ∧ n ≤ 9 then s ||| 2 ^ n.toNat else s
/-- Servers, each a bit. -/
def setN (xs : List Int) : Nat := xs.foldl setStep 0
def pc (n : Nat) : Nat := (List.range 10).countP fun i => n.testBit i
theorem setStep_bit (s : Nat) (n : Int) (i : Nat) : (setStep s n).testBit i = (s.testBit i || (inr n && n.toNat == i)) := by
  unfold setStep inr
  by_cases h : 0 < n ∧ n ≤ 9
  · rw [if_pos h, Nat.testBit_or, Nat.testBit_two_pow]
    simp [h.1, h.2]
    rfl
  · rw [if_neg h]
    have : (decide (0 < n) && decide (n ≤ 9)) = false := by simp; omega
    rw [this]; simp
theorem setN_bit (xs : List Int) (i : Nat) : (setN xs).testBit i = anyBit xs i := by
  unfold setN anyBit
  have : ∀ (l : List Int) (s : Nat), (l.foldl setStep s).testBit i = (s.testBit i || l.any fun x => inr x && x.toNat == i) := by
    intro l
    induction l with
    | nil => intro s; simp
    | cons a l ih => intro s; rw [List.foldl_cons, ih, setStep_bit, List.any_cons, Bool.or_assoc]
  rw [this xs 0]; simp
/-- Strictly rising. -/
def Strict (xs : List Int) : Prop := xs.Pairwise (· < ·)
theorem countP_or {α : Type} (p q : α → Bool) (l : List α) (h : ∀ a ∈ l, ¬ (p a = true ∧ q a = true)) : l.countP (fun a => p a || q a) = l.countP p + l.countP q := by
  induction l with
  | nil => rfl
  | cons a l ih =>
    simp only [List.countP_cons]
    rw [ih (fun b hb => h b (List.mem_cons_of_mem _ hb))]
    have := h a (List.mem_cons_self)
    cases hp : p a <;> cases hq : q a <;> simp_all <;> omega
theorem countP_eq_one (n m : Nat) (q : Nat → Bool) (h : m < n) : (List.range n).countP (fun i => m == i && q i) = if q m then 1 else 0 := by
  induction n with
  | zero => omega
  | succ n ih =>
    rw [List.range_succ, List.countP_append]
    by_cases hm : m < n
    · rw [ih hm]
      have : (m == n) = false := by simp; omega
      simp [this]
    · obtain rfl : m = n := by omega
      have : (List.range m).countP (fun i => m == i && q i) = 0 := by
        rw [List.countP_eq_zero]
        intro a ha
        have := List.mem_range.1 ha
        simp; omega
      rw [this]; simp [List.countP_cons]
theorem anyBit_cons (x : Int) (xs : List Int) (i : Nat) : anyBit (x :: xs) i = ((inr x && x.toNat == i) || anyBit xs i) := by simp [anyBit]
theorem anyBit_mem {xs : List Int} {x : Int} (h : inr x = true) : anyBit xs x.toNat = xs.contains x := by
  unfold anyBit
  rw [Bool.eq_iff_iff, List.any_eq_true, List.contains_iff_mem]
  unfold inr at *
  constructor
  · rintro ⟨y, hy, he⟩
    simp at he h
    obtain rfl : y = x := by omega
    exact hy
  · intro hx
    exact ⟨x, hx, by simpa using h⟩
theorem count_bits (xs : List Int) (hs : Strict xs) (q : Nat → Bool) : (List.range 10).countP (fun i => anyBit xs i && q i) = xs.countP fun x => inr x && q x.toNat := by
  induction xs with
  | nil => simp [anyBit]
  | cons x xs ih =>
    have hx := List.pairwise_cons.1 hs
    rw [List.countP_cons, ← ih hx.2]
    have e : (fun i => anyBit (x :: xs) i && q i) = (fun i => (inr x && (x.toNat == i && q i)) || (anyBit xs i && q i)) := by
      funext i
      rw [anyBit_cons]
      cases inr x <;> cases (x.toNat == i) <;> cases anyBit xs i <;> cases q i <;> rfl
    rw [e]
    cases hi : inr x
    · simp
    · have hi' := hi
      unfold inr at hi'
      simp at hi'
      rw [countP_or]
      · have : (List.range 10).countP (fun i => true && (x.toNat == i && q i)) = if q x.toNat then 1 else 0 := by
          have := countP_eq_one 10 x.toNat q (by omega)
          simpa using this
        rw [this]
        simp
        omega
      · intro i _ ⟨h1, h2⟩
        simp at h1 h2
        have h3 : anyBit xs x.toNat = true := by rw [h1.1]; exact h2.1
        rw [anyBit_mem hi, List.contains_iff_mem] at h3
        have := hx.1 x h3
        omega
/-- May voters be? (P22.1) -/
def chain : Int → List Int → Bool
  | _, [] => true
  | last, x :: xs => decide (last < x) && decide (x ≤ 9) && chain x xs
def rightS (xs : List Int) : Bool := chain 0 xs && decide (1 ≤ xs.length) && decide (xs.length ≤ 7)
theorem chain_iff (xs : List Int) : ∀ last : Int, chain last xs = true ↔ (∀ x ∈ xs, last < x ∧ x ≤ 9) ∧ Strict xs := by
  induction xs with
  | nil => intro last; simp [chain, Strict]
  | cons x xs ih =>
    intro last
    simp only [chain, Bool.and_eq_true, decide_eq_true_eq, ih, List.mem_cons, forall_eq_or_imp, Strict, List.pairwise_cons]
    constructor
    · rintro ⟨⟨h1, h2⟩, h3, h4⟩
      exact ⟨⟨⟨h1, h2⟩, fun y hy => ⟨by have := (h3 y hy).1; omega, (h3 y hy).2⟩⟩, fun y hy => (h3 y hy).1, h4⟩
    · rintro ⟨⟨⟨h1, h2⟩, h3⟩, h4, h5⟩
      exact ⟨⟨h1, h2⟩, fun y hy => ⟨h4 y hy, (h3 y hy).2⟩, h5⟩
theorem right_iff (xs : List Int) : rightS xs = true ↔ (∀ x ∈ xs, inr x = true) ∧ Strict xs ∧ 1 ≤ xs.length ∧ xs.length ≤ 7 := by
  unfold rightS inr
  simp only [Bool.and_eq_true, decide_eq_true_eq, chain_iff]
  constructor
  · rintro ⟨⟨⟨h1, h2⟩, h3⟩, h4⟩; exact ⟨h1, h2, h3, h4⟩
  · rintro ⟨h1, h2, h3, h4⟩; exact ⟨⟨⟨h1, h2⟩, h3⟩, h4⟩
theorem pc_set (xs : List Int) (hs : Strict xs) : pc (setN xs) = xs.countP inr := by
  have := count_bits xs hs (fun _ => true)
  simp only [Bool.and_true] at this
  rw [← this]
  unfold pc
  congr 1
  funext i
  exact setN_bit xs i
theorem pc_and (v w : List Int) (hv : rightS v = true) : pc (setN v &&& setN w) = v.countP fun x => w.contains x := by
  obtain ⟨h1, h2, _, _⟩ := (right_iff v).1 hv
  have := count_bits v h2 (fun i => anyBit w i)
  unfold pc
  rw [show (fun i => (setN v &&& setN w).testBit i) = (fun i => anyBit v i && anyBit w i) from by funext i; rw [Nat.testBit_and, setN_bit, setN_bit], this]
  apply List.countP_congr
  intro x hx
  rw [h1 x hx, anyBit_mem (h1 x hx)]; simp
/-- Never less than the one before. -/
def Rises (xs : List Int) : Prop := ∀ j, 0 < j → j < xs.length → ¬ xs.getD j 0 < xs.getD (j - 1) 0
def risesB (xs : List Int) : Bool := (List.range xs.length).all fun j => decide (0 < j → ¬ xs.getD j 0 < xs.getD (j - 1) 0)
theorem risesB_iff (xs : List Int) : risesB xs = true ↔ Rises xs := by
  unfold risesB Rises
  simp only [List.all_eq_true, List.mem_range, decide_eq_true_eq]
  exact ⟨fun h j h0 hj => h j hj h0, fun h j hj h0 => h j h0 hj⟩
theorem strict_of_steps {xs : List Int} (h : ∀ j, 0 < j → j < xs.length → xs.getD (j - 1) 0 < xs.getD j 0) : Strict xs := by
  unfold Strict
  rw [List.pairwise_iff_getElem]
  intro i j hi hj hij
  have key : ∀ d, ∀ i, i + d + 1 < xs.length → xs.getD i 0 < xs.getD (i + d + 1) 0 := by
    intro d
    induction d with
    | zero => intro i hi; have := h (i + 1) (by omega) (by omega); simpa using this
    | succ d ih => intro i hi; have h1 := ih i (by omega); have h2 := h (i + (d + 1) + 1) (by omega) (by omega); have e : i + (d + 1) + 1 - 1 = i + d + 1 := by omega
                   rw [e] at h2; omega
  have := key (j - i - 1) i (by omega)
  rw [show i + (j - i - 1) + 1 = j by omega] at this
  simpa [List.getD, List.getElem?_eq_getElem hi, List.getElem?_eq_getElem hj] using this
theorem steps_of_strict {xs : List Int} (h : Strict xs) (j : Nat) (h0 : 0 < j) (hj : j < xs.length) : xs.getD (j - 1) 0 < xs.getD j 0 := by
  have := (List.pairwise_iff_getElem.1 h) (j - 1) j (by omega) hj (by omega)
  simpa [List.getD, List.getElem?_eq_getElem hj, List.getElem?_eq_getElem (show j - 1 < xs.length by omega)] using this
theorem compact_len (xs : List Int) : (Lib.compact xs).length = xs.length ↔ ∀ j, 0 < j → j < xs.length → xs.getD j 0 ≠ xs.getD (j - 1) 0 := by
  unfold Lib.compact Lib.compactUpTo
  rw [List.length_map]
  have e : ((List.range xs.length).filter (Lib.keeps xs.toArray)).length = xs.length ↔ ∀ j, j < xs.length → Lib.keeps xs.toArray j = true := by
    constructor
    · intro h j hj
      have h2 : (List.range xs.length).filter (Lib.keeps xs.toArray) = List.range xs.length := by
        apply List.Sublist.eq_of_length (List.filter_sublist)
        rw [h]; simp
      exact (List.filter_eq_self.1 h2) j (List.mem_range.2 hj)
    · intro h
      rw [List.filter_eq_self.2 (fun j hj => h j (List.mem_range.1 hj))]; simp
  rw [e]
  have g : ∀ j, j < xs.length → xs.toArray[j]! = xs.getD j 0 := fun j hj => by simp [List.getD, List.getElem?_eq_getElem hj]
  constructor
  · intro h j h0 hj hc
    have := h j hj
    rw [Lib.keeps_neg h0 (by rw [g j hj, g (j - 1) (by omega)]; exact hc)] at this
    cases this
  · intro h j hj
    by_cases h0 : j = 0
    · subst h0; simp [Lib.keeps]
    · exact Lib.keeps_pos (by rw [g j hj, g (j - 1) (by omega)]; exact h j (by omega) hj)
/-- What the program asks of voters, is what the document asks. -/
theorem right_eq (xs : List Int) (h0 : 0 < xs.length) (h7 : xs.length ≤ 7) : ((risesB xs && decide ((Lib.compact xs).length = xs.length)) && decide (pc (setN xs) = xs.length)) = rightS xs := by
  rw [Bool.eq_iff_iff, right_iff]
  simp only [Bool.and_eq_true, decide_eq_true_eq, risesB_iff, compact_len]
  constructor
  · rintro ⟨⟨h1, h2⟩, h3⟩
    have hs : Strict xs := strict_of_steps fun j a b => by have := h1 j a b; have := h2 j a b; omega
    rw [pc_set xs hs, List.countP_eq_length] at h3
    exact ⟨h3, hs, h0, h7⟩
  · rintro ⟨h1, h2, _, _⟩
    refine ⟨⟨fun j a b => ?_, fun j a b => ?_⟩, ?_⟩
    · have := steps_of_strict h2 j a b; omega
    · have := steps_of_strict h2 j a b; omega
    · rw [pc_set xs h2, List.countP_eq_length]; exact h1
def commonS (v w : List Int) : Nat := v.countP fun x => hasB w x
def enoughS (v w : List Int) : Bool := rightS v && decide (v.length < 2 * commonS v w)
theorem pc_and' (v w : List Int) (hv : rightS v = true) : pc (setN v &&& setN w) = commonS v w := pc_and v w hv
end Go.Proofs.YtbimjggkiiadmaaGreatDoor
/- Slices of integers that are only read: what slices.Index, Contains, IsSorted of the library return. Conditions: the slice's cells lie as its reading says. -/
namespace Go.Proofs.YtbimjggkiiadmaaGreatDoor
open Go.RowKit
/-- The integers xs lie behind the slice's address, in a block below B. -/
def IntsIn (w : World) (B : Nat) (ao : Option Addr) (xs : List Int) : Prop :=
  xs = [] ∨ ∃ b off, ao = some ⟨b, off, none⟩ ∧ b < B ∧ ∀ i, i < xs.length → w.cell? ⟨b, off + i, none⟩ = some (.int .i64 (xs.getD i 0))
theorem IntsIn.below {w w' : World} {B B' : Nat} {ao : Option Addr} {xs : List Int} (h : IntsIn w B ao xs) (hb : Below B' w w') (hB : B ≤ B') : IntsIn w' B ao xs := by
  rcases h with h | ⟨b, off, h1, h2, h3⟩
  · exact Or.inl h
  · exact Or.inr ⟨b, off, h1, h2, fun i hi => by rw [hb.cell (p := ⟨b, _, none⟩) (by show b < B'; omega)]; exact h3 i hi⟩
theorem IntsIn.mono {w : World} {B B' : Nat} {ao : Option Addr} {xs : List Int} (h : IntsIn w B ao xs) (hB : B ≤ B') : IntsIn w B' ao xs := by
  rcases h with h | ⟨b, off, h1, h2, h3⟩
  · exact Or.inl h
  · exact Or.inr ⟨b, off, h1, by omega, h3⟩
theorem below_draws {w wr : World} {B : Nat} (h : ∃ q, wr = w.drewN q) : Below B w wr := h.elim fun q hq => by rw [hq]; exact below_drewN (Below.refl _ _) _
theorem getD_mem {xs : List Int} {k : Nat} (h : k < xs.length) : xs.getD k 0 ∈ xs := by
  simp [List.getD, List.getElem?_eq_getElem h]
theorem nan_any (a : Int) (w : World) :
    Calls Tryz.prog 100 #[.int .i64 a] w fun e w' => e = .returned (.bool false) ∧ w = w' := by
  go_enter Tryz.func100, Tryz.ntmps100
  go_wp2
  go_ret
  exact ⟨by simp, rfl⟩
theorem less_any (a b : Int) (w : World) :
    Calls Tryz.prog 92 #[.int .i64 a, .int .i64 b] w fun e w' => e = .returned (.bool (decide (a < b))) ∧ w = w' := by
  go_enter Tryz.func92, Tryz.ntmps92
  go_wp2_with (go_at_call 100; refine (nan_any _ _).mono ?_; rintro e w' ⟨rfl, rfl⟩)
  all_goals
    go_ret
    refine ⟨ret_bool ?_, rfl⟩
    grind
def IndexPost (xs : List Int) (n : Int) (w : World) (e : Ending) (w' : World) : Prop := ∃ r : Int, e = .returned (.int .i64 r) ∧ (decide (0 ≤ r)) = hasB xs n ∧ w = w'
/-- slices.Index, as far as Contains asks it. -/
theorem index_any (ao : Option Addr) (cap : Nat) (xs : List Int) (n : Int) (w : World) (B : Nat) (hx : IntsIn w B ao xs) (hl : xs.length ≤ 4611686018427387904) :
    Calls Tryz.prog 89 #[.slice ao xs.length cap, .int .i64 n] w (IndexPost xs n w) := by
  have HX := Lib.hid hx
  clear hx
  go_enter Tryz.func89, Tryz.ntmps89
  go_wp2
  go_loop [5, 8] (fun _ i => ∃ k : Nat, k ≤ xs.length ∧ i = .int .i64 k ∧ ∀ j, j < k → xs.getD j 0 ≠ n) (fun _ i => xs.length - (intOf i).toNat)
  case atStart => exact ⟨0, by omega, rfl, by omega⟩
  case round =>
    obtain ⟨k, hk, rfl, hno⟩ := hrel
    have HN := Lib.hid hno
    clear hno
    by_cases hlt : k < xs.length
    · rcases HX.out with h0 | ⟨b, off, rfl, hb, hc⟩
      · rw [h0] at hlt; simp at hlt
      have c0 := hc k hlt
      clear hc
      obtain ⟨x, hxe⟩ : ∃ x, x = xs.getD k 0 := ⟨_, rfl⟩
      rw [← hxe] at c0
      have HE := Lib.hid hxe
      clear hxe
      by_cases hn : n = x
      · have t0 : (n == x) = true := by simp [hn]
        have HF := Lib.hid hn
        clear hn
        go_wp2_with fail
        go_ret
        refine ⟨k, rfl, ?_, rfl⟩
        rw [decide_eq_true (by omega), eq_comm, hasB, List.contains_iff_mem, HF.out, HE.out]
        exact getD_mem hlt
      · have t0 : (n == x) = false := by simp [hn]
        have HF := Lib.hid hn
        clear hn
        go_wp2_with fail
        go_round
        case rel =>
          refine ⟨k + 1, by omega, by go_num, fun j hj => ?_⟩
          by_cases h : j = k
          · subst h; rw [← HE.out]; exact fun h => HF.out h.symm
          · exact HN.out j (by omega)
        case measure => simp [intOf]; omega
    · go_wp2_with fail
      go_ret
      refine ⟨-1, rfl, ?_, rfl⟩
      have hno : hasB xs n = false := by
        rw [Bool.eq_false_iff]
        intro h
        rw [hasB, List.contains_iff_mem] at h
        obtain ⟨j, hj, he⟩ := List.getElem_of_mem h
        exact HN.out j (by omega) (by rw [← he]; simp [List.getD, List.getElem?_eq_getElem hj])
      rw [hno]; rfl
theorem contains_any (ao : Option Addr) (cap : Nat) (xs : List Int) (n : Int) (w : World) (B : Nat) (hx : IntsIn w B ao xs) (hl : xs.length ≤ 4611686018427387904) :
    Calls Tryz.prog 64 #[.slice ao xs.length cap, .int .i64 n] w fun e w' => e = .returned (.bool (hasB xs n)) ∧ w = w' := by
  have HX := Lib.hid hx
  clear hx
  go_enter Tryz.func64, Tryz.ntmps64
  go_wp2_with fail
  refine (index_any _ _ _ _ _ B HX.out hl).mono ?_
  rintro e w' ⟨r, rfl, hr, rfl⟩
  have HR := Lib.hid hr
  clear hr
  go_wp2_with fail
  go_ret
  exact ⟨ret_bool HR.out, rfl⟩
def RisesFrom (xs : List Int) (k : Int) : Prop := ∀ j : Nat, k < j → 0 < j → j < xs.length → ¬ xs.getD j 0 < xs.getD (j - 1) 0
theorem sorted_any (ao : Option Addr) (cap : Nat) (xs : List Int) (w : World) (B : Nat) (hx : IntsIn w B ao xs) (hl : xs.length ≤ 4611686018427387904) :
    Calls Tryz.prog 76 #[.slice ao xs.length cap] w fun e w' => e = .returned (.bool (risesB xs)) ∧ Below w.heap.size w w' := by
  have HX := Lib.hid hx
  clear hx
  go_enter Tryz.func76, Tryz.ntmps76
  go_wp2
  go_loopw [3] (fun i wr => (∃ q, wr = w.drewN q) ∧ ∃ k : Int, -1 ≤ k ∧ k < xs.length ∧ i = .int .i64 k ∧ RisesFrom xs k) (fun i _ => (intOf i).toNat)
  case atStart => exact ⟨⟨0, rfl⟩, xs.length - 1, by omega, by omega, rfl, fun j h1 h2 h3 => by omega⟩
  case round =>
    obtain ⟨hq, k, hk0, hk, rfl, hall⟩ := hrel
    have HQ := Lib.hid hq
    clear hq
    by_cases hpos : 0 < k
    · rcases HX.out with h0 | ⟨b, off, rfl, hb, hc⟩
      · rw [h0] at hk; simp at hk; omega
      obtain ⟨m, rfl⟩ : ∃ m : Nat, k = (m : Int) + 1 := ⟨(k - 1).toNat, by omega⟩
      have c0 := hc (m + 1) (by omega)
      have c1 := hc m (by omega)
      clear hc
      obtain ⟨x, hxe⟩ : ∃ x, x = xs.getD (m + 1) 0 := ⟨_, rfl⟩
      obtain ⟨y, hye⟩ : ∃ y, y = xs.getD m 0 := ⟨_, rfl⟩
      rw [← hxe] at c0
      rw [← hye] at c1
      have HE := Lib.hid hxe
      have HE2 := Lib.hid hye
      clear hxe hye
      obtain ⟨q, hq⟩ := HQ.out
      rw [show w.cell? _ = wr.cell? _ from by rw [hq]; rfl] at c0 c1
      clear hq
      have i1 : (m : Int) + 1 < xs.length := by omega
      have i2 : (m : Int) < xs.length := by omega
      have i3 : 0 ≤ (m : Int) + 1 := by omega
      go_wp2_with fail
      have n1 : ((m : Int) + 1).toNat = m + 1 := by omega
      have n2 : IntKind.i64.wrap (m : Int) = m := IntWalk.i64_in _ (by omega)
      go_quiet ((go_at_call 92; exact quietly (less_any _ _ _)))
      clear n1 n2
      by_cases hlt : x < y
      · go_wp2
        go_ret
        refine ⟨ret_bool ?_, below_drewN (below_draws HQ.out) _⟩
        rw [eq_comm, Bool.eq_false_iff]
        intro h
        exact (risesB_iff xs).1 h (m + 1) (by omega) (by omega) (by rw [← HE.out, Nat.add_sub_cancel, ← HE2.out]; exact hlt)
      · go_wp2
        go_roundw
        case rel =>
          refine ⟨HQ.out.elim fun q hq => ⟨q + nq, by rw [hq, World.drewN_drewN]⟩, m, by omega, by omega, by go_num, fun j h1 h2 h3 => ?_⟩
          by_cases h : j = m + 1
          · subst h; rw [← HE.out, Nat.add_sub_cancel, ← HE2.out]; exact hlt
          · exact hall j (by omega) h2 h3
        case measure => simp [intOf]
    · go_wp2_with fail
      go_ret
      refine ⟨ret_bool ?_, below_draws HQ.out⟩
      rw [eq_comm, risesB_iff]
      have hneg : ¬ 0 < k := by omega
      exact fun j h1 h2 => hall j (by omega) h1 h2
end Go.Proofs.YtbimjggkiiadmaaGreatDoor
/- The functions of package quorum by their contracts. Conditions: the voters' cells lie as their reading says. -/
namespace Go.Proofs.YtbimjggkiiadmaaGreatDoor
open Go.RowKit
theorem setStep_lt {s : Nat} {n : Int} (h : s < 1024) : setStep s n < 1024 := by
  unfold setStep
  split
  · exact Nat.or_lt_two_pow (n := 10) h (Nat.pow_lt_pow_right (by omega) (by omega))
  · exact h
theorem setN_lt (xs : List Int) : setN xs < 1024 := by
  unfold setN
  have : ∀ (l : List Int) (s : Nat), s < 1024 → l.foldl setStep s < 1024 := by
    intro l
    induction l with
    | nil => intro s h; exact h
    | cons a l ih => intro s h; exact ih _ (setStep_lt h)
  exact this xs 0 (by omega)
theorem setN_take {xs : List Int} {k : Nat} (h : k < xs.length) : setN (xs.take (k + 1)) = setStep (setN (xs.take k)) (xs.getD k 0) := by
  unfold setN
  rw [List.take_succ_eq_append_getElem h, List.foldl_append]
  simp [List.getD, List.getElem?_eq_getElem h]
theorem or_bit {m : Nat} {x : Int} (hm : m < 1024) (h1 : 0 < x) (h2 : x ≤ 9) : bits BinOp.or IntKind.u64 (m : Int) (IntKind.u64.wrap (2 ^ x.toNat)) = ((setStep m x : Nat) : Int) := by
  have hp : 2 ^ x.toNat < 1024 := by
    have : 2 ^ x.toNat < 2 ^ 10 := Nat.pow_lt_pow_right (by omega) (by omega)
    omega
  have e : IntKind.u64.wrap (2 ^ x.toNat) = ((2 ^ x.toNat : Nat) : Int) := by
    rw [show ((2 : Int) ^ x.toNat) = ((2 ^ x.toNat : Nat) : Int) by simp]
    generalize 2 ^ x.toNat = y at hp ⊢
    exact IntWalk.u64_in _ (by omega)
  rw [e, u64_or_nat _ _ (by omega) (by omega), setStep, if_pos ⟨h1, h2⟩]
theorem set_any (ao : Option Addr) (cap : Nat) (xs : List Int) (w : World) (B : Nat) (hx : IntsIn w B ao xs) (hl : xs.length ≤ 4611686018427387904) :
    Calls Tryz.prog 79 #[.slice ao xs.length cap] w fun e w' => e = .returned (.int .u64 (setN xs)) ∧ w = w' := by
  have HX := Lib.hid hx
  clear hx
  go_enter Tryz.func79, Tryz.ntmps79
  go_wp2
  go_loop [3, 5, 8] (fun s _ i => ∃ k : Nat, k ≤ xs.length ∧ i = .int .i64 k ∧ s = .int .u64 (setN (xs.take k))) (fun _ _ i => xs.length - (intOf i).toNat)
  case atStart => exact ⟨0, by omega, rfl, rfl⟩
  case round =>
    obtain ⟨k, hk, rfl, rfl⟩ := hrel
    by_cases hlt : k < xs.length
    · rcases HX.out with h0 | ⟨b, off, rfl, hb, hc⟩
      · rw [h0] at hlt; simp at hlt
      have c0 := hc k hlt
      clear hc
      have hst := setN_take hlt
      have hm := setN_lt (xs.take k)
      obtain ⟨x, hxe⟩ : ∃ x, x = xs.getD k 0 := ⟨_, rfl⟩
      rw [← hxe] at c0 hst
      clear hxe
      generalize setN (xs.take k) = m at hst hm ⊢
      have HS := Lib.hid hst
      clear hst
      by_cases h1 : 0 < x
      · by_cases h2 : x ≤ 9
        · have ho := Lib.hid (or_bit hm h1 h2)
          go_wp2_with fail
          go_round
          case rel => exact ⟨k + 1, by omega, by go_num, by rw [HS.out, ho.out]⟩
          case measure => simp [intOf]; omega
        · have ho : Hid (setStep m x = m) := by unfold setStep; rw [if_neg (by omega)]; rfl
          go_wp2_with fail
          go_round
          case rel => exact ⟨k + 1, by omega, by go_num, by rw [HS.out, ho.out]⟩
          case measure => simp [intOf]; omega
      · have ho : Hid (setStep m x = m) := by unfold setStep; rw [if_neg (by omega)]; rfl
        go_wp2_with fail
        go_round
        case rel => exact ⟨k + 1, by omega, by go_num, by rw [HS.out, ho.out]⟩
        case measure => simp [intOf]; omega
    · go_wp2_with fail
      go_ret
      refine ⟨?_, rfl⟩
      rw [List.take_of_length_le (by omega)]
      rfl
/-- The library's reckoning of a number's bits. -/
def onesF (n : Int) : Int :=
  let x1 := IntKind.u64.wrap (bits BinOp.and IntKind.u64 (n / 2) 6148914691236517205 + bits BinOp.and IntKind.u64 n 6148914691236517205)
  let x2 := IntKind.u64.wrap (bits BinOp.and IntKind.u64 (x1 / 4) 3689348814741910323 + bits BinOp.and IntKind.u64 x1 3689348814741910323)
  let x3 := bits BinOp.and IntKind.u64 (IntKind.u64.wrap (x2 / 16 + x2)) 1085102592571150095
  let x4 := IntKind.u64.wrap (x3 + x3 / 256)
  let x5 := IntKind.u64.wrap (x4 + x4 / 65536)
  let x6 := IntKind.u64.wrap (x5 + x5 / 4294967296)
  bits BinOp.and IntKind.i64 (wrap64 x6) 127
theorem onesF_eq : ∀ n : Fin 1024, onesF (n.val : Int) = pc n.val := by decide +kernel
theorem onesF_at (n : Nat) (hn : n < 1024) : onesF n = pc n := onesF_eq ⟨n, hn⟩
theorem ones_any (n : Nat) (hn : n < 1024) (w : World) :
    Calls Tryz.prog 78 #[.int .u64 n] w fun e w' => e = .returned (.int .i64 (pc n)) ∧ w = w' := by
  have H := Lib.hid (onesF_at n hn)
  go_enter Tryz.func78, Tryz.ntmps78
  go_wp2
  go_ret
  refine ⟨ret_int ?_, rfl⟩
  rw [← H.out]
  rfl
theorem ownsRow_cap {w : World} {base e size n g c : Nat} {xs : List Value} (h : w.ownsRow base e size (.slice (some ⟨g, 0, none⟩) n c) n xs) : n ≤ c := by
  rcases h.2 with ⟨h', _⟩ | ⟨g', cap', cur, h', _, _, h4, _⟩
  · simp at h'
  · simp only [Value.slice.injEq, Option.some.injEq, Addr.mk.injEq, and_true, true_and] at h'
    obtain ⟨rfl, rfl⟩ := h'
    exact h4
theorem ownsRow_base {w : World} {base e size n g c : Nat} {xs : List Value} (h : w.ownsRow base e size (.slice (some ⟨g, 0, none⟩) n c) n xs) : base ≤ g := by
  rcases h.2 with ⟨h', _⟩ | ⟨g', cap', cur, h', h3, _⟩
  · simp at h'
  · simp only [Value.slice.injEq, Option.some.injEq, Addr.mk.injEq, and_true, true_and] at h'
    obtain ⟨rfl, rfl⟩ := h'
    exact h3
theorem below_setCells {B b : Nat} {a : World} (hb : B ≤ b) : ∀ (vs : List Value) (o : Nat) {w : World}, Below B a w → Below B a (w.setCells b o vs)
  | [], _, _, h => h
  | v :: vs, o, _, h => below_setCells hb vs (o + 1) (h.setCell (p := ⟨b, o, none⟩) hb v)
theorem rises_any (b off cap : Nat) (xs : List Int) (w : World) (hc : ∀ i, i < xs.length → w.cell? ⟨b, off + i, none⟩ = some (.int .i64 (xs.getD i 0))) (hb : b < w.heap.size) (h0 : 0 < xs.length) (hl : xs.length ≤ 4611686018427) :
    Calls Tryz.prog 75 #[.slice (some ⟨b, off, none⟩) xs.length cap] w fun e w' => e = .returned (.bool (risesB xs && decide ((Lib.compact xs).length = xs.length))) ∧ Below w.heap.size w w' := by
  have HC := Lib.hid hc
  clear hc
  cases hr : risesB xs
  · have HR := Lib.hid hr
    clear hr
    go_enter Tryz.func75, Tryz.ntmps75
    go_wp2_with fail
    refine (sorted_any _ _ xs _ (b + 1) (Or.inr ⟨b, off, rfl, by omega, HC.out⟩) (by omega)).mono ?_
    rw [HR.out]
    rintro e w1 ⟨rfl, hb1⟩
    go_wp2_with fail
    go_ret
    exact ⟨rfl, hb1⟩
  · have HR := Lib.hid hr
    clear hr
    go_enter Tryz.func75, Tryz.ntmps75
    go_wp2_with fail
    refine (sorted_any _ _ xs _ (b + 1) (Or.inr ⟨b, off, rfl, by omega, HC.out⟩) (by omega)).mono ?_
    rw [HR.out]
    rintro e w1 ⟨rfl, hb1⟩
    go_wp2_with fail
    refine (Tryz.slices_Clone_int b off xs.length cap xs _ (Nat.le_refl _) (by omega) (fun j hj => by rw [hb1.cell (p := ⟨b, _, none⟩) hb]; exact HC.out j hj)).mono ?_
    rintro e w2 ⟨v', rfl, hown, _, hb2⟩
    obtain ⟨g, c', hv⟩ := Go.Joins.ownsRow_form hown h0
    rw [hv] at hown ⊢
    have hcap : xs.length ≤ c' := ownsRow_cap hown
    have hg : w1.heap.size ≤ g := ownsRow_base hown
    have hcells : ∀ j, j < xs.length → w2.cell? ⟨g, 0 + j, none⟩ = some (.int .i64 (xs.getD j 0)) := fun j hj => by
      rw [Nat.zero_add, hown.cellAt j (by omega)]
      simp [List.getD, List.getElem?_eq_getElem hj]
    have hfr : ∀ j, j < xs.length → w2.frozen? ⟨g, 0 + j, none⟩ = false := fun j hj => by
      rw [Nat.zero_add]; exact hown.frozenAt j
    have HC2 := Lib.hid hcells
    have HF2 := Lib.hid hfr
    clear hcells hfr hown hv
    go_wp2_with fail
    refine (Tryz.slices_Compact_int_cells g 0 xs.length c' xs _ (Nat.le_refl _) (by omega) hcap HC2.out HF2.out).mono ?_
    rintro e w3 ⟨rfl, q, hw3⟩
    have hb3 : Below w1.heap.size w2 w3 := by rw [hw3]; exact below_setCells hg _ _ (below_drewN (Below.refl _ _) _)
    clear hw3
    rw [List.take_length]
    have hlen : (Lib.compact xs).length ≤ xs.length := Lib.compact_length_le xs
    by_cases he : (Lib.compact xs).length = xs.length
    · have hd : (((Lib.compact xs).length : Int) == (xs.length : Int)) = true := by rw [he]; simp
      have HE := Lib.hid he
      clear he
      go_wp2_with fail
      go_ret
      exact ⟨ret_bool (by rw [HE.out]; simp), hb1.trans ((hb2.trans hb3).mono hb1.size)⟩
    · have hd : (((Lib.compact xs).length : Int) == (xs.length : Int)) = false := by simp; omega
      have HE := Lib.hid he
      clear he
      go_wp2_with fail
      go_ret
      exact ⟨ret_bool (by simp [HE.out]), hb1.trans ((hb2.trans hb3).mono hb1.size)⟩
theorem right_any (ao : Option Addr) (cap : Nat) (xs : List Int) (w : World) (B : Nat) (hx : IntsIn w B ao xs) (hB : B ≤ w.heap.size) (hl : xs.length ≤ 4611686018427387904) :
    Calls Tryz.prog 44 #[.slice ao xs.length cap] w fun e w' => e = .returned (.bool (rightS xs)) ∧ Below w.heap.size w w' := by
  have HX := Lib.hid hx
  clear hx
  by_cases h0 : 0 < xs.length
  · by_cases h7 : xs.length ≤ 7
    · have he := right_eq xs h0 h7
      rcases HX.out with hn | ⟨b, off, rfl, hb, hc⟩
      · rw [hn] at h0; simp at h0
      have HC := Lib.hid hc
      have HE := Lib.hid he
      clear hc he
      have i0 : (0 : Int) < xs.length := by omega
      have i7 : (xs.length : Int) ≤ 7 := by omega
      cases hr : (risesB xs && decide ((Lib.compact xs).length = xs.length))
      · have HR := Lib.hid hr
        clear hr
        go_enter Tryz.func44, Tryz.ntmps44
        go_wp2_with fail
        refine (rises_any b off cap xs _ HC.out (by omega) h0 (by omega)).mono ?_
        rw [HR.out]
        rintro e w1 ⟨rfl, hb1⟩
        go_wp2_with fail
        go_ret
        exact ⟨ret_bool (by rw [← HE.out, HR.out]; rfl), hb1⟩
      · have HR := Lib.hid hr
        clear hr
        go_enter Tryz.func44, Tryz.ntmps44
        go_wp2_with fail
        refine (rises_any b off cap xs _ HC.out (by omega) h0 (by omega)).mono ?_
        rw [HR.out]
        rintro e w1 ⟨rfl, hb1⟩
        go_wp2_with fail
        refine (set_any _ _ xs _ B (HX.out.below hb1 hB) hl).mono ?_
        rintro e w' ⟨rfl, rfl⟩
        go_wp2_with fail
        refine (ones_any _ (setN_lt xs) _).mono ?_
        rintro e w' ⟨rfl, rfl⟩
        go_wp2_with fail
        go_ret
        refine ⟨ret_bool ?_, hb1⟩
        rw [← HE.out, HR.out, Bool.true_and, Bool.eq_iff_iff]
        simp
        omega
    · have i7 : ¬ (xs.length : Int) ≤ 7 := by omega
      have i0 : (0 : Int) < xs.length := by omega
      have HE : Hid (rightS xs = false) := by show rightS xs = false; rw [Bool.eq_false_iff]; intro h; have := (right_iff xs).1 h; omega
      go_enter Tryz.func44, Tryz.ntmps44
      go_wp2_with fail
      go_ret
      exact ⟨ret_bool HE.out.symm, Below.refl _ _⟩
  · have i0 : ¬ (0 : Int) < xs.length := by omega
    have HE : Hid (rightS xs = false) := by show rightS xs = false; rw [Bool.eq_false_iff]; intro h; have := (right_iff xs).1 h; omega
    go_enter Tryz.func44, Tryz.ntmps44
    go_wp2_with fail
    go_ret
    exact ⟨ret_bool HE.out.symm, Below.refl _ _⟩
theorem has_any (ao : Option Addr) (cap : Nat) (xs : List Int) (n : Int) (w : World) (B : Nat) (hx : IntsIn w B ao xs) (hl : xs.length ≤ 4611686018427387904) :
    Calls Tryz.prog 31 #[.slice ao xs.length cap, .int .i64 n] w fun e w' => e = .returned (.bool (hasB xs n)) ∧ w = w' := by
  have HX := Lib.hid hx
  clear hx
  go_enter Tryz.func31, Tryz.ntmps31
  go_wp2_with fail
  refine (contains_any _ _ _ _ _ B HX.out hl).mono ?_
  rintro e w' ⟨rfl, rfl⟩
  go_wp2_with fail
  go_ret
  exact ⟨rfl, rfl⟩
theorem enough_any (ao co : Option Addr) (cap cap2 : Nat) (v u : List Int) (w : World) (hx : IntsIn w w.heap.size ao v) (hy : IntsIn w w.heap.size co u) (hl : v.length ≤ 4611686018427387904) (hl2 : u.length ≤ 4611686018427387904) :
    Calls Tryz.prog 54 #[.slice ao v.length cap, .slice co u.length cap2] w fun e w' => e = .returned (.bool (enoughS v u)) ∧ Below w.heap.size w w' := by
  have HX := Lib.hid hx
  have HY := Lib.hid hy
  clear hx hy
  cases hr : rightS v
  · have HR := Lib.hid hr
    clear hr
    go_enter Tryz.func54, Tryz.ntmps54
    go_wp2_with fail
    refine (right_any _ _ v _ _ HX.out (Nat.le_refl _) hl).mono ?_
    rw [HR.out]
    rintro e w1 ⟨rfl, hb1⟩
    go_wp2_with fail
    go_ret
    exact ⟨ret_bool (by rw [enoughS, HR.out]; rfl), hb1⟩
  · have hand := pc_and' v u hr
    have hvl := ((right_iff v).1 hr).2.2.2
    have hcl : commonS v u ≤ v.length := List.countP_le_length
    have HR := Lib.hid hr
    have HA := Lib.hid hand
    clear hr hand
    have hm : setN v &&& setN u < 1024 := Nat.and_lt_two_pow _ (n := 10) (setN_lt u)
    have hbits := Lib.hid (u64_and_nat (setN v) (setN u) (by have := setN_lt v; omega) (by have := setN_lt u; omega))
    go_enter Tryz.func54, Tryz.ntmps54
    go_wp2_with fail
    refine (right_any _ _ v _ _ HX.out (Nat.le_refl _) hl).mono ?_
    rw [HR.out]
    rintro e w1 ⟨rfl, hb1⟩
    go_wp2_with fail
    refine (set_any _ _ v _ _ (HX.out.below hb1 (Nat.le_refl _)) hl).mono ?_
    rintro e w' ⟨rfl, rfl⟩
    go_wp2_with fail
    refine (set_any _ _ u _ _ (HY.out.below hb1 (Nat.le_refl _)) hl2).mono ?_
    rintro e w' ⟨rfl, rfl⟩
    go_wp2_with fail
    rw [hbits.out]
    refine (ones_any _ hm _).mono ?_
    rintro e w' ⟨rfl, rfl⟩
    rw [HA.out]
    go_wp2_with fail
    go_ret
    refine ⟨ret_bool ?_, hb1⟩
    rw [enoughS, HR.out, Bool.true_and, Bool.eq_iff_iff]
    simp
    omega
end Go.Proofs.YtbimjggkiiadmaaGreatDoor
