/- Numbers that are brought into a kind have the same bytes. No program. Conditions: as each says. -/
import Derived.Test.YtglgcjkglhlggaaGreatDoorGLetterPuts0
import Derived.Test.YtglgcjkglhlggaaGreatDoorGLetterPuts3
import Derived.Test.YtglgcjkglhlggaaGreatDoorGLetterPuts1
set_option linter.unusedVariables false
set_option linter.unusedSimpArgs false
namespace Go.Proofs.YtglgcjkglhlggaaGreatDoor
theorem numB_mod (n k : Int) : numB 8 (n + 18446744073709551616 * k) = numB 8 n := by
  unfold numB
  have e : List.range 8 = [0, 1, 2, 3, 4, 5, 6, 7] := rfl
  rw [e]
  simp only [List.map_cons, List.map_nil, Nat.reduceSub, Nat.reduceMul, Int.reducePow, List.cons.injEq, and_true]
  refine ⟨by omega, by omega, by omega, by omega, by omega, by omega, by omega, by omega⟩
theorem numB_wrap (n : Int) : numB 8 (IntKind.i64.wrap n) = numB 8 n := by
  have hw : IntKind.i64.wrap n = n + 18446744073709551616 * (-(n / 18446744073709551616)) ∨ IntKind.i64.wrap n = n + 18446744073709551616 * (-(n / 18446744073709551616) - 1) := by
    show (if (true && decide (n % 2 ^ 64 ≥ (2 ^ 63 : Int))) = true then n % 2 ^ 64 - 2 ^ 64 else n % 2 ^ 64) = _ ∨ (if (true && decide (n % 2 ^ 64 ≥ (2 ^ 63 : Int))) = true then n % 2 ^ 64 - 2 ^ 64 else n % 2 ^ 64) = _
    have e2 : (2 : Int) ^ 64 = 18446744073709551616 := by decide
    rw [e2]
    split
    · right; omega
    · left; omega
  rcases hw with h | h <;> rw [h, numB_mod]
theorem wrapU_eq (n : Int) : IntKind.u64.wrap n = n % 18446744073709551616 := by
  show (if (false && decide (n % 2 ^ 64 ≥ (2 ^ 63 : Int))) = true then n % 2 ^ 64 - 2 ^ 64 else n % 2 ^ 64) = _
  have e2 : (2 : Int) ^ 64 = 18446744073709551616 := by decide
  rw [e2]
  rfl
theorem wrapU_range (n : Int) : 0 ≤ IntKind.u64.wrap n ∧ IntKind.u64.wrap n < 18446744073709551616 := by
  rw [wrapU_eq]; omega
theorem numB_wrapU (n : Int) : numB 8 (IntKind.u64.wrap n) = numB 8 n := by
  have h : IntKind.u64.wrap n = n + 18446744073709551616 * (-(n / 18446744073709551616)) := by rw [wrapU_eq]; omega
  rw [h, numB_mod]
end Go.Proofs.YtglgcjkglhlggaaGreatDoor
/- What was read of bytes, and it was there, is written as just these bytes. No program. Conditions: as each says. -/
namespace Go.Proofs.YtglgcjkglhlggaaGreatDoor
open Go.RowKit
set_option maxRecDepth 20000
theorem numB_succ (s : Nat) (n : Int) : numB (s + 1) n = numB s (n / 256) ++ [n % 256] := by
  unfold numB
  rw [List.range_succ, List.map_append]
  congr 1
  · refine List.map_congr_left (fun j hj => ?_)
    have hj := List.mem_range.1 hj
    have e : s + 1 - 1 - j = (s - 1 - j) + 1 := by omega
    rw [e, Nat.mul_add, Int.pow_add, Int.mul_comm, ← Int.ediv_ediv_of_nonneg (by decide)]
    rfl
  · simp
theorem numB_getN (l : List Int) (h : BytesWf l) : numB l.length (getN l) = l := by
  have key : ∀ r : List Int, BytesWf r.reverse → numB r.length (getN r.reverse) = r.reverse := by
    intro r
    induction r with
    | nil => intro _; rfl
    | cons c r ih =>
      intro hw
      rw [List.reverse_cons] at hw ⊢
      have h1 := ih (fun x hx => hw x (List.mem_append_left _ hx))
      have h2 := hw c (by simp)
      rw [getN_snoc, List.length_cons, numB_succ]
      have e1 : (getN r.reverse * 256 + c) / 256 = getN r.reverse := by omega
      have e2 : (getN r.reverse * 256 + c) % 256 = c := by omega
      rw [e1, e2, h1]
  have := key l.reverse (by rwa [List.reverse_reverse])
  rwa [List.reverse_reverse, List.length_reverse] at this
/-- One way: what is read, and it was there, stood there. -/
def There {α : Type} (one : Bool → List Int → α × Bool × List Int) (oneB : α → List Int) : Prop := ∀ b l, BytesWf l → (one b l).2.1 = false → b = false ∧ l = oneB (one b l).1 ++ (one b l).2.2 ∧ BytesWf (one b l).2.2
theorem takeS_there (n : Nat) (b : Bool) (l : List Int) (hw : BytesWf l) (h : (takeS n b l).2.1 = false) : b = false ∧ l = (takeS n b l).1 ++ (takeS n b l).2.2 ∧ (takeS n b l).1.length = n ∧ BytesWf (takeS n b l).1 ∧ BytesWf (takeS n b l).2.2 := by
  unfold takeS at h ⊢
  split at h
  · cases h
  · rename_i hc
    rw [if_neg hc]
    have h1 : b = false := by cases b with | true => exact absurd (Or.inl rfl) hc | false => rfl
    have h2 : n ≤ l.length := by
      rcases Nat.lt_or_ge l.length n with h | h
      · exact absurd (Or.inr h) hc
      · exact h
    exact ⟨h1, (List.take_append_drop n l).symm, by rw [List.length_take]; omega, hw.take n, hw.drop n⟩
theorem numS_there : There numS (numB 8) := by
  intro b l hw h
  obtain ⟨h1, h2, h3, h4, h5⟩ := takeS_there 8 b l hw h
  refine ⟨h1, ?_, h5⟩
  show l = numB 8 (IntKind.i64.wrap (getN (takeS 8 b l).1)) ++ _
  rw [numB_wrap]
  have := numB_getN _ h4
  rw [h3] at this
  rw [this]
  exact h2
theorem kindS_there : There kindS (fun k => [k]) := by
  intro b l hw h
  obtain ⟨h1, h2, h3, h4, h5⟩ := takeS_there 1 b l hw h
  refine ⟨h1, ?_, h5⟩
  show l = [getN (takeS 1 b l).1] ++ (takeS 1 b l).2.2
  obtain ⟨c, hc⟩ : ∃ c, (takeS 1 b l).1 = [c] := by
    generalize (takeS 1 b l).1 = g at h3
    match g, h3 with
    | [c], _ => exact ⟨c, rfl⟩
  rw [hc] at h2 ⊢
  simpa [getN] using h2
theorem countS_there (b : Bool) (l : List Int) (hw : BytesWf l) (h : (countS b l).2.1 = false) : b = false ∧ l = numB 4 ((countS b l).1.toNat : Nat) ++ (countS b l).2.2 ∧ BytesWf (countS b l).2.2 := by
  unfold countS at h ⊢
  split at h
  · cases h
  · rename_i hc
    rw [if_neg hc]
    have hb : (takeS 4 b l).2.1 = false := by
      cases hh : (takeS 4 b l).2.1 with
      | true => exact absurd (Or.inl hh) hc
      | false => rfl
    obtain ⟨h1, h2, h3, h4, h5⟩ := takeS_there 4 b l hw hb
    refine ⟨h1, ?_, h5⟩
    have h6 := (getN_bound _ h4).1
    dsimp only
    rw [Int.toNat_of_nonneg h6]
    have := numB_getN _ h4
    rw [h3] at this
    rw [this]
    exact h2
theorem strB_strN (l : List Int) (h : BytesWf l) : strB (strN l) = l := by
  unfold strB strN
  rw [strOfNums_data, List.map_map]
  conv => rhs; rw [← List.map_id l]
  refine List.map_congr_left (fun n hn => ?_)
  have := h n hn
  show (((UInt8.ofNat n.toNat).toNat : Nat) : Int) = n
  rw [UInt8.toNat_ofNat']
  omega
theorem strN_size (l : List Int) : (strN l).size = l.length := strOfNums_size l
theorem textS_there : There textS textB := by
  intro b l hw h
  unfold textS at h ⊢
  dsimp only at h ⊢
  have hc := countS_wf (bad := b) hw
  obtain ⟨h1, h2, h3, h4, h5⟩ := takeS_there _ _ _ hc.2.2.1 h
  obtain ⟨g1, g2, g3⟩ := countS_there b l hw h1
  refine ⟨g1, ?_, h5⟩
  unfold textB
  rw [strN_size, h3, strB_strN _ h4, List.append_assoc, ← h2]
  exact g2
theorem valueS_there : There valueS valueB := by
  intro b l hw h
  have ht : ∀ h : (takeS 1 b l).2.1 = false, b = false ∧ l = getN (takeS 1 b l).1 :: (takeS 1 b l).2.2 ∧ BytesWf (takeS 1 b l).2.2 := fun h => kindS_there b l hw h
  unfold valueS at h ⊢
  dsimp only at h ⊢
  by_cases h1 : getN (takeS 1 b l).1 = 1
  · rw [if_pos h1] at h ⊢
    dsimp only at h ⊢
    rw [h]
    have hk := takeS_wf (n := 1) (bad := b) hw
    obtain ⟨g1, g2, g3⟩ := numS_there (takeS 1 b l).2.1 (takeS 1 b l).2.2 hk.2.1 h
    obtain ⟨q1, q2, _⟩ := ht g1
    refine ⟨q1, ?_, g3⟩
    rw [if_neg (by simp)]
    unfold valueB
    dsimp only
    rw [if_pos rfl]
    have g2' : (takeS 1 b l).2.2 = numB 8 (IntKind.i64.wrap (getN (takeS 8 (takeS 1 b l).2.1 (takeS 1 b l).2.2).1)) ++ (takeS 8 (takeS 1 b l).2.1 (takeS 1 b l).2.2).2.2 := g2
    rw [List.cons_append, ← g2', ← h1]
    exact q2
  · rw [if_neg h1] at h ⊢
    by_cases h2 : getN (takeS 1 b l).1 = 2
    · rw [if_pos h2] at h ⊢
      dsimp only at h ⊢
      rw [h]
      have hk := takeS_wf (n := 1) (bad := b) hw
      obtain ⟨g1, g2, g3⟩ := textS_there (takeS 1 b l).2.1 (takeS 1 b l).2.2 hk.2.1 h
      obtain ⟨q1, q2, _⟩ := ht g1
      refine ⟨q1, ?_, g3⟩
      rw [if_neg (by simp)]
      unfold valueB
      dsimp only
      rw [if_neg (by decide), if_pos rfl, List.cons_append, ← g2, ← h2]
      exact q2
    · rw [if_neg h2] at h
      cases h
theorem rowS_there {α : Type} {one : Bool → List Int → α × Bool × List Int} {oneB : α → List Int} (h1 : There one oneB) : ∀ (n : Nat) (b : Bool) (l : List Int), BytesWf l → (rowS one n b l).2.1 = false → b = false ∧ l = (rowS one n b l).1.flatMap oneB ++ (rowS one n b l).2.2 ∧ BytesWf (rowS one n b l).2.2 ∧ (rowS one n b l).1.length = n := by
  intro n
  induction n with
  | zero => intro b l hw h; exact ⟨h, rfl, hw, rfl⟩
  | succ n ih =>
    intro b l hw h
    unfold rowS at h ⊢
    split at h
    · rename_i hb
      dsimp only at h
      rw [hb] at h
      cases h
    · rename_i hb
      rw [if_neg hb]
      dsimp only at h ⊢
      have hw1 : ∀ h, BytesWf (one b l).2.2 := fun h => (h1 b l hw h).2.2
      have hbb : b = false := by cases b with | true => exact absurd rfl hb | false => rfl
      cases ho : (one b l).2.1 with
      | true => (try rw [ho] at h); rw [rowS_bad] at h; cases h
      | false =>
        obtain ⟨g1, g2, g3⟩ := h1 b l hw ho
        (try rw [ho] at h)
        (try rw [ho])
        obtain ⟨q1, q2, q3, q4⟩ := ih false _ g3 h
        refine ⟨hbb, ?_, q3, by rw [List.length_cons, q4]⟩
        rw [List.flatMap_cons, List.append_assoc, ← q2]
        exact g2
theorem rowsS_there {α : Type} {one : Bool → List Int → α × Bool × List Int} {oneB : α → List Int} (h1 : There one oneB) : There (rowsS one) (fun xs => numB 4 xs.length ++ xs.flatMap oneB) := by
  intro b l hw h
  unfold rowsS at h ⊢
  dsimp only at h ⊢
  have hc := countS_wf (bad := b) hw
  obtain ⟨g1, g2, g3, g4⟩ := rowS_there h1 _ _ _ hc.2.2.1 h
  obtain ⟨q1, q2, q3⟩ := countS_there b l hw g1
  refine ⟨q1, ?_, g3⟩
  rw [h, if_neg (by simp), g4, List.append_assoc, ← g2]
  exact q2
theorem valuesS_there : There valuesS valuesB := rowsS_there valueS_there
theorem intsS_there : There intsS (fun xs => numB 4 xs.length ++ xs.flatMap (numB 8)) := rowsS_there numS_there
theorem commandS_there : There commandS (fun c => commandB c.kind c.text c.num c.args) := by
  intro b l hw h
  unfold commandS at h ⊢
  dsimp only at h ⊢
  have w1 := (kindS_shrinks b l hw).1
  have w2 := (textS_shrinks (kindS b l).2.1 _ w1).1
  have w3 := (numS_shrinks (textS (kindS b l).2.1 (kindS b l).2.2).2.1 _ w2).1
  obtain ⟨g1, g2, g3⟩ := valuesS_there _ _ w3 h
  obtain ⟨q1, q2, q3⟩ := numS_there _ _ w2 g1
  obtain ⟨p1, p2, p3⟩ := textS_there _ _ w1 q1
  obtain ⟨o1, o2, o3⟩ := kindS_there b l hw p1
  refine ⟨o1, ?_, g3⟩
  rw [h, if_neg (by simp)]
  unfold commandB
  dsimp only
  simp only [List.append_assoc, List.cons_append]
  rw [← g2, ← q2, ← p2]
  exact o2
theorem entryS_there : There entryS entryB := by
  intro b l hw h
  unfold entryS at h ⊢
  dsimp only at h ⊢
  have w1 := (numS_shrinks b l hw).1
  have w2 := (kindS_shrinks (numS b l).2.1 _ w1).1
  have w3 := (numS_shrinks (kindS (numS b l).2.1 (numS b l).2.2).2.1 _ w2).1
  have w4 := (numS_shrinks (numS (kindS (numS b l).2.1 (numS b l).2.2).2.1 (kindS (numS b l).2.1 (numS b l).2.2).2.2).2.1 _ w3).1
  obtain ⟨T, hT⟩ : ∃ T, numS b l = T := ⟨_, rfl⟩
  have t1 := numS_there b l hw
  rw [hT] at h w1 w2 w3 w4 t1 ⊢
  obtain ⟨K, hK⟩ : ∃ K, kindS T.2.1 T.2.2 = K := ⟨_, rfl⟩
  have t2 := kindS_there T.2.1 T.2.2 w1
  rw [hK] at h w2 w3 w4 t2 ⊢
  obtain ⟨S, hS⟩ : ∃ S, numS K.2.1 K.2.2 = S := ⟨_, rfl⟩
  have t3 := numS_there K.2.1 K.2.2 w2
  rw [hS] at h w3 w4 t3 ⊢
  obtain ⟨R, hR⟩ : ∃ R, numS S.2.1 S.2.2 = R := ⟨_, rfl⟩
  have t4 := numS_there S.2.1 S.2.2 w3
  rw [hR] at h w4 t4 ⊢
  have w5 := (commandS_shrinks R.2.1 R.2.2 w4).1
  have t5 := commandS_there R.2.1 R.2.2 w4
  obtain ⟨C, hC⟩ : ∃ C, commandS R.2.1 R.2.2 = C := ⟨_, rfl⟩
  rw [hC] at h w5 t5 ⊢
  have t6 := intsS_there C.2.1 C.2.2 w5 h
  rw [h, if_neg (by simp)]
  obtain ⟨a6, b6, c6⟩ := t6
  obtain ⟨a5, b5, _⟩ := t5 a6
  obtain ⟨a4, b4, _⟩ := t4 a5
  obtain ⟨a3, b3, _⟩ := t3 a4
  obtain ⟨a2, b2, _⟩ := t2 a3
  obtain ⟨a1, b1, _⟩ := t1 a2
  refine ⟨a1, ?_, c6⟩
  unfold entryB
  dsimp only
  simp only [List.append_assoc, List.cons_append]
  rw [List.append_assoc] at b6
  rw [← b6, ← b5, ← b4, ← b3]
  rw [List.singleton_append] at b2
  rw [← b2]
  exact b1
end Go.Proofs.YtglgcjkglhlggaaGreatDoor
/- What letters say, as bytes and back. No program. Conditions: as each says. -/
namespace Go.Proofs.YtglgcjkglhlggaaGreatDoor
open Go.RowKit
set_option maxRecDepth 20000
instance vaDec : DecidableEq Va := fun a b => decidable_of_iff (a.kind = b.kind ∧ a.num = b.num ∧ a.text = b.text) (by
  cases a; cases b; simp)
def withinN (n : Int) : Bool := decide (0 ≤ n) && decide (n ≤ 1099511627776)
theorem withinN_iff {n : Int} : withinN n = true ↔ 0 ≤ n ∧ n ≤ 1099511627776 := by simp [withinN]
def votersGo : Int → List Int → Bool
  | _, [] => true
  | last, v :: r => (decide (last < v) && decide (v ≤ 9)) && votersGo v r
def votersB (l : List Int) : Bool := votersGo 0 l && (decide (1 ≤ l.length) && decide (l.length ≤ 7))
theorem votersGo_in : ∀ (l : List Int) (last : Int), votersGo last l = true → ∀ v ∈ l, last < v ∧ v ≤ 9 := by
  intro l
  induction l with
  | nil => intro _ _ v hv; cases hv
  | cons x r ih =>
    intro last h v hv
    simp only [votersGo, Bool.and_eq_true, decide_eq_true_eq] at h
    rcases List.mem_cons.1 hv with rfl | hv
    · exact h.1
    · have := ih x h.2 v hv
      omega
theorem votersB_in {l : List Int} (h : votersB l = true) : (∀ v ∈ l, 1 ≤ v ∧ v ≤ 9) ∧ 1 ≤ l.length ∧ l.length ≤ 7 := by
  simp only [votersB, Bool.and_eq_true, decide_eq_true_eq] at h
  exact ⟨fun v hv => by have := votersGo_in l 0 h.1 v hv; omega, h.2⟩
def plainC (c : CmP) : Bool := decide (c.kind = 0) && (decide (c.text = ⟨#[]⟩) && (decide (c.num = 0) && decide (c.args.length = 0)))
def wholeC (c : CmP) : Bool :=
  let r := commandS false (commandB c.kind c.text c.num c.args)
  (!r.2.1 && r.2.2.isEmpty) && (decide (c.args.length = r.1.args.length) && decide (c.args = r.1.args))
def EnP.cm (e : EnP) : CmP := ⟨e.ck, e.text, e.args, e.num⟩
def bareE (e : EnP) : Bool := decide (e.session = 0) && (decide (e.seq = 0) && plainC e.cm)
def entryR (e : EnP) : Bool :=
  if withinN e.term = false then false
  else if e.kind = 1 then bareE e && decide (e.vs.length = 0)
  else if e.kind = 2 then decide (0 ≤ e.session) && (decide (0 ≤ e.seq) && (decide (e.vs.length = 0) && wholeC e.cm))
  else decide (e.kind = 3) && (bareE e && votersB e.vs)
/-- A letter. -/
structure LtP where
  kind : Int
  fr : Int
  tov : Int
  term : Int
  index : Int
  was : Int
  ok : Bool
  commit : Int
  round : Int
  es : List EnP
  vs : List Int
  im : List Int
def zeroL : LtP := ⟨0, 0, 0, 0, 0, 0, false, 0, 0, [], [], []⟩
/-- A letter without what its kind has. -/
def leftL (l : LtP) : LtP × Bool :=
  if l.kind = 1 then ({ l with index := 0, was := 0 }, true)
  else if l.kind = 2 then ({ l with ok := false }, true)
  else if l.kind = 3 then ({ l with commit := 0, es := [], index := 0, was := 0, round := 0 }, true)
  else if l.kind = 5 then ({ l with was := 0, vs := [], im := [], index := 0, round := 0 }, true)
  else if l.kind = 4 then ({ l with ok := false, index := 0, round := 0 }, true)
  else if l.kind = 6 then ({ l with index := 0, round := 0 }, true)
  else (l, false)
def noneL (l : LtP) : Bool := decide (l.index = 0) && (decide (l.was = 0) && (!l.ok && (decide (l.commit = 0) && (decide (l.round = 0) && (decide (l.es.length = 0) && (decide (l.vs.length = 0) && decide (l.im.length = 0)))))))
def entriesR (es : List EnP) : Bool := es.all entryR && decide (es.length ≤ 16)
def rightL (l : LtP) : Bool :=
  if l.fr < 1 ∨ 9 < l.fr ∨ l.tov < 1 ∨ 9 < l.tov then false
  else if ([l.term, l.was, l.index, l.commit, l.round].all withinN && (entriesR l.es && (decide (l.vs.length = 0) || votersB l.vs))) = false then false
  else (leftL l).2 && noneL (leftL l).1
def bytesL (l : LtP) : List Int :=
  [l.kind, l.fr, l.tov] ++ ((numB 8 l.term ++ (numB 8 l.index ++ numB 8 l.was)) ++ ((if l.ok = true then 1 else 0) :: ((numB 8 l.commit ++ numB 8 l.round) ++ (numB 4 l.es.length ++ (l.es.flatMap entryB ++ (numB 4 l.vs.length ++ (l.vs ++ (numB 4 l.im.length ++ l.im))))))))
/-- A letter's bytes, and the error. -/
def putL2 (l : LtP) : List Int × Int := if rightL l = false then ([], 4) else if 1048576 < (bytesL l).length then ([], 3) else (bytesL l, 0)
/-- How many there are, of four bytes; none, if there are fewer bytes. -/
def cntS (r : List Int) : Int × Bool × List Int := if r.length < 4 then (0, false, r) else (getN (r.take 4), decide (getN (r.take 4) ≤ ((r.drop 4).length : Int)), r.drop 4)
def readEs : Nat → List Int → Option (List EnP × List Int)
  | 0, r => some ([], r)
  | n + 1, r => let x := entryS false r
    if x.2.1 = true then none else match readEs n (r.drop (entryB x.1).length) with
      | none => none
      | some (l, r') => some (x.1 :: l, r')
def readL (b : List Int) : Option LtP :=
  if b.length < 44 then none else
  let a := numS false ((b.drop 3).take 24)
  let i := numS a.2.1 a.2.2
  let s := numS i.2.1 i.2.2
  let c := numS false ((b.take 44).drop 28)
  let d := numS c.2.1 c.2.2
  let m := cntS (b.drop 44)
  if m.2.1 = false ∨ 16 < m.1 then none else
  match readEs m.1.toNat m.2.2 with
  | none => none
  | some (es, r) =>
    let v := cntS r
    if v.2.1 = false then none else
    let q := cntS (v.2.2.drop v.1.toNat)
    if q.2.1 = false ∨ q.1 ≠ (q.2.2.length : Int) then none else
    some ⟨b.getD 0 0, b.getD 1 0, b.getD 2 0, a.1, i.1, s.1, decide (b.getD 27 0 = 1), c.1, d.1, es, v.2.2.take v.1.toNat, q.2.2⟩
def getL (b : List Int) : LtP × Int :=
  if 1048576 < b.length then (zeroL, 4) else
  match readL b with
  | none => (zeroL, 4)
  | some l => if (putL2 l).2 = 0 ∧ (putL2 l).1 = b then (l, 0) else (zeroL, 4)
end Go.Proofs.YtglgcjkglhlggaaGreatDoor
/- A right letter's bytes are read as it, and with bytes behind them not at all. No program. Conditions: as each says. -/
namespace Go.Proofs.YtglgcjkglhlggaaGreatDoor
open Go.RowKit
set_option maxRecDepth 20000
theorem wrap_N64 (x : Int) : N64 (IntKind.i64.wrap x) := by
  unfold N64 IntKind.wrap
  simp [IntKind.signed, IntKind.bits]
  omega
theorem textS_told {b : Bool} {l : List Int} (hw : BytesWf l) (h : (textS b l).2.1 = false) : (textS b l).1.size ≤ 65536 := by
  have h2 := countS_wf (bad := b) hw
  unfold textS at h ⊢
  dsimp only at h ⊢
  rw [strN_size]
  have h3 := takeS_there _ _ _ h2.2.2.1 h
  rw [h3.2.2.1]
  omega
theorem valueS_told {b : Bool} {l : List Int} (hw : BytesWf l) (h : (valueS b l).2.1 = false) : Bare (valueS b l).1 ∧ VaFit (valueS b l).1 := by
  have hk := takeS_shrinks 1 b l hw
  unfold valueS at h ⊢
  dsimp only at h ⊢
  split
  · rename_i h1
    rw [if_pos h1] at h
    dsimp only at h
    dsimp only
    rw [h, if_neg (by simp)]
    exact ⟨Or.inl ⟨rfl, rfl⟩, wrap_N64 _, (Nat.zero_le 65536 : ByteArray.empty.size ≤ 65536)⟩
  · rename_i h1
    rw [if_neg h1] at h
    split
    · rename_i h2
      rw [if_pos h2] at h
      dsimp only at h
      dsimp only
      have ht := textS_told hk.1 h
      rw [h, if_neg (by simp)]
      exact ⟨Or.inr ⟨rfl, rfl⟩, (show N64 0 from ⟨by decide, by decide⟩), ht⟩
    · rename_i h2
      rw [if_neg h2] at h
      cases h
theorem rowV_told : ∀ (n : Nat) (b : Bool) (l : List Int), BytesWf l → (rowS valueS n b l).2.1 = false → ∀ v ∈ (rowS valueS n b l).1, Bare v ∧ VaFit v := by
  intro n
  induction n with
  | zero => intro b l _ _ v hv; cases hv
  | succ n ih =>
    intro b l hw h v hv
    have hs := valueS_shrinks b l hw
    unfold rowS at h hv
    split at h
    · rename_i hb
      rw [if_pos hb] at hv
      cases hv
    · rename_i hb
      rw [if_neg hb] at hv
      dsimp only at h hv
      have hb2 : (valueS b l).2.1 = false := (rowS_there valueS_there n _ _ hs.1 h).1
      rcases List.mem_cons.1 hv with rfl | hv
      · exact valueS_told hw hb2
      · exact ih _ _ hs.1 h v hv
theorem takeS_badS (n : Nat) (l : List Int) : (takeS n true l).2.1 = true := by simp [takeS]
theorem numS_bad (l : List Int) : (numS true l).2.1 = true := takeS_badS 8 l
theorem countS_bad (l : List Int) : (countS true l).2.1 = true ∧ (countS true l).1 = 0 := by
  unfold countS
  rw [if_pos (Or.inl (takeS_badS 4 l))]
  exact ⟨rfl, rfl⟩
theorem rowsS_bad {α : Type} (one : Bool → List Int → α × Bool × List Int) (l : List Int) : (rowsS one true l).2.1 = true := by
  unfold rowsS
  dsimp only
  rw [(countS_bad l).1, rowS_bad]
theorem over_bad {α : Type} (one : Bool → List Int → α × Bool × List Int) (n : Nat) (rest : List Int) (h : 65536 < n) (h2 : n < 4294967296) : (rowsS one false (numB 4 n ++ rest)).2.1 = true := by
  unfold rowsS
  dsimp only
  have e : countS false (numB 4 n ++ rest) = (0, true, rest) := by
    unfold countS
    rw [takeS_back 4 _ _ (numB_len 4 n)]
    dsimp only
    rw [getN_numB]
    have e1 : (256 : Int) ^ 4 = 4294967296 := by decide
    have e : (n : Int) % 256 ^ 4 = n := by rw [e1]; omega
    rw [e, if_pos (by right; omega)]
  rw [e]
  rfl
theorem text_bad (s : ByteArray) (rest : List Int) (h : 65536 < s.size) (h2 : s.size < 4294967296) : (textS false (textB s ++ rest)).2.1 = true := by
  unfold textS textB
  rw [List.append_assoc]
  have e : countS false (numB 4 s.size ++ (strB s ++ rest)) = (0, true, strB s ++ rest) := by
    unfold countS
    rw [takeS_back 4 _ _ (numB_len 4 s.size)]
    dsimp only
    rw [getN_numB]
    have e1 : (256 : Int) ^ 4 = 4294967296 := by decide
    have e : (s.size : Int) % 256 ^ 4 = s.size := by rw [e1]; omega
    rw [e, if_pos (by right; omega)]
  rw [e]
  rfl
/-- A command whose bytes say all of it. -/
theorem whole_fit {c : CmP} (hn : N64 c.num) (ht : c.text.size < 4294967296) (ha : c.args.length < 4294967296) (hw : BytesWf (valuesB c.args)) (h : wholeC c = true) : CmFit c := by
  unfold wholeC at h
  simp only [Bool.and_eq_true, Bool.not_eq_true', decide_eq_true_eq] at h
  obtain ⟨⟨h1, h2⟩, h3, h4⟩ := h
  unfold commandS commandB at h1 h4
  dsimp only at h1 h4
  rw [kindS_back] at h1 h4
  dsimp only at h1 h4
  rcases Nat.lt_or_ge 65536 c.text.size with hb | hb
  · exfalso
    have e := text_bad c.text (numB 8 c.num ++ valuesB c.args) hb ht
    rw [e] at h1
    rw [numS_bad] at h1
    unfold valuesS at h1
    rw [rowsS_bad] at h1
    cases h1
  rw [textS_back _ _ hb] at h1 h4
  dsimp only at h1 h4
  rw [numS_back _ _ hn] at h1 h4
  dsimp only at h1 h4
  rw [h1, if_neg (by simp)] at h4
  dsimp only at h4
  refine ⟨hb, hn, ?_, ?_⟩
  · rcases Nat.lt_or_ge 65536 c.args.length with hc | hc
    · exfalso
      have e := over_bad valueS c.args.length (c.args.flatMap valueB) hc ha
      unfold valuesS valuesB at h1
      rw [e] at h1
      cases h1
    · exact hc
  · have hc := countS_wf (bad := false) hw
    have key := rowV_told (countS false (valuesB c.args)).1.toNat (countS false (valuesB c.args)).2.1 _ hc.2.2.1
    have h5 : (rowS valueS (countS false (valuesB c.args)).1.toNat (countS false (valuesB c.args)).2.1 (countS false (valuesB c.args)).2.2).2.1 = false := h1
    have h6 : (valuesS false (valuesB c.args)).1 = (rowS valueS (countS false (valuesB c.args)).1.toNat (countS false (valuesB c.args)).2.1 (countS false (valuesB c.args)).2.2).1 := by
      show (if _ then _ else _) = _
      rw [h5, if_neg (by simp)]
    rw [h6] at h4
    rw [h4]
    exact key h5
theorem within_N64 {n : Int} (h : withinN n = true) : N64 n := by
  have := withinN_iff.1 h
  unfold N64
  omega
/-- An entry's numbers and lengths are some. -/
structure EnOk (e : EnP) : Prop where
  session : N64 e.session
  seq : N64 e.seq
  num : N64 e.num
  text : e.text.size < 4294967296
  args : e.args.length < 4294967296
  wf : BytesWf (valuesB e.args)
theorem cut_at {α : Type} (a b : List α) (k : Nat) (h : a.length = k) : (a ++ b).take k = a ∧ (a ++ b).drop k = b := by
  subst h
  exact ⟨List.take_left .., List.drop_left ..⟩
theorem right_nums {l : LtP} (h : rightL l = true) : (1 ≤ l.fr ∧ l.fr ≤ 9) ∧ (1 ≤ l.tov ∧ l.tov ≤ 9) ∧ N64 l.term ∧ N64 l.was ∧ N64 l.index ∧ N64 l.commit ∧ N64 l.round ∧ (∀ e ∈ l.es, entryR e = true) ∧ l.es.length ≤ 16 ∧ (∀ v ∈ l.vs, 1 ≤ v ∧ v ≤ 9) ∧ l.vs.length ≤ 7 := by
  unfold rightL at h
  split at h
  · cases h
  rename_i h1
  split at h
  · cases h
  rename_i h2
  have h2 := eq_true_of_ne_false h2
  simp only [List.all_cons, List.all_nil, Bool.and_eq_true, Bool.or_eq_true, decide_eq_true_eq, entriesR, List.all_eq_true] at h2
  obtain ⟨⟨a1, a2, a3, a4, a5, _⟩, ⟨b1, b2⟩, b3⟩ := h2
  refine ⟨by omega, by omega, within_N64 a1, within_N64 a2, within_N64 a3, within_N64 a4, within_N64 a5, b1, b2, ?_, ?_⟩
  · rcases b3 with h | h
    · rw [List.length_eq_zero_iff.1 h]
      intro v hv; cases hv
    · exact (votersB_in h).1
  · rcases b3 with h | h
    · omega
    · exact (votersB_in h).2.2
/-- What stands ahead of a letter's entries. -/
def headL (l : LtP) : List Int := [l.kind, l.fr, l.tov] ++ ((numB 8 l.term ++ (numB 8 l.index ++ numB 8 l.was)) ++ ((if l.ok = true then 1 else 0) :: (numB 8 l.commit ++ numB 8 l.round)))
theorem headL_len (l : LtP) : (headL l).length = 44 := by simp [headL, numB_len]
theorem bytesL_head (l : LtP) : bytesL l = headL l ++ (numB 4 l.es.length ++ (l.es.flatMap entryB ++ (numB 4 l.vs.length ++ (l.vs ++ (numB 4 l.im.length ++ l.im))))) := by
  simp [bytesL, headL]
theorem wf_mid {a b : List Int} (h : BytesWf (a ++ b)) : BytesWf a ∧ BytesWf b := ⟨fun x hx => h x (List.mem_append_left _ hx), fun x hx => h x (List.mem_append_right _ hx)⟩
theorem entry_ok {b : Bool} {l : List Int} (hw : BytesWf l) (h : (entryS b l).2.1 = false) : EnOk (entryS b l).1 := by
  have hth := entryS_there b l hw h
  have hwe : BytesWf (entryB (entryS b l).1) := by
    have := hth.2.1
    rw [this] at hw
    exact (wf_mid hw).1
  have wv : BytesWf (valuesB (entryS b l).1.args) := by
    generalize (entryS b l).1 = e at hwe
    unfold entryB commandB at hwe
    have q1 := (wf_mid hwe).2
    have q2 : BytesWf (numB 8 e.session ++ (numB 8 e.seq ++ ((e.ck :: (textB e.text ++ (numB 8 e.num ++ valuesB e.args))) ++ (numB 4 e.vs.length ++ e.vs.flatMap (numB 8))))) := fun x hx => q1 x (List.mem_cons_of_mem _ hx)
    have q4 := (wf_mid (wf_mid (wf_mid q2).2).2).1
    have q5 : BytesWf (textB e.text ++ (numB 8 e.num ++ valuesB e.args)) := fun x hx => q4 x (List.mem_cons_of_mem _ hx)
    exact (wf_mid (wf_mid q5).2).2
  obtain ⟨t, ht⟩ : ∃ t, numS b l = t := ⟨_, rfl⟩
  obtain ⟨k, hk⟩ : ∃ k, kindS t.2.1 t.2.2 = k := ⟨_, rfl⟩
  obtain ⟨s, hs⟩ : ∃ s, numS k.2.1 k.2.2 = s := ⟨_, rfl⟩
  obtain ⟨q, hq⟩ : ∃ q, numS s.2.1 s.2.2 = q := ⟨_, rfl⟩
  obtain ⟨c, hc⟩ : ∃ c, commandS q.2.1 q.2.2 = c := ⟨_, rfl⟩
  obtain ⟨v, hv⟩ : ∃ v, intsS c.2.1 c.2.2 = v := ⟨_, rfl⟩
  have he : entryS b l = (if v.2.1 = true then ⟨0, 0, 0, 0, 0, ByteArray.empty, [], 0, []⟩ else ⟨t.1, k.1, s.1, q.1, c.1.kind, c.1.text, c.1.args, c.1.num, v.1⟩, v.2) := by subst hv hc hq hs hk ht; rfl
  have w1 := numS_shrinks b l hw
  rw [ht] at w1
  have w2 := kindS_shrinks t.2.1 _ w1.1
  rw [hk] at w2
  have w3 := numS_shrinks k.2.1 _ w2.1
  rw [hs] at w3
  have w4 := numS_shrinks s.2.1 _ w3.1
  rw [hq] at w4
  have w5 := commandS_shrinks q.2.1 _ w4.1
  rw [hc] at w5
  rw [he] at h wv ⊢
  dsimp only at h wv ⊢
  have hcb : c.2.1 = false := by
    have := intsS_there c.2.1 _ w5.1 (by rw [hv]; exact h)
    exact this.1
  rw [h, if_neg (by simp)] at wv ⊢
  dsimp only at wv
  obtain ⟨k', hk'⟩ : ∃ k', kindS q.2.1 q.2.2 = k' := ⟨_, rfl⟩
  obtain ⟨t', ht'⟩ : ∃ t', textS k'.2.1 k'.2.2 = t' := ⟨_, rfl⟩
  obtain ⟨n', hn'⟩ : ∃ n', numS t'.2.1 t'.2.2 = n' := ⟨_, rfl⟩
  obtain ⟨v', hv'⟩ : ∃ v', valuesS n'.2.1 n'.2.2 = v' := ⟨_, rfl⟩
  have he' : c = (if v'.2.1 = true then ⟨0, ByteArray.empty, [], 0⟩ else ⟨k'.1, t'.1, v'.1, n'.1⟩, v'.2) := by subst hv' hn' ht' hk' hc; rfl
  have k1 := kindS_shrinks q.2.1 _ w4.1
  rw [hk'] at k1
  have k2 := textS_shrinks k'.2.1 _ k1.1
  rw [ht'] at k2
  have k3 := numS_shrinks t'.2.1 _ k2.1
  rw [hn'] at k3
  rw [he'] at hcb wv ⊢
  dsimp only at hcb wv ⊢
  have c3 : n'.2.1 = false := (valuesS_there n'.2.1 _ k3.1 (by rw [hv']; exact hcb)).1
  have c2 : t'.2.1 = false := (numS_there t'.2.1 _ k2.1 (by rw [hn']; exact c3)).1
  rw [hcb, if_neg (by simp)] at wv ⊢
  have e1 : N64 s.1 := by rw [← hs]; exact wrap_N64 _
  have e2 : N64 q.1 := by rw [← hq]; exact wrap_N64 _
  have e3 : N64 n'.1 := by rw [← hn']; exact wrap_N64 _
  have e4 : t'.1.size ≤ 65536 := by rw [← ht']; exact textS_told k1.1 (by rw [ht']; exact c2)
  have e5 : v'.1.length ≤ 65536 := by rw [← hv']; exact rowsS_len valueS n'.2.1 n'.2.2 k3.1
  exact ⟨e1, e2, e3, Nat.lt_of_le_of_lt e4 (by decide), Nat.lt_of_le_of_lt e5 (by decide), wv⟩
theorem readEs_ok : ∀ (n : Nat) (r : List Int) (es : List EnP) (r' : List Int), BytesWf r → readEs n r = some (es, r') → (∀ e ∈ es, EnOk e) ∧ es.length = n ∧ BytesWf r' ∧ r = es.flatMap entryB ++ r' := by
  intro n
  induction n with
  | zero =>
    intro r es r' hw h
    simp only [readEs, Option.some.injEq, Prod.mk.injEq] at h
    obtain ⟨rfl, rfl⟩ := h
    exact ⟨(fun e he => by cases he), rfl, hw, rfl⟩
  | succ n ih =>
    intro r es r' hw h
    have hth := entryS_there false r hw
    have hok := entry_ok (b := false) hw
    unfold readEs at h
    generalize entryS false r = x at h hth hok
    obtain ⟨e, xb, xr⟩ := x
    dsimp only at h hth hok
    cases xb with
    | true => rw [if_pos rfl] at h; cases h
    | false =>
      rw [if_neg (by simp)] at h
      obtain ⟨_, h2, h3⟩ := hth rfl
      have hr : r.drop (entryB e).length = xr := by
        rw [h2]
        exact (cut_at _ _ _ rfl).2
      rw [hr] at h
      rcases hq : readEs n xr with _ | ⟨l, r2⟩
      · rw [hq] at h
        cases h
      · rw [hq] at h
        simp only [Option.some.injEq, Prod.mk.injEq] at h
        obtain ⟨rfl, rfl⟩ := h
        obtain ⟨i1, i2, i3, i4⟩ := ih _ _ _ h3 hq
        refine ⟨fun e' he => ?_, by rw [List.length_cons, i2], i3, ?_⟩
        · rcases List.mem_cons.1 he with rfl | he
          · exact hok rfl
          · exact i1 e' he
        · rw [List.flatMap_cons, List.append_assoc, ← i4]
          exact h2
theorem cntS_wf {r : List Int} (h : BytesWf r) : BytesWf (cntS r).2.2 ∧ 0 ≤ (cntS r).1 ∧ (cntS r).1 < 4294967296 ∧ (cntS r).2.2.length ≤ r.length := by
  unfold cntS
  split
  · exact ⟨h, Int.le_refl 0, (by decide : (0 : Int) < 4294967296), Nat.le_refl _⟩
  · have h4 := getN_small (h.take 4) (by rw [List.length_take]; omega : (r.take 4).length ≤ 4)
    refine ⟨h.drop 4, h4.1, h4.2, by simp⟩
end Go.Proofs.YtglgcjkglhlggaaGreatDoor
/- log.copied: entries in memory of their own. Conditions: the entries' cells lie as their readings say. -/
namespace Go.Proofs.YtglgcjkglhlggaaGreatDoor
open Go.RowKit
set_option maxRecDepth 20000
def argV (e : En) : Value := .slice e.aao e.args.length e.acap
def votV (e : En) : Value := .slice e.vao e.vs.length e.vcap
/-- An entry's lists are the call's own. -/
def enOwn (w : World) (base : Nat) (e : En) : Prop :=
  w.ownsRow base 58 3 (argV e) e.args.length (e.args.flatMap vaCells) ∧ w.ownsRow base 3 1 (votV e) e.vs.length (e.vs.flatMap iCells)
def sepE (e f : En) : Prop := ((argV e).ownBlock = none ∨ (argV e).ownBlock ≠ (argV f).ownBlock) ∧ ((votV e).ownBlock = none ∨ (votV e).ownBlock ≠ (votV f).ownBlock)
/-- A row of entries of the call's own, their lists, too, each in a block of its own. -/
structure EnsOwn (w : World) (base : Nat) (v : Value) (es : List En) : Prop where
  row : w.ownsRow base 55 9 v es.length (es.flatMap enCells)
  own : ∀ e ∈ es, enOwn w base e
  sep : es.Pairwise sepE
theorem enOwn.below {w w' : World} {base B : Nat} {e : En} (h : enOwn w base e) (hb : Below B w w') (hB : w.heap.size ≤ B) : enOwn w' base e := ⟨own_below h.1 hb hB, own_below h.2 hb hB⟩
theorem enOwn.le {w : World} {base base' : Nat} {e : En} (h : enOwn w base e) (hB : base' ≤ base) : enOwn w base' e := ⟨Go.Joins.ownsRow_le h.1 hB, Go.Joins.ownsRow_le h.2 hB⟩
theorem EnsOwn.below {w w' : World} {base B : Nat} {v : Value} {es : List En} (h : EnsOwn w base v es) (hb : Below B w w') (hB : w.heap.size ≤ B) : EnsOwn w' base v es :=
  ⟨own_below h.row hb hB, fun e he => (h.own e he).below hb hB, h.sep⟩
theorem EnsOwn.le {w : World} {base base' : Nat} {v : Value} {es : List En} (h : EnsOwn w base v es) (hB : base' ≤ base) : EnsOwn w base' v es := ⟨Go.Joins.ownsRow_le h.row hB, fun e he => (h.own e he).le hB, h.sep⟩
theorem EnsOwn.nil (w : World) (base : Nat) : EnsOwn w base (.slice none 0 0) [] := ⟨World.ownsRow_nil _ _ _ _, by simp, List.Pairwise.nil⟩
/-- A row of the call's own, as it lies. -/
theorem own_rowsIn {α : Type} {k : Nat} {cells : α → List Value} {sub : World → Nat → α → Prop} (hk : ∀ x, (cells x).length = k) {w : World} {base e n c : Nat} {ao : Option Addr} {xs : List α} (hn : xs.length = n) (h : w.ownsRow base e k (.slice ao n c) n (xs.flatMap cells)) (hs : ∀ x ∈ xs, sub w w.heap.size x) : RowsIn k cells sub w w.heap.size ao xs := by
  subst hn
  obtain ⟨a', c', hv, hin, _⟩ := own_rows hk rfl h hs (Nat.le_refl _)
  cases hv
  exact hin
theorem enOwn.sub {w : World} {base : Nat} {e : En} (h : enOwn w base e) : enSub w w.heap.size e :=
  ⟨own_rowsIn vaCells_len rfl h.1 (fun _ _ => trivial), own_rowsIn iCells_len rfl h.2 (fun _ _ => trivial)⟩
end Go.Proofs.YtglgcjkglhlggaaGreatDoor
/- Entries among the arguments, with the bounds of what hangs on them. Conditions: they are read as the row reads them, their weights are bounded. -/
namespace Go.Proofs.YtglgcjkglhlggaaGreatDoor
open Go.RowKit Go.ChangeShapes
set_option maxRecDepth 20000
/-- No part of a datum is heavier than memory may be. -/
def DSized {H : Type} (P : Program) (t : TypeId) (d : DataW H) : Prop := ∀ n ∈ d.weights P t, n ≤ reachBytes
/-- A struct among the arguments. -/
theorem okWide_struct {P : Program} {W : World} {b0 : Nat} {t : TypeId} {fs : Array Field} {v : Value} (ht : P.underlying t = some (.struct fs)) (hv : Value.okWide P W .any b0 t v) : ∃ cs, v = .agg cs ∧ cs.size = P.cellsOf t := by
  simp only [Value.okWide, ht] at hv
  obtain ⟨cs, rfl, hsz, _⟩ := hv
  exact ⟨cs, rfl, hsz⟩
theorem DSized.arg {H : Type} {P : Program} {ts : List TypeId} {ds : List (DataW H)} (hsz : (DataW.weightsEach P ts ds).all (· ≤ reachBytes) = true) (j : Nat) {t : TypeId} {d : DataW H} (hj : ts[j]? = some t) (hd : ds[j]? = some d) : DSized P t d := fun n hn => by
  have := List.all_eq_true.1 hsz n (DataW.weights_mem_each hj hd n hn)
  simpa using this
theorem DSized.field {H : Type} {P : Program} {t : TypeId} {fs : Array Field} {xs : List (DataW H × List MemPlace)} (ht : P.underlying t = some (.struct fs)) (h : DSized P t (.agg (xs.map (·.1)))) {i : Nat} {f : Field} {y : DataW H × List MemPlace} (hf : fs[i]? = some f) (hy : xs[i]? = some y) : DSized P f.type y.1 := fun n hn => by
  refine h n ?_
  simp only [DataW.weights, ht]
  exact DataW.weights_mem_each (j := i) (by simp [hf]) (by simp [hy]) n hn
theorem weights_mem_all {H : Type} {P : Program} {e : TypeId} : ∀ {ds : List (DataW H)} {d : DataW H}, d ∈ ds → ∀ n ∈ d.weights P e, n ∈ DataW.weightsAll P e ds
  | d0 :: ds, d, h, n, hn => by
    simp only [DataW.weightsAll, List.mem_append]
    rcases List.mem_cons.1 h with rfl | h
    · exact Or.inl hn
    · exact Or.inr (weights_mem_all h n hn)
theorem DSized.elem {H : Type} {P : Program} {t e : TypeId} {elems sp : List (DataW H)} (ht : P.underlying t = some (.slice e)) (h : DSized P t (.slice elems sp)) {x : DataW H} (hx : x ∈ elems) : DSized P e x := fun n hn => by
  refine h n ?_
  simp only [DataW.weights, ht, List.mem_cons, List.mem_append]
  exact Or.inr (Or.inl (weights_mem_all hx n hn))
theorem DSized.len {H : Type} {P : Program} {t e : TypeId} {elems sp : List (DataW H)} (ht : P.underlying t = some (.slice e)) (h : DSized P t (.slice elems sp)) : elems.length * P.bytesOf e ≤ reachBytes := by
  have := h ((elems.length + sp.length) * P.bytesOf e) (by simp [DataW.weights, ht])
  exact Nat.le_trans (Nat.mul_le_mul_right _ (Nat.le_add_right _ _)) this
theorem DSized.str {H : Type} {P : Program} {t : TypeId} {s : ByteArray} (h : DSized (H := H) P t (.lit (.string s.data.toList))) : s.size ≤ reachBytes := by
  have := h s.data.toList.length (by simp [DataW.weights])
  simpa using this
/-- A slice's elements: none, or at an address, each by its cells and its own reading, with the bounds. -/
theorem slice_sized {H : Type} {enc : TypeId × Value → H} {P : Program} {W : World} {base : Nat} {sp : Nat → Bool} {hd : Bool} {t e : TypeId} {ao : Option Addr} {len cap C : Nat} {d : DataW H} {p : List MemPlace}
    (ht : P.underlying t = some (.slice e)) (hC : P.cellsOf e = C) (hC0 : 0 < C) (h : DataW.Trod enc P W base sp hd t (.slice ao len cap) d p) (hz : DSized P t d) :
    len * P.bytesOf e ≤ reachBytes ∧ (len = 0 ∨ ∃ (b off n : Nat) (D : Nat → DataW H) (Pl : Nat → List MemPlace), ao = some ⟨b, off, none⟩ ∧ base ≤ b ∧ b < W.heap.size ∧
      ∀ i, i < len → DSized P e (D i) ∧ ∃ cs : List Value, cs.length = C ∧ (∀ j, j < C → W.cell? ⟨b, off + i * C + j, none⟩ = cs[j]?) ∧ DataW.trod enc P W base sp hd n e cs = some (D i, Pl i)) := by
  obtain ⟨fuel, hf⟩ := h
  rcases Go.Deep.open_slice ht hf with ⟨h0, _⟩ | ⟨a, len', cap', m, n, D, Pl, h0, hb, hl, hm, hmm, hd, hx⟩
  · simp [Value.cells] at h0
    obtain ⟨rfl, rfl, rfl⟩ := h0
    exact ⟨by simp, Or.inl rfl⟩
  · simp [Value.cells] at h0
    obtain ⟨rfl, rfl, rfl⟩ := h0
    simp only [Prod.mk.injEq] at hd
    obtain ⟨rfl, _⟩ := hd
    have hlen := DSized.len ht hz
    rw [List.length_map, List.length_range] at hlen
    refine ⟨hlen, ?_⟩
    by_cases hz0 : len = 0
    · exact Or.inl hz0
    · right
      have hlm : len ≤ m := by rw [hmm]; split <;> omega
      rw [hC] at hx
      obtain ⟨b, off, spot⟩ := a
      have hs : spot = none := by
        obtain ⟨cs', h1, _⟩ := hx 0 (by omega)
        have h2 := (World.cells?_some h1).2.2 0 hC0
        have h3 : cs'.length = C := (World.cells?_some h1).2.1
        rw [List.getElem?_eq_getElem (by omega)] at h2
        simpa [Addr.add] using World.cell?_spot h2
      subst hs
      refine ⟨b, off, n, D, Pl, rfl, hb, ?_, fun i hi => ⟨DSized.elem ht hz (List.mem_map.2 ⟨i, List.mem_range.2 hi, rfl⟩), ?_⟩⟩
      · obtain ⟨cs', h1, _⟩ := hx 0 (by omega)
        have h2 := World.cells?_block h1 hC0
        simpa [Addr.add] using h2
      · obtain ⟨cs', h1, h2⟩ := hx i (by omega)
        obtain ⟨_, h3, h4⟩ := World.cells?_some h1
        refine ⟨cs', h3, fun j hj => ?_, h2⟩
        have := h4 j hj
        rw [Go.Deep.add_add, Go.WideShapes.add_plain] at this
        rw [← this, Nat.add_assoc]
/-- A slice among the arguments, whose things are read one by one, with the bounds. -/
theorem open_sized {α : Type} {k : Nat} {cells : α → List Value} {sub : World → Nat → α → Prop} {H : Type} {enc : TypeId × Value → H} {P : Program} {W : World} {sp : Nat → Bool} {hd : Bool} {t e : TypeId} {ao : Option Addr} {len cap : Nat} {d : DataW H} {p : List MemPlace} (Q : α → Prop)
    (ht : P.underlying t = some (.slice e)) (hC : P.cellsOf e = k) (hk : 0 < k)
    (hel : ∀ (cs : List Value) (n : Nat) (y : DataW H) (pl : List MemPlace), cs.length = k → DataW.trod enc P W 0 sp hd n e cs = some (y, pl) → DSized P e y → ∃ x : α, cells x = cs ∧ sub W W.heap.size x ∧ Q x)
    (h : DataW.Trod enc P W 0 sp hd t (.slice ao len cap) d p) (hz : DSized P t d) :
    ∃ xs : List α, xs.length = len ∧ RowsIn k cells sub W W.heap.size ao xs ∧ (∀ x ∈ xs, Q x) ∧ (ao = none → cap = 0) ∧ len ≤ cap ∧ len * P.bytesOf e ≤ reachBytes := by
  obtain ⟨h1, h2, h3⟩ := slice_shape ht h
  obtain ⟨hm, h0 | ⟨b, off, n, D, Pl, e1, _, hb, hx⟩⟩ := slice_sized ht hC hk h hz
  · exact ⟨[], h0.symm, Or.inl rfl, (by intro x hx; cases hx), h3, h1, hm⟩
  · have hne : ∀ i, i < len → ∃ x : α, (∀ j, j < k → W.cell? ⟨b, off + i * k + j, none⟩ = (cells x)[j]?) ∧ sub W W.heap.size x ∧ Q x := by
      intro i hi
      obtain ⟨hzi, cs, hl, hc, ht'⟩ := hx i hi
      obtain ⟨x, rfl, hs, hq⟩ := hel cs n _ _ hl ht' hzi
      exact ⟨x, hc, hs, hq⟩
    have key : ∀ m, m ≤ len → ∃ xs : List α, xs.length = m ∧ (∀ x ∈ xs, Q x) ∧ ∀ (i : Nat) (x : α), xs[i]? = some x → (∀ j, j < k → W.cell? ⟨b, off + i * k + j, none⟩ = (cells x)[j]?) ∧ sub W W.heap.size x := by
      intro m
      induction m with
      | zero => intro _; exact ⟨[], rfl, (by intro x hx; cases hx), (by intro i x hx; simp at hx)⟩
      | succ m ih =>
        intro hm'
        obtain ⟨xs, e1, e2, e3⟩ := ih (by omega)
        obtain ⟨x, g1, g2, g3⟩ := hne m (by omega)
        refine ⟨xs ++ [x], by simp [e1], fun y hy => ?_, fun i y hy => ?_⟩
        · rcases List.mem_append.1 hy with hy | hy
          · exact e2 y hy
          · rw [List.mem_singleton.1 hy]; exact g3
        · by_cases hi : i < m
          · rw [List.getElem?_append_left (by omega)] at hy; exact e3 i y hy
          · rw [List.getElem?_append_right (by omega)] at hy
            have hi' : i = m := by
              rcases Nat.lt_or_ge (i - xs.length) 1 with hh | hh
              · omega
              · rw [List.getElem?_eq_none (by simpa using hh)] at hy; cases hy
            subst hi'
            rw [e1, Nat.sub_self] at hy
            obtain rfl : x = y := by simpa using hy
            exact ⟨g1, g2⟩
    obtain ⟨xs, q1, q2, q3⟩ := key len (Nat.le_refl _)
    exact ⟨xs, q1, Or.inr ⟨b, off, e1, hb, q3⟩, q2, h3, h1, hm⟩
/-- A value among the arguments. -/
def VaArg (v : Va) : Prop := (Lit.int .u8 v.kind).wf = true ∧ (Lit.int .i64 v.num).wf = true ∧ v.text.size ≤ reachBytes
theorem cells_va : Tryz.prog.cellsOf 58 = 3 := by kernel_rfl
theorem cells_en : Tryz.prog.cellsOf 55 = 9 := by kernel_rfl
theorem cells_cm : Tryz.prog.cellsOf 53 = 4 := by kernel_rfl
theorem cells_i64 : Tryz.prog.cellsOf 3 = 1 := by kernel_rfl
theorem cells_int64 : Tryz.prog.cellsOf 2 = 1 := by kernel_rfl
theorem cells_str : Tryz.prog.cellsOf 9 = 1 := by kernel_rfl
theorem cells_ek : Tryz.prog.cellsOf 49 = 1 := by kernel_rfl
theorem cells_vk : Tryz.prog.cellsOf 56 = 1 := by kernel_rfl
theorem cells_ck : Tryz.prog.cellsOf 50 = 1 := by kernel_rfl
theorem cells_vas : Tryz.prog.cellsOf 51 = 1 := by kernel_rfl
theorem cells_ints : Tryz.prog.cellsOf 24 = 1 := by kernel_rfl
theorem va_el {H : Type} {enc : TypeId × Value → H} {W : World} {sp : Nat → Bool} {hd : Bool} (cs : List Value) (n : Nat) (y : DataW H) (pl : List MemPlace) (hl : cs.length = 3) (h : DataW.trod enc Tryz.prog W 0 sp hd n 58 cs = some (y, pl)) (hz : DSized Tryz.prog 58 y) :
    ∃ x : Va, vaCells x = cs ∧ noSub W W.heap.size x ∧ VaArg x := by
  obtain ⟨c0, c1, c2, rfl⟩ : ∃ c0 c1 c2, cs = [c0, c1, c2] := by
    match cs, hl with
    | [c0, c1, c2], _ => exact ⟨c0, c1, c2, rfl⟩
  obtain ⟨xs, m, _, hx, _, hlen, hf⟩ := DataW.trod_struct Tryz.underlying58 h
  simp only [Prod.mk.injEq] at hx
  obtain ⟨rfl, _⟩ := hx
  match xs, hlen with
  | [y0, y1, y2], _ =>
    have h0 := hf 0 _ rfl
    have h1 := hf 1 _ rfl
    have h2 := hf 2 _ rfl
    simp [cells_vk, cells_int64, cells_str] at h0 h1 h2
    obtain ⟨k0, e0, _, w0⟩ := DataW.trod_int Tryz.underlying56 h0
    obtain ⟨k1, e1, _, w1⟩ := DataW.trod_int Tryz.underlying2 h1
    obtain ⟨s, e2, d2, _⟩ := DataW.trod_string Tryz.underlying9 h2
    have z2 := DSized.field Tryz.underlying58 hz (i := 2) (y := y2) rfl rfl
    rw [d2] at z2
    simp at e0 e1 e2
    subst e0 e1 e2
    exact ⟨⟨k0, k1, s⟩, rfl, trivial, w0, w1, DSized.str z2⟩
theorem i_el {H : Type} {enc : TypeId × Value → H} {W : World} {sp : Nat → Bool} {hd : Bool} (cs : List Value) (n : Nat) (y : DataW H) (pl : List MemPlace) (hl : cs.length = 1) (h : DataW.trod enc Tryz.prog W 0 sp hd n 3 cs = some (y, pl)) (_ : DSized Tryz.prog 3 y) :
    ∃ x : Int, iCells x = cs ∧ noSub W W.heap.size x ∧ (Lit.int .i64 x).wf = true := by
  obtain ⟨k0, e0, _, w0⟩ := DataW.trod_int Tryz.underlying3 h
  exact ⟨k0, e0.symm, trivial, w0⟩
/-- An entry among the arguments. -/
structure EnWf (e : En) : Prop where
  term : (Lit.int .i64 e.term).wf = true
  kind : (Lit.int .u8 e.kind).wf = true
  session : (Lit.int .i64 e.session).wf = true
  seq : (Lit.int .i64 e.seq).wf = true
  ck : (Lit.int .u8 e.ck).wf = true
  text : e.text.size ≤ 140737488351232
  args : ∀ v ∈ e.args, VaArg v
  num : (Lit.int .i64 e.num).wf = true
  vs : ∀ v ∈ e.vs, (Lit.int .i64 v).wf = true
  argn : e.args.length * 32 ≤ 140737488351232
  vn : e.vs.length * 8 ≤ 140737488351232
  anil : e.aao = none → e.acap = 0
  vnil : e.vao = none → e.vcap = 0
  acap : e.args.length ≤ e.acap
  vcap : e.vs.length ≤ e.vcap
theorem bytes_va : Tryz.prog.bytesOf 58 = 32 := by kernel_rfl
theorem bytes_i : Tryz.prog.bytesOf 3 = 8 := by kernel_rfl
theorem bytes_en : Tryz.prog.bytesOf 55 = 112 := by kernel_rfl
theorem en_el {H : Type} {enc : TypeId × Value → H} {W : World} {sp : Nat → Bool} {hd : Bool} (cs : List Value) (n : Nat) (y : DataW H) (pl : List MemPlace) (hl : cs.length = 9) (h : DataW.trod enc Tryz.prog W 0 sp hd n 55 cs = some (y, pl)) (hz : DSized Tryz.prog 55 y) :
    ∃ x : En, enCells x = cs ∧ enSub W W.heap.size x ∧ EnWf x := by
  obtain ⟨c0, c1, c2, c3, c4, c5, c6, c7, c8, rfl⟩ : ∃ c0 c1 c2 c3 c4 c5 c6 c7 c8, cs = [c0, c1, c2, c3, c4, c5, c6, c7, c8] := by
    match cs, hl with
    | [c0, c1, c2, c3, c4, c5, c6, c7, c8], _ => exact ⟨c0, c1, c2, c3, c4, c5, c6, c7, c8, rfl⟩
  obtain ⟨xs, m, _, hx, _, hlen, hf⟩ := DataW.trod_struct Tryz.underlying55 h
  simp only [Prod.mk.injEq] at hx
  obtain ⟨rfl, _⟩ := hx
  match xs, hlen with
  | [y0, y1, y2, y3, y4, y5], _ =>
    have h0 := hf 0 _ rfl
    have h1 := hf 1 _ rfl
    have h2 := hf 2 _ rfl
    have h3 := hf 3 _ rfl
    have h4 := hf 4 _ rfl
    have h5 := hf 5 _ rfl
    have z4 := DSized.field Tryz.underlying55 hz (i := 4) (y := y4) rfl rfl
    have z5 := DSized.field Tryz.underlying55 hz (i := 5) (y := y5) rfl rfl
    simp [cells_i64, cells_ek, cells_cm, cells_ints] at h0 h1 h2 h3 h4 h5
    obtain ⟨k0, e0, _, w0⟩ := DataW.trod_int Tryz.underlying3 h0
    obtain ⟨k1, e1, _, w1⟩ := DataW.trod_int Tryz.underlying49 h1
    obtain ⟨k2, e2, _, w2⟩ := DataW.trod_int Tryz.underlying3 h2
    obtain ⟨k3, e3, _, w3⟩ := DataW.trod_int Tryz.underlying3 h3
    obtain ⟨va, vl, vc, e5, t5⟩ := slice_cell Tryz.underlying24 h5
    obtain ⟨vs, rfl, vx, vq, vnil, vcap, vlen⟩ := open_sized (k := 1) (cells := iCells) (sub := noSub) (fun x => (Lit.int .i64 x).wf = true) Tryz.underlying24 cells_i64 (by decide) i_el t5 z5
    obtain ⟨ys, m4, _, hy, _, hlen4, hf4⟩ := DataW.trod_struct Tryz.underlying53 h4
    obtain ⟨d4, p4⟩ := y4
    simp only [Prod.mk.injEq] at hy
    obtain ⟨rfl, _⟩ := hy
    match ys, hlen4 with
    | [u0, u1, u2, u3], _ =>
      have g0 := hf4 0 _ rfl
      have g1 := hf4 1 _ rfl
      have g2 := hf4 2 _ rfl
      have g3 := hf4 3 _ rfl
      have q1 := DSized.field Tryz.underlying53 z4 (i := 1) (y := u1) rfl rfl
      have q2 := DSized.field Tryz.underlying53 z4 (i := 2) (y := u2) rfl rfl
      simp [cells_i64, cells_ck, cells_str, cells_vas] at g0 g1 g2 g3
      obtain ⟨k4, e4, _, w4⟩ := DataW.trod_int Tryz.underlying50 g0
      obtain ⟨s, e6, d6, _⟩ := DataW.trod_string Tryz.underlying9 g1
      obtain ⟨aa, al, ac, e7, t7⟩ := slice_cell Tryz.underlying51 g2
      obtain ⟨args, rfl, ax, aq, anil, acap, alen⟩ := open_sized (k := 3) (cells := vaCells) (sub := noSub) VaArg Tryz.underlying51 cells_va (by decide) va_el t7 q2
      obtain ⟨k8, e8, _, w8⟩ := DataW.trod_int Tryz.underlying3 g3
      rw [d6] at q1
      simp at e0 e1 e2 e3 e4 e5 e6 e7 e8
      subst e0 e1 e2 e3 e4 e5 e6 e7 e8
      rw [bytes_va] at alen
      rw [bytes_i] at vlen
      exact ⟨⟨k0, k1, k2, k3, k4, s, aa, args, ac, k8, va, vs, vc⟩, rfl, ⟨ax, vx⟩, ⟨w0, w1, w2, w3, w4, DSized.str q1, aq, w8, vq, alen, vlen, anil, vnil, acap, vcap⟩⟩
/-- Entries among the arguments. -/
theorem open_entries {H : Type} {enc : TypeId × Value → H} {W : World} {sp : Nat → Bool} {hd : Bool} {ao : Option Addr} {len cap : Nat} {d : DataW H} {p : List MemPlace} (h : DataW.Trod enc Tryz.prog W 0 sp hd 23 (.slice ao len cap) d p) (hz : DSized Tryz.prog 23 d) :
    ∃ es : List En, es.length = len ∧ EnsIn W W.heap.size ao es ∧ (∀ e ∈ es, EnWf e) ∧ (ao = none → cap = 0) ∧ len ≤ cap ∧ len * 112 ≤ 140737488351232 := by
  obtain ⟨es, h1, h2, h3, h4, h5, h6⟩ := open_sized (k := 9) (cells := enCells) (sub := enSub) EnWf Tryz.underlying23 cells_en (by decide) en_el h hz
  rw [bytes_en] at h6
  exact ⟨es, h1, h2, h3, h4, h5, h6⟩
end Go.Proofs.YtglgcjkglhlggaaGreatDoor
/- Fact, Command of wire: the bytes of a form. Conditions: what is written is not too long. -/
namespace Go.Proofs.YtglgcjkglhlggaaGreatDoor
open Go.RowKit
set_option maxRecDepth 20000
/-- A block that lay under the writer's. -/
theorem heap_alloc_keep {w : World} {g : Nat} {x : Obj} (h : w.heap[g]? = some x) (o : Obj) : (w.alloc o).heap[g]? = some x :=
  ((World.grownBy_alloc w o none).block g (Array.getElem?_eq_some_iff.1 h).1 (by simp)).trans h
theorem commandB_len (ck : Int) (text : ByteArray) (num : Int) (args : List Va) : (commandB ck text num args).length = 13 + text.size + (valuesB args).length := by
  simp only [commandB, List.length_append, List.length_cons, numB_len, textB_len]; omega
set_option maxHeartbeats 1000000 in
theorem wcommand_any (ck : Int) (text : ByteArray) (ao : Option Addr) (n cap : Nat) (num : Int) (args : List Va) (w : World) (hn : args.length = n) (hx : ValsIn w w.heap.size ao args) (htx : ∀ v ∈ args, v.text.size ≤ 1099511627776) (hnl : n ≤ 1099511627776) (hlim : text.size + (valuesB args).length + 40 ≤ 100000000000) :
    Calls Tryz.prog 188 #[.agg #[.int .u8 ck, .string text, .slice ao n cap, .int .i64 num]] w (BytesNew (commandB ck text num args) w.heap.size w) := by
  have hfl := commandB_len ck text num args
  have H := Lib.hid (buf_new (w.alloc (.cells #[.int .u8 ck, .string text, .slice ao n cap, .int .i64 num] 53)))
  have hb := ((Below.refl w.heap.size w).alloc (Nat.le_refl _) (.cells #[.int .u8 ck, .string text, .slice ao n cap, .int .i64 num] 53)).alloc (by simp) (.cells #[.slice none 0 0, .int .i64 0, .int .i8 0] 130)
  have HB := Lib.hid hb
  have hsz : (w.alloc (.cells #[.int .u8 ck, .string text, .slice ao n cap, .int .i64 num] 53)).heap.size = w.heap.size + 1 := by simp
  rw [hsz] at H
  have HX := Lib.hid hx
  have HN := Lib.hid hn
  have HTX := Lib.hid htx
  have HFL := Lib.hid hfl
  clear hb hsz hx hn htx hfl
  go_enter Tryz.func188, Tryz.ntmps188
  go_wp2_with fail
  refine (command_any (w.heap.size + 1) (w.heap.size + 1) [] ck text ao n cap num args _ HN.out ((HX.out.below noSub_kept HB.out (Nat.le_refl _)).mono noSub_rising (Nat.le_succ _)) HTX.out H.out (by simp) hnl (by simp; omega)).mono ?_
  rintro e w1 ⟨rfl, hw⟩
  rw [List.nil_append] at hw
  have HW := Lib.hid hw
  have hb1 := HB.out.trans (hw.2.1.mono (Nat.le_succ _))
  have hs1 : w.heap.size + 1 ≤ w1.heap.size := by have := hw.2.1.size; simp at this; omega
  clear hw
  go_wp2_with fail
  refine (told_any (w.heap.size + 1) (w.heap.size + 1) _ w1 HW.out.1 hs1 (by have := HFL.out; omega)).mono ?_
  rintro e w2 ⟨a, c, rfl, ho, hb2⟩
  have HO := Lib.hid (Go.Joins.ownsRow_le ho hb1.size)
  have hb3 := hb1.trans (hb2.mono hb1.size)
  clear ho hb1 hb2
  go_wp2_with fail
  go_ret
  exact ⟨a, c, rfl, HO.out, hb3⟩
end Go.Proofs.YtglgcjkglhlggaaGreatDoor
