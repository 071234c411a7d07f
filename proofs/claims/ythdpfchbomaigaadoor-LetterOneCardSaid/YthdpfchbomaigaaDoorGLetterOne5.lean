/- What was read of bytes, and it was there, is written as just these bytes. No program. Conditions: as each says. -/
import Derived.Test.YthdpfchbomaigaaDoorGLetterOne4
import Derived.Test.YthdpfchbomaigaaDoorGLetterOne0
import Derived.Test.YthdpfchbomaigaaDoorGLetterOne1
set_option linter.unusedVariables false
set_option linter.unusedSimpArgs false
namespace Go.Proofs.YthdpfchbomaigaaDoor
open Go.RowKit
set_option maxRecDepth 20000
theorem numB_succ (s : Nat) (n : Int) : numB (s + 1) n = numB s (n / 256) ++ [n % 256] := by
  unfold numB
  rw [List.range_succ, List.map_append]
  congr 1
  · refine List.map_congr_left (fun j hj => ?_)
    have hj := List.mem_range.1 hj
    have e : s + 1 - 1 - j = (s - 1 - j) + 1 := by omega
    rw [e, Nat.mul_add, Int.pow_add, Int.mul_comm, ← Int.ediv_ediv_of_nonneg (by decide)]
    rfl
  · simp
theorem numB_getN (l : List Int) (h : BytesWf l) : numB l.length (getN l) = l := by
  have key : ∀ r : List Int, BytesWf r.reverse → numB r.length (getN r.reverse) = r.reverse := by
    intro r
    induction r with
    | nil => intro _; rfl
    | cons c r ih =>
      intro hw
      rw [List.reverse_cons] at hw ⊢
      have h1 := ih (fun x hx => hw x (List.mem_append_left _ hx))
      have h2 := hw c (by simp)
      rw [getN_snoc, List.length_cons, numB_succ]
      have e1 : (getN r.reverse * 256 + c) / 256 = getN r.reverse := by omega
      have e2 : (getN r.reverse * 256 + c) % 256 = c := by omega
      rw [e1, e2, h1]
  have := key l.reverse (by rwa [List.reverse_reverse])
  rwa [List.reverse_reverse, List.length_reverse] at this
/-- One way: what is read, and it was there, stood there. -/
def There {α : Type} (one : Bool → List Int → α × Bool × List Int) (oneB : α → List Int) : Prop := ∀ b l, BytesWf l → (one b l).2.1 = false → b = false ∧ l = oneB (one b l).1 ++ (one b l).2.2 ∧ BytesWf (one b l).2.2
theorem takeS_there (n : Nat) (b : Bool) (l : List Int) (hw : BytesWf l) (h : (takeS n b l).2.1 = false) : b = false ∧ l = (takeS n b l).1 ++ (takeS n b l).2.2 ∧ (takeS n b l).1.length = n ∧ BytesWf (takeS n b l).1 ∧ BytesWf (takeS n b l).2.2 := by
  unfold takeS at h ⊢
  split at h
  · cases h
  · rename_i hc
    rw [if_neg hc]
    have h1 : b = false := by cases b with | true => exact absurd (Or.inl rfl) hc | false => rfl
    have h2 : n ≤ l.length := by
      rcases Nat.lt_or_ge l.length n with h | h
      · exact absurd (Or.inr h) hc
      · exact h
    exact ⟨h1, (List.take_append_drop n l).symm, by rw [List.length_take]; omega, hw.take n, hw.drop n⟩
theorem numS_there : There numS (numB 8) := by
  intro b l hw h
  obtain ⟨h1, h2, h3, h4, h5⟩ := takeS_there 8 b l hw h
  refine ⟨h1, ?_, h5⟩
  show l = numB 8 (IntKind.i64.wrap (getN (takeS 8 b l).1)) ++ _
  rw [numB_wrap]
  have := numB_getN _ h4
  rw [h3] at this
  rw [this]
  exact h2
theorem kindS_there : There kindS (fun k => [k]) := by
  intro b l hw h
  obtain ⟨h1, h2, h3, h4, h5⟩ := takeS_there 1 b l hw h
  refine ⟨h1, ?_, h5⟩
  show l = [getN (takeS 1 b l).1] ++ (takeS 1 b l).2.2
  obtain ⟨c, hc⟩ : ∃ c, (takeS 1 b l).1 = [c] := by
    generalize (takeS 1 b l).1 = g at h3
    match g, h3 with
    | [c], _ => exact ⟨c, rfl⟩
  rw [hc] at h2 ⊢
  simpa [getN] using h2
theorem countS_there (b : Bool) (l : List Int) (hw : BytesWf l) (h : (countS b l).2.1 = false) : b = false ∧ l = numB 4 ((countS b l).1.toNat : Nat) ++ (countS b l).2.2 ∧ BytesWf (countS b l).2.2 := by
  unfold countS at h ⊢
  split at h
  · cases h
  · rename_i hc
    rw [if_neg hc]
    have hb : (takeS 4 b l).2.1 = false := by
      cases hh : (takeS 4 b l).2.1 with
      | true => exact absurd (Or.inl hh) hc
      | false => rfl
    obtain ⟨h1, h2, h3, h4, h5⟩ := takeS_there 4 b l hw hb
    refine ⟨h1, ?_, h5⟩
    have h6 := (getN_bound _ h4).1
    dsimp only
    rw [Int.toNat_of_nonneg h6]
    have := numB_getN _ h4
    rw [h3] at this
    rw [this]
    exact h2
theorem strB_strN (l : List Int) (h : BytesWf l) : strB (strN l) = l := by
  unfold strB strN
  rw [strOfNums_data, List.map_map]
  conv => rhs; rw [← List.map_id l]
  refine List.map_congr_left (fun n hn => ?_)
  have := h n hn
  show (((UInt8.ofNat n.toNat).toNat : Nat) : Int) = n
  rw [UInt8.toNat_ofNat']
  omega
theorem strN_size (l : List Int) : (strN l).size = l.length := strOfNums_size l
theorem textS_there : There textS textB := by
  intro b l hw h
  unfold textS at h ⊢
  dsimp only at h ⊢
  have hc := countS_wf (bad := b) hw
  obtain ⟨h1, h2, h3, h4, h5⟩ := takeS_there _ _ _ hc.2.2.1 h
  obtain ⟨g1, g2, g3⟩ := countS_there b l hw h1
  refine ⟨g1, ?_, h5⟩
  unfold textB
  rw [strN_size, h3, strB_strN _ h4, List.append_assoc, ← h2]
  exact g2
theorem valueS_there : There valueS valueB := by
  intro b l hw h
  have ht : ∀ h : (takeS 1 b l).2.1 = false, b = false ∧ l = getN (takeS 1 b l).1 :: (takeS 1 b l).2.2 ∧ BytesWf (takeS 1 b l).2.2 := fun h => kindS_there b l hw h
  unfold valueS at h ⊢
  dsimp only at h ⊢
  by_cases h1 : getN (takeS 1 b l).1 = 1
  · rw [if_pos h1] at h ⊢
    dsimp only at h ⊢
    rw [h]
    have hk := takeS_wf (n := 1) (bad := b) hw
    obtain ⟨g1, g2, g3⟩ := numS_there (takeS 1 b l).2.1 (takeS 1 b l).2.2 hk.2.1 h
    obtain ⟨q1, q2, _⟩ := ht g1
    refine ⟨q1, ?_, g3⟩
    rw [if_neg (by simp)]
    unfold valueB
    dsimp only
    rw [if_pos rfl]
    have g2' : (takeS 1 b l).2.2 = numB 8 (IntKind.i64.wrap (getN (takeS 8 (takeS 1 b l).2.1 (takeS 1 b l).2.2).1)) ++ (takeS 8 (takeS 1 b l).2.1 (takeS 1 b l).2.2).2.2 := g2
    rw [List.cons_append, ← g2', ← h1]
    exact q2
  · rw [if_neg h1] at h ⊢
    by_cases h2 : getN (takeS 1 b l).1 = 2
    · rw [if_pos h2] at h ⊢
      dsimp only at h ⊢
      rw [h]
      have hk := takeS_wf (n := 1) (bad := b) hw
      obtain ⟨g1, g2, g3⟩ := textS_there (takeS 1 b l).2.1 (takeS 1 b l).2.2 hk.2.1 h
      obtain ⟨q1, q2, _⟩ := ht g1
      refine ⟨q1, ?_, g3⟩
      rw [if_neg (by simp)]
      unfold valueB
      dsimp only
      rw [if_neg (by decide), if_pos rfl, List.cons_append, ← g2, ← h2]
      exact q2
    · rw [if_neg h2] at h
      cases h
theorem rowS_there {α : Type} {one : Bool → List Int → α × Bool × List Int} {oneB : α → List Int} (h1 : There one oneB) : ∀ (n : Nat) (b : Bool) (l : List Int), BytesWf l → (rowS one n b l).2.1 = false → b = false ∧ l = (rowS one n b l).1.flatMap oneB ++ (rowS one n b l).2.2 ∧ BytesWf (rowS one n b l).2.2 ∧ (rowS one n b l).1.length = n := by
  intro n
  induction n with
  | zero => intro b l hw h; exact ⟨h, rfl, hw, rfl⟩
  | succ n ih =>
    intro b l hw h
    unfold rowS at h ⊢
    split at h
    · rename_i hb
      dsimp only at h
      rw [hb] at h
      cases h
    · rename_i hb
      rw [if_neg hb]
      dsimp only at h ⊢
      have hw1 : ∀ h, BytesWf (one b l).2.2 := fun h => (h1 b l hw h).2.2
      have hbb : b = false := by cases b with | true => exact absurd rfl hb | false => rfl
      cases ho : (one b l).2.1 with
      | true => (try rw [ho] at h); rw [rowS_bad] at h; cases h
      | false =>
        obtain ⟨g1, g2, g3⟩ := h1 b l hw ho
        (try rw [ho] at h)
        (try rw [ho])
        obtain ⟨q1, q2, q3, q4⟩ := ih false _ g3 h
        refine ⟨hbb, ?_, q3, by rw [List.length_cons, q4]⟩
        rw [List.flatMap_cons, List.append_assoc, ← q2]
        exact g2
theorem rowsS_there {α : Type} {one : Bool → List Int → α × Bool × List Int} {oneB : α → List Int} (h1 : There one oneB) : There (rowsS one) (fun xs => numB 4 xs.length ++ xs.flatMap oneB) := by
  intro b l hw h
  unfold rowsS at h ⊢
  dsimp only at h ⊢
  have hc := countS_wf (bad := b) hw
  obtain ⟨g1, g2, g3, g4⟩ := rowS_there h1 _ _ _ hc.2.2.1 h
  obtain ⟨q1, q2, q3⟩ := countS_there b l hw g1
  refine ⟨q1, ?_, g3⟩
  rw [h, if_neg (by simp), g4, List.append_assoc, ← g2]
  exact q2
theorem valuesS_there : There valuesS valuesB := rowsS_there valueS_there
theorem intsS_there : There intsS (fun xs => numB 4 xs.length ++ xs.flatMap (numB 8)) := rowsS_there numS_there
theorem commandS_there : There commandS (fun c => commandB c.kind c.text c.num c.args) := by
  intro b l hw h
  unfold commandS at h ⊢
  dsimp only at h ⊢
  have w1 := (kindS_shrinks b l hw).1
  have w2 := (textS_shrinks (kindS b l).2.1 _ w1).1
  have w3 := (numS_shrinks (textS (kindS b l).2.1 (kindS b l).2.2).2.1 _ w2).1
  obtain ⟨g1, g2, g3⟩ := valuesS_there _ _ w3 h
  obtain ⟨q1, q2, q3⟩ := numS_there _ _ w2 g1
  obtain ⟨p1, p2, p3⟩ := textS_there _ _ w1 q1
  obtain ⟨o1, o2, o3⟩ := kindS_there b l hw p1
  refine ⟨o1, ?_, g3⟩
  rw [h, if_neg (by simp)]
  unfold commandB
  dsimp only
  simp only [List.append_assoc, List.cons_append]
  rw [← g2, ← q2, ← p2]
  exact o2
theorem entryS_there : There entryS entryB := by
  intro b l hw h
  unfold entryS at h ⊢
  dsimp only at h ⊢
  have w1 := (numS_shrinks b l hw).1
  have w2 := (kindS_shrinks (numS b l).2.1 _ w1).1
  have w3 := (numS_shrinks (kindS (numS b l).2.1 (numS b l).2.2).2.1 _ w2).1
  have w4 := (numS_shrinks (numS (kindS (numS b l).2.1 (numS b l).2.2).2.1 (kindS (numS b l).2.1 (numS b l).2.2).2.2).2.1 _ w3).1
  obtain ⟨T, hT⟩ : ∃ T, numS b l = T := ⟨_, rfl⟩
  have t1 := numS_there b l hw
  rw [hT] at h w1 w2 w3 w4 t1 ⊢
  obtain ⟨K, hK⟩ : ∃ K, kindS T.2.1 T.2.2 = K := ⟨_, rfl⟩
  have t2 := kindS_there T.2.1 T.2.2 w1
  rw [hK] at h w2 w3 w4 t2 ⊢
  obtain ⟨S, hS⟩ : ∃ S, numS K.2.1 K.2.2 = S := ⟨_, rfl⟩
  have t3 := numS_there K.2.1 K.2.2 w2
  rw [hS] at h w3 w4 t3 ⊢
  obtain ⟨R, hR⟩ : ∃ R, numS S.2.1 S.2.2 = R := ⟨_, rfl⟩
  have t4 := numS_there S.2.1 S.2.2 w3
  rw [hR] at h w4 t4 ⊢
  have w5 := (commandS_shrinks R.2.1 R.2.2 w4).1
  have t5 := commandS_there R.2.1 R.2.2 w4
  obtain ⟨C, hC⟩ : ∃ C, commandS R.2.1 R.2.2 = C := ⟨_, rfl⟩
  rw [hC] at h w5 t5 ⊢
  have t6 := intsS_there C.2.1 C.2.2 w5 h
  rw [h, if_neg (by simp)]
  obtain ⟨a6, b6, c6⟩ := t6
  obtain ⟨a5, b5, _⟩ := t5 a6
  obtain ⟨a4, b4, _⟩ := t4 a5
  obtain ⟨a3, b3, _⟩ := t3 a4
  obtain ⟨a2, b2, _⟩ := t2 a3
  obtain ⟨a1, b1, _⟩ := t1 a2
  refine ⟨a1, ?_, c6⟩
  unfold entryB
  dsimp only
  simp only [List.append_assoc, List.cons_append]
  rw [List.append_assoc] at b6
  rw [← b6, ← b5, ← b4, ← b3]
  rw [List.singleton_append] at b2
  rw [← b2]
  exact b1
end Go.Proofs.YthdpfchbomaigaaDoor
/- What letters say, as bytes and back. No program. Conditions: as each says. -/
namespace Go.Proofs.YthdpfchbomaigaaDoor
open Go.RowKit
set_option maxRecDepth 20000
instance vaDec : DecidableEq Va := fun a b => decidable_of_iff (a.kind = b.kind ∧ a.num = b.num ∧ a.text = b.text) (by
  cases a; cases b; simp)
def withinN (n : Int) : Bool := decide (0 ≤ n) && decide (n ≤ 1099511627776)
theorem withinN_iff {n : Int} : withinN n = true ↔ 0 ≤ n ∧ n ≤ 1099511627776 := by simp [withinN]
def votersGo : Int → List Int → Bool
  | _, [] => true
  | last, v :: r => (decide (last < v) && decide (v ≤ 9)) && votersGo v r
def votersB (l : List Int) : Bool := votersGo 0 l && (decide (1 ≤ l.length) && decide (l.length ≤ 7))
theorem votersGo_in : ∀ (l : List Int) (last : Int), votersGo last l = true → ∀ v ∈ l, last < v ∧ v ≤ 9 := by
  intro l
  induction l with
  | nil => intro _ _ v hv; cases hv
  | cons x r ih =>
    intro last h v hv
    simp only [votersGo, Bool.and_eq_true, decide_eq_true_eq] at h
    rcases List.mem_cons.1 hv with rfl | hv
    · exact h.1
    · have := ih x h.2 v hv
      omega
theorem votersB_in {l : List Int} (h : votersB l = true) : (∀ v ∈ l, 1 ≤ v ∧ v ≤ 9) ∧ 1 ≤ l.length ∧ l.length ≤ 7 := by
  simp only [votersB, Bool.and_eq_true, decide_eq_true_eq] at h
  exact ⟨fun v hv => by have := votersGo_in l 0 h.1 v hv; omega, h.2⟩
def plainC (c : CmP) : Bool := decide (c.kind = 0) && (decide (c.text = ⟨#[]⟩) && (decide (c.num = 0) && decide (c.args.length = 0)))
def wholeC (c : CmP) : Bool :=
  let r := commandS false (commandB c.kind c.text c.num c.args)
  (!r.2.1 && r.2.2.isEmpty) && (decide (c.args.length = r.1.args.length) && decide (c.args = r.1.args))
def EnP.cm (e : EnP) : CmP := ⟨e.ck, e.text, e.args, e.num⟩
def bareE (e : EnP) : Bool := decide (e.session = 0) && (decide (e.seq = 0) && plainC e.cm)
def entryR (e : EnP) : Bool :=
  if withinN e.term = false then false
  else if e.kind = 1 then bareE e && decide (e.vs.length = 0)
  else if e.kind = 2 then decide (0 ≤ e.session) && (decide (0 ≤ e.seq) && (decide (e.vs.length = 0) && wholeC e.cm))
  else decide (e.kind = 3) && (bareE e && votersB e.vs)
/-- A letter. -/
structure LtP where
  kind : Int
  fr : Int
  tov : Int
  term : Int
  index : Int
  was : Int
  ok : Bool
  commit : Int
  round : Int
  es : List EnP
  vs : List Int
  im : List Int
def zeroL : LtP := ⟨0, 0, 0, 0, 0, 0, false, 0, 0, [], [], []⟩
/-- A letter without what its kind has. -/
def leftL (l : LtP) : LtP × Bool :=
  if l.kind = 1 then ({ l with index := 0, was := 0 }, true)
  else if l.kind = 2 then ({ l with ok := false }, true)
  else if l.kind = 3 then ({ l with commit := 0, es := [], index := 0, was := 0, round := 0 }, true)
  else if l.kind = 5 then ({ l with was := 0, vs := [], im := [], index := 0, round := 0 }, true)
  else if l.kind = 4 then ({ l with ok := false, index := 0, round := 0 }, true)
  else if l.kind = 6 then ({ l with index := 0, round := 0 }, true)
  else (l, false)
def noneL (l : LtP) : Bool := decide (l.index = 0) && (decide (l.was = 0) && (!l.ok && (decide (l.commit = 0) && (decide (l.round = 0) && (decide (l.es.length = 0) && (decide (l.vs.length = 0) && decide (l.im.length = 0)))))))
def entriesR (es : List EnP) : Bool := es.all entryR && decide (es.length ≤ 16)
def rightL (l : LtP) : Bool :=
  if l.fr < 1 ∨ 9 < l.fr ∨ l.tov < 1 ∨ 9 < l.tov then false
  else if ([l.term, l.was, l.index, l.commit, l.round].all withinN && (entriesR l.es && (decide (l.vs.length = 0) || votersB l.vs))) = false then false
  else (leftL l).2 && noneL (leftL l).1
def bytesL (l : LtP) : List Int :=
  [l.kind, l.fr, l.tov] ++ ((numB 8 l.term ++ (numB 8 l.index ++ numB 8 l.was)) ++ ((if l.ok = true then 1 else 0) :: ((numB 8 l.commit ++ numB 8 l.round) ++ (numB 4 l.es.length ++ (l.es.flatMap entryB ++ (numB 4 l.vs.length ++ (l.vs ++ (numB 4 l.im.length ++ l.im))))))))
/-- A letter's bytes, and the error. -/
def putL2 (l : LtP) : List Int × Int := if rightL l = false then ([], 4) else if 1048576 < (bytesL l).length then ([], 3) else (bytesL l, 0)
/-- How many there are, of four bytes; none, if there are fewer bytes. -/
def cntS (r : List Int) : Int × Bool × List Int := if r.length < 4 then (0, false, r) else (getN (r.take 4), decide (getN (r.take 4) ≤ ((r.drop 4).length : Int)), r.drop 4)
def readEs : Nat → List Int → Option (List EnP × List Int)
  | 0, r => some ([], r)
  | n + 1, r => let x := entryS false r
    if x.2.1 = true then none else match readEs n (r.drop (entryB x.1).length) with
      | none => none
      | some (l, r') => some (x.1 :: l, r')
def readL (b : List Int) : Option LtP :=
  if b.length < 44 then none else
  let a := numS false ((b.drop 3).take 24)
  let i := numS a.2.1 a.2.2
  let s := numS i.2.1 i.2.2
  let c := numS false ((b.take 44).drop 28)
  let d := numS c.2.1 c.2.2
  let m := cntS (b.drop 44)
  if m.2.1 = false ∨ 16 < m.1 then none else
  match readEs m.1.toNat m.2.2 with
  | none => none
  | some (es, r) =>
    let v := cntS r
    if v.2.1 = false then none else
    let q := cntS (v.2.2.drop v.1.toNat)
    if q.2.1 = false ∨ q.1 ≠ (q.2.2.length : Int) then none else
    some ⟨b.getD 0 0, b.getD 1 0, b.getD 2 0, a.1, i.1, s.1, decide (b.getD 27 0 = 1), c.1, d.1, es, v.2.2.take v.1.toNat, q.2.2⟩
def getL (b : List Int) : LtP × Int :=
  if 1048576 < b.length then (zeroL, 4) else
  match readL b with
  | none => (zeroL, 4)
  | some l => if (putL2 l).2 = 0 ∧ (putL2 l).1 = b then (l, 0) else (zeroL, 4)
/-- What is got is right, and put as just these bytes. -/
theorem getL_one {b : List Int} (h : (getL b).2 = 0) : rightL (getL b).1 = true ∧ putL2 (getL b).1 = (b, 0) := by
  unfold getL at h ⊢
  split at h
  · cases h
  rename_i h1
  rw [if_neg h1]
  split at h
  · cases h
  rename_i l hl
  split at h
  · rename_i h2
    rw [if_pos h2]
    dsimp only
    have h3 : rightL l = true := by
      cases hr : rightL l with
      | true => rfl
      | false => have := h2.1; unfold putL2 at this; rw [if_pos hr] at this; cases this
    exact ⟨h3, Prod.ext h2.2 h2.1⟩
  · cases h
theorem getL_err (b : List Int) : (getL b).2 = 0 ∨ getL b = (zeroL, 4) := by
  unfold getL
  split
  · exact Or.inr rfl
  · split
    · exact Or.inr rfl
    · split
      · exact Or.inl rfl
      · exact Or.inr rfl
end Go.Proofs.YthdpfchbomaigaaDoor
/- A right letter's bytes are read as it, and with bytes behind them not at all. No program. Conditions: as each says. -/
namespace Go.Proofs.YthdpfchbomaigaaDoor
open Go.RowKit
set_option maxRecDepth 20000
theorem wrap_N64 (x : Int) : N64 (IntKind.i64.wrap x) := by
  unfold N64 IntKind.wrap
  simp [IntKind.signed, IntKind.bits]
  omega
theorem textS_told {b : Bool} {l : List Int} (hw : BytesWf l) (h : (textS b l).2.1 = false) : (textS b l).1.size ≤ 65536 := by
  have h2 := countS_wf (bad := b) hw
  unfold textS at h ⊢
  dsimp only at h ⊢
  rw [strN_size]
  have h3 := takeS_there _ _ _ h2.2.2.1 h
  rw [h3.2.2.1]
  omega
theorem valueS_told {b : Bool} {l : List Int} (hw : BytesWf l) (h : (valueS b l).2.1 = false) : Bare (valueS b l).1 ∧ VaFit (valueS b l).1 := by
  have hk := takeS_shrinks 1 b l hw
  unfold valueS at h ⊢
  dsimp only at h ⊢
  split
  · rename_i h1
    rw [if_pos h1] at h
    dsimp only at h
    dsimp only
    rw [h, if_neg (by simp)]
    exact ⟨Or.inl ⟨rfl, rfl⟩, wrap_N64 _, (Nat.zero_le 65536 : ByteArray.empty.size ≤ 65536)⟩
  · rename_i h1
    rw [if_neg h1] at h
    split
    · rename_i h2
      rw [if_pos h2] at h
      dsimp only at h
      dsimp only
      have ht := textS_told hk.1 h
      rw [h, if_neg (by simp)]
      exact ⟨Or.inr ⟨rfl, rfl⟩, (show N64 0 from ⟨by decide, by decide⟩), ht⟩
    · rename_i h2
      rw [if_neg h2] at h
      cases h
theorem rowV_told : ∀ (n : Nat) (b : Bool) (l : List Int), BytesWf l → (rowS valueS n b l).2.1 = false → ∀ v ∈ (rowS valueS n b l).1, Bare v ∧ VaFit v := by
  intro n
  induction n with
  | zero => intro b l _ _ v hv; cases hv
  | succ n ih =>
    intro b l hw h v hv
    have hs := valueS_shrinks b l hw
    unfold rowS at h hv
    split at h
    · rename_i hb
      rw [if_pos hb] at hv
      cases hv
    · rename_i hb
      rw [if_neg hb] at hv
      dsimp only at h hv
      have hb2 : (valueS b l).2.1 = false := (rowS_there valueS_there n _ _ hs.1 h).1
      rcases List.mem_cons.1 hv with rfl | hv
      · exact valueS_told hw hb2
      · exact ih _ _ hs.1 h v hv
theorem within_N64 {n : Int} (h : withinN n = true) : N64 n := by
  have := withinN_iff.1 h
  unfold N64
  omega
/-- An entry's numbers and lengths are some. -/
structure EnOk (e : EnP) : Prop where
  session : N64 e.session
  seq : N64 e.seq
  num : N64 e.num
  text : e.text.size < 4294967296
  args : e.args.length < 4294967296
  wf : BytesWf (valuesB e.args)
theorem cut_at {α : Type} (a b : List α) (k : Nat) (h : a.length = k) : (a ++ b).take k = a ∧ (a ++ b).drop k = b := by
  subst h
  exact ⟨List.take_left .., List.drop_left ..⟩
theorem right_nums {l : LtP} (h : rightL l = true) : (1 ≤ l.fr ∧ l.fr ≤ 9) ∧ (1 ≤ l.tov ∧ l.tov ≤ 9) ∧ N64 l.term ∧ N64 l.was ∧ N64 l.index ∧ N64 l.commit ∧ N64 l.round ∧ (∀ e ∈ l.es, entryR e = true) ∧ l.es.length ≤ 16 ∧ (∀ v ∈ l.vs, 1 ≤ v ∧ v ≤ 9) ∧ l.vs.length ≤ 7 := by
  unfold rightL at h
  split at h
  · cases h
  rename_i h1
  split at h
  · cases h
  rename_i h2
  have h2 := eq_true_of_ne_false h2
  simp only [List.all_cons, List.all_nil, Bool.and_eq_true, Bool.or_eq_true, decide_eq_true_eq, entriesR, List.all_eq_true] at h2
  obtain ⟨⟨a1, a2, a3, a4, a5, _⟩, ⟨b1, b2⟩, b3⟩ := h2
  refine ⟨by omega, by omega, within_N64 a1, within_N64 a2, within_N64 a3, within_N64 a4, within_N64 a5, b1, b2, ?_, ?_⟩
  · rcases b3 with h | h
    · rw [List.length_eq_zero_iff.1 h]
      intro v hv; cases hv
    · exact (votersB_in h).1
  · rcases b3 with h | h
    · omega
    · exact (votersB_in h).2.2
/-- What stands ahead of a letter's entries. -/
def headL (l : LtP) : List Int := [l.kind, l.fr, l.tov] ++ ((numB 8 l.term ++ (numB 8 l.index ++ numB 8 l.was)) ++ ((if l.ok = true then 1 else 0) :: (numB 8 l.commit ++ numB 8 l.round)))
theorem headL_len (l : LtP) : (headL l).length = 44 := by simp [headL, numB_len]
theorem bytesL_head (l : LtP) : bytesL l = headL l ++ (numB 4 l.es.length ++ (l.es.flatMap entryB ++ (numB 4 l.vs.length ++ (l.vs ++ (numB 4 l.im.length ++ l.im))))) := by
  simp [bytesL, headL]
theorem wf_mid {a b : List Int} (h : BytesWf (a ++ b)) : BytesWf a ∧ BytesWf b := ⟨fun x hx => h x (List.mem_append_left _ hx), fun x hx => h x (List.mem_append_right _ hx)⟩
theorem entry_ok {b : Bool} {l : List Int} (hw : BytesWf l) (h : (entryS b l).2.1 = false) : EnOk (entryS b l).1 := by
  have hth := entryS_there b l hw h
  have hwe : BytesWf (entryB (entryS b l).1) := by
    have := hth.2.1
    rw [this] at hw
    exact (wf_mid hw).1
  have wv : BytesWf (valuesB (entryS b l).1.args) := by
    generalize (entryS b l).1 = e at hwe
    unfold entryB commandB at hwe
    have q1 := (wf_mid hwe).2
    have q2 : BytesWf (numB 8 e.session ++ (numB 8 e.seq ++ ((e.ck :: (textB e.text ++ (numB 8 e.num ++ valuesB e.args))) ++ (numB 4 e.vs.length ++ e.vs.flatMap (numB 8))))) := fun x hx => q1 x (List.mem_cons_of_mem _ hx)
    have q4 := (wf_mid (wf_mid (wf_mid q2).2).2).1
    have q5 : BytesWf (textB e.text ++ (numB 8 e.num ++ valuesB e.args)) := fun x hx => q4 x (List.mem_cons_of_mem _ hx)
    exact (wf_mid (wf_mid q5).2).2
  obtain ⟨t, ht⟩ : ∃ t, numS b l = t := ⟨_, rfl⟩
  obtain ⟨k, hk⟩ : ∃ k, kindS t.2.1 t.2.2 = k := ⟨_, rfl⟩
  obtain ⟨s, hs⟩ : ∃ s, numS k.2.1 k.2.2 = s := ⟨_, rfl⟩
  obtain ⟨q, hq⟩ : ∃ q, numS s.2.1 s.2.2 = q := ⟨_, rfl⟩
  obtain ⟨c, hc⟩ : ∃ c, commandS q.2.1 q.2.2 = c := ⟨_, rfl⟩
  obtain ⟨v, hv⟩ : ∃ v, intsS c.2.1 c.2.2 = v := ⟨_, rfl⟩
  have he : entryS b l = (if v.2.1 = true then ⟨0, 0, 0, 0, 0, ByteArray.empty, [], 0, []⟩ else ⟨t.1, k.1, s.1, q.1, c.1.kind, c.1.text, c.1.args, c.1.num, v.1⟩, v.2) := by subst hv hc hq hs hk ht; rfl
  have w1 := numS_shrinks b l hw
  rw [ht] at w1
  have w2 := kindS_shrinks t.2.1 _ w1.1
  rw [hk] at w2
  have w3 := numS_shrinks k.2.1 _ w2.1
  rw [hs] at w3
  have w4 := numS_shrinks s.2.1 _ w3.1
  rw [hq] at w4
  have w5 := commandS_shrinks q.2.1 _ w4.1
  rw [hc] at w5
  rw [he] at h wv ⊢
  dsimp only at h wv ⊢
  have hcb : c.2.1 = false := by
    have := intsS_there c.2.1 _ w5.1 (by rw [hv]; exact h)
    exact this.1
  rw [h, if_neg (by simp)] at wv ⊢
  dsimp only at wv
  obtain ⟨k', hk'⟩ : ∃ k', kindS q.2.1 q.2.2 = k' := ⟨_, rfl⟩
  obtain ⟨t', ht'⟩ : ∃ t', textS k'.2.1 k'.2.2 = t' := ⟨_, rfl⟩
  obtain ⟨n', hn'⟩ : ∃ n', numS t'.2.1 t'.2.2 = n' := ⟨_, rfl⟩
  obtain ⟨v', hv'⟩ : ∃ v', valuesS n'.2.1 n'.2.2 = v' := ⟨_, rfl⟩
  have he' : c = (if v'.2.1 = true then ⟨0, ByteArray.empty, [], 0⟩ else ⟨k'.1, t'.1, v'.1, n'.1⟩, v'.2) := by subst hv' hn' ht' hk' hc; rfl
  have k1 := kindS_shrinks q.2.1 _ w4.1
  rw [hk'] at k1
  have k2 := textS_shrinks k'.2.1 _ k1.1
  rw [ht'] at k2
  have k3 := numS_shrinks t'.2.1 _ k2.1
  rw [hn'] at k3
  rw [he'] at hcb wv ⊢
  dsimp only at hcb wv ⊢
  have c3 : n'.2.1 = false := (valuesS_there n'.2.1 _ k3.1 (by rw [hv']; exact hcb)).1
  have c2 : t'.2.1 = false := (numS_there t'.2.1 _ k2.1 (by rw [hn']; exact c3)).1
  rw [hcb, if_neg (by simp)] at wv ⊢
  have e1 : N64 s.1 := by rw [← hs]; exact wrap_N64 _
  have e2 : N64 q.1 := by rw [← hq]; exact wrap_N64 _
  have e3 : N64 n'.1 := by rw [← hn']; exact wrap_N64 _
  have e4 : t'.1.size ≤ 65536 := by rw [← ht']; exact textS_told k1.1 (by rw [ht']; exact c2)
  have e5 : v'.1.length ≤ 65536 := by rw [← hv']; exact rowsS_len valueS n'.2.1 n'.2.2 k3.1
  exact ⟨e1, e2, e3, Nat.lt_of_le_of_lt e4 (by decide), Nat.lt_of_le_of_lt e5 (by decide), wv⟩
theorem readEs_ok : ∀ (n : Nat) (r : List Int) (es : List EnP) (r' : List Int), BytesWf r → readEs n r = some (es, r') → (∀ e ∈ es, EnOk e) ∧ es.length = n ∧ BytesWf r' ∧ r = es.flatMap entryB ++ r' := by
  intro n
  induction n with
  | zero =>
    intro r es r' hw h
    simp only [readEs, Option.some.injEq, Prod.mk.injEq] at h
    obtain ⟨rfl, rfl⟩ := h
    exact ⟨(fun e he => by cases he), rfl, hw, rfl⟩
  | succ n ih =>
    intro r es r' hw h
    have hth := entryS_there false r hw
    have hok := entry_ok (b := false) hw
    unfold readEs at h
    generalize entryS false r = x at h hth hok
    obtain ⟨e, xb, xr⟩ := x
    dsimp only at h hth hok
    cases xb with
    | true => rw [if_pos rfl] at h; cases h
    | false =>
      rw [if_neg (by simp)] at h
      obtain ⟨_, h2, h3⟩ := hth rfl
      have hr : r.drop (entryB e).length = xr := by
        rw [h2]
        exact (cut_at _ _ _ rfl).2
      rw [hr] at h
      rcases hq : readEs n xr with _ | ⟨l, r2⟩
      · rw [hq] at h
        cases h
      · rw [hq] at h
        simp only [Option.some.injEq, Prod.mk.injEq] at h
        obtain ⟨rfl, rfl⟩ := h
        obtain ⟨i1, i2, i3, i4⟩ := ih _ _ _ h3 hq
        refine ⟨fun e' he => ?_, by rw [List.length_cons, i2], i3, ?_⟩
        · rcases List.mem_cons.1 he with rfl | he
          · exact hok rfl
          · exact i1 e' he
        · rw [List.flatMap_cons, List.append_assoc, ← i4]
          exact h2
theorem cntS_wf {r : List Int} (h : BytesWf r) : BytesWf (cntS r).2.2 ∧ 0 ≤ (cntS r).1 ∧ (cntS r).1 < 4294967296 ∧ (cntS r).2.2.length ≤ r.length := by
  unfold cntS
  split
  · exact ⟨h, Int.le_refl 0, (by decide : (0 : Int) < 4294967296), Nat.le_refl _⟩
  · have h4 := getN_small (h.take 4) (by rw [List.length_take]; omega : (r.take 4).length ≤ 4)
    refine ⟨h.drop 4, h4.1, h4.2, by simp⟩
end Go.Proofs.YthdpfchbomaigaaDoor
/- log.copied: entries in memory of their own. Conditions: the entries' cells lie as their readings say. -/
namespace Go.Proofs.YthdpfchbomaigaaDoor
open Go.RowKit
set_option maxRecDepth 20000
def argV (e : En) : Value := .slice e.aao e.args.length e.acap
def votV (e : En) : Value := .slice e.vao e.vs.length e.vcap
/-- An entry's lists are the call's own. -/
def enOwn (w : World) (base : Nat) (e : En) : Prop :=
  w.ownsRow base 50 3 (argV e) e.args.length (e.args.flatMap vaCells) ∧ w.ownsRow base 3 1 (votV e) e.vs.length (e.vs.flatMap iCells)
def sepE (e f : En) : Prop := ((argV e).ownBlock = none ∨ (argV e).ownBlock ≠ (argV f).ownBlock) ∧ ((votV e).ownBlock = none ∨ (votV e).ownBlock ≠ (votV f).ownBlock)
/-- A row of entries of the call's own, their lists, too, each in a block of its own. -/
structure EnsOwn (w : World) (base : Nat) (v : Value) (es : List En) : Prop where
  row : w.ownsRow base 47 9 v es.length (es.flatMap enCells)
  own : ∀ e ∈ es, enOwn w base e
  sep : es.Pairwise sepE
theorem enOwn.below {w w' : World} {base B : Nat} {e : En} (h : enOwn w base e) (hb : Below B w w') (hB : w.heap.size ≤ B) : enOwn w' base e := ⟨own_below h.1 hb hB, own_below h.2 hb hB⟩
theorem enOwn.le {w : World} {base base' : Nat} {e : En} (h : enOwn w base e) (hB : base' ≤ base) : enOwn w base' e := ⟨Go.Joins.ownsRow_le h.1 hB, Go.Joins.ownsRow_le h.2 hB⟩
theorem EnsOwn.below {w w' : World} {base B : Nat} {v : Value} {es : List En} (h : EnsOwn w base v es) (hb : Below B w w') (hB : w.heap.size ≤ B) : EnsOwn w' base v es :=
  ⟨own_below h.row hb hB, fun e he => (h.own e he).below hb hB, h.sep⟩
theorem EnsOwn.le {w : World} {base base' : Nat} {v : Value} {es : List En} (h : EnsOwn w base v es) (hB : base' ≤ base) : EnsOwn w base' v es := ⟨Go.Joins.ownsRow_le h.row hB, fun e he => (h.own e he).le hB, h.sep⟩
theorem EnsOwn.nil (w : World) (base : Nat) : EnsOwn w base (.slice none 0 0) [] := ⟨World.ownsRow_nil _ _ _ _, by simp, List.Pairwise.nil⟩
/-- A row of the call's own, as it lies. -/
theorem own_rowsIn {α : Type} {k : Nat} {cells : α → List Value} {sub : World → Nat → α → Prop} (hk : ∀ x, (cells x).length = k) {w : World} {base e n c : Nat} {ao : Option Addr} {xs : List α} (hn : xs.length = n) (h : w.ownsRow base e k (.slice ao n c) n (xs.flatMap cells)) (hs : ∀ x ∈ xs, sub w w.heap.size x) : RowsIn k cells sub w w.heap.size ao xs := by
  subst hn
  obtain ⟨a', c', hv, hin, _⟩ := own_rows hk rfl h hs (Nat.le_refl _)
  cases hv
  exact hin
theorem enOwn.sub {w : World} {base : Nat} {e : En} (h : enOwn w base e) : enSub w w.heap.size e :=
  ⟨own_rowsIn vaCells_len rfl h.1 (fun _ _ => trivial), own_rowsIn iCells_len rfl h.2 (fun _ _ => trivial)⟩
end Go.Proofs.YthdpfchbomaigaaDoor
/- Entries among the arguments, with the bounds of what hangs on them. Conditions: they are read as the row reads them, their weights are bounded. -/
namespace Go.Proofs.YthdpfchbomaigaaDoor
open Go.RowKit Go.ChangeShapes
set_option maxRecDepth 20000
/-- A value among the arguments. -/
def VaArg (v : Va) : Prop := (Lit.int .u8 v.kind).wf = true ∧ (Lit.int .i64 v.num).wf = true ∧ v.text.size ≤ reachBytes
/-- An entry among the arguments. -/
structure EnWf (e : En) : Prop where
  term : (Lit.int .i64 e.term).wf = true
  kind : (Lit.int .u8 e.kind).wf = true
  session : (Lit.int .i64 e.session).wf = true
  seq : (Lit.int .i64 e.seq).wf = true
  ck : (Lit.int .u8 e.ck).wf = true
  text : e.text.size ≤ 140737488351232
  args : ∀ v ∈ e.args, VaArg v
  num : (Lit.int .i64 e.num).wf = true
  vs : ∀ v ∈ e.vs, (Lit.int .i64 v).wf = true
  argn : e.args.length * 32 ≤ 140737488351232
  vn : e.vs.length * 8 ≤ 140737488351232
  anil : e.aao = none → e.acap = 0
  vnil : e.vao = none → e.vcap = 0
  acap : e.args.length ≤ e.acap
  vcap : e.vs.length ≤ e.vcap
end Go.Proofs.YthdpfchbomaigaaDoor
/- Fact, Command of wire: the bytes of a form. Conditions: what is written is not too long. -/
namespace Go.Proofs.YthdpfchbomaigaaDoor
open Go.RowKit
set_option maxRecDepth 20000
/-- A block that lay under the writer's. -/
theorem heap_alloc_keep {w : World} {g : Nat} {x : Obj} (h : w.heap[g]? = some x) (o : Obj) : (w.alloc o).heap[g]? = some x :=
  ((World.grownBy_alloc w o none).block g (Array.getElem?_eq_some_iff.1 h).1 (by simp)).trans h
theorem commandB_len (ck : Int) (text : ByteArray) (num : Int) (args : List Va) : (commandB ck text num args).length = 13 + text.size + (valuesB args).length := by
  simp only [commandB, List.length_append, List.length_cons, numB_len, textB_len]; omega
set_option maxHeartbeats 1000000 in
theorem wcommand_any (ck : Int) (text : ByteArray) (ao : Option Addr) (n cap : Nat) (num : Int) (args : List Va) (w : World) (hn : args.length = n) (hx : ValsIn w w.heap.size ao args) (htx : ∀ v ∈ args, v.text.size ≤ 1099511627776) (hnl : n ≤ 1099511627776) (hlim : text.size + (valuesB args).length + 40 ≤ 100000000000) :
    Calls Tryd.prog 63 #[.agg #[.int .u8 ck, .string text, .slice ao n cap, .int .i64 num]] w (BytesNew (commandB ck text num args) w.heap.size w) := by
  have hfl := commandB_len ck text num args
  have H := Lib.hid (buf_new (w.alloc (.cells #[.int .u8 ck, .string text, .slice ao n cap, .int .i64 num] 45)))
  have hb := ((Below.refl w.heap.size w).alloc (Nat.le_refl _) (.cells #[.int .u8 ck, .string text, .slice ao n cap, .int .i64 num] 45)).alloc (by simp) (.cells #[.slice none 0 0, .int .i64 0, .int .i8 0] 71)
  have HB := Lib.hid hb
  have hsz : (w.alloc (.cells #[.int .u8 ck, .string text, .slice ao n cap, .int .i64 num] 45)).heap.size = w.heap.size + 1 := by simp
  rw [hsz] at H
  have HX := Lib.hid hx
  have HN := Lib.hid hn
  have HTX := Lib.hid htx
  have HFL := Lib.hid hfl
  clear hb hsz hx hn htx hfl
  go_enter Tryd.func63, Tryd.ntmps63
  go_wp2_with fail
  refine (command_any (w.heap.size + 1) (w.heap.size + 1) [] ck text ao n cap num args _ HN.out ((HX.out.below noSub_kept HB.out (Nat.le_refl _)).mono noSub_rising (Nat.le_succ _)) HTX.out H.out (by simp) hnl (by simp; omega)).mono ?_
  rintro e w1 ⟨rfl, hw⟩
  rw [List.nil_append] at hw
  have HW := Lib.hid hw
  have hb1 := HB.out.trans (hw.2.1.mono (Nat.le_succ _))
  have hs1 : w.heap.size + 1 ≤ w1.heap.size := by have := hw.2.1.size; simp at this; omega
  clear hw
  go_wp2_with fail
  refine (told_any (w.heap.size + 1) (w.heap.size + 1) _ w1 HW.out.1 hs1 (by have := HFL.out; omega)).mono ?_
  rintro e w2 ⟨a, c, rfl, ho, hb2⟩
  have HO := Lib.hid (Go.Joins.ownsRow_le ho hb1.size)
  have hb3 := hb1.trans (hb2.mono hb1.size)
  clear ho hb1 hb2
  go_wp2_with fail
  go_ret
  exact ⟨a, c, rfl, HO.out, hb3⟩
end Go.Proofs.YthdpfchbomaigaaDoor
/- Entry of wire: the bytes of a form. Conditions: what is written is not too long. -/
namespace Go.Proofs.YthdpfchbomaigaaDoor
open Go.RowKit
set_option maxRecDepth 20000
set_option maxHeartbeats 2000000 in
theorem wentry_any (tm kd ss sq ck : Int) (text : ByteArray) (ao : Option Addr) (n cap : Nat) (args : List Va) (num : Int) (vo : Option Addr) (m vcap : Nat) (vs : List Int) (w : World) (hn : args.length = n) (hm : vs.length = m) (hx : ValsIn w w.heap.size ao args) (hs : NumsIn w w.heap.size vo vs)
    (htx : ∀ v ∈ args, v.text.size ≤ 1099511627776) (hnl : n ≤ 1099511627776) (hml : m ≤ 1000000000) (hlim : text.size + (valuesB args).length + 100 ≤ 10000000000) :
    Calls Tryd.prog 16 #[.agg #[.int .i64 tm, .int .u8 kd, .int .i64 ss, .int .i64 sq, .int .u8 ck, .string text, .slice ao n cap, .int .i64 num, .slice vo m vcap]] w (BytesNew (entryB ⟨tm, kd, ss, sq, ck, text, args, num, vs⟩) w.heap.size w) := by
  have hst := Wrote.start (buf_new (w.alloc (.cells #[.int .i64 tm, .int .u8 kd, .int .i64 ss, .int .i64 sq, .int .u8 ck, .string text, .slice ao n cap, .int .i64 num, .slice vo m vcap] 47)))
  have hb := ((Below.refl w.heap.size w).alloc (Nat.le_refl _) (.cells #[.int .i64 tm, .int .u8 kd, .int .i64 ss, .int .i64 sq, .int .u8 ck, .string text, .slice ao n cap, .int .i64 num, .slice vo m vcap] 47)).alloc (by simp) (.cells #[.slice none 0 0, .int .i64 0, .int .i8 0] 71)
  have hk := heap_alloc_keep (heap_alloc_new w (.cells #[.int .i64 tm, .int .u8 kd, .int .i64 ss, .int .i64 sq, .int .u8 ck, .string text, .slice ao n cap, .int .i64 num, .slice vo m vcap] 47)) (.cells #[.slice none 0 0, .int .i64 0, .int .i8 0] 71)
  have hsz : (w.alloc (.cells #[.int .i64 tm, .int .u8 kd, .int .i64 ss, .int .i64 sq, .int .u8 ck, .string text, .slice ao n cap, .int .i64 num, .slice vo m vcap] 47)).heap.size = w.heap.size + 1 := by simp
  have hs0 : ((w.alloc (.cells #[.int .i64 tm, .int .u8 kd, .int .i64 ss, .int .i64 sq, .int .u8 ck, .string text, .slice ao n cap, .int .i64 num, .slice vo m vcap] 47)).alloc (.cells #[.slice none 0 0, .int .i64 0, .int .i8 0] 71)).heap.size = w.heap.size + 2 := by simp
  rw [hsz] at hst
  have HX := Lib.hid hx
  have HS := Lib.hid hs
  have HN := Lib.hid hn
  have HM := Lib.hid hm
  have HTX := Lib.hid htx
  have HST := Lib.hid hst
  have HB := Lib.hid hb
  have HK := Lib.hid hk
  have HS0 := Lib.hid hs0
  clear hst hb hk hsz hs0 hx hs hn hm htx
  go_enter Tryd.func16, Tryd.ntmps16
  go_wp2_with fail
  have hst := HST.out
  have hb := HB.out
  have hk := HK.out
  have hs0 := HS0.out
  generalize ((w.alloc (.cells #[.int .i64 tm, .int .u8 kd, .int .i64 ss, .int .i64 sq, .int .u8 ck, .string text, .slice ao n cap, .int .i64 num, .slice vo m vcap] 47)).alloc (.cells #[.slice none 0 0, .int .i64 0, .int .i8 0] 71)) = w0 at hst hb hk hs0 ⊢
  clear HST HB HK HS0
  have HX := Lib.hid ((HX.out.below noSub_kept hb (Nat.le_refl _)).mono noSub_rising (Nat.le_succ _))
  have HS := Lib.hid ((HS.out.below noSub_kept hb (Nat.le_refl _)).mono noSub_rising (Nat.le_succ _))
  have HK := Lib.hid hk
  have hB0 : w.heap.size + 1 ≤ w0.heap.size := by omega
  refine (put1_any (w.heap.size + 1) (w.heap.size + 1) 8 _ [] tm w0 (by simp [hs0]) (by omega) (by omega) hst.1 (by omega) (by simp)).mono ?_
  rintro e w1 ⟨rfl, hw⟩
  rw [List.nil_append] at hw
  have hk1 := hw.sits hk (by omega) (by decide)
  have d1 : w1.cell? ⟨w.heap.size, 1, none⟩ = some (.int .u8 kd) := Go.Joins.cell_of_block hk1 1
  have H1 := Lib.hid hw
  have HK1 := Lib.hid hk1
  clear hw hk1 hk hst
  go_wp2_with fail
  refine (writeByte_any (w.heap.size + 1) (w.heap.size + 1) _ kd w1 H1.out.1 (Nat.le_trans hB0 H1.out.2.1.size) (by simp only [numB_len]; omega)).mono ?_
  rintro e w2 ⟨rfl, hw⟩
  have hk2 := hw.sits HK1.out (by omega) (by decide)
  have d2 : w2.cell? ⟨w.heap.size, 2, none⟩ = some (.int .i64 ss) := Go.Joins.cell_of_block hk2 2
  have d3 : w2.cell? ⟨w.heap.size, 3, none⟩ = some (.int .i64 sq) := Go.Joins.cell_of_block hk2 3
  have H2 := Lib.hid (H1.out.trans hw)
  have HK2 := Lib.hid hk2
  clear hw hk2 HK1 H1 d1
  go_wp2_with fail
  refine (put2_any (w.heap.size + 1) (w.heap.size + 1) 8 _ _ ss sq w2 rfl (by omega) (by omega) H2.out.1 (Nat.le_trans hB0 H2.out.2.1.size) (by simp only [List.length_append, List.length_singleton, numB_len]; omega)).mono ?_
  rintro e w3 ⟨rfl, hw⟩
  have hk3 := hw.sits HK2.out (by omega) (by decide)
  have d4 : w3.cell? ⟨w.heap.size, 4, none⟩ = some (.int .u8 ck) := Go.Joins.cell_of_block hk3 4
  have d5 : w3.cell? ⟨w.heap.size, 4 + 1, none⟩ = some (.string text) := Go.Joins.cell_of_block hk3 5
  have d6 : w3.cell? ⟨w.heap.size, 4 + 2, none⟩ = some (.slice ao n cap) := Go.Joins.cell_of_block hk3 6
  have d7 : w3.cell? ⟨w.heap.size, 4 + 3, none⟩ = some (.int .i64 num) := Go.Joins.cell_of_block hk3 7
  have d5' : w3.cell? ⟨w.heap.size, 5, none⟩ = some (.string text) := d5
  have d6' : w3.cell? ⟨w.heap.size, 6, none⟩ = some (.slice ao n cap) := d6
  have d7' : w3.cell? ⟨w.heap.size, 7, none⟩ = some (.int .i64 num) := d7
  have H3 := Lib.hid (H2.out.trans hw)
  have HK3 := Lib.hid hk3
  clear hw hk3 HK2 H2 d2 d3
  go_wp2_with fail
  refine (command_any (w.heap.size + 1) (w.heap.size + 1) _ ck text ao n cap num args w3 HN.out (HX.out.below noSub_kept H3.out.2.1 (Nat.le_refl _)) HTX.out H3.out.1 (Nat.le_trans hB0 H3.out.2.1.size) hnl (by simp only [List.length_append, List.length_singleton, numB_len]; omega)).mono ?_
  rintro e w4 ⟨rfl, hw⟩
  have hk4 := hw.sits HK3.out (by omega) (by decide)
  have d8 : w4.cell? ⟨w.heap.size, 8, none⟩ = some (.slice vo m vcap) := Go.Joins.cell_of_block hk4 8
  have H4 := Lib.hid (H3.out.trans hw)
  have HK4 := Lib.hid hk4
  clear hw hk4 HK3 H3 d4 d5 d6 d7 d5' d6' d7'
  go_wp2_with fail
  refine (count_any (w.heap.size + 1) (w.heap.size + 1) _ m w4 H4.out.1 (Nat.le_trans hB0 H4.out.2.1.size) (by simp only [List.length_append, List.length_singleton, numB_len, commandB_len]; omega)).mono ?_
  rintro e w5 ⟨rfl, hw⟩
  have hk5 := hw.sits HK4.out (by omega) (by decide)
  have d8 : w5.cell? ⟨w.heap.size, 8, none⟩ = some (.slice vo m vcap) := Go.Joins.cell_of_block hk5 8
  have hw5 := H4.out.trans hw
  have hbs : numB 8 tm ++ [kd] ++ (numB 8 ss ++ numB 8 sq) ++ commandB ck text num args ++ numB 4 m = numB 8 tm ++ (kd :: (numB 8 ss ++ (numB 8 sq ++ (commandB ck text num args ++ numB 4 m)))) := by simp
  rw [hbs] at hw5
  obtain ⟨P, hP⟩ : ∃ P, numB 8 tm ++ (kd :: (numB 8 ss ++ (numB 8 sq ++ (commandB ck text num args ++ numB 4 m)))) = P := ⟨_, rfl⟩
  have hpl : P.length = 42 + text.size + (valuesB args).length := by rw [← hP]; simp only [List.length_append, List.length_cons, numB_len, commandB_len]; omega
  rw [hP] at hw5
  have H5 := Lib.hid hw5
  have HP := Lib.hid hP
  clear hw hw5 hk5 HK4 H4 hbs hP HX HTX
  go_wp2_with fail
  go_loopw [30] (fun i wr => ∃ k : Nat, k ≤ m ∧ i = .int .i64 k ∧ Wrote (w.heap.size + 1) (w.heap.size + 1) (P ++ (vs.take k).flatMap (numB 8)) w0 wr) (fun i _ => m - (intOf i).toNat)
  case atStart => exact ⟨0, by omega, rfl, by simpa using H5.out⟩
  case round =>
    clear H5 d8
    obtain ⟨k, hk, rfl, hw⟩ := hrel
    have HW := Lib.hid hw
    clear hw
    have hlk : ((vs.take k).flatMap (numB 8)).length ≤ 8000000000 := by
      rw [flatN_len, List.length_take]
      have : min k vs.length ≤ 1000000000 := by omega
      omega
    by_cases hlt : k < m
    · have hkx : vs[k]? = some (vs[k]'(by rw [HM.out]; exact hlt)) := List.getElem?_eq_getElem _
      obtain ⟨rb, off, hao, hbb, hc, _⟩ := HS.out.at hkx
      have htk : (vs.take (k + 1)).flatMap (numB 8) = (vs.take k).flatMap (numB 8) ++ numB 8 (vs[k]'(by rw [HM.out]; exact hlt)) := by
        rw [List.take_succ_eq_append_getElem (by rw [HM.out]; exact hlt), List.flatMap_append]; simp
      generalize vs[k]'(by rw [HM.out]; exact hlt) = x at hc htk hkx
      have hbel := HW.out.2.1
      have c0 : wr.cell? ⟨rb, off + k * 1, none⟩ = some (.int .i64 x) := (hbel.cell (p := ⟨rb, _, none⟩) hbb).trans (hc 0 (by decide))
      have c0' : wr.cell? ⟨rb, off + k, none⟩ = some (.int .i64 x) := by simpa using c0
      have HT := Lib.hid htk
      have i1 : (k : Int) < m := by omega
      subst hao
      clear hc htk hkx hbel
      go_wp2_with fail
      refine (put1_any (w.heap.size + 1) (w.heap.size + 1) 8 _ _ x wr rfl (by omega) (by omega) HW.out.1 (Nat.le_trans hB0 HW.out.2.1.size) (by simp only [List.length_append]; omega)).mono ?_
      rintro e w3 ⟨rfl, hw3⟩
      have hw4 := HW.out.trans hw3
      rw [List.append_assoc, ← HT.out] at hw4
      have HW4 := Lib.hid hw4
      clear hw3 hw4 c0 c0'
      go_wp2_with fail
      go_roundw
      case rel => exact ⟨k + 1, by omega, by go_num, HW4.out⟩
      case measure => simp [intOf]; omega
    · obtain rfl : k = m := by omega
      have hw5 := HW.out
      rw [List.take_of_length_le (l := vs) (by rw [HM.out]; exact Nat.le_refl _)] at hw5
      have hlv : (vs.flatMap (numB 8)).length ≤ 8000000000 := by rw [flatN_len, HM.out]; omega
      have hbs : P ++ vs.flatMap (numB 8) = entryB ⟨tm, kd, ss, sq, ck, text, args, num, vs⟩ := by rw [← HP.out, ← HM.out]; simp [entryB]
      have hbl : (entryB ⟨tm, kd, ss, sq, ck, text, args, num, vs⟩).length ≤ 30000000000 := by rw [← hbs, List.length_append]; omega
      rw [hbs] at hw5
      have HW5 := Lib.hid hw5
      have hb6 := hb.trans (hw5.2.1.mono (Nat.le_succ _))
      have hs6 : w.heap.size + 1 ≤ wr.heap.size := by have := hw5.2.1.size; omega
      clear hw5 HW hbs
      go_wp2_with fail
      refine (told_any (w.heap.size + 1) (w.heap.size + 1) _ wr HW5.out.1 hs6 (by omega)).mono ?_
      rintro e w8 ⟨a, c, rfl, ho, hb2⟩
      have HO := Lib.hid (Go.Joins.ownsRow_le ho hb6.size)
      have hb9 := hb6.trans (hb2.mono hb6.size)
      clear ho hb2
      go_wp2_with fail
      go_ret
      exact ⟨a, c, rfl, HO.out, hb9⟩
end Go.Proofs.YthdpfchbomaigaaDoor
