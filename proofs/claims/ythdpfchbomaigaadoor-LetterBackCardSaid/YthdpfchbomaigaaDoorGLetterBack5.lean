/- What was read of bytes, and it was there, is written as just these bytes. No program. Conditions: as each says. -/
import Derived.Test.YthdpfchbomaigaaDoorGLetterBack4
import Derived.Test.YthdpfchbomaigaaDoorGLetterBack0
import Derived.Test.YthdpfchbomaigaaDoorGLetterBack1
set_option linter.unusedVariables false
set_option linter.unusedSimpArgs false
namespace Go.Proofs.YthdpfchbomaigaaDoor
open Go.RowKit
set_option maxRecDepth 20000
theorem numB_succ (s : Nat) (n : Int) : numB (s + 1) n = numB s (n / 256) ++ [n % 256] := by
  unfold numB
  rw [List.range_succ, List.map_append]
  congr 1
  · refine List.map_congr_left (fun j hj => ?_)
    have hj := List.mem_range.1 hj
    have e : s + 1 - 1 - j = (s - 1 - j) + 1 := by omega
    rw [e, Nat.mul_add, Int.pow_add, Int.mul_comm, ← Int.ediv_ediv_of_nonneg (by decide)]
    rfl
  · simp
theorem numB_getN (l : List Int) (h : BytesWf l) : numB l.length (getN l) = l := by
  have key : ∀ r : List Int, BytesWf r.reverse → numB r.length (getN r.reverse) = r.reverse := by
    intro r
    induction r with
    | nil => intro _; rfl
    | cons c r ih =>
      intro hw
      rw [List.reverse_cons] at hw ⊢
      have h1 := ih (fun x hx => hw x (List.mem_append_left _ hx))
      have h2 := hw c (by simp)
      rw [getN_snoc, List.length_cons, numB_succ]
      have e1 : (getN r.reverse * 256 + c) / 256 = getN r.reverse := by omega
      have e2 : (getN r.reverse * 256 + c) % 256 = c := by omega
      rw [e1, e2, h1]
  have := key l.reverse (by rwa [List.reverse_reverse])
  rwa [List.reverse_reverse, List.length_reverse] at this
/-- One way: what is read, and it was there, stood there. -/
def There {α : Type} (one : Bool → List Int → α × Bool × List Int) (oneB : α → List Int) : Prop := ∀ b l, BytesWf l → (one b l).2.1 = false → b = false ∧ l = oneB (one b l).1 ++ (one b l).2.2 ∧ BytesWf (one b l).2.2
theorem takeS_there (n : Nat) (b : Bool) (l : List Int) (hw : BytesWf l) (h : (takeS n b l).2.1 = false) : b = false ∧ l = (takeS n b l).1 ++ (takeS n b l).2.2 ∧ (takeS n b l).1.length = n ∧ BytesWf (takeS n b l).1 ∧ BytesWf (takeS n b l).2.2 := by
  unfold takeS at h ⊢
  split at h
  · cases h
  · rename_i hc
    rw [if_neg hc]
    have h1 : b = false := by cases b with | true => exact absurd (Or.inl rfl) hc | false => rfl
    have h2 : n ≤ l.length := by
      rcases Nat.lt_or_ge l.length n with h | h
      · exact absurd (Or.inr h) hc
      · exact h
    exact ⟨h1, (List.take_append_drop n l).symm, by rw [List.length_take]; omega, hw.take n, hw.drop n⟩
theorem numS_there : There numS (numB 8) := by
  intro b l hw h
  obtain ⟨h1, h2, h3, h4, h5⟩ := takeS_there 8 b l hw h
  refine ⟨h1, ?_, h5⟩
  show l = numB 8 (IntKind.i64.wrap (getN (takeS 8 b l).1)) ++ _
  rw [numB_wrap]
  have := numB_getN _ h4
  rw [h3] at this
  rw [this]
  exact h2
theorem kindS_there : There kindS (fun k => [k]) := by
  intro b l hw h
  obtain ⟨h1, h2, h3, h4, h5⟩ := takeS_there 1 b l hw h
  refine ⟨h1, ?_, h5⟩
  show l = [getN (takeS 1 b l).1] ++ (takeS 1 b l).2.2
  obtain ⟨c, hc⟩ : ∃ c, (takeS 1 b l).1 = [c] := by
    generalize (takeS 1 b l).1 = g at h3
    match g, h3 with
    | [c], _ => exact ⟨c, rfl⟩
  rw [hc] at h2 ⊢
  simpa [getN] using h2
theorem countS_there (b : Bool) (l : List Int) (hw : BytesWf l) (h : (countS b l).2.1 = false) : b = false ∧ l = numB 4 ((countS b l).1.toNat : Nat) ++ (countS b l).2.2 ∧ BytesWf (countS b l).2.2 := by
  unfold countS at h ⊢
  split at h
  · cases h
  · rename_i hc
    rw [if_neg hc]
    have hb : (takeS 4 b l).2.1 = false := by
      cases hh : (takeS 4 b l).2.1 with
      | true => exact absurd (Or.inl hh) hc
      | false => rfl
    obtain ⟨h1, h2, h3, h4, h5⟩ := takeS_there 4 b l hw hb
    refine ⟨h1, ?_, h5⟩
    have h6 := (getN_bound _ h4).1
    dsimp only
    rw [Int.toNat_of_nonneg h6]
    have := numB_getN _ h4
    rw [h3] at this
    rw [this]
    exact h2
theorem strB_strN (l : List Int) (h : BytesWf l) : strB (strN l) = l := by
  unfold strB strN
  rw [strOfNums_data, List.map_map]
  conv => rhs; rw [← List.map_id l]
  refine List.map_congr_left (fun n hn => ?_)
  have := h n hn
  show (((UInt8.ofNat n.toNat).toNat : Nat) : Int) = n
  rw [UInt8.toNat_ofNat']
  omega
theorem strN_size (l : List Int) : (strN l).size = l.length := strOfNums_size l
theorem textS_there : There textS textB := by
  intro b l hw h
  unfold textS at h ⊢
  dsimp only at h ⊢
  have hc := countS_wf (bad := b) hw
  obtain ⟨h1, h2, h3, h4, h5⟩ := takeS_there _ _ _ hc.2.2.1 h
  obtain ⟨g1, g2, g3⟩ := countS_there b l hw h1
  refine ⟨g1, ?_, h5⟩
  unfold textB
  rw [strN_size, h3, strB_strN _ h4, List.append_assoc, ← h2]
  exact g2
theorem valueS_there : There valueS valueB := by
  intro b l hw h
  have ht : ∀ h : (takeS 1 b l).2.1 = false, b = false ∧ l = getN (takeS 1 b l).1 :: (takeS 1 b l).2.2 ∧ BytesWf (takeS 1 b l).2.2 := fun h => kindS_there b l hw h
  unfold valueS at h ⊢
  dsimp only at h ⊢
  by_cases h1 : getN (takeS 1 b l).1 = 1
  · rw [if_pos h1] at h ⊢
    dsimp only at h ⊢
    rw [h]
    have hk := takeS_wf (n := 1) (bad := b) hw
    obtain ⟨g1, g2, g3⟩ := numS_there (takeS 1 b l).2.1 (takeS 1 b l).2.2 hk.2.1 h
    obtain ⟨q1, q2, _⟩ := ht g1
    refine ⟨q1, ?_, g3⟩
    rw [if_neg (by simp)]
    unfold valueB
    dsimp only
    rw [if_pos rfl]
    have g2' : (takeS 1 b l).2.2 = numB 8 (IntKind.i64.wrap (getN (takeS 8 (takeS 1 b l).2.1 (takeS 1 b l).2.2).1)) ++ (takeS 8 (takeS 1 b l).2.1 (takeS 1 b l).2.2).2.2 := g2
    rw [List.cons_append, ← g2', ← h1]
    exact q2
  · rw [if_neg h1] at h ⊢
    by_cases h2 : getN (takeS 1 b l).1 = 2
    · rw [if_pos h2] at h ⊢
      dsimp only at h ⊢
      rw [h]
      have hk := takeS_wf (n := 1) (bad := b) hw
      obtain ⟨g1, g2, g3⟩ := textS_there (takeS 1 b l).2.1 (takeS 1 b l).2.2 hk.2.1 h
      obtain ⟨q1, q2, _⟩ := ht g1
      refine ⟨q1, ?_, g3⟩
      rw [if_neg (by simp)]
      unfold valueB
      dsimp only
      rw [if_neg (by decide), if_pos rfl, List.cons_append, ← g2, ← h2]
      exact q2
    · rw [if_neg h2] at h
      cases h
theorem rowS_there {α : Type} {one : Bool → List Int → α × Bool × List Int} {oneB : α → List Int} (h1 : There one oneB) : ∀ (n : Nat) (b : Bool) (l : List Int), BytesWf l → (rowS one n b l).2.1 = false → b = false ∧ l = (rowS one n b l).1.flatMap oneB ++ (rowS one n b l).2.2 ∧ BytesWf (rowS one n b l).2.2 ∧ (rowS one n b l).1.length = n := by
  intro n
  induction n with
  | zero => intro b l hw h; exact ⟨h, rfl, hw, rfl⟩
  | succ n ih =>
    intro b l hw h
    unfold rowS at h ⊢
    split at h
    · rename_i hb
      dsimp only at h
      rw [hb] at h
      cases h
    · rename_i hb
      rw [if_neg hb]
      dsimp only at h ⊢
      have hw1 : ∀ h, BytesWf (one b l).2.2 := fun h => (h1 b l hw h).2.2
      have hbb : b = false := by cases b with | true => exact absurd rfl hb | false => rfl
      cases ho : (one b l).2.1 with
      | true => (try rw [ho] at h); rw [rowS_bad] at h; cases h
      | false =>
        obtain ⟨g1, g2, g3⟩ := h1 b l hw ho
        (try rw [ho] at h)
        (try rw [ho])
        obtain ⟨q1, q2, q3, q4⟩ := ih false _ g3 h
        refine ⟨hbb, ?_, q3, by rw [List.length_cons, q4]⟩
        rw [List.flatMap_cons, List.append_assoc, ← q2]
        exact g2
theorem rowsS_there {α : Type} {one : Bool → List Int → α × Bool × List Int} {oneB : α → List Int} (h1 : There one oneB) : There (rowsS one) (fun xs => numB 4 xs.length ++ xs.flatMap oneB) := by
  intro b l hw h
  unfold rowsS at h ⊢
  dsimp only at h ⊢
  have hc := countS_wf (bad := b) hw
  obtain ⟨g1, g2, g3, g4⟩ := rowS_there h1 _ _ _ hc.2.2.1 h
  obtain ⟨q1, q2, q3⟩ := countS_there b l hw g1
  refine ⟨q1, ?_, g3⟩
  rw [h, if_neg (by simp), g4, List.append_assoc, ← g2]
  exact q2
theorem valuesS_there : There valuesS valuesB := rowsS_there valueS_there
theorem intsS_there : There intsS (fun xs => numB 4 xs.length ++ xs.flatMap (numB 8)) := rowsS_there numS_there
theorem commandS_there : There commandS (fun c => commandB c.kind c.text c.num c.args) := by
  intro b l hw h
  unfold commandS at h ⊢
  dsimp only at h ⊢
  have w1 := (kindS_shrinks b l hw).1
  have w2 := (textS_shrinks (kindS b l).2.1 _ w1).1
  have w3 := (numS_shrinks (textS (kindS b l).2.1 (kindS b l).2.2).2.1 _ w2).1
  obtain ⟨g1, g2, g3⟩ := valuesS_there _ _ w3 h
  obtain ⟨q1, q2, q3⟩ := numS_there _ _ w2 g1
  obtain ⟨p1, p2, p3⟩ := textS_there _ _ w1 q1
  obtain ⟨o1, o2, o3⟩ := kindS_there b l hw p1
  refine ⟨o1, ?_, g3⟩
  rw [h, if_neg (by simp)]
  unfold commandB
  dsimp only
  simp only [List.append_assoc, List.cons_append]
  rw [← g2, ← q2, ← p2]
  exact o2
theorem entryS_there : There entryS entryB := by
  intro b l hw h
  unfold entryS at h ⊢
  dsimp only at h ⊢
  have w1 := (numS_shrinks b l hw).1
  have w2 := (kindS_shrinks (numS b l).2.1 _ w1).1
  have w3 := (numS_shrinks (kindS (numS b l).2.1 (numS b l).2.2).2.1 _ w2).1
  have w4 := (numS_shrinks (numS (kindS (numS b l).2.1 (numS b l).2.2).2.1 (kindS (numS b l).2.1 (numS b l).2.2).2.2).2.1 _ w3).1
  obtain ⟨T, hT⟩ : ∃ T, numS b l = T := ⟨_, rfl⟩
  have t1 := numS_there b l hw
  rw [hT] at h w1 w2 w3 w4 t1 ⊢
  obtain ⟨K, hK⟩ : ∃ K, kindS T.2.1 T.2.2 = K := ⟨_, rfl⟩
  have t2 := kindS_there T.2.1 T.2.2 w1
  rw [hK] at h w2 w3 w4 t2 ⊢
  obtain ⟨S, hS⟩ : ∃ S, numS K.2.1 K.2.2 = S := ⟨_, rfl⟩
  have t3 := numS_there K.2.1 K.2.2 w2
  rw [hS] at h w3 w4 t3 ⊢
  obtain ⟨R, hR⟩ : ∃ R, numS S.2.1 S.2.2 = R := ⟨_, rfl⟩
  have t4 := numS_there S.2.1 S.2.2 w3
  rw [hR] at h w4 t4 ⊢
  have w5 := (commandS_shrinks R.2.1 R.2.2 w4).1
  have t5 := commandS_there R.2.1 R.2.2 w4
  obtain ⟨C, hC⟩ : ∃ C, commandS R.2.1 R.2.2 = C := ⟨_, rfl⟩
  rw [hC] at h w5 t5 ⊢
  have t6 := intsS_there C.2.1 C.2.2 w5 h
  rw [h, if_neg (by simp)]
  obtain ⟨a6, b6, c6⟩ := t6
  obtain ⟨a5, b5, _⟩ := t5 a6
  obtain ⟨a4, b4, _⟩ := t4 a5
  obtain ⟨a3, b3, _⟩ := t3 a4
  obtain ⟨a2, b2, _⟩ := t2 a3
  obtain ⟨a1, b1, _⟩ := t1 a2
  refine ⟨a1, ?_, c6⟩
  unfold entryB
  dsimp only
  simp only [List.append_assoc, List.cons_append]
  rw [List.append_assoc] at b6
  rw [← b6, ← b5, ← b4, ← b3]
  rw [List.singleton_append] at b2
  rw [← b2]
  exact b1
end Go.Proofs.YthdpfchbomaigaaDoor
/- What letters say, as bytes and back. No program. Conditions: as each says. -/
namespace Go.Proofs.YthdpfchbomaigaaDoor
open Go.RowKit
set_option maxRecDepth 20000
instance vaDec : DecidableEq Va := fun a b => decidable_of_iff (a.kind = b.kind ∧ a.num = b.num ∧ a.text = b.text) (by
  cases a; cases b; simp)
def withinN (n : Int) : Bool := decide (0 ≤ n) && decide (n ≤ 1099511627776)
theorem withinN_iff {n : Int} : withinN n = true ↔ 0 ≤ n ∧ n ≤ 1099511627776 := by simp [withinN]
def votersGo : Int → List Int → Bool
  | _, [] => true
  | last, v :: r => (decide (last < v) && decide (v ≤ 9)) && votersGo v r
def votersB (l : List Int) : Bool := votersGo 0 l && (decide (1 ≤ l.length) && decide (l.length ≤ 7))
theorem votersGo_in : ∀ (l : List Int) (last : Int), votersGo last l = true → ∀ v ∈ l, last < v ∧ v ≤ 9 := by
  intro l
  induction l with
  | nil => intro _ _ v hv; cases hv
  | cons x r ih =>
    intro last h v hv
    simp only [votersGo, Bool.and_eq_true, decide_eq_true_eq] at h
    rcases List.mem_cons.1 hv with rfl | hv
    · exact h.1
    · have := ih x h.2 v hv
      omega
theorem votersB_in {l : List Int} (h : votersB l = true) : (∀ v ∈ l, 1 ≤ v ∧ v ≤ 9) ∧ 1 ≤ l.length ∧ l.length ≤ 7 := by
  simp only [votersB, Bool.and_eq_true, decide_eq_true_eq] at h
  exact ⟨fun v hv => by have := votersGo_in l 0 h.1 v hv; omega, h.2⟩
def plainC (c : CmP) : Bool := decide (c.kind = 0) && (decide (c.text = ⟨#[]⟩) && (decide (c.num = 0) && decide (c.args.length = 0)))
def wholeC (c : CmP) : Bool :=
  let r := commandS false (commandB c.kind c.text c.num c.args)
  (!r.2.1 && r.2.2.isEmpty) && (decide (c.args.length = r.1.args.length) && decide (c.args = r.1.args))
def EnP.cm (e : EnP) : CmP := ⟨e.ck, e.text, e.args, e.num⟩
def bareE (e : EnP) : Bool := decide (e.session = 0) && (decide (e.seq = 0) && plainC e.cm)
def entryR (e : EnP) : Bool :=
  if withinN e.term = false then false
  else if e.kind = 1 then bareE e && decide (e.vs.length = 0)
  else if e.kind = 2 then decide (0 ≤ e.session) && (decide (0 ≤ e.seq) && (decide (e.vs.length = 0) && wholeC e.cm))
  else decide (e.kind = 3) && (bareE e && votersB e.vs)
/-- A letter. -/
structure LtP where
  kind : Int
  fr : Int
  tov : Int
  term : Int
  index : Int
  was : Int
  ok : Bool
  commit : Int
  round : Int
  es : List EnP
  vs : List Int
  im : List Int
def zeroL : LtP := ⟨0, 0, 0, 0, 0, 0, false, 0, 0, [], [], []⟩
/-- A letter without what its kind has. -/
def leftL (l : LtP) : LtP × Bool :=
  if l.kind = 1 then ({ l with index := 0, was := 0 }, true)
  else if l.kind = 2 then ({ l with ok := false }, true)
  else if l.kind = 3 then ({ l with commit := 0, es := [], index := 0, was := 0, round := 0 }, true)
  else if l.kind = 5 then ({ l with was := 0, vs := [], im := [], index := 0, round := 0 }, true)
  else if l.kind = 4 then ({ l with ok := false, index := 0, round := 0 }, true)
  else if l.kind = 6 then ({ l with index := 0, round := 0 }, true)
  else (l, false)
def noneL (l : LtP) : Bool := decide (l.index = 0) && (decide (l.was = 0) && (!l.ok && (decide (l.commit = 0) && (decide (l.round = 0) && (decide (l.es.length = 0) && (decide (l.vs.length = 0) && decide (l.im.length = 0)))))))
def entriesR (es : List EnP) : Bool := es.all entryR && decide (es.length ≤ 16)
def rightL (l : LtP) : Bool :=
  if l.fr < 1 ∨ 9 < l.fr ∨ l.tov < 1 ∨ 9 < l.tov then false
  else if ([l.term, l.was, l.index, l.commit, l.round].all withinN && (entriesR l.es && (decide (l.vs.length = 0) || votersB l.vs))) = false then false
  else (leftL l).2 && noneL (leftL l).1
def bytesL (l : LtP) : List Int :=
  [l.kind, l.fr, l.tov] ++ ((numB 8 l.term ++ (numB 8 l.index ++ numB 8 l.was)) ++ ((if l.ok = true then 1 else 0) :: ((numB 8 l.commit ++ numB 8 l.round) ++ (numB 4 l.es.length ++ (l.es.flatMap entryB ++ (numB 4 l.vs.length ++ (l.vs ++ (numB 4 l.im.length ++ l.im))))))))
/-- A letter's bytes, and the error. -/
def putL2 (l : LtP) : List Int × Int := if rightL l = false then ([], 4) else if 1048576 < (bytesL l).length then ([], 3) else (bytesL l, 0)
/-- How many there are, of four bytes; none, if there are fewer bytes. -/
def cntS (r : List Int) : Int × Bool × List Int := if r.length < 4 then (0, false, r) else (getN (r.take 4), decide (getN (r.take 4) ≤ ((r.drop 4).length : Int)), r.drop 4)
def readEs : Nat → List Int → Option (List EnP × List Int)
  | 0, r => some ([], r)
  | n + 1, r => let x := entryS false r
    if x.2.1 = true then none else match readEs n (r.drop (entryB x.1).length) with
      | none => none
      | some (l, r') => some (x.1 :: l, r')
def readL (b : List Int) : Option LtP :=
  if b.length < 44 then none else
  let a := numS false ((b.drop 3).take 24)
  let i := numS a.2.1 a.2.2
  let s := numS i.2.1 i.2.2
  let c := numS false ((b.take 44).drop 28)
  let d := numS c.2.1 c.2.2
  let m := cntS (b.drop 44)
  if m.2.1 = false ∨ 16 < m.1 then none else
  match readEs m.1.toNat m.2.2 with
  | none => none
  | some (es, r) =>
    let v := cntS r
    if v.2.1 = false then none else
    let q := cntS (v.2.2.drop v.1.toNat)
    if q.2.1 = false ∨ q.1 ≠ (q.2.2.length : Int) then none else
    some ⟨b.getD 0 0, b.getD 1 0, b.getD 2 0, a.1, i.1, s.1, decide (b.getD 27 0 = 1), c.1, d.1, es, v.2.2.take v.1.toNat, q.2.2⟩
def getL (b : List Int) : LtP × Int :=
  if 1048576 < b.length then (zeroL, 4) else
  match readL b with
  | none => (zeroL, 4)
  | some l => if (putL2 l).2 = 0 ∧ (putL2 l).1 = b then (l, 0) else (zeroL, 4)
/-- What is got is right, and put as just these bytes. -/
theorem getL_one {b : List Int} (h : (getL b).2 = 0) : rightL (getL b).1 = true ∧ putL2 (getL b).1 = (b, 0) := by
  unfold getL at h ⊢
  split at h
  · cases h
  rename_i h1
  rw [if_neg h1]
  split at h
  · cases h
  rename_i l hl
  split at h
  · rename_i h2
    rw [if_pos h2]
    dsimp only
    have h3 : rightL l = true := by
      cases hr : rightL l with
      | true => rfl
      | false => have := h2.1; unfold putL2 at this; rw [if_pos hr] at this; cases this
    exact ⟨h3, Prod.ext h2.2 h2.1⟩
  · cases h
theorem getL_err (b : List Int) : (getL b).2 = 0 ∨ getL b = (zeroL, 4) := by
  unfold getL
  split
  · exact Or.inr rfl
  · split
    · exact Or.inr rfl
    · split
      · exact Or.inl rfl
      · exact Or.inr rfl
end Go.Proofs.YthdpfchbomaigaaDoor
/- A right letter's bytes are read as it, and with bytes behind them not at all. No program. Conditions: as each says. -/
namespace Go.Proofs.YthdpfchbomaigaaDoor
open Go.RowKit
set_option maxRecDepth 20000
theorem wrap_N64 (x : Int) : N64 (IntKind.i64.wrap x) := by
  unfold N64 IntKind.wrap
  simp [IntKind.signed, IntKind.bits]
  omega
theorem textS_told {b : Bool} {l : List Int} (hw : BytesWf l) (h : (textS b l).2.1 = false) : (textS b l).1.size ≤ 65536 := by
  have h2 := countS_wf (bad := b) hw
  unfold textS at h ⊢
  dsimp only at h ⊢
  rw [strN_size]
  have h3 := takeS_there _ _ _ h2.2.2.1 h
  rw [h3.2.2.1]
  omega
theorem valueS_told {b : Bool} {l : List Int} (hw : BytesWf l) (h : (valueS b l).2.1 = false) : Bare (valueS b l).1 ∧ VaFit (valueS b l).1 := by
  have hk := takeS_shrinks 1 b l hw
  unfold valueS at h ⊢
  dsimp only at h ⊢
  split
  · rename_i h1
    rw [if_pos h1] at h
    dsimp only at h
    dsimp only
    rw [h, if_neg (by simp)]
    exact ⟨Or.inl ⟨rfl, rfl⟩, wrap_N64 _, (Nat.zero_le 65536 : ByteArray.empty.size ≤ 65536)⟩
  · rename_i h1
    rw [if_neg h1] at h
    split
    · rename_i h2
      rw [if_pos h2] at h
      dsimp only at h
      dsimp only
      have ht := textS_told hk.1 h
      rw [h, if_neg (by simp)]
      exact ⟨Or.inr ⟨rfl, rfl⟩, (show N64 0 from ⟨by decide, by decide⟩), ht⟩
    · rename_i h2
      rw [if_neg h2] at h
      cases h
theorem rowV_told : ∀ (n : Nat) (b : Bool) (l : List Int), BytesWf l → (rowS valueS n b l).2.1 = false → ∀ v ∈ (rowS valueS n b l).1, Bare v ∧ VaFit v := by
  intro n
  induction n with
  | zero => intro b l _ _ v hv; cases hv
  | succ n ih =>
    intro b l hw h v hv
    have hs := valueS_shrinks b l hw
    unfold rowS at h hv
    split at h
    · rename_i hb
      rw [if_pos hb] at hv
      cases hv
    · rename_i hb
      rw [if_neg hb] at hv
      dsimp only at h hv
      have hb2 : (valueS b l).2.1 = false := (rowS_there valueS_there n _ _ hs.1 h).1
      rcases List.mem_cons.1 hv with rfl | hv
      · exact valueS_told hw hb2
      · exact ih _ _ hs.1 h v hv
theorem takeS_badS (n : Nat) (l : List Int) : (takeS n true l).2.1 = true := by simp [takeS]
theorem numS_bad (l : List Int) : (numS true l).2.1 = true := takeS_badS 8 l
theorem countS_bad (l : List Int) : (countS true l).2.1 = true ∧ (countS true l).1 = 0 := by
  unfold countS
  rw [if_pos (Or.inl (takeS_badS 4 l))]
  exact ⟨rfl, rfl⟩
theorem rowsS_bad {α : Type} (one : Bool → List Int → α × Bool × List Int) (l : List Int) : (rowsS one true l).2.1 = true := by
  unfold rowsS
  dsimp only
  rw [(countS_bad l).1, rowS_bad]
theorem over_bad {α : Type} (one : Bool → List Int → α × Bool × List Int) (n : Nat) (rest : List Int) (h : 65536 < n) (h2 : n < 4294967296) : (rowsS one false (numB 4 n ++ rest)).2.1 = true := by
  unfold rowsS
  dsimp only
  have e : countS false (numB 4 n ++ rest) = (0, true, rest) := by
    unfold countS
    rw [takeS_back 4 _ _ (numB_len 4 n)]
    dsimp only
    rw [getN_numB]
    have e1 : (256 : Int) ^ 4 = 4294967296 := by decide
    have e : (n : Int) % 256 ^ 4 = n := by rw [e1]; omega
    rw [e, if_pos (by right; omega)]
  rw [e]
  rfl
theorem text_bad (s : ByteArray) (rest : List Int) (h : 65536 < s.size) (h2 : s.size < 4294967296) : (textS false (textB s ++ rest)).2.1 = true := by
  unfold textS textB
  rw [List.append_assoc]
  have e : countS false (numB 4 s.size ++ (strB s ++ rest)) = (0, true, strB s ++ rest) := by
    unfold countS
    rw [takeS_back 4 _ _ (numB_len 4 s.size)]
    dsimp only
    rw [getN_numB]
    have e1 : (256 : Int) ^ 4 = 4294967296 := by decide
    have e : (s.size : Int) % 256 ^ 4 = s.size := by rw [e1]; omega
    rw [e, if_pos (by right; omega)]
  rw [e]
  rfl
/-- A command whose bytes say all of it. -/
theorem whole_fit {c : CmP} (hn : N64 c.num) (ht : c.text.size < 4294967296) (ha : c.args.length < 4294967296) (hw : BytesWf (valuesB c.args)) (h : wholeC c = true) : CmFit c := by
  unfold wholeC at h
  simp only [Bool.and_eq_true, Bool.not_eq_true', decide_eq_true_eq] at h
  obtain ⟨⟨h1, h2⟩, h3, h4⟩ := h
  unfold commandS commandB at h1 h4
  dsimp only at h1 h4
  rw [kindS_back] at h1 h4
  dsimp only at h1 h4
  rcases Nat.lt_or_ge 65536 c.text.size with hb | hb
  · exfalso
    have e := text_bad c.text (numB 8 c.num ++ valuesB c.args) hb ht
    rw [e] at h1
    rw [numS_bad] at h1
    unfold valuesS at h1
    rw [rowsS_bad] at h1
    cases h1
  rw [textS_back _ _ hb] at h1 h4
  dsimp only at h1 h4
  rw [numS_back _ _ hn] at h1 h4
  dsimp only at h1 h4
  rw [h1, if_neg (by simp)] at h4
  dsimp only at h4
  refine ⟨hb, hn, ?_, ?_⟩
  · rcases Nat.lt_or_ge 65536 c.args.length with hc | hc
    · exfalso
      have e := over_bad valueS c.args.length (c.args.flatMap valueB) hc ha
      unfold valuesS valuesB at h1
      rw [e] at h1
      cases h1
    · exact hc
  · have hc := countS_wf (bad := false) hw
    have key := rowV_told (countS false (valuesB c.args)).1.toNat (countS false (valuesB c.args)).2.1 _ hc.2.2.1
    have h5 : (rowS valueS (countS false (valuesB c.args)).1.toNat (countS false (valuesB c.args)).2.1 (countS false (valuesB c.args)).2.2).2.1 = false := h1
    have h6 : (valuesS false (valuesB c.args)).1 = (rowS valueS (countS false (valuesB c.args)).1.toNat (countS false (valuesB c.args)).2.1 (countS false (valuesB c.args)).2.2).1 := by
      show (if _ then _ else _) = _
      rw [h5, if_neg (by simp)]
    rw [h6] at h4
    rw [h4]
    exact key h5
theorem within_N64 {n : Int} (h : withinN n = true) : N64 n := by
  have := withinN_iff.1 h
  unfold N64
  omega
/-- An entry's numbers and lengths are some. -/
structure EnOk (e : EnP) : Prop where
  session : N64 e.session
  seq : N64 e.seq
  num : N64 e.num
  text : e.text.size < 4294967296
  args : e.args.length < 4294967296
  wf : BytesWf (valuesB e.args)
theorem bare_fit {e : EnP} (h : bareE e = true) : N64 e.session ∧ N64 e.seq ∧ CmFit ⟨e.ck, e.text, e.args, e.num⟩ := by
  unfold bareE plainC at h
  simp only [EnP.cm, Bool.and_eq_true, decide_eq_true_eq] at h
  obtain ⟨h1, h2, h3, h4, h5, h6⟩ := h
  have h4 := of_decide_eq_true h4
  have h5 := of_decide_eq_true h5
  have h7 : e.args = [] := List.length_eq_zero_iff.1 (of_decide_eq_true h6)
  refine ⟨by rw [h1]; exact ⟨by decide, by decide⟩, by rw [h2]; exact ⟨by decide, by decide⟩, ?_, ?_, ?_⟩
  · show e.text.size ≤ 65536
    rw [h4]
    exact Nat.zero_le _
  · show N64 e.num
    rw [h5]
    exact ⟨by decide, by decide⟩
  · show VasFit e.args
    rw [h7]
    exact ⟨Nat.zero_le _, fun v hv => by cases hv⟩
theorem right_fit {e : EnP} (h : entryR e = true) (ho : EnOk e) : EnFit e := by
  unfold entryR at h
  split at h
  · cases h
  rename_i h1
  have h1 : withinN e.term = true := by simpa using h1
  split at h
  · simp only [Bool.and_eq_true, decide_eq_true_eq] at h
    have hv : e.vs = [] := List.length_eq_zero_iff.1 h.2
    obtain ⟨b1, b2, b3⟩ := bare_fit h.1
    exact ⟨within_N64 h1, b1, b2, b3, by rw [hv]; exact Nat.zero_le _, by rw [hv]; exact fun v hv => by cases hv⟩
  · split at h
    · simp only [Bool.and_eq_true, decide_eq_true_eq] at h
      have hv : e.vs = [] := List.length_eq_zero_iff.1 h.2.2.1
      exact ⟨within_N64 h1, ho.session, ho.seq, whole_fit (c := e.cm) ho.num ho.text ho.args ho.wf h.2.2.2, by rw [hv]; exact Nat.zero_le _, by rw [hv]; exact fun v hv => by cases hv⟩
    · simp only [Bool.and_eq_true, decide_eq_true_eq] at h
      obtain ⟨b1, b2, b3⟩ := bare_fit h.2.1
      obtain ⟨c1, c2, c3⟩ := votersB_in h.2.2
      exact ⟨within_N64 h1, b1, b2, b3, by omega, fun v hv => by have := c1 v hv; unfold N64; omega⟩
theorem readEs_back : ∀ (es : List EnP) (rest : List Int), (∀ e ∈ es, EnFit e) → readEs es.length (es.flatMap entryB ++ rest) = some (es, rest) := by
  intro es
  induction es with
  | nil => intro rest _; rfl
  | cons e es ih =>
    intro rest h
    rw [List.length_cons, List.flatMap_cons, List.append_assoc]
    unfold readEs
    rw [entryS_back e _ (h e (by simp))]
    dsimp only
    rw [if_neg (by simp), List.drop_left, ih rest (fun x hx => h x (List.mem_cons_of_mem _ hx))]
theorem cut_at {α : Type} (a b : List α) (k : Nat) (h : a.length = k) : (a ++ b).take k = a ∧ (a ++ b).drop k = b := by
  subst h
  exact ⟨List.take_left .., List.drop_left ..⟩
theorem cntS_back (n : Nat) (rest : List Int) (h : n < 4294967296) : cntS (numB 4 n ++ rest) = ((n : Int), decide ((n : Int) ≤ (rest.length : Int)), rest) := by
  have h4 : (numB 4 (n : Int)).length = 4 := numB_len 4 n
  obtain ⟨e1, e2⟩ := cut_at (numB 4 (n : Int)) rest 4 h4
  unfold cntS
  rw [if_neg (by rw [List.length_append, h4]; omega), e1, e2, getN_numB]
  have e3 : (256 : Int) ^ 4 = 4294967296 := by decide
  have e : (n : Int) % 256 ^ 4 = n := by rw [e3]; omega
  rw [e]
/-- A letter's numbers and lengths are some. -/
structure LtOk (l : LtP) : Prop where
  es : ∀ e ∈ l.es, EnOk e
  im : l.im.length < 4294967296
theorem right_nums {l : LtP} (h : rightL l = true) : (1 ≤ l.fr ∧ l.fr ≤ 9) ∧ (1 ≤ l.tov ∧ l.tov ≤ 9) ∧ N64 l.term ∧ N64 l.was ∧ N64 l.index ∧ N64 l.commit ∧ N64 l.round ∧ (∀ e ∈ l.es, entryR e = true) ∧ l.es.length ≤ 16 ∧ (∀ v ∈ l.vs, 1 ≤ v ∧ v ≤ 9) ∧ l.vs.length ≤ 7 := by
  unfold rightL at h
  split at h
  · cases h
  rename_i h1
  split at h
  · cases h
  rename_i h2
  have h2 := eq_true_of_ne_false h2
  simp only [List.all_cons, List.all_nil, Bool.and_eq_true, Bool.or_eq_true, decide_eq_true_eq, entriesR, List.all_eq_true] at h2
  obtain ⟨⟨a1, a2, a3, a4, a5, _⟩, ⟨b1, b2⟩, b3⟩ := h2
  refine ⟨by omega, by omega, within_N64 a1, within_N64 a2, within_N64 a3, within_N64 a4, within_N64 a5, b1, b2, ?_, ?_⟩
  · rcases b3 with h | h
    · rw [List.length_eq_zero_iff.1 h]
      intro v hv; cases hv
    · exact (votersB_in h).1
  · rcases b3 with h | h
    · omega
    · exact (votersB_in h).2.2
/-- What stands ahead of a letter's entries. -/
def headL (l : LtP) : List Int := [l.kind, l.fr, l.tov] ++ ((numB 8 l.term ++ (numB 8 l.index ++ numB 8 l.was)) ++ ((if l.ok = true then 1 else 0) :: (numB 8 l.commit ++ numB 8 l.round)))
theorem headL_len (l : LtP) : (headL l).length = 44 := by simp [headL, numB_len]
theorem bytesL_head (l : LtP) : bytesL l = headL l ++ (numB 4 l.es.length ++ (l.es.flatMap entryB ++ (numB 4 l.vs.length ++ (l.vs ++ (numB 4 l.im.length ++ l.im))))) := by
  simp [bytesL, headL]
theorem readL_back {l : LtP} (hr : rightL l = true) (ho : LtOk l) (more : List Int) (hm : more.length < 4294967296) : readL (bytesL l ++ more) = if more = [] then some l else none := by
  obtain ⟨n1, n2, n3, n4, n5, n6, n7, n8, n9, n10, n11⟩ := right_nums hr
  obtain ⟨R, hR⟩ : ∃ R, numB 4 l.es.length ++ (l.es.flatMap entryB ++ (numB 4 l.vs.length ++ (l.vs ++ (numB 4 l.im.length ++ (l.im ++ more))))) = R := ⟨_, rfl⟩
  have hb : bytesL l ++ more = headL l ++ R := by rw [bytesL_head, ← hR]; simp
  have hl := headL_len l
  obtain ⟨t44, d44⟩ := cut_at (headL l) R 44 hl
  have e1 : ((headL l ++ R).drop 3).take 24 = numB 8 l.term ++ (numB 8 l.index ++ numB 8 l.was) := by
    simp only [headL, List.cons_append, List.nil_append, List.drop_succ_cons, List.drop_zero, List.append_assoc]
    have := (cut_at (numB 8 l.term ++ (numB 8 l.index ++ numB 8 l.was)) ((if l.ok = true then 1 else 0) :: (numB 8 l.commit ++ (numB 8 l.round ++ R))) 24 (by simp [numB_len])).1
    simpa using this
  have e2 : (headL l).drop 28 = numB 8 l.commit ++ numB 8 l.round := by
    have h27 : ([l.kind, l.fr, l.tov] ++ ((numB 8 l.term ++ (numB 8 l.index ++ numB 8 l.was)) ++ [if l.ok = true then 1 else 0])).length = 28 := by simp [numB_len]
    have hh : headL l = ([l.kind, l.fr, l.tov] ++ ((numB 8 l.term ++ (numB 8 l.index ++ numB 8 l.was)) ++ [if l.ok = true then 1 else 0])) ++ (numB 8 l.commit ++ numB 8 l.round) := by simp [headL]
    rw [hh]
    exact (cut_at _ _ 28 h27).2
  have e3 : (headL l ++ R).getD 27 0 = if l.ok = true then 1 else 0 := by
    have h27 : ([l.kind, l.fr, l.tov] ++ (numB 8 l.term ++ (numB 8 l.index ++ numB 8 l.was))).length = 27 := by simp [numB_len]
    have hh : headL l ++ R = ([l.kind, l.fr, l.tov] ++ (numB 8 l.term ++ (numB 8 l.index ++ numB 8 l.was))) ++ ((if l.ok = true then 1 else 0) :: ((numB 8 l.commit ++ numB 8 l.round) ++ R)) := by simp [headL]
    rw [hh, List.getD_eq_getElem?_getD, List.getElem?_append_right (by omega), h27]
    rfl
  unfold readL
  rw [hb, if_neg (by rw [List.length_append, hl]; omega), t44, d44, e1, e2, e3]
  dsimp only
  rw [numS_back _ _ n3]
  dsimp only
  rw [numS_back _ _ n5]
  dsimp only
  have a1 := numS_back l.was [] n4
  rw [List.append_nil] at a1
  rw [a1]
  dsimp only
  rw [numS_back _ _ n6]
  dsimp only
  have a2 := numS_back l.round [] n7
  rw [List.append_nil] at a2
  rw [a2, ← hR]
  rw [cntS_back _ _ (by omega)]
  dsimp only
  have hlen : l.es.length ≤ (l.es.flatMap entryB).length := by
    have : ∀ es : List EnP, es.length ≤ (es.flatMap entryB).length := by
      intro es
      induction es with
      | nil => exact Nat.le_refl _
      | cons e es ih =>
        rw [List.flatMap_cons, List.length_append, List.length_cons]
        have : 1 ≤ (entryB e).length := by simp [entryB]; omega
        omega
    exact this _
  rw [if_neg (by rw [decide_eq_true (by rw [List.length_append]; omega)]; simp; omega), Int.toNat_natCast, readEs_back _ _ (fun e he => right_fit (n8 e he) (ho.es e he))]
  dsimp only
  rw [cntS_back _ _ (by omega)]
  dsimp only
  rw [if_neg (by simp; omega), Int.toNat_natCast, List.drop_left, List.take_left]
  rw [cntS_back _ _ ho.im]
  dsimp only
  by_cases hmore : more = []
  · subst hmore
    rw [if_neg (by simp), if_pos rfl]
    obtain ⟨k, f, t, tm, ix, ws, ok, cm, rd, es, vs, im⟩ := l
    cases ok <;> simp [headL]
  · have : 0 < more.length := List.length_pos_iff.2 hmore
    rw [if_pos (by right; simp; omega), if_neg hmore]
theorem wf_mid {a b : List Int} (h : BytesWf (a ++ b)) : BytesWf a ∧ BytesWf b := ⟨fun x hx => h x (List.mem_append_left _ hx), fun x hx => h x (List.mem_append_right _ hx)⟩
theorem entry_ok {b : Bool} {l : List Int} (hw : BytesWf l) (h : (entryS b l).2.1 = false) : EnOk (entryS b l).1 := by
  have hth := entryS_there b l hw h
  have hwe : BytesWf (entryB (entryS b l).1) := by
    have := hth.2.1
    rw [this] at hw
    exact (wf_mid hw).1
  have wv : BytesWf (valuesB (entryS b l).1.args) := by
    generalize (entryS b l).1 = e at hwe
    unfold entryB commandB at hwe
    have q1 := (wf_mid hwe).2
    have q2 : BytesWf (numB 8 e.session ++ (numB 8 e.seq ++ ((e.ck :: (textB e.text ++ (numB 8 e.num ++ valuesB e.args))) ++ (numB 4 e.vs.length ++ e.vs.flatMap (numB 8))))) := fun x hx => q1 x (List.mem_cons_of_mem _ hx)
    have q4 := (wf_mid (wf_mid (wf_mid q2).2).2).1
    have q5 : BytesWf (textB e.text ++ (numB 8 e.num ++ valuesB e.args)) := fun x hx => q4 x (List.mem_cons_of_mem _ hx)
    exact (wf_mid (wf_mid q5).2).2
  obtain ⟨t, ht⟩ : ∃ t, numS b l = t := ⟨_, rfl⟩
  obtain ⟨k, hk⟩ : ∃ k, kindS t.2.1 t.2.2 = k := ⟨_, rfl⟩
  obtain ⟨s, hs⟩ : ∃ s, numS k.2.1 k.2.2 = s := ⟨_, rfl⟩
  obtain ⟨q, hq⟩ : ∃ q, numS s.2.1 s.2.2 = q := ⟨_, rfl⟩
  obtain ⟨c, hc⟩ : ∃ c, commandS q.2.1 q.2.2 = c := ⟨_, rfl⟩
  obtain ⟨v, hv⟩ : ∃ v, intsS c.2.1 c.2.2 = v := ⟨_, rfl⟩
  have he : entryS b l = (if v.2.1 = true then ⟨0, 0, 0, 0, 0, ByteArray.empty, [], 0, []⟩ else ⟨t.1, k.1, s.1, q.1, c.1.kind, c.1.text, c.1.args, c.1.num, v.1⟩, v.2) := by subst hv hc hq hs hk ht; rfl
  have w1 := numS_shrinks b l hw
  rw [ht] at w1
  have w2 := kindS_shrinks t.2.1 _ w1.1
  rw [hk] at w2
  have w3 := numS_shrinks k.2.1 _ w2.1
  rw [hs] at w3
  have w4 := numS_shrinks s.2.1 _ w3.1
  rw [hq] at w4
  have w5 := commandS_shrinks q.2.1 _ w4.1
  rw [hc] at w5
  rw [he] at h wv ⊢
  dsimp only at h wv ⊢
  have hcb : c.2.1 = false := by
    have := intsS_there c.2.1 _ w5.1 (by rw [hv]; exact h)
    exact this.1
  rw [h, if_neg (by simp)] at wv ⊢
  dsimp only at wv
  obtain ⟨k', hk'⟩ : ∃ k', kindS q.2.1 q.2.2 = k' := ⟨_, rfl⟩
  obtain ⟨t', ht'⟩ : ∃ t', textS k'.2.1 k'.2.2 = t' := ⟨_, rfl⟩
  obtain ⟨n', hn'⟩ : ∃ n', numS t'.2.1 t'.2.2 = n' := ⟨_, rfl⟩
  obtain ⟨v', hv'⟩ : ∃ v', valuesS n'.2.1 n'.2.2 = v' := ⟨_, rfl⟩
  have he' : c = (if v'.2.1 = true then ⟨0, ByteArray.empty, [], 0⟩ else ⟨k'.1, t'.1, v'.1, n'.1⟩, v'.2) := by subst hv' hn' ht' hk' hc; rfl
  have k1 := kindS_shrinks q.2.1 _ w4.1
  rw [hk'] at k1
  have k2 := textS_shrinks k'.2.1 _ k1.1
  rw [ht'] at k2
  have k3 := numS_shrinks t'.2.1 _ k2.1
  rw [hn'] at k3
  rw [he'] at hcb wv ⊢
  dsimp only at hcb wv ⊢
  have c3 : n'.2.1 = false := (valuesS_there n'.2.1 _ k3.1 (by rw [hv']; exact hcb)).1
  have c2 : t'.2.1 = false := (numS_there t'.2.1 _ k2.1 (by rw [hn']; exact c3)).1
  rw [hcb, if_neg (by simp)] at wv ⊢
  have e1 : N64 s.1 := by rw [← hs]; exact wrap_N64 _
  have e2 : N64 q.1 := by rw [← hq]; exact wrap_N64 _
  have e3 : N64 n'.1 := by rw [← hn']; exact wrap_N64 _
  have e4 : t'.1.size ≤ 65536 := by rw [← ht']; exact textS_told k1.1 (by rw [ht']; exact c2)
  have e5 : v'.1.length ≤ 65536 := by rw [← hv']; exact rowsS_len valueS n'.2.1 n'.2.2 k3.1
  exact ⟨e1, e2, e3, Nat.lt_of_le_of_lt e4 (by decide), Nat.lt_of_le_of_lt e5 (by decide), wv⟩
theorem readEs_ok : ∀ (n : Nat) (r : List Int) (es : List EnP) (r' : List Int), BytesWf r → readEs n r = some (es, r') → (∀ e ∈ es, EnOk e) ∧ es.length = n ∧ BytesWf r' ∧ r = es.flatMap entryB ++ r' := by
  intro n
  induction n with
  | zero =>
    intro r es r' hw h
    simp only [readEs, Option.some.injEq, Prod.mk.injEq] at h
    obtain ⟨rfl, rfl⟩ := h
    exact ⟨(fun e he => by cases he), rfl, hw, rfl⟩
  | succ n ih =>
    intro r es r' hw h
    have hth := entryS_there false r hw
    have hok := entry_ok (b := false) hw
    unfold readEs at h
    generalize entryS false r = x at h hth hok
    obtain ⟨e, xb, xr⟩ := x
    dsimp only at h hth hok
    cases xb with
    | true => rw [if_pos rfl] at h; cases h
    | false =>
      rw [if_neg (by simp)] at h
      obtain ⟨_, h2, h3⟩ := hth rfl
      have hr : r.drop (entryB e).length = xr := by
        rw [h2]
        exact (cut_at _ _ _ rfl).2
      rw [hr] at h
      rcases hq : readEs n xr with _ | ⟨l, r2⟩
      · rw [hq] at h
        cases h
      · rw [hq] at h
        simp only [Option.some.injEq, Prod.mk.injEq] at h
        obtain ⟨rfl, rfl⟩ := h
        obtain ⟨i1, i2, i3, i4⟩ := ih _ _ _ h3 hq
        refine ⟨fun e' he => ?_, by rw [List.length_cons, i2], i3, ?_⟩
        · rcases List.mem_cons.1 he with rfl | he
          · exact hok rfl
          · exact i1 e' he
        · rw [List.flatMap_cons, List.append_assoc, ← i4]
          exact h2
theorem cntS_wf {r : List Int} (h : BytesWf r) : BytesWf (cntS r).2.2 ∧ 0 ≤ (cntS r).1 ∧ (cntS r).1 < 4294967296 ∧ (cntS r).2.2.length ≤ r.length := by
  unfold cntS
  split
  · exact ⟨h, Int.le_refl 0, (by decide : (0 : Int) < 4294967296), Nat.le_refl _⟩
  · have h4 := getN_small (h.take 4) (by rw [List.length_take]; omega : (r.take 4).length ≤ 4)
    refine ⟨h.drop 4, h4.1, h4.2, by simp⟩
theorem readL_ok {b : List Int} {l : LtP} (hw : BytesWf b) (hl : b.length < 4294967296) (h : readL b = some l) : LtOk l := by
  unfold readL at h
  split at h
  · cases h
  dsimp only at h
  split at h
  · cases h
  split at h
  · cases h
  rename_i es r hes
  split at h
  · cases h
  split at h
  · cases h
  simp only [Option.some.injEq] at h
  subst h
  have c1 := cntS_wf (hw.drop 44)
  obtain ⟨i1, i2, i3, i4⟩ := readEs_ok _ _ _ _ c1.1 hes
  refine ⟨i1, ?_⟩
  have c2 := cntS_wf i3
  have c3 := cntS_wf (c2.1.drop (cntS r).1.toNat)
  have hrl : r.length ≤ b.length := by
    have e1 : (cntS (b.drop 44)).2.2.length = (es.flatMap entryB ++ r).length := by rw [← i4]
    rw [List.length_append] at e1
    have := c1.2.2.2
    rw [List.length_drop] at this
    omega
  have := c3.2.2.2
  have h5 := c2.2.2.2
  rw [List.length_drop] at this
  dsimp only
  omega
theorem putL2_err (l : LtP) : (putL2 l).2 = 0 → rightL l = true ∧ (bytesL l).length ≤ 1048576 ∧ (putL2 l).1 = bytesL l := by
  unfold putL2
  split
  · intro h; cases h
  · rename_i hr
    split
    · intro h; cases h
    · rename_i hb
      intro _
      exact ⟨eq_true_of_ne_false hr, Nat.le_of_not_lt hb, rfl⟩
theorem getL_back {l : LtP} (hr : rightL l = true) (ho : LtOk l) (hl : (bytesL l).length ≤ 1048576) : getL (bytesL l) = (l, 0) := by
  have h1 := readL_back hr ho [] (by decide)
  rw [if_pos rfl, List.append_nil] at h1
  have hp : putL2 l = (bytesL l, 0) := by
    unfold putL2
    rw [if_neg (by rw [hr]; simp), if_neg (by omega)]
  unfold getL
  rw [if_neg (by omega), h1]
  dsimp only
  rw [hp, if_pos ⟨rfl, rfl⟩]
theorem getL_more {l : LtP} (hr : rightL l = true) (ho : LtOk l) {more : List Int} (hm : more ≠ []) (hl : more.length < 4294967296) : (getL (bytesL l ++ more)).2 = 4 := by
  have h1 := readL_back hr ho more hl
  rw [if_neg hm] at h1
  unfold getL
  rw [h1]
  split <;> rfl
theorem getL_cut {l : LtP} (hr : rightL l = true) (ho : LtOk l) (hl : (bytesL l).length ≤ 1048576) (hw : BytesWf (bytesL l)) {k : Nat} (hk : k < (bytesL l).length) : (getL ((bytesL l).take k)).2 = 4 := by
  rcases getL_err ((bytesL l).take k) with h | h
  · exfalso
    have h2 := getL_one h
    have h3 := putL2_err (getL ((bytesL l).take k)).1 (by rw [h2.2])
    have hb : bytesL (getL ((bytesL l).take k)).1 = (bytesL l).take k := by rw [← h3.2.2, h2.2]
    have hok : LtOk (getL ((bytesL l).take k)).1 := by
      have hg : ∃ l', readL ((bytesL l).take k) = some l' ∧ (getL ((bytesL l).take k)).1 = l' := by
        unfold getL at h ⊢
        split at h
        · cases h
        rename_i q1
        rw [if_neg q1]
        split at h
        · cases h
        rename_i l' hl'
        split at h
        · rename_i q2
          rw [if_pos q2]
          exact ⟨l', hl', rfl⟩
        · cases h
      obtain ⟨l', g1, g2⟩ := hg
      rw [g2]
      exact readL_ok (hw.take k) (by rw [List.length_take]; omega) g1
    have h4 := readL_back h3.1 hok ((bytesL l).drop k) (by rw [List.length_drop]; omega)
    rw [hb, List.take_append_drop, if_neg (by intro e; have := congrArg List.length e; simp at this; omega)] at h4
    have h5 := readL_back hr ho [] (by decide)
    rw [if_pos rfl, List.append_nil, h4] at h5
    cases h5
  · rw [h]
end Go.Proofs.YthdpfchbomaigaaDoor
/- log.copied: entries in memory of their own. Conditions: the entries' cells lie as their readings say. -/
namespace Go.Proofs.YthdpfchbomaigaaDoor
open Go.RowKit
set_option maxRecDepth 20000
def argV (e : En) : Value := .slice e.aao e.args.length e.acap
def votV (e : En) : Value := .slice e.vao e.vs.length e.vcap
/-- An entry's lists are the call's own. -/
def enOwn (w : World) (base : Nat) (e : En) : Prop :=
  w.ownsRow base 50 3 (argV e) e.args.length (e.args.flatMap vaCells) ∧ w.ownsRow base 3 1 (votV e) e.vs.length (e.vs.flatMap iCells)
def sepE (e f : En) : Prop := ((argV e).ownBlock = none ∨ (argV e).ownBlock ≠ (argV f).ownBlock) ∧ ((votV e).ownBlock = none ∨ (votV e).ownBlock ≠ (votV f).ownBlock)
/-- A row of entries of the call's own, their lists, too, each in a block of its own. -/
structure EnsOwn (w : World) (base : Nat) (v : Value) (es : List En) : Prop where
  row : w.ownsRow base 47 9 v es.length (es.flatMap enCells)
  own : ∀ e ∈ es, enOwn w base e
  sep : es.Pairwise sepE
theorem enOwn.below {w w' : World} {base B : Nat} {e : En} (h : enOwn w base e) (hb : Below B w w') (hB : w.heap.size ≤ B) : enOwn w' base e := ⟨own_below h.1 hb hB, own_below h.2 hb hB⟩
theorem enOwn.le {w : World} {base base' : Nat} {e : En} (h : enOwn w base e) (hB : base' ≤ base) : enOwn w base' e := ⟨Go.Joins.ownsRow_le h.1 hB, Go.Joins.ownsRow_le h.2 hB⟩
theorem EnsOwn.below {w w' : World} {base B : Nat} {v : Value} {es : List En} (h : EnsOwn w base v es) (hb : Below B w w') (hB : w.heap.size ≤ B) : EnsOwn w' base v es :=
  ⟨own_below h.row hb hB, fun e he => (h.own e he).below hb hB, h.sep⟩
theorem EnsOwn.le {w : World} {base base' : Nat} {v : Value} {es : List En} (h : EnsOwn w base v es) (hB : base' ≤ base) : EnsOwn w base' v es := ⟨Go.Joins.ownsRow_le h.row hB, fun e he => (h.own e he).le hB, h.sep⟩
theorem EnsOwn.nil (w : World) (base : Nat) : EnsOwn w base (.slice none 0 0) [] := ⟨World.ownsRow_nil _ _ _ _, by simp, List.Pairwise.nil⟩
/-- A row of the call's own, as it lies. -/
theorem own_rowsIn {α : Type} {k : Nat} {cells : α → List Value} {sub : World → Nat → α → Prop} (hk : ∀ x, (cells x).length = k) {w : World} {base e n c : Nat} {ao : Option Addr} {xs : List α} (hn : xs.length = n) (h : w.ownsRow base e k (.slice ao n c) n (xs.flatMap cells)) (hs : ∀ x ∈ xs, sub w w.heap.size x) : RowsIn k cells sub w w.heap.size ao xs := by
  subst hn
  obtain ⟨a', c', hv, hin, _⟩ := own_rows hk rfl h hs (Nat.le_refl _)
  cases hv
  exact hin
theorem enOwn.sub {w : World} {base : Nat} {e : En} (h : enOwn w base e) : enSub w w.heap.size e :=
  ⟨own_rowsIn vaCells_len rfl h.1 (fun _ _ => trivial), own_rowsIn iCells_len rfl h.2 (fun _ _ => trivial)⟩
end Go.Proofs.YthdpfchbomaigaaDoor
