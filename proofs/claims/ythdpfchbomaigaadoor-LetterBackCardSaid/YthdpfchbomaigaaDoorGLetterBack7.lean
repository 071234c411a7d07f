/- A right letter's bytes are read as it, and with bytes behind them not at all. No program. Conditions: as each says. -/
import Derived.Test.YthdpfchbomaigaaDoorGLetterBack6
import Derived.Test.YthdpfchbomaigaaDoorGLetterBack0
import Derived.Test.YthdpfchbomaigaaDoorGLetterBack1
set_option linter.unusedVariables false
namespace Go.Proofs.YthdpfchbomaigaaDoor
open Go.RowKit
set_option maxRecDepth 20000
theorem wrap_N64 (x : Int) : N64 (IntKind.i64.wrap x) := by
  unfold N64 IntKind.wrap
  simp [IntKind.signed, IntKind.bits]
  omega
theorem textS_told {b : Bool} {l : List Int} (hw : BytesWf l) (h : (textS b l).2.1 = false) : (textS b l).1.size ≤ 65536 := by
  have h2 := countS_wf (bad := b) hw
  unfold textS at h ⊢
  dsimp only at h ⊢
  rw [strN_size]
  have h3 := takeS_there _ _ _ h2.2.2.1 h
  rw [h3.2.2.1]
  omega
theorem valueS_told {b : Bool} {l : List Int} (hw : BytesWf l) (h : (valueS b l).2.1 = false) : Bare (valueS b l).1 ∧ VaFit (valueS b l).1 := by
  have hk := takeS_shrinks 1 b l hw
  unfold valueS at h ⊢
  dsimp only at h ⊢
  split
  · rename_i h1
    rw [if_pos h1] at h
    dsimp only at h
    dsimp only
    rw [h, if_neg (by simp)]
    exact ⟨Or.inl ⟨rfl, rfl⟩, wrap_N64 _, (Nat.zero_le 65536 : ByteArray.empty.size ≤ 65536)⟩
  · rename_i h1
    rw [if_neg h1] at h
    split
    · rename_i h2
      rw [if_pos h2] at h
      dsimp only at h
      dsimp only
      have ht := textS_told hk.1 h
      rw [h, if_neg (by simp)]
      exact ⟨Or.inr ⟨rfl, rfl⟩, (show N64 0 from ⟨by decide, by decide⟩), ht⟩
    · rename_i h2
      rw [if_neg h2] at h
      cases h
theorem rowV_told : ∀ (n : Nat) (b : Bool) (l : List Int), BytesWf l → (rowS valueS n b l).2.1 = false → ∀ v ∈ (rowS valueS n b l).1, Bare v ∧ VaFit v := by
  intro n
  induction n with
  | zero => intro b l _ _ v hv; cases hv
  | succ n ih =>
    intro b l hw h v hv
    have hs := valueS_shrinks b l hw
    unfold rowS at h hv
    split at h
    · rename_i hb
      rw [if_pos hb] at hv
      cases hv
    · rename_i hb
      rw [if_neg hb] at hv
      dsimp only at h hv
      have hb2 : (valueS b l).2.1 = false := (rowS_there valueS_there n _ _ hs.1 h).1
      rcases List.mem_cons.1 hv with rfl | hv
      · exact valueS_told hw hb2
      · exact ih _ _ hs.1 h v hv
theorem takeS_badS (n : Nat) (l : List Int) : (takeS n true l).2.1 = true := by simp [takeS]
theorem numS_bad (l : List Int) : (numS true l).2.1 = true := takeS_badS 8 l
theorem countS_bad (l : List Int) : (countS true l).2.1 = true ∧ (countS true l).1 = 0 := by
  unfold countS
  rw [if_pos (Or.inl (takeS_badS 4 l))]
  exact ⟨rfl, rfl⟩
theorem rowsS_bad {α : Type} (one : Bool → List Int → α × Bool × List Int) (l : List Int) : (rowsS one true l).2.1 = true := by
  unfold rowsS
  dsimp only
  rw [(countS_bad l).1, rowS_bad]
theorem over_bad {α : Type} (one : Bool → List Int → α × Bool × List Int) (n : Nat) (rest : List Int) (h : 65536 < n) (h2 : n < 4294967296) : (rowsS one false (numB 4 n ++ rest)).2.1 = true := by
  unfold rowsS
  dsimp only
  have e : countS false (numB 4 n ++ rest) = (0, true, rest) := by
    unfold countS
    rw [takeS_back 4 _ _ (numB_len 4 n)]
    dsimp only
    rw [getN_numB]
    have e1 : (256 : Int) ^ 4 = 4294967296 := by decide
    have e : (n : Int) % 256 ^ 4 = n := by rw [e1]; omega
    rw [e, if_pos (by right; omega)]
  rw [e]
  rfl
theorem text_bad (s : ByteArray) (rest : List Int) (h : 65536 < s.size) (h2 : s.size < 4294967296) : (textS false (textB s ++ rest)).2.1 = true := by
  unfold textS textB
  rw [List.append_assoc]
  have e : countS false (numB 4 s.size ++ (strB s ++ rest)) = (0, true, strB s ++ rest) := by
    unfold countS
    rw [takeS_back 4 _ _ (numB_len 4 s.size)]
    dsimp only
    rw [getN_numB]
    have e1 : (256 : Int) ^ 4 = 4294967296 := by decide
    have e : (s.size : Int) % 256 ^ 4 = s.size := by rw [e1]; omega
    rw [e, if_pos (by right; omega)]
  rw [e]
  rfl
/-- A command whose bytes say all of it. -/
theorem whole_fit {c : CmP} (hn : N64 c.num) (ht : c.text.size < 4294967296) (ha : c.args.length < 4294967296) (hw : BytesWf (valuesB c.args)) (h : wholeC c = true) : CmFit c := by
  unfold wholeC at h
  simp only [Bool.and_eq_true, Bool.not_eq_true', decide_eq_true_eq] at h
  obtain ⟨⟨h1, h2⟩, h3, h4⟩ := h
  unfold commandS commandB at h1 h4
  dsimp only at h1 h4
  rw [kindS_back] at h1 h4
  dsimp only at h1 h4
  rcases Nat.lt_or_ge 65536 c.text.size with hb | hb
  · exfalso
    have e := text_bad c.text (numB 8 c.num ++ valuesB c.args) hb ht
    rw [e] at h1
    rw [numS_bad] at h1
    unfold valuesS at h1
    rw [rowsS_bad] at h1
    cases h1
  rw [textS_back _ _ hb] at h1 h4
  dsimp only at h1 h4
  rw [numS_back _ _ hn] at h1 h4
  dsimp only at h1 h4
  rw [h1, if_neg (by simp)] at h4
  dsimp only at h4
  refine ⟨hb, hn, ?_, ?_⟩
  · rcases Nat.lt_or_ge 65536 c.args.length with hc | hc
    · exfalso
      have e := over_bad valueS c.args.length (c.args.flatMap valueB) hc ha
      unfold valuesS valuesB at h1
      rw [e] at h1
      cases h1
    · exact hc
  · have hc := countS_wf (bad := false) hw
    have key := rowV_told (countS false (valuesB c.args)).1.toNat (countS false (valuesB c.args)).2.1 _ hc.2.2.1
    have h5 : (rowS valueS (countS false (valuesB c.args)).1.toNat (countS false (valuesB c.args)).2.1 (countS false (valuesB c.args)).2.2).2.1 = false := h1
    have h6 : (valuesS false (valuesB c.args)).1 = (rowS valueS (countS false (valuesB c.args)).1.toNat (countS false (valuesB c.args)).2.1 (countS false (valuesB c.args)).2.2).1 := by
      show (if _ then _ else _) = _
      rw [h5, if_neg (by simp)]
    rw [h6] at h4
    rw [h4]
    exact key h5
theorem within_N64 {n : Int} (h : withinN n = true) : N64 n := by
  have := withinN_iff.1 h
  unfold N64
  omega
/-- An entry's numbers and lengths are some. -/
structure EnOk (e : EnP) : Prop where
  session : N64 e.session
  seq : N64 e.seq
  num : N64 e.num
  text : e.text.size < 4294967296
  args : e.args.length < 4294967296
  wf : BytesWf (valuesB e.args)
theorem bare_fit {e : EnP} (h : bareE e = true) : N64 e.session ∧ N64 e.seq ∧ CmFit ⟨e.ck, e.text, e.args, e.num⟩ := by
  unfold bareE plainC at h
  simp only [EnP.cm, Bool.and_eq_true, decide_eq_true_eq] at h
  obtain ⟨h1, h2, h3, h4, h5, h6⟩ := h
  have h4 := of_decide_eq_true h4
  have h5 := of_decide_eq_true h5
  have h7 : e.args = [] := List.length_eq_zero_iff.1 (of_decide_eq_true h6)
  refine ⟨by rw [h1]; exact ⟨by decide, by decide⟩, by rw [h2]; exact ⟨by decide, by decide⟩, ?_, ?_, ?_⟩
  · show e.text.size ≤ 65536
    rw [h4]
    exact Nat.zero_le _
  · show N64 e.num
    rw [h5]
    exact ⟨by decide, by decide⟩
  · show VasFit e.args
    rw [h7]
    exact ⟨Nat.zero_le _, fun v hv => by cases hv⟩
theorem right_fit {e : EnP} (h : entryR e = true) (ho : EnOk e) : EnFit e := by
  unfold entryR at h
  split at h
  · cases h
  rename_i h1
  have h1 : withinN e.term = true := by simpa using h1
  split at h
  · simp only [Bool.and_eq_true, decide_eq_true_eq] at h
    have hv : e.vs = [] := List.length_eq_zero_iff.1 h.2
    obtain ⟨b1, b2, b3⟩ := bare_fit h.1
    exact ⟨within_N64 h1, b1, b2, b3, by rw [hv]; exact Nat.zero_le _, by rw [hv]; exact fun v hv => by cases hv⟩
  · split at h
    · simp only [Bool.and_eq_true, decide_eq_true_eq] at h
      have hv : e.vs = [] := List.length_eq_zero_iff.1 h.2.2.1
      exact ⟨within_N64 h1, ho.session, ho.seq, whole_fit (c := e.cm) ho.num ho.text ho.args ho.wf h.2.2.2, by rw [hv]; exact Nat.zero_le _, by rw [hv]; exact fun v hv => by cases hv⟩
    · simp only [Bool.and_eq_true, decide_eq_true_eq] at h
      obtain ⟨b1, b2, b3⟩ := bare_fit h.2.1
      obtain ⟨c1, c2, c3⟩ := votersB_in h.2.2
      exact ⟨within_N64 h1, b1, b2, b3, by omega, fun v hv => by have := c1 v hv; unfold N64; omega⟩
theorem readEs_back : ∀ (es : List EnP) (rest : List Int), (∀ e ∈ es, EnFit e) → readEs es.length (es.flatMap entryB ++ rest) = some (es, rest) := by
  intro es
  induction es with
  | nil => intro rest _; rfl
  | cons e es ih =>
    intro rest h
    rw [List.length_cons, List.flatMap_cons, List.append_assoc]
    unfold readEs
    rw [entryS_back e _ (h e (by simp))]
    dsimp only
    rw [if_neg (by simp), List.drop_left, ih rest (fun x hx => h x (List.mem_cons_of_mem _ hx))]
theorem cut_at {α : Type} (a b : List α) (k : Nat) (h : a.length = k) : (a ++ b).take k = a ∧ (a ++ b).drop k = b := by
  subst h
  exact ⟨List.take_left .., List.drop_left ..⟩
theorem cntS_back (n : Nat) (rest : List Int) (h : n < 4294967296) : cntS (numB 4 n ++ rest) = ((n : Int), decide ((n : Int) ≤ (rest.length : Int)), rest) := by
  have h4 : (numB 4 (n : Int)).length = 4 := numB_len 4 n
  obtain ⟨e1, e2⟩ := cut_at (numB 4 (n : Int)) rest 4 h4
  unfold cntS
  rw [if_neg (by rw [List.length_append, h4]; omega), e1, e2, getN_numB]
  have e3 : (256 : Int) ^ 4 = 4294967296 := by decide
  have e : (n : Int) % 256 ^ 4 = n := by rw [e3]; omega
  rw [e]
/-- A letter's numbers and lengths are some. -/
structure LtOk (l : LtP) : Prop where
  es : ∀ e ∈ l.es, EnOk e
  im : l.im.length < 4294967296
theorem num3 (a b c : Int) (ha : N64 a) (hb : N64 b) (hc : N64 c) (rest : List Int) : (numS false ((numB 8 a ++ (numB 8 b ++ numB 8 c)) ++ rest)) = (a, false, numB 8 b ++ (numB 8 c ++ rest)) := by
  rw [List.append_assoc, List.append_assoc, numS_back _ _ ha]
theorem right_nums {l : LtP} (h : rightL l = true) : (1 ≤ l.fr ∧ l.fr ≤ 9) ∧ (1 ≤ l.to ∧ l.to ≤ 9) ∧ N64 l.term ∧ N64 l.was ∧ N64 l.index ∧ N64 l.commit ∧ N64 l.round ∧ (∀ e ∈ l.es, entryR e = true) ∧ l.es.length ≤ 16 ∧ (∀ v ∈ l.vs, 1 ≤ v ∧ v ≤ 9) ∧ l.vs.length ≤ 7 := by
  unfold rightL at h
  split at h
  · cases h
  rename_i h1
  split at h
  · cases h
  rename_i h2
  have h2 := eq_true_of_ne_false h2
  simp only [List.all_cons, List.all_nil, Bool.and_eq_true, Bool.or_eq_true, decide_eq_true_eq, entriesR, List.all_eq_true] at h2
  obtain ⟨⟨a1, a2, a3, a4, a5, _⟩, ⟨b1, b2⟩, b3⟩ := h2
  refine ⟨by omega, by omega, within_N64 a1, within_N64 a2, within_N64 a3, within_N64 a4, within_N64 a5, b1, b2, ?_, ?_⟩
  · rcases b3 with h | h
    · rw [List.length_eq_zero_iff.1 h]
      intro v hv; cases hv
    · exact (votersB_in h).1
  · rcases b3 with h | h
    · omega
    · exact (votersB_in h).2.2
/-- What stands ahead of a letter's entries. -/
def headL (l : LtP) : List Int := [l.kind, l.fr, l.to] ++ ((numB 8 l.term ++ (numB 8 l.index ++ numB 8 l.was)) ++ ((if l.ok = true then 1 else 0) :: (numB 8 l.commit ++ numB 8 l.round)))
theorem headL_len (l : LtP) : (headL l).length = 44 := by simp [headL, numB_len]
theorem bytesL_head (l : LtP) : bytesL l = headL l ++ (numB 4 l.es.length ++ (l.es.flatMap entryB ++ (numB 4 l.vs.length ++ (l.vs ++ (numB 4 l.im.length ++ l.im))))) := by
  simp [bytesL, headL]
theorem readL_back {l : LtP} (hr : rightL l = true) (ho : LtOk l) (more : List Int) (hm : more.length < 4294967296) : readL (bytesL l ++ more) = if more = [] then some l else none := by
  obtain ⟨n1, n2, n3, n4, n5, n6, n7, n8, n9, n10, n11⟩ := right_nums hr
  obtain ⟨R, hR⟩ : ∃ R, numB 4 l.es.length ++ (l.es.flatMap entryB ++ (numB 4 l.vs.length ++ (l.vs ++ (numB 4 l.im.length ++ (l.im ++ more))))) = R := ⟨_, rfl⟩
  have hb : bytesL l ++ more = headL l ++ R := by rw [bytesL_head, ← hR]; simp
  have hl := headL_len l
  obtain ⟨t44, d44⟩ := cut_at (headL l) R 44 hl
  have e1 : ((headL l ++ R).drop 3).take 24 = numB 8 l.term ++ (numB 8 l.index ++ numB 8 l.was) := by
    simp only [headL, List.cons_append, List.nil_append, List.drop_succ_cons, List.drop_zero, List.append_assoc]
    have := (cut_at (numB 8 l.term ++ (numB 8 l.index ++ numB 8 l.was)) ((if l.ok = true then 1 else 0) :: (numB 8 l.commit ++ (numB 8 l.round ++ R))) 24 (by simp [numB_len])).1
    simpa using this
  have e2 : (headL l).drop 28 = numB 8 l.commit ++ numB 8 l.round := by
    have h27 : ([l.kind, l.fr, l.to] ++ ((numB 8 l.term ++ (numB 8 l.index ++ numB 8 l.was)) ++ [if l.ok = true then 1 else 0])).length = 28 := by simp [numB_len]
    have hh : headL l = ([l.kind, l.fr, l.to] ++ ((numB 8 l.term ++ (numB 8 l.index ++ numB 8 l.was)) ++ [if l.ok = true then 1 else 0])) ++ (numB 8 l.commit ++ numB 8 l.round) := by simp [headL]
    rw [hh]
    exact (cut_at _ _ 28 h27).2
  have e3 : (headL l ++ R).getD 27 0 = if l.ok = true then 1 else 0 := by
    have h27 : ([l.kind, l.fr, l.to] ++ (numB 8 l.term ++ (numB 8 l.index ++ numB 8 l.was))).length = 27 := by simp [numB_len]
    have hh : headL l ++ R = ([l.kind, l.fr, l.to] ++ (numB 8 l.term ++ (numB 8 l.index ++ numB 8 l.was))) ++ ((if l.ok = true then 1 else 0) :: ((numB 8 l.commit ++ numB 8 l.round) ++ R)) := by simp [headL]
    rw [hh, List.getD_eq_getElem?_getD, List.getElem?_append_right (by omega), h27]
    rfl
  unfold readL
  rw [hb, if_neg (by rw [List.length_append, hl]; omega), t44, d44, e1, e2, e3]
  dsimp only
  rw [numS_back _ _ n3]
  dsimp only
  rw [numS_back _ _ n5]
  dsimp only
  have a1 := numS_back l.was [] n4
  rw [List.append_nil] at a1
  rw [a1]
  dsimp only
  rw [numS_back _ _ n6]
  dsimp only
  have a2 := numS_back l.round [] n7
  rw [List.append_nil] at a2
  rw [a2, ← hR]
  rw [cntS_back _ _ (by omega)]
  dsimp only
  have hlen : l.es.length ≤ (l.es.flatMap entryB).length := by
    have : ∀ es : List EnP, es.length ≤ (es.flatMap entryB).length := by
      intro es
      induction es with
      | nil => exact Nat.le_refl _
      | cons e es ih =>
        rw [List.flatMap_cons, List.length_append, List.length_cons]
        have : 1 ≤ (entryB e).length := by simp [entryB]; omega
        omega
    exact this _
  rw [if_neg (by rw [decide_eq_true (by rw [List.length_append]; omega)]; simp; omega), Int.toNat_natCast, readEs_back _ _ (fun e he => right_fit (n8 e he) (ho.es e he))]
  dsimp only
  rw [cntS_back _ _ (by omega)]
  dsimp only
  rw [if_neg (by simp; omega), Int.toNat_natCast, List.drop_left, List.take_left]
  rw [cntS_back _ _ ho.im]
  dsimp only
  by_cases hmore : more = []
  · subst hmore
    rw [if_neg (by simp), if_pos rfl]
    obtain ⟨k, f, t, tm, ix, ws, ok, cm, rd, es, vs, im⟩ := l
    cases ok <;> simp [headL]
  · have : 0 < more.length := List.length_pos_iff.2 hmore
    rw [if_pos (by right; simp; omega), if_neg hmore]
theorem wf_mid {a b : List Int} (h : BytesWf (a ++ b)) : BytesWf a ∧ BytesWf b := ⟨fun x hx => h x (List.mem_append_left _ hx), fun x hx => h x (List.mem_append_right _ hx)⟩
theorem entry_ok {b : Bool} {l : List Int} (hw : BytesWf l) (h : (entryS b l).2.1 = false) : EnOk (entryS b l).1 := by
  have hth := entryS_there b l hw h
  have hwe : BytesWf (entryB (entryS b l).1) := by
    have := hth.2.1
    rw [this] at hw
    exact (wf_mid hw).1
  have wv : BytesWf (valuesB (entryS b l).1.args) := by
    generalize (entryS b l).1 = e at hwe
    unfold entryB commandB at hwe
    have q1 := (wf_mid hwe).2
    have q2 : BytesWf (numB 8 e.session ++ (numB 8 e.seq ++ ((e.ck :: (textB e.text ++ (numB 8 e.num ++ valuesB e.args))) ++ (numB 4 e.vs.length ++ e.vs.flatMap (numB 8))))) := fun x hx => q1 x (List.mem_cons_of_mem _ hx)
    have q4 := (wf_mid (wf_mid (wf_mid q2).2).2).1
    have q5 : BytesWf (textB e.text ++ (numB 8 e.num ++ valuesB e.args)) := fun x hx => q4 x (List.mem_cons_of_mem _ hx)
    exact (wf_mid (wf_mid q5).2).2
  obtain ⟨t, ht⟩ : ∃ t, numS b l = t := ⟨_, rfl⟩
  obtain ⟨k, hk⟩ : ∃ k, kindS t.2.1 t.2.2 = k := ⟨_, rfl⟩
  obtain ⟨s, hs⟩ : ∃ s, numS k.2.1 k.2.2 = s := ⟨_, rfl⟩
  obtain ⟨q, hq⟩ : ∃ q, numS s.2.1 s.2.2 = q := ⟨_, rfl⟩
  obtain ⟨c, hc⟩ : ∃ c, commandS q.2.1 q.2.2 = c := ⟨_, rfl⟩
  obtain ⟨v, hv⟩ : ∃ v, intsS c.2.1 c.2.2 = v := ⟨_, rfl⟩
  have he : entryS b l = (if v.2.1 = true then ⟨0, 0, 0, 0, 0, ByteArray.empty, [], 0, []⟩ else ⟨t.1, k.1, s.1, q.1, c.1.kind, c.1.text, c.1.args, c.1.num, v.1⟩, v.2) := by subst hv hc hq hs hk ht; rfl
  have w1 := numS_shrinks b l hw
  rw [ht] at w1
  have w2 := kindS_shrinks t.2.1 _ w1.1
  rw [hk] at w2
  have w3 := numS_shrinks k.2.1 _ w2.1
  rw [hs] at w3
  have w4 := numS_shrinks s.2.1 _ w3.1
  rw [hq] at w4
  have w5 := commandS_shrinks q.2.1 _ w4.1
  rw [hc] at w5
  rw [he] at h wv ⊢
  dsimp only at h wv ⊢
  have hcb : c.2.1 = false := by
    have := intsS_there c.2.1 _ w5.1 (by rw [hv]; exact h)
    exact this.1
  rw [h, if_neg (by simp)] at wv ⊢
  dsimp only at wv
  obtain ⟨k', hk'⟩ : ∃ k', kindS q.2.1 q.2.2 = k' := ⟨_, rfl⟩
  obtain ⟨t', ht'⟩ : ∃ t', textS k'.2.1 k'.2.2 = t' := ⟨_, rfl⟩
  obtain ⟨n', hn'⟩ : ∃ n', numS t'.2.1 t'.2.2 = n' := ⟨_, rfl⟩
  obtain ⟨v', hv'⟩ : ∃ v', valuesS n'.2.1 n'.2.2 = v' := ⟨_, rfl⟩
  have he' : c = (if v'.2.1 = true then ⟨0, ByteArray.empty, [], 0⟩ else ⟨k'.1, t'.1, v'.1, n'.1⟩, v'.2) := by subst hv' hn' ht' hk' hc; rfl
  have k1 := kindS_shrinks q.2.1 _ w4.1
  rw [hk'] at k1
  have k2 := textS_shrinks k'.2.1 _ k1.1
  rw [ht'] at k2
  have k3 := numS_shrinks t'.2.1 _ k2.1
  rw [hn'] at k3
  rw [he'] at hcb wv ⊢
  dsimp only at hcb wv ⊢
  have c3 : n'.2.1 = false := (valuesS_there n'.2.1 _ k3.1 (by rw [hv']; exact hcb)).1
  have c2 : t'.2.1 = false := (numS_there t'.2.1 _ k2.1 (by rw [hn']; exact c3)).1
  rw [hcb, if_neg (by simp)] at wv ⊢
  have e1 : N64 s.1 := by rw [← hs]; exact wrap_N64 _
  have e2 : N64 q.1 := by rw [← hq]; exact wrap_N64 _
  have e3 : N64 n'.1 := by rw [← hn']; exact wrap_N64 _
  have e4 : t'.1.size ≤ 65536 := by rw [← ht']; exact textS_told k1.1 (by rw [ht']; exact c2)
  have e5 : v'.1.length ≤ 65536 := by rw [← hv']; exact rowsS_len valueS n'.2.1 n'.2.2 k3.1
  exact ⟨e1, e2, e3, Nat.lt_of_le_of_lt e4 (by decide), Nat.lt_of_le_of_lt e5 (by decide), wv⟩
theorem readEs_ok : ∀ (n : Nat) (r : List Int) (es : List EnP) (r' : List Int), BytesWf r → readEs n r = some (es, r') → (∀ e ∈ es, EnOk e) ∧ es.length = n ∧ BytesWf r' ∧ r = es.flatMap entryB ++ r' := by
  intro n
  induction n with
  | zero =>
    intro r es r' hw h
    simp only [readEs, Option.some.injEq, Prod.mk.injEq] at h
    obtain ⟨rfl, rfl⟩ := h
    exact ⟨(fun e he => by cases he), rfl, hw, rfl⟩
  | succ n ih =>
    intro r es r' hw h
    have hth := entryS_there false r hw
    have hok := entry_ok (b := false) hw
    unfold readEs at h
    generalize entryS false r = x at h hth hok
    obtain ⟨e, xb, xr⟩ := x
    dsimp only at h hth hok
    cases xb with
    | true => rw [if_pos rfl] at h; cases h
    | false =>
      rw [if_neg (by simp)] at h
      obtain ⟨_, h2, h3⟩ := hth rfl
      have hr : r.drop (entryB e).length = xr := by
        rw [h2]
        exact (cut_at _ _ _ rfl).2
      rw [hr] at h
      rcases hq : readEs n xr with _ | ⟨l, r2⟩
      · rw [hq] at h
        cases h
      · rw [hq] at h
        simp only [Option.some.injEq, Prod.mk.injEq] at h
        obtain ⟨rfl, rfl⟩ := h
        obtain ⟨i1, i2, i3, i4⟩ := ih _ _ _ h3 hq
        refine ⟨fun e' he => ?_, by rw [List.length_cons, i2], i3, ?_⟩
        · rcases List.mem_cons.1 he with rfl | he
          · exact hok rfl
          · exact i1 e' he
        · rw [List.flatMap_cons, List.append_assoc, ← i4]
          exact h2
theorem cntS_wf {r : List Int} (h : BytesWf r) : BytesWf (cntS r).2.2 ∧ 0 ≤ (cntS r).1 ∧ (cntS r).1 < 4294967296 ∧ (cntS r).2.2.length ≤ r.length := by
  unfold cntS
  split
  · exact ⟨h, Int.le_refl 0, (by decide : (0 : Int) < 4294967296), Nat.le_refl _⟩
  · have h4 := getN_small (h.take 4) (by rw [List.length_take]; omega : (r.take 4).length ≤ 4)
    refine ⟨h.drop 4, h4.1, h4.2, by simp⟩
theorem readL_ok {b : List Int} {l : LtP} (hw : BytesWf b) (hl : b.length < 4294967296) (h : readL b = some l) : LtOk l := by
  unfold readL at h
  split at h
  · cases h
  dsimp only at h
  split at h
  · cases h
  split at h
  · cases h
  rename_i es r hes
  split at h
  · cases h
  split at h
  · cases h
  simp only [Option.some.injEq] at h
  subst h
  have c1 := cntS_wf (hw.drop 44)
  obtain ⟨i1, i2, i3, i4⟩ := readEs_ok _ _ _ _ c1.1 hes
  refine ⟨i1, ?_⟩
  have c2 := cntS_wf i3
  have c3 := cntS_wf (c2.1.drop (cntS r).1.toNat)
  have hrl : r.length ≤ b.length := by
    have e1 : (cntS (b.drop 44)).2.2.length = (es.flatMap entryB ++ r).length := by rw [← i4]
    rw [List.length_append] at e1
    have := c1.2.2.2
    rw [List.length_drop] at this
    omega
  have := c3.2.2.2
  have h5 := c2.2.2.2
  rw [List.length_drop] at this
  dsimp only
  omega
theorem putL2_err (l : LtP) : (putL2 l).2 = 0 → rightL l = true ∧ (bytesL l).length ≤ 1048576 ∧ (putL2 l).1 = bytesL l := by
  unfold putL2
  split
  · intro h; cases h
  · rename_i hr
    split
    · intro h; cases h
    · rename_i hb
      intro _
      exact ⟨eq_true_of_ne_false hr, Nat.le_of_not_lt hb, rfl⟩
theorem getL_back {l : LtP} (hr : rightL l = true) (ho : LtOk l) (hl : (bytesL l).length ≤ 1048576) : getL (bytesL l) = (l, 0) := by
  have h1 := readL_back hr ho [] (by decide)
  rw [if_pos rfl, List.append_nil] at h1
  have hp : putL2 l = (bytesL l, 0) := by
    unfold putL2
    rw [if_neg (by rw [hr]; simp), if_neg (by omega)]
  unfold getL
  rw [if_neg (by omega), h1]
  dsimp only
  rw [hp, if_pos ⟨rfl, rfl⟩]
theorem getL_more {l : LtP} (hr : rightL l = true) (ho : LtOk l) {more : List Int} (hm : more ≠ []) (hl : more.length < 4294967296) : (getL (bytesL l ++ more)).2 = 4 := by
  have h1 := readL_back hr ho more hl
  rw [if_neg hm] at h1
  unfold getL
  rw [h1]
  split <;> rfl
theorem getL_cut {l : LtP} (hr : rightL l = true) (ho : LtOk l) (hl : (bytesL l).length ≤ 1048576) (hw : BytesWf (bytesL l)) {k : Nat} (hk : k < (bytesL l).length) : (getL ((bytesL l).take k)).2 = 4 := by
  rcases getL_err ((bytesL l).take k) with h | h
  · exfalso
    have h2 := getL_one h
    have h3 := putL2_err (getL ((bytesL l).take k)).1 (by rw [h2.2])
    have hb : bytesL (getL ((bytesL l).take k)).1 = (bytesL l).take k := by rw [← h3.2.2, h2.2]
    have hok : LtOk (getL ((bytesL l).take k)).1 := by
      have hg : ∃ l', readL ((bytesL l).take k) = some l' ∧ (getL ((bytesL l).take k)).1 = l' := by
        unfold getL at h ⊢
        split at h
        · cases h
        rename_i q1
        rw [if_neg q1]
        split at h
        · cases h
        rename_i l' hl'
        split at h
        · rename_i q2
          rw [if_pos q2]
          exact ⟨l', hl', rfl⟩
        · cases h
      obtain ⟨l', g1, g2⟩ := hg
      rw [g2]
      exact readL_ok (hw.take k) (by rw [List.length_take]; omega) g1
    have h4 := readL_back h3.1 hok ((bytesL l).drop k) (by rw [List.length_drop]; omega)
    rw [hb, List.take_append_drop, if_neg (by intro e; have := congrArg List.length e; simp at this; omega)] at h4
    have h5 := readL_back hr ho [] (by decide)
    rw [if_pos rfl, List.append_nil, h4] at h5
    cases h5
  · rw [h]
end Go.Proofs.YthdpfchbomaigaaDoor
/- log.copied: entries in memory of their own. Conditions: the entries' cells lie as their readings say. -/
namespace Go.Proofs.YthdpfchbomaigaaDoor
open Go.RowKit
set_option maxRecDepth 20000
def argV (e : En) : Value := .slice e.aao e.args.length e.acap
def votV (e : En) : Value := .slice e.vao e.vs.length e.vcap
/-- An entry's lists are the call's own. -/
def enOwn (w : World) (base : Nat) (e : En) : Prop :=
  w.ownsRow base 50 3 (argV e) e.args.length (e.args.flatMap vaCells) ∧ w.ownsRow base 3 1 (votV e) e.vs.length (e.vs.flatMap iCells)
def sepE (e f : En) : Prop := ((argV e).ownBlock = none ∨ (argV e).ownBlock ≠ (argV f).ownBlock) ∧ ((votV e).ownBlock = none ∨ (votV e).ownBlock ≠ (votV f).ownBlock)
/-- A row of entries of the call's own, their lists, too, each in a block of its own. -/
structure EnsOwn (w : World) (base : Nat) (v : Value) (es : List En) : Prop where
  row : w.ownsRow base 47 9 v es.length (es.flatMap enCells)
  own : ∀ e ∈ es, enOwn w base e
  sep : es.Pairwise sepE
theorem enOwn.below {w w' : World} {base B : Nat} {e : En} (h : enOwn w base e) (hb : Below B w w') (hB : w.heap.size ≤ B) : enOwn w' base e := ⟨own_below h.1 hb hB, own_below h.2 hb hB⟩
theorem enOwn.le {w : World} {base base' : Nat} {e : En} (h : enOwn w base e) (hB : base' ≤ base) : enOwn w base' e := ⟨Go.Joins.ownsRow_le h.1 hB, Go.Joins.ownsRow_le h.2 hB⟩
theorem EnsOwn.below {w w' : World} {base B : Nat} {v : Value} {es : List En} (h : EnsOwn w base v es) (hb : Below B w w') (hB : w.heap.size ≤ B) : EnsOwn w' base v es :=
  ⟨own_below h.row hb hB, fun e he => (h.own e he).below hb hB, h.sep⟩
theorem EnsOwn.le {w : World} {base base' : Nat} {v : Value} {es : List En} (h : EnsOwn w base v es) (hB : base' ≤ base) : EnsOwn w base' v es := ⟨Go.Joins.ownsRow_le h.row hB, fun e he => (h.own e he).le hB, h.sep⟩
theorem EnsOwn.nil (w : World) (base : Nat) : EnsOwn w base (.slice none 0 0) [] := ⟨World.ownsRow_nil _ _ _ _, by simp, List.Pairwise.nil⟩
/-- A row of the call's own, as it lies. -/
theorem own_rowsIn {α : Type} {k : Nat} {cells : α → List Value} {sub : World → Nat → α → Prop} (hk : ∀ x, (cells x).length = k) {w : World} {base e n c : Nat} {ao : Option Addr} {xs : List α} (hn : xs.length = n) (h : w.ownsRow base e k (.slice ao n c) n (xs.flatMap cells)) (hs : ∀ x ∈ xs, sub w w.heap.size x) : RowsIn k cells sub w w.heap.size ao xs := by
  subst hn
  obtain ⟨a', c', hv, hin, _⟩ := own_rows hk rfl h hs (Nat.le_refl _)
  cases hv
  exact hin
theorem enOwn.sub {w : World} {base : Nat} {e : En} (h : enOwn w base e) : enSub w w.heap.size e :=
  ⟨own_rowsIn vaCells_len rfl h.1 (fun _ _ => trivial), own_rowsIn iCells_len rfl h.2 (fun _ _ => trivial)⟩
theorem EnsOwn.lie {w : World} {base : Nat} {v : Value} {es : List En} (h : EnsOwn w base v es) : ∃ a c, v = .slice a es.length c ∧ es.length ≤ c ∧ (a = none → c = 0) ∧ EnsIn w w.heap.size a es := by
  obtain ⟨a, c, hv⟩ := row_slice h.row
  subst hv
  exact ⟨a, c, rfl, own_capG h.row, own_none h.row, own_rowsIn enCells_len rfl h.row fun e he => (h.own e he).sub⟩
theorem flat_set {α : Type} {k : Nat} {cells : α → List Value} (hk : ∀ x, (cells x).length = k) (A B : List α) (x : α) (q j : Nat) (hq : A.length = q) (hj : j < k) (u : Value) : ((A ++ x :: B).flatMap cells).set (q * k + j) u = A.flatMap cells ++ ((cells x).set j u ++ B.flatMap cells) := by
  have hA := flat_len hk A
  rw [hq] at hA
  rw [List.flatMap_append, List.flatMap_cons, List.set_append_right _ _ (by omega), hA, show q * k + j - q * k = j by omega, List.set_append_left _ _ (by rw [hk]; exact hj)]
theorem flat_set2 {A : List Value} {c B : List Value} {p j : Nat} (hA : A.length = p) (hj : j < c.length) (u : Value) : (A ++ (c ++ B)).set (p + j) u = A ++ (c.set j u ++ B) := by
  rw [List.set_append_right _ _ (by omega), show p + j - A.length = j by omega, List.set_append_left _ _ hj]
def CopiedAs (xs : List En) (n : Nat) (w : World) (e : Ending) (w' : World) : Prop :=
  ∃ a c es, e = .returned (.slice a n c) ∧ EnsOwn w' w.heap.size (.slice a n c) es ∧ es.map En.plain = xs.map En.plain ∧ Below w.heap.size w w'
end Go.Proofs.YthdpfchbomaigaaDoor
/- Entries among the arguments, with the bounds of what hangs on them. Conditions: they are read as the row reads them, their weights are bounded. -/
namespace Go.Proofs.YthdpfchbomaigaaDoor
open Go.RowKit Go.ChangeShapes
set_option maxRecDepth 20000
/-- No part of a datum is heavier than memory may be. -/
def DSized {H : Type} (P : Program) (t : TypeId) (d : DataW H) : Prop := ∀ n ∈ d.weights P t, n ≤ reachBytes
/-- A struct among the arguments. -/
theorem okWide_struct {P : Program} {W : World} {b0 : Nat} {t : TypeId} {fs : Array Field} {v : Value} (ht : P.underlying t = some (.struct fs)) (hv : Value.okWide P W .any b0 t v) : ∃ cs, v = .agg cs ∧ cs.size = P.cellsOf t := by
  simp only [Value.okWide, ht] at hv
  obtain ⟨cs, rfl, hsz, _⟩ := hv
  exact ⟨cs, rfl, hsz⟩
theorem DSized.arg {H : Type} {P : Program} {ts : List TypeId} {ds : List (DataW H)} (hsz : (DataW.weightsEach P ts ds).all (· ≤ reachBytes) = true) (j : Nat) {t : TypeId} {d : DataW H} (hj : ts[j]? = some t) (hd : ds[j]? = some d) : DSized P t d := fun n hn => by
  have := List.all_eq_true.1 hsz n (DataW.weights_mem_each hj hd n hn)
  simpa using this
theorem DSized.field {H : Type} {P : Program} {t : TypeId} {fs : Array Field} {xs : List (DataW H × List MemPlace)} (ht : P.underlying t = some (.struct fs)) (h : DSized P t (.agg (xs.map (·.1)))) {i : Nat} {f : Field} {y : DataW H × List MemPlace} (hf : fs[i]? = some f) (hy : xs[i]? = some y) : DSized P f.type y.1 := fun n hn => by
  refine h n ?_
  simp only [DataW.weights, ht]
  exact DataW.weights_mem_each (j := i) (by simp [hf]) (by simp [hy]) n hn
theorem weights_mem_all {H : Type} {P : Program} {e : TypeId} : ∀ {ds : List (DataW H)} {d : DataW H}, d ∈ ds → ∀ n ∈ d.weights P e, n ∈ DataW.weightsAll P e ds
  | d0 :: ds, d, h, n, hn => by
    simp only [DataW.weightsAll, List.mem_append]
    rcases List.mem_cons.1 h with rfl | h
    · exact Or.inl hn
    · exact Or.inr (weights_mem_all h n hn)
theorem DSized.elem {H : Type} {P : Program} {t e : TypeId} {elems sp : List (DataW H)} (ht : P.underlying t = some (.slice e)) (h : DSized P t (.slice elems sp)) {x : DataW H} (hx : x ∈ elems) : DSized P e x := fun n hn => by
  refine h n ?_
  simp only [DataW.weights, ht, List.mem_cons, List.mem_append]
  exact Or.inr (Or.inl (weights_mem_all hx n hn))
theorem DSized.len {H : Type} {P : Program} {t e : TypeId} {elems sp : List (DataW H)} (ht : P.underlying t = some (.slice e)) (h : DSized P t (.slice elems sp)) : elems.length * P.bytesOf e ≤ reachBytes := by
  have := h ((elems.length + sp.length) * P.bytesOf e) (by simp [DataW.weights, ht])
  exact Nat.le_trans (Nat.mul_le_mul_right _ (Nat.le_add_right _ _)) this
theorem DSized.str {H : Type} {P : Program} {t : TypeId} {s : ByteArray} (h : DSized (H := H) P t (.lit (.string s.data.toList))) : s.size ≤ reachBytes := by
  have := h s.data.toList.length (by simp [DataW.weights])
  simpa using this
/-- A slice's elements: none, or at an address, each by its cells and its own reading, with the bounds. -/
theorem slice_sized {H : Type} {enc : TypeId × Value → H} {P : Program} {W : World} {base : Nat} {sp : Nat → Bool} {hd : Bool} {t e : TypeId} {ao : Option Addr} {len cap C : Nat} {d : DataW H} {p : List MemPlace}
    (ht : P.underlying t = some (.slice e)) (hC : P.cellsOf e = C) (hC0 : 0 < C) (h : DataW.Trod enc P W base sp hd t (.slice ao len cap) d p) (hz : DSized P t d) :
    len * P.bytesOf e ≤ reachBytes ∧ (len = 0 ∨ ∃ (b off n : Nat) (D : Nat → DataW H) (Pl : Nat → List MemPlace), ao = some ⟨b, off, none⟩ ∧ base ≤ b ∧ b < W.heap.size ∧
      ∀ i, i < len → DSized P e (D i) ∧ ∃ cs : List Value, cs.length = C ∧ (∀ j, j < C → W.cell? ⟨b, off + i * C + j, none⟩ = cs[j]?) ∧ DataW.trod enc P W base sp hd n e cs = some (D i, Pl i)) := by
  obtain ⟨fuel, hf⟩ := h
  rcases Go.Deep.open_slice ht hf with ⟨h0, _⟩ | ⟨a, len', cap', m, n, D, Pl, h0, hb, hl, hm, hmm, hd, hx⟩
  · simp [Value.cells] at h0
    obtain ⟨rfl, rfl, rfl⟩ := h0
    exact ⟨by simp, Or.inl rfl⟩
  · simp [Value.cells] at h0
    obtain ⟨rfl, rfl, rfl⟩ := h0
    simp only [Prod.mk.injEq] at hd
    obtain ⟨rfl, _⟩ := hd
    have hlen := DSized.len ht hz
    rw [List.length_map, List.length_range] at hlen
    refine ⟨hlen, ?_⟩
    by_cases hz0 : len = 0
    · exact Or.inl hz0
    · right
      have hlm : len ≤ m := by rw [hmm]; split <;> omega
      rw [hC] at hx
      obtain ⟨b, off, spot⟩ := a
      have hs : spot = none := by
        obtain ⟨cs', h1, _⟩ := hx 0 (by omega)
        have h2 := (World.cells?_some h1).2.2 0 hC0
        have h3 : cs'.length = C := (World.cells?_some h1).2.1
        rw [List.getElem?_eq_getElem (by omega)] at h2
        simpa [Addr.add] using World.cell?_spot h2
      subst hs
      refine ⟨b, off, n, D, Pl, rfl, hb, ?_, fun i hi => ⟨DSized.elem ht hz (List.mem_map.2 ⟨i, List.mem_range.2 hi, rfl⟩), ?_⟩⟩
      · obtain ⟨cs', h1, _⟩ := hx 0 (by omega)
        have h2 := World.cells?_block h1 hC0
        simpa [Addr.add] using h2
      · obtain ⟨cs', h1, h2⟩ := hx i (by omega)
        obtain ⟨_, h3, h4⟩ := World.cells?_some h1
        refine ⟨cs', h3, fun j hj => ?_, h2⟩
        have := h4 j hj
        rw [Go.Deep.add_add, Go.WideShapes.add_plain] at this
        rw [← this, Nat.add_assoc]
/-- A slice among the arguments, whose things are read one by one, with the bounds. -/
theorem open_sized {α : Type} {k : Nat} {cells : α → List Value} {sub : World → Nat → α → Prop} {H : Type} {enc : TypeId × Value → H} {P : Program} {W : World} {sp : Nat → Bool} {hd : Bool} {t e : TypeId} {ao : Option Addr} {len cap : Nat} {d : DataW H} {p : List MemPlace} (Q : α → Prop)
    (ht : P.underlying t = some (.slice e)) (hC : P.cellsOf e = k) (hk : 0 < k)
    (hel : ∀ (cs : List Value) (n : Nat) (y : DataW H) (pl : List MemPlace), cs.length = k → DataW.trod enc P W 0 sp hd n e cs = some (y, pl) → DSized P e y → ∃ x : α, cells x = cs ∧ sub W W.heap.size x ∧ Q x)
    (h : DataW.Trod enc P W 0 sp hd t (.slice ao len cap) d p) (hz : DSized P t d) :
    ∃ xs : List α, xs.length = len ∧ RowsIn k cells sub W W.heap.size ao xs ∧ (∀ x ∈ xs, Q x) ∧ (ao = none → cap = 0) ∧ len ≤ cap ∧ len * P.bytesOf e ≤ reachBytes := by
  obtain ⟨h1, h2, h3⟩ := slice_shape ht h
  obtain ⟨hm, h0 | ⟨b, off, n, D, Pl, e1, _, hb, hx⟩⟩ := slice_sized ht hC hk h hz
  · exact ⟨[], h0.symm, Or.inl rfl, (by intro x hx; cases hx), h3, h1, hm⟩
  · have hne : ∀ i, i < len → ∃ x : α, (∀ j, j < k → W.cell? ⟨b, off + i * k + j, none⟩ = (cells x)[j]?) ∧ sub W W.heap.size x ∧ Q x := by
      intro i hi
      obtain ⟨hzi, cs, hl, hc, ht'⟩ := hx i hi
      obtain ⟨x, rfl, hs, hq⟩ := hel cs n _ _ hl ht' hzi
      exact ⟨x, hc, hs, hq⟩
    have key : ∀ m, m ≤ len → ∃ xs : List α, xs.length = m ∧ (∀ x ∈ xs, Q x) ∧ ∀ (i : Nat) (x : α), xs[i]? = some x → (∀ j, j < k → W.cell? ⟨b, off + i * k + j, none⟩ = (cells x)[j]?) ∧ sub W W.heap.size x := by
      intro m
      induction m with
      | zero => intro _; exact ⟨[], rfl, (by intro x hx; cases hx), (by intro i x hx; simp at hx)⟩
      | succ m ih =>
        intro hm'
        obtain ⟨xs, e1, e2, e3⟩ := ih (by omega)
        obtain ⟨x, g1, g2, g3⟩ := hne m (by omega)
        refine ⟨xs ++ [x], by simp [e1], fun y hy => ?_, fun i y hy => ?_⟩
        · rcases List.mem_append.1 hy with hy | hy
          · exact e2 y hy
          · rw [List.mem_singleton.1 hy]; exact g3
        · by_cases hi : i < m
          · rw [List.getElem?_append_left (by omega)] at hy; exact e3 i y hy
          · rw [List.getElem?_append_right (by omega)] at hy
            have hi' : i = m := by
              rcases Nat.lt_or_ge (i - xs.length) 1 with hh | hh
              · omega
              · rw [List.getElem?_eq_none (by simpa using hh)] at hy; cases hy
            subst hi'
            rw [e1, Nat.sub_self] at hy
            obtain rfl : x = y := by simpa using hy
            exact ⟨g1, g2⟩
    obtain ⟨xs, q1, q2, q3⟩ := key len (Nat.le_refl _)
    exact ⟨xs, q1, Or.inr ⟨b, off, e1, hb, q3⟩, q2, h3, h1, hm⟩
/-- A value among the arguments. -/
def VaArg (v : Va) : Prop := (Lit.int .u8 v.kind).wf = true ∧ (Lit.int .i64 v.num).wf = true ∧ v.text.size ≤ reachBytes
theorem cells_va : Tryd.prog.cellsOf 50 = 3 := by kernel_rfl
theorem cells_en : Tryd.prog.cellsOf 47 = 9 := by kernel_rfl
theorem cells_cm : Tryd.prog.cellsOf 45 = 4 := by kernel_rfl
theorem cells_i64 : Tryd.prog.cellsOf 3 = 1 := by kernel_rfl
theorem cells_int64 : Tryd.prog.cellsOf 2 = 1 := by kernel_rfl
theorem cells_str : Tryd.prog.cellsOf 9 = 1 := by kernel_rfl
theorem cells_ek : Tryd.prog.cellsOf 41 = 1 := by kernel_rfl
theorem cells_vk : Tryd.prog.cellsOf 48 = 1 := by kernel_rfl
theorem cells_ck : Tryd.prog.cellsOf 42 = 1 := by kernel_rfl
theorem cells_vas : Tryd.prog.cellsOf 43 = 1 := by kernel_rfl
theorem cells_ints : Tryd.prog.cellsOf 24 = 1 := by kernel_rfl
theorem va_el {H : Type} {enc : TypeId × Value → H} {W : World} {sp : Nat → Bool} {hd : Bool} (cs : List Value) (n : Nat) (y : DataW H) (pl : List MemPlace) (hl : cs.length = 3) (h : DataW.trod enc Tryd.prog W 0 sp hd n 50 cs = some (y, pl)) (hz : DSized Tryd.prog 50 y) :
    ∃ x : Va, vaCells x = cs ∧ noSub W W.heap.size x ∧ VaArg x := by
  obtain ⟨c0, c1, c2, rfl⟩ : ∃ c0 c1 c2, cs = [c0, c1, c2] := by
    match cs, hl with
    | [c0, c1, c2], _ => exact ⟨c0, c1, c2, rfl⟩
  obtain ⟨xs, m, _, hx, _, hlen, hf⟩ := DataW.trod_struct Tryd.underlying50 h
  simp only [Prod.mk.injEq] at hx
  obtain ⟨rfl, _⟩ := hx
  match xs, hlen with
  | [y0, y1, y2], _ =>
    have h0 := hf 0 _ rfl
    have h1 := hf 1 _ rfl
    have h2 := hf 2 _ rfl
    simp [cells_vk, cells_int64, cells_str] at h0 h1 h2
    obtain ⟨k0, e0, _, w0⟩ := DataW.trod_int Tryd.underlying48 h0
    obtain ⟨k1, e1, _, w1⟩ := DataW.trod_int Tryd.underlying2 h1
    obtain ⟨s, e2, d2, _⟩ := DataW.trod_string Tryd.underlying9 h2
    have z2 := DSized.field Tryd.underlying50 hz (i := 2) (y := y2) rfl rfl
    rw [d2] at z2
    simp at e0 e1 e2
    subst e0 e1 e2
    exact ⟨⟨k0, k1, s⟩, rfl, trivial, w0, w1, DSized.str z2⟩
theorem i_el {H : Type} {enc : TypeId × Value → H} {W : World} {sp : Nat → Bool} {hd : Bool} (cs : List Value) (n : Nat) (y : DataW H) (pl : List MemPlace) (hl : cs.length = 1) (h : DataW.trod enc Tryd.prog W 0 sp hd n 3 cs = some (y, pl)) (_ : DSized Tryd.prog 3 y) :
    ∃ x : Int, iCells x = cs ∧ noSub W W.heap.size x ∧ (Lit.int .i64 x).wf = true := by
  obtain ⟨k0, e0, _, w0⟩ := DataW.trod_int Tryd.underlying3 h
  exact ⟨k0, e0.symm, trivial, w0⟩
/-- An entry among the arguments. -/
structure EnWf (e : En) : Prop where
  term : (Lit.int .i64 e.term).wf = true
  kind : (Lit.int .u8 e.kind).wf = true
  session : (Lit.int .i64 e.session).wf = true
  seq : (Lit.int .i64 e.seq).wf = true
  ck : (Lit.int .u8 e.ck).wf = true
  text : e.text.size ≤ 140737488351232
  args : ∀ v ∈ e.args, VaArg v
  num : (Lit.int .i64 e.num).wf = true
  vs : ∀ v ∈ e.vs, (Lit.int .i64 v).wf = true
  argn : e.args.length * 32 ≤ 140737488351232
  vn : e.vs.length * 8 ≤ 140737488351232
  anil : e.aao = none → e.acap = 0
  vnil : e.vao = none → e.vcap = 0
  acap : e.args.length ≤ e.acap
  vcap : e.vs.length ≤ e.vcap
theorem bytes_va : Tryd.prog.bytesOf 50 = 32 := by kernel_rfl
theorem bytes_i : Tryd.prog.bytesOf 3 = 8 := by kernel_rfl
theorem bytes_en : Tryd.prog.bytesOf 47 = 112 := by kernel_rfl
theorem en_el {H : Type} {enc : TypeId × Value → H} {W : World} {sp : Nat → Bool} {hd : Bool} (cs : List Value) (n : Nat) (y : DataW H) (pl : List MemPlace) (hl : cs.length = 9) (h : DataW.trod enc Tryd.prog W 0 sp hd n 47 cs = some (y, pl)) (hz : DSized Tryd.prog 47 y) :
    ∃ x : En, enCells x = cs ∧ enSub W W.heap.size x ∧ EnWf x := by
  obtain ⟨c0, c1, c2, c3, c4, c5, c6, c7, c8, rfl⟩ : ∃ c0 c1 c2 c3 c4 c5 c6 c7 c8, cs = [c0, c1, c2, c3, c4, c5, c6, c7, c8] := by
    match cs, hl with
    | [c0, c1, c2, c3, c4, c5, c6, c7, c8], _ => exact ⟨c0, c1, c2, c3, c4, c5, c6, c7, c8, rfl⟩
  obtain ⟨xs, m, _, hx, _, hlen, hf⟩ := DataW.trod_struct Tryd.underlying47 h
  simp only [Prod.mk.injEq] at hx
  obtain ⟨rfl, _⟩ := hx
  match xs, hlen with
  | [y0, y1, y2, y3, y4, y5], _ =>
    have h0 := hf 0 _ rfl
    have h1 := hf 1 _ rfl
    have h2 := hf 2 _ rfl
    have h3 := hf 3 _ rfl
    have h4 := hf 4 _ rfl
    have h5 := hf 5 _ rfl
    have z4 := DSized.field Tryd.underlying47 hz (i := 4) (y := y4) rfl rfl
    have z5 := DSized.field Tryd.underlying47 hz (i := 5) (y := y5) rfl rfl
    simp [cells_i64, cells_ek, cells_cm, cells_ints] at h0 h1 h2 h3 h4 h5
    obtain ⟨k0, e0, _, w0⟩ := DataW.trod_int Tryd.underlying3 h0
    obtain ⟨k1, e1, _, w1⟩ := DataW.trod_int Tryd.underlying41 h1
    obtain ⟨k2, e2, _, w2⟩ := DataW.trod_int Tryd.underlying3 h2
    obtain ⟨k3, e3, _, w3⟩ := DataW.trod_int Tryd.underlying3 h3
    obtain ⟨va, vl, vc, e5, t5⟩ := slice_cell Tryd.underlying24 h5
    obtain ⟨vs, rfl, vx, vq, vnil, vcap, vlen⟩ := open_sized (k := 1) (cells := iCells) (sub := noSub) (fun x => (Lit.int .i64 x).wf = true) Tryd.underlying24 cells_i64 (by decide) i_el t5 z5
    obtain ⟨ys, m4, _, hy, _, hlen4, hf4⟩ := DataW.trod_struct Tryd.underlying45 h4
    obtain ⟨d4, p4⟩ := y4
    simp only [Prod.mk.injEq] at hy
    obtain ⟨rfl, _⟩ := hy
    match ys, hlen4 with
    | [u0, u1, u2, u3], _ =>
      have g0 := hf4 0 _ rfl
      have g1 := hf4 1 _ rfl
      have g2 := hf4 2 _ rfl
      have g3 := hf4 3 _ rfl
      have q1 := DSized.field Tryd.underlying45 z4 (i := 1) (y := u1) rfl rfl
      have q2 := DSized.field Tryd.underlying45 z4 (i := 2) (y := u2) rfl rfl
      simp [cells_i64, cells_ck, cells_str, cells_vas] at g0 g1 g2 g3
      obtain ⟨k4, e4, _, w4⟩ := DataW.trod_int Tryd.underlying42 g0
      obtain ⟨s, e6, d6, _⟩ := DataW.trod_string Tryd.underlying9 g1
      obtain ⟨aa, al, ac, e7, t7⟩ := slice_cell Tryd.underlying43 g2
      obtain ⟨args, rfl, ax, aq, anil, acap, alen⟩ := open_sized (k := 3) (cells := vaCells) (sub := noSub) VaArg Tryd.underlying43 cells_va (by decide) va_el t7 q2
      obtain ⟨k8, e8, _, w8⟩ := DataW.trod_int Tryd.underlying3 g3
      rw [d6] at q1
      simp at e0 e1 e2 e3 e4 e5 e6 e7 e8
      subst e0 e1 e2 e3 e4 e5 e6 e7 e8
      rw [bytes_va] at alen
      rw [bytes_i] at vlen
      exact ⟨⟨k0, k1, k2, k3, k4, s, aa, args, ac, k8, va, vs, vc⟩, rfl, ⟨ax, vx⟩, ⟨w0, w1, w2, w3, w4, DSized.str q1, aq, w8, vq, alen, vlen, anil, vnil, acap, vcap⟩⟩
/-- Entries among the arguments. -/
theorem open_entries {H : Type} {enc : TypeId × Value → H} {W : World} {sp : Nat → Bool} {hd : Bool} {ao : Option Addr} {len cap : Nat} {d : DataW H} {p : List MemPlace} (h : DataW.Trod enc Tryd.prog W 0 sp hd 23 (.slice ao len cap) d p) (hz : DSized Tryd.prog 23 d) :
    ∃ es : List En, es.length = len ∧ EnsIn W W.heap.size ao es ∧ (∀ e ∈ es, EnWf e) ∧ (ao = none → cap = 0) ∧ len ≤ cap ∧ len * 112 ≤ 140737488351232 := by
  obtain ⟨es, h1, h2, h3, h4, h5, h6⟩ := open_sized (k := 9) (cells := enCells) (sub := enSub) EnWf Tryd.underlying23 cells_en (by decide) en_el h hz
  rw [bytes_en] at h6
  exact ⟨es, h1, h2, h3, h4, h5, h6⟩
end Go.Proofs.YthdpfchbomaigaaDoor
