/- What is written in any form, with whatever behind it, is read as it was. No program. Conditions: as each says. -/
import Derived.Test.YthdpfchbomaigaaDoorGLetterBack5
import Derived.Test.YthdpfchbomaigaaDoorGLetterBack0
set_option linter.unusedVariables false
namespace Go.Proofs.YthdpfchbomaigaaDoor
open Go.RowKit
set_option maxRecDepth 20000
theorem takeS_back (n : Nat) (a rest : List Int) (h : a.length = n) : takeS n false (a ++ rest) = (a, false, rest) := by
  subst h
  unfold takeS
  rw [if_neg (by simp)]
  simp
def N64 (n : Int) : Prop := -9223372036854775808 ≤ n ∧ n ≤ 9223372036854775807
theorem numS_back (n : Int) (rest : List Int) (h : N64 n) : numS false (numB 8 n ++ rest) = (n, false, rest) := by
  unfold numS
  rw [takeS_back 8 _ _ (numB_len 8 n)]
  dsimp only
  rw [getN_numB]
  have h1 := h.1
  have h2 := h.2
  have e : IntKind.i64.wrap (n % 256 ^ 8) = n := by
    show (if (true && decide (n % 256 ^ 8 % 2 ^ 64 ≥ (2 ^ 63 : Int))) = true then n % 256 ^ 8 % 2 ^ 64 - 2 ^ 64 else n % 256 ^ 8 % 2 ^ 64) = n
    have e1 : (256 : Int) ^ 8 = 18446744073709551616 := by decide
    have e2 : (2 : Int) ^ 64 = 18446744073709551616 := by decide
    have e3 : (2 : Int) ^ 63 = 9223372036854775808 := by decide
    rw [e1, e2, e3]
    split
    · rename_i hc
      have hc : n % 18446744073709551616 % 18446744073709551616 ≥ 9223372036854775808 := by simpa using hc
      omega
    · rename_i hc
      have hc : ¬ n % 18446744073709551616 % 18446744073709551616 ≥ 9223372036854775808 := by simpa using hc
      omega
  rw [e]
theorem kindS_back (k : Int) (rest : List Int) : kindS false (k :: rest) = (k, false, rest) := by
  unfold kindS
  have := takeS_back 1 [k] rest rfl
  rw [List.singleton_append] at this
  rw [this]
  simp [getN]
theorem countS_back (n : Nat) (rest : List Int) (h : n ≤ 65536) : countS false (numB 4 n ++ rest) = ((n : Int), false, rest) := by
  unfold countS
  rw [takeS_back 4 _ _ (numB_len 4 n)]
  dsimp only
  rw [getN_numB]
  have e1 : (256 : Int) ^ 4 = 4294967296 := by decide
  have e : (n : Int) % 256 ^ 4 = n := by rw [e1]; omega
  rw [e, if_neg (by simp; omega)]
theorem strN_strB (s : ByteArray) : strN (strB s) = s := by
  unfold strN strB strOfNums
  rw [List.map_map]
  have : (fun n : Int => UInt8.ofNat n.toNat) ∘ (fun c : UInt8 => (c.toNat : Int)) = id := by
    funext c
    simp
  rw [this, List.map_id]
theorem textS_back (s : ByteArray) (rest : List Int) (h : s.size ≤ 65536) : textS false (textB s ++ rest) = (s, false, rest) := by
  unfold textS textB
  rw [List.append_assoc, countS_back _ _ h]
  dsimp only
  rw [takeS_back _ _ _ (by rw [strB_len]; omega)]
  dsimp only
  rw [strN_strB]
/-- A value that its bytes say wholly. -/
def Bare (v : Va) : Prop := v.kind = 1 ∧ v.text = ByteArray.empty ∨ v.kind = 2 ∧ v.num = 0
/-- Short enough to be counted, its number one of 64 bits. -/
def VaFit (v : Va) : Prop := N64 v.num ∧ v.text.size ≤ 65536
theorem valueS_back (v : Va) (rest : List Int) (hb : Bare v) (hf : VaFit v) : valueS false (valueB v ++ rest) = (v, false, rest) := by
  obtain ⟨kd, num, text⟩ := v
  rcases hb with ⟨h1, h2⟩ | ⟨h1, h2⟩
  · dsimp only at h1 h2
    subst h1
    subst h2
    have e : valueB ⟨1, num, ByteArray.empty⟩ = 1 :: numB 8 num := by unfold valueB; dsimp only; rw [if_pos rfl]
    rw [e]
    unfold valueS
    dsimp only
    have := takeS_back 1 [1] (numB 8 num ++ rest) rfl
    rw [List.singleton_append] at this
    rw [List.cons_append, this]
    dsimp only
    rw [if_pos (by simp [getN])]
    have h8 := numS_back num rest hf.1
    unfold numS at h8
    simp only [Prod.mk.injEq] at h8
    rw [h8.2]
    rw [h8.1]
    rfl
  · dsimp only at h1 h2
    subst h1
    subst h2
    have e : valueB ⟨2, 0, text⟩ = 2 :: textB text := by unfold valueB; dsimp only; rw [if_neg (by decide), if_pos rfl]
    rw [e]
    unfold valueS
    dsimp only
    have := takeS_back 1 [2] (textB text ++ rest) rfl
    rw [List.singleton_append] at this
    rw [List.cons_append, this]
    dsimp only
    rw [if_neg (by simp [getN]), if_pos (by simp [getN]), textS_back text rest hf.2]
    rfl
theorem rowS_back {α : Type} {one : Bool → List Int → α × Bool × List Int} {oneB : α → List Int} (xs : List α) (h : ∀ x ∈ xs, ∀ rest, one false (oneB x ++ rest) = (x, false, rest)) (rest : List Int) : rowS one xs.length false (xs.flatMap oneB ++ rest) = (xs, false, rest) := by
  induction xs with
  | nil => simp [rowS]
  | cons x xs ih =>
    rw [List.length_cons, List.flatMap_cons, List.append_assoc]
    unfold rowS
    rw [if_neg (by simp), h x (by simp)]
    dsimp only
    rw [ih (fun y hy => h y (List.mem_cons_of_mem _ hy))]
theorem rowsS_back {α : Type} {one : Bool → List Int → α × Bool × List Int} {oneB : α → List Int} (xs : List α) (h : ∀ x ∈ xs, ∀ rest, one false (oneB x ++ rest) = (x, false, rest)) (hl : xs.length ≤ 65536) (rest : List Int) : rowsS one false (numB 4 xs.length ++ (xs.flatMap oneB ++ rest)) = (xs, false, rest) := by
  unfold rowsS
  dsimp only
  rw [countS_back _ _ hl]
  dsimp only
  rw [Int.toNat_natCast, rowS_back xs h]
  rfl
/-- A row of values that is wholly said, and short enough. -/
def VasFit (l : List Va) : Prop := l.length ≤ 65536 ∧ ∀ v ∈ l, Bare v ∧ VaFit v
theorem valuesS_back (l : List Va) (rest : List Int) (h : VasFit l) : valuesS false (valuesB l ++ rest) = (l, false, rest) := by
  unfold valuesS valuesB
  rw [List.append_assoc]
  exact rowsS_back l (fun v hv rest => valueS_back v rest (h.2 v hv).1 (h.2 v hv).2) h.1 rest
theorem intsS_back (l : List Int) (rest : List Int) (hl : l.length ≤ 65536) (h : ∀ n ∈ l, N64 n) : intsS false (numB 4 l.length ++ (l.flatMap (numB 8) ++ rest)) = (l, false, rest) :=
  rowsS_back l (fun v hv rest => numS_back v rest (h v hv)) hl rest
def FaFit (f : FaP) : Prop := N64 f.id ∧ N64 f.ty ∧ VasFit f.args
theorem factS_back (f : FaP) (rest : List Int) (h : FaFit f) : factS false (factB f ++ rest) = (f, false, rest) := by
  unfold factS factB
  simp only [List.append_assoc]
  rw [numS_back _ _ h.1]
  dsimp only
  rw [numS_back _ _ h.2.1]
  dsimp only
  rw [valuesS_back _ _ h.2.2]
  rfl
def CmFit (c : CmP) : Prop := c.text.size ≤ 65536 ∧ N64 c.num ∧ VasFit c.args
theorem commandS_back (c : CmP) (rest : List Int) (h : CmFit c) : commandS false (commandB c.kind c.text c.num c.args ++ rest) = (c, false, rest) := by
  unfold commandS commandB
  simp only [List.append_assoc, List.cons_append]
  rw [kindS_back]
  dsimp only
  rw [textS_back _ _ h.1]
  dsimp only
  rw [numS_back _ _ h.2.1]
  dsimp only
  rw [valuesS_back _ _ h.2.2]
  rfl
def RpFit (r : RpP) : Prop := N64 r.err ∧ N64 r.num ∧ (r.facts.length ≤ 65536 ∧ ∀ f ∈ r.facts, FaFit f) ∧ VasFit r.said
theorem replyS_back (r : RpP) (rest : List Int) (h : RpFit r) : replyS false (replyB r ++ rest) = (r, false, rest) := by
  unfold replyS replyB
  simp only [List.append_assoc]
  rw [numS_back _ _ h.1]
  dsimp only
  rw [numS_back _ _ h.2.1]
  dsimp only
  unfold factsS
  rw [rowsS_back (one := factS) r.facts (fun f hf rest => factS_back f rest (h.2.2.1.2 f hf)) h.2.2.1.1]
  dsimp only
  rw [valuesS_back _ _ h.2.2.2]
  rfl
def EnFit (e : EnP) : Prop := N64 e.term ∧ N64 e.session ∧ N64 e.seq ∧ CmFit ⟨e.ck, e.text, e.args, e.num⟩ ∧ e.vs.length ≤ 65536 ∧ ∀ v ∈ e.vs, N64 v
theorem entryS_back (e : EnP) (rest : List Int) (h : EnFit e) : entryS false (entryB e ++ rest) = (e, false, rest) := by
  obtain ⟨h1, h2, h3, h4, h5, h6⟩ := h
  have hc := commandS_back ⟨e.ck, e.text, e.args, e.num⟩ (numB 4 e.vs.length ++ (e.vs.flatMap (numB 8) ++ rest)) h4
  dsimp only at hc
  unfold entryS entryB
  simp only [List.append_assoc, List.cons_append]
  rw [numS_back _ _ h1]
  dsimp only
  rw [kindS_back]
  dsimp only
  rw [numS_back _ _ h2]
  dsimp only
  rw [numS_back _ _ h3]
  dsimp only
  rw [hc]
  dsimp only
  rw [intsS_back _ _ h5 h6]
  rfl
theorem numS_end : numS false [] = (0, true, []) := by
  unfold numS takeS
  rw [if_pos (by simp)]
  rfl
end Go.Proofs.YthdpfchbomaigaaDoor
/- Numbers that are brought into a kind have the same bytes. No program. Conditions: as each says. -/
namespace Go.Proofs.YthdpfchbomaigaaDoor
theorem numB_mod (n k : Int) : numB 8 (n + 18446744073709551616 * k) = numB 8 n := by
  unfold numB
  have e : List.range 8 = [0, 1, 2, 3, 4, 5, 6, 7] := rfl
  rw [e]
  simp only [List.map_cons, List.map_nil, Nat.reduceSub, Nat.reduceMul, Int.reducePow, List.cons.injEq, and_true]
  refine ⟨by omega, by omega, by omega, by omega, by omega, by omega, by omega, by omega⟩
theorem numB_wrap (n : Int) : numB 8 (IntKind.i64.wrap n) = numB 8 n := by
  have hw : IntKind.i64.wrap n = n + 18446744073709551616 * (-(n / 18446744073709551616)) ∨ IntKind.i64.wrap n = n + 18446744073709551616 * (-(n / 18446744073709551616) - 1) := by
    show (if (true && decide (n % 2 ^ 64 ≥ (2 ^ 63 : Int))) = true then n % 2 ^ 64 - 2 ^ 64 else n % 2 ^ 64) = _ ∨ (if (true && decide (n % 2 ^ 64 ≥ (2 ^ 63 : Int))) = true then n % 2 ^ 64 - 2 ^ 64 else n % 2 ^ 64) = _
    have e2 : (2 : Int) ^ 64 = 18446744073709551616 := by decide
    rw [e2]
    split
    · right; omega
    · left; omega
  rcases hw with h | h <;> rw [h, numB_mod]
theorem wrapU_eq (n : Int) : IntKind.u64.wrap n = n % 18446744073709551616 := by
  show (if (false && decide (n % 2 ^ 64 ≥ (2 ^ 63 : Int))) = true then n % 2 ^ 64 - 2 ^ 64 else n % 2 ^ 64) = _
  have e2 : (2 : Int) ^ 64 = 18446744073709551616 := by decide
  rw [e2]
  rfl
theorem wrapU_range (n : Int) : 0 ≤ IntKind.u64.wrap n ∧ IntKind.u64.wrap n < 18446744073709551616 := by
  rw [wrapU_eq]; omega
theorem numB_wrapU (n : Int) : numB 8 (IntKind.u64.wrap n) = numB 8 n := by
  have h : IntKind.u64.wrap n = n + 18446744073709551616 * (-(n / 18446744073709551616)) := by rw [wrapU_eq]; omega
  rw [h, numB_mod]
end Go.Proofs.YthdpfchbomaigaaDoor
/- What was read of bytes, and it was there, is written as just these bytes. No program. Conditions: as each says. -/
namespace Go.Proofs.YthdpfchbomaigaaDoor
open Go.RowKit
set_option maxRecDepth 20000
theorem numB_succ (s : Nat) (n : Int) : numB (s + 1) n = numB s (n / 256) ++ [n % 256] := by
  unfold numB
  rw [List.range_succ, List.map_append]
  congr 1
  · refine List.map_congr_left (fun j hj => ?_)
    have hj := List.mem_range.1 hj
    have e : s + 1 - 1 - j = (s - 1 - j) + 1 := by omega
    rw [e, Nat.mul_add, Int.pow_add, Int.mul_comm, ← Int.ediv_ediv_of_nonneg (by decide)]
    rfl
  · simp
theorem numB_getN (l : List Int) (h : BytesWf l) : numB l.length (getN l) = l := by
  have key : ∀ r : List Int, BytesWf r.reverse → numB r.length (getN r.reverse) = r.reverse := by
    intro r
    induction r with
    | nil => intro _; rfl
    | cons c r ih =>
      intro hw
      rw [List.reverse_cons] at hw ⊢
      have h1 := ih (fun x hx => hw x (List.mem_append_left _ hx))
      have h2 := hw c (by simp)
      rw [getN_snoc, List.length_cons, numB_succ]
      have e1 : (getN r.reverse * 256 + c) / 256 = getN r.reverse := by omega
      have e2 : (getN r.reverse * 256 + c) % 256 = c := by omega
      rw [e1, e2, h1]
  have := key l.reverse (by rwa [List.reverse_reverse])
  rwa [List.reverse_reverse, List.length_reverse] at this
/-- One way: what is read, and it was there, stood there. -/
def There {α : Type} (one : Bool → List Int → α × Bool × List Int) (oneB : α → List Int) : Prop := ∀ b l, BytesWf l → (one b l).2.1 = false → b = false ∧ l = oneB (one b l).1 ++ (one b l).2.2 ∧ BytesWf (one b l).2.2
theorem takeS_there (n : Nat) (b : Bool) (l : List Int) (hw : BytesWf l) (h : (takeS n b l).2.1 = false) : b = false ∧ l = (takeS n b l).1 ++ (takeS n b l).2.2 ∧ (takeS n b l).1.length = n ∧ BytesWf (takeS n b l).1 ∧ BytesWf (takeS n b l).2.2 := by
  unfold takeS at h ⊢
  split at h
  · cases h
  · rename_i hc
    rw [if_neg hc]
    have h1 : b = false := by cases b with | true => exact absurd (Or.inl rfl) hc | false => rfl
    have h2 : n ≤ l.length := by
      rcases Nat.lt_or_ge l.length n with h | h
      · exact absurd (Or.inr h) hc
      · exact h
    exact ⟨h1, (List.take_append_drop n l).symm, by rw [List.length_take]; omega, hw.take n, hw.drop n⟩
theorem numS_there : There numS (numB 8) := by
  intro b l hw h
  obtain ⟨h1, h2, h3, h4, h5⟩ := takeS_there 8 b l hw h
  refine ⟨h1, ?_, h5⟩
  show l = numB 8 (IntKind.i64.wrap (getN (takeS 8 b l).1)) ++ _
  rw [numB_wrap]
  have := numB_getN _ h4
  rw [h3] at this
  rw [this]
  exact h2
theorem kindS_there : There kindS (fun k => [k]) := by
  intro b l hw h
  obtain ⟨h1, h2, h3, h4, h5⟩ := takeS_there 1 b l hw h
  refine ⟨h1, ?_, h5⟩
  show l = [getN (takeS 1 b l).1] ++ (takeS 1 b l).2.2
  obtain ⟨c, hc⟩ : ∃ c, (takeS 1 b l).1 = [c] := by
    generalize (takeS 1 b l).1 = g at h3
    match g, h3 with
    | [c], _ => exact ⟨c, rfl⟩
  rw [hc] at h2 ⊢
  simpa [getN] using h2
theorem countS_there (b : Bool) (l : List Int) (hw : BytesWf l) (h : (countS b l).2.1 = false) : b = false ∧ l = numB 4 ((countS b l).1.toNat : Nat) ++ (countS b l).2.2 ∧ BytesWf (countS b l).2.2 := by
  unfold countS at h ⊢
  split at h
  · cases h
  · rename_i hc
    rw [if_neg hc]
    have hb : (takeS 4 b l).2.1 = false := by
      cases hh : (takeS 4 b l).2.1 with
      | true => exact absurd (Or.inl hh) hc
      | false => rfl
    obtain ⟨h1, h2, h3, h4, h5⟩ := takeS_there 4 b l hw hb
    refine ⟨h1, ?_, h5⟩
    have h6 := (getN_bound _ h4).1
    dsimp only
    rw [Int.toNat_of_nonneg h6]
    have := numB_getN _ h4
    rw [h3] at this
    rw [this]
    exact h2
theorem strB_strN (l : List Int) (h : BytesWf l) : strB (strN l) = l := by
  unfold strB strN
  rw [strOfNums_data, List.map_map]
  conv => rhs; rw [← List.map_id l]
  refine List.map_congr_left (fun n hn => ?_)
  have := h n hn
  show (((UInt8.ofNat n.toNat).toNat : Nat) : Int) = n
  rw [UInt8.toNat_ofNat']
  omega
theorem strN_size (l : List Int) : (strN l).size = l.length := strOfNums_size l
theorem textS_there : There textS textB := by
  intro b l hw h
  unfold textS at h ⊢
  dsimp only at h ⊢
  have hc := countS_wf (bad := b) hw
  obtain ⟨h1, h2, h3, h4, h5⟩ := takeS_there _ _ _ hc.2.2.1 h
  obtain ⟨g1, g2, g3⟩ := countS_there b l hw h1
  refine ⟨g1, ?_, h5⟩
  unfold textB
  rw [strN_size, h3, strB_strN _ h4, List.append_assoc, ← h2]
  exact g2
theorem valueS_there : There valueS valueB := by
  intro b l hw h
  have ht : ∀ h : (takeS 1 b l).2.1 = false, b = false ∧ l = getN (takeS 1 b l).1 :: (takeS 1 b l).2.2 ∧ BytesWf (takeS 1 b l).2.2 := fun h => kindS_there b l hw h
  unfold valueS at h ⊢
  dsimp only at h ⊢
  by_cases h1 : getN (takeS 1 b l).1 = 1
  · rw [if_pos h1] at h ⊢
    dsimp only at h ⊢
    rw [h]
    have hk := takeS_wf (n := 1) (bad := b) hw
    obtain ⟨g1, g2, g3⟩ := numS_there (takeS 1 b l).2.1 (takeS 1 b l).2.2 hk.2.1 h
    obtain ⟨q1, q2, _⟩ := ht g1
    refine ⟨q1, ?_, g3⟩
    rw [if_neg (by simp)]
    unfold valueB
    dsimp only
    rw [if_pos rfl]
    have g2' : (takeS 1 b l).2.2 = numB 8 (IntKind.i64.wrap (getN (takeS 8 (takeS 1 b l).2.1 (takeS 1 b l).2.2).1)) ++ (takeS 8 (takeS 1 b l).2.1 (takeS 1 b l).2.2).2.2 := g2
    rw [List.cons_append, ← g2', ← h1]
    exact q2
  · rw [if_neg h1] at h ⊢
    by_cases h2 : getN (takeS 1 b l).1 = 2
    · rw [if_pos h2] at h ⊢
      dsimp only at h ⊢
      rw [h]
      have hk := takeS_wf (n := 1) (bad := b) hw
      obtain ⟨g1, g2, g3⟩ := textS_there (takeS 1 b l).2.1 (takeS 1 b l).2.2 hk.2.1 h
      obtain ⟨q1, q2, _⟩ := ht g1
      refine ⟨q1, ?_, g3⟩
      rw [if_neg (by simp)]
      unfold valueB
      dsimp only
      rw [if_neg (by decide), if_pos rfl, List.cons_append, ← g2, ← h2]
      exact q2
    · rw [if_neg h2] at h
      cases h
theorem rowS_there {α : Type} {one : Bool → List Int → α × Bool × List Int} {oneB : α → List Int} (h1 : There one oneB) : ∀ (n : Nat) (b : Bool) (l : List Int), BytesWf l → (rowS one n b l).2.1 = false → b = false ∧ l = (rowS one n b l).1.flatMap oneB ++ (rowS one n b l).2.2 ∧ BytesWf (rowS one n b l).2.2 ∧ (rowS one n b l).1.length = n := by
  intro n
  induction n with
  | zero => intro b l hw h; exact ⟨h, rfl, hw, rfl⟩
  | succ n ih =>
    intro b l hw h
    unfold rowS at h ⊢
    split at h
    · rename_i hb
      dsimp only at h
      rw [hb] at h
      cases h
    · rename_i hb
      rw [if_neg hb]
      dsimp only at h ⊢
      have hw1 : ∀ h, BytesWf (one b l).2.2 := fun h => (h1 b l hw h).2.2
      have hbb : b = false := by cases b with | true => exact absurd rfl hb | false => rfl
      cases ho : (one b l).2.1 with
      | true => (try rw [ho] at h); rw [rowS_bad] at h; cases h
      | false =>
        obtain ⟨g1, g2, g3⟩ := h1 b l hw ho
        (try rw [ho] at h)
        (try rw [ho])
        obtain ⟨q1, q2, q3, q4⟩ := ih false _ g3 h
        refine ⟨hbb, ?_, q3, by rw [List.length_cons, q4]⟩
        rw [List.flatMap_cons, List.append_assoc, ← q2]
        exact g2
theorem rowsS_there {α : Type} {one : Bool → List Int → α × Bool × List Int} {oneB : α → List Int} (h1 : There one oneB) : There (rowsS one) (fun xs => numB 4 xs.length ++ xs.flatMap oneB) := by
  intro b l hw h
  unfold rowsS at h ⊢
  dsimp only at h ⊢
  have hc := countS_wf (bad := b) hw
  obtain ⟨g1, g2, g3, g4⟩ := rowS_there h1 _ _ _ hc.2.2.1 h
  obtain ⟨q1, q2, q3⟩ := countS_there b l hw g1
  refine ⟨q1, ?_, g3⟩
  rw [h, if_neg (by simp), g4, List.append_assoc, ← g2]
  exact q2
theorem valuesS_there : There valuesS valuesB := rowsS_there valueS_there
theorem intsS_there : There intsS (fun xs => numB 4 xs.length ++ xs.flatMap (numB 8)) := rowsS_there numS_there
theorem factS_there : There factS factB := by
  intro b l hw h
  unfold factS at h ⊢
  dsimp only at h ⊢
  have w1 := (numS_shrinks b l hw).1
  obtain ⟨g1, g2, g3⟩ := valuesS_there _ _ (numS_shrinks (numS b l).2.1 _ w1).1 h
  obtain ⟨q1, q2, q3⟩ := numS_there _ _ w1 g1
  obtain ⟨p1, p2, p3⟩ := numS_there b l hw q1
  refine ⟨p1, ?_, g3⟩
  rw [h, if_neg (by simp)]
  unfold factB
  dsimp only
  rw [List.append_assoc, List.append_assoc, ← g2, ← q2]
  exact p2
theorem commandS_there : There commandS (fun c => commandB c.kind c.text c.num c.args) := by
  intro b l hw h
  unfold commandS at h ⊢
  dsimp only at h ⊢
  have w1 := (kindS_shrinks b l hw).1
  have w2 := (textS_shrinks (kindS b l).2.1 _ w1).1
  have w3 := (numS_shrinks (textS (kindS b l).2.1 (kindS b l).2.2).2.1 _ w2).1
  obtain ⟨g1, g2, g3⟩ := valuesS_there _ _ w3 h
  obtain ⟨q1, q2, q3⟩ := numS_there _ _ w2 g1
  obtain ⟨p1, p2, p3⟩ := textS_there _ _ w1 q1
  obtain ⟨o1, o2, o3⟩ := kindS_there b l hw p1
  refine ⟨o1, ?_, g3⟩
  rw [h, if_neg (by simp)]
  unfold commandB
  dsimp only
  simp only [List.append_assoc, List.cons_append]
  rw [← g2, ← q2, ← p2]
  exact o2
theorem factsS_there : There factsS (fun xs => numB 4 xs.length ++ xs.flatMap factB) := rowsS_there factS_there
theorem replyS_there : There replyS replyB := by
  intro b l hw h
  unfold replyS at h ⊢
  dsimp only at h ⊢
  have w1 := (numS_shrinks b l hw).1
  have t1 := numS_there b l hw
  obtain ⟨T, hT⟩ : ∃ T, numS b l = T := ⟨_, rfl⟩
  rw [hT] at h w1 t1 ⊢
  have w2 := (numS_shrinks T.2.1 _ w1).1
  have t2 := numS_there T.2.1 T.2.2 w1
  obtain ⟨N, hN⟩ : ∃ N, numS T.2.1 T.2.2 = N := ⟨_, rfl⟩
  rw [hN] at h w2 t2 ⊢
  have w3 := (rowsS_shrinks factS_shrinks N.2.1 _ w2).1
  change BytesWf (factsS N.2.1 N.2.2).2.2 at w3
  have t3 := factsS_there N.2.1 N.2.2 w2
  obtain ⟨F, hF⟩ : ∃ F, factsS N.2.1 N.2.2 = F := ⟨_, rfl⟩
  rw [hF] at h w3 t3 ⊢
  have t4 := valuesS_there F.2.1 F.2.2 w3 h
  rw [h, if_neg (by simp)]
  obtain ⟨a4, b4, c4⟩ := t4
  obtain ⟨a3, b3, _⟩ := t3 a4
  obtain ⟨a2, b2, _⟩ := t2 a3
  obtain ⟨a1, b1, _⟩ := t1 a2
  refine ⟨a1, ?_, c4⟩
  unfold replyB
  dsimp only at b3 ⊢
  simp only [List.append_assoc] at b3 ⊢
  rw [← b4, ← b3, ← b2]
  exact b1
theorem entryS_there : There entryS entryB := by
  intro b l hw h
  unfold entryS at h ⊢
  dsimp only at h ⊢
  have w1 := (numS_shrinks b l hw).1
  have w2 := (kindS_shrinks (numS b l).2.1 _ w1).1
  have w3 := (numS_shrinks (kindS (numS b l).2.1 (numS b l).2.2).2.1 _ w2).1
  have w4 := (numS_shrinks (numS (kindS (numS b l).2.1 (numS b l).2.2).2.1 (kindS (numS b l).2.1 (numS b l).2.2).2.2).2.1 _ w3).1
  obtain ⟨T, hT⟩ : ∃ T, numS b l = T := ⟨_, rfl⟩
  have t1 := numS_there b l hw
  rw [hT] at h w1 w2 w3 w4 t1 ⊢
  obtain ⟨K, hK⟩ : ∃ K, kindS T.2.1 T.2.2 = K := ⟨_, rfl⟩
  have t2 := kindS_there T.2.1 T.2.2 w1
  rw [hK] at h w2 w3 w4 t2 ⊢
  obtain ⟨S, hS⟩ : ∃ S, numS K.2.1 K.2.2 = S := ⟨_, rfl⟩
  have t3 := numS_there K.2.1 K.2.2 w2
  rw [hS] at h w3 w4 t3 ⊢
  obtain ⟨R, hR⟩ : ∃ R, numS S.2.1 S.2.2 = R := ⟨_, rfl⟩
  have t4 := numS_there S.2.1 S.2.2 w3
  rw [hR] at h w4 t4 ⊢
  have w5 := (commandS_shrinks R.2.1 R.2.2 w4).1
  have t5 := commandS_there R.2.1 R.2.2 w4
  obtain ⟨C, hC⟩ : ∃ C, commandS R.2.1 R.2.2 = C := ⟨_, rfl⟩
  rw [hC] at h w5 t5 ⊢
  have t6 := intsS_there C.2.1 C.2.2 w5 h
  rw [h, if_neg (by simp)]
  obtain ⟨a6, b6, c6⟩ := t6
  obtain ⟨a5, b5, _⟩ := t5 a6
  obtain ⟨a4, b4, _⟩ := t4 a5
  obtain ⟨a3, b3, _⟩ := t3 a4
  obtain ⟨a2, b2, _⟩ := t2 a3
  obtain ⟨a1, b1, _⟩ := t1 a2
  refine ⟨a1, ?_, c6⟩
  unfold entryB
  dsimp only
  simp only [List.append_assoc, List.cons_append]
  rw [List.append_assoc] at b6
  rw [← b6, ← b5, ← b4, ← b3]
  rw [List.singleton_append] at b2
  rw [← b2]
  exact b1
end Go.Proofs.YthdpfchbomaigaaDoor
/- What letters say, as bytes and back. No program. Conditions: as each says. -/
namespace Go.Proofs.YthdpfchbomaigaaDoor
open Go.RowKit
set_option maxRecDepth 20000
instance vaDec : DecidableEq Va := fun a b => decidable_of_iff (a.kind = b.kind ∧ a.num = b.num ∧ a.text = b.text) (by
  cases a; cases b; simp)
def withinN (n : Int) : Bool := decide (0 ≤ n) && decide (n ≤ 1099511627776)
theorem withinN_iff {n : Int} : withinN n = true ↔ 0 ≤ n ∧ n ≤ 1099511627776 := by simp [withinN]
def votersGo : Int → List Int → Bool
  | _, [] => true
  | last, v :: r => (decide (last < v) && decide (v ≤ 9)) && votersGo v r
def votersB (l : List Int) : Bool := votersGo 0 l && (decide (1 ≤ l.length) && decide (l.length ≤ 7))
theorem votersGo_in : ∀ (l : List Int) (last : Int), votersGo last l = true → ∀ v ∈ l, last < v ∧ v ≤ 9 := by
  intro l
  induction l with
  | nil => intro _ _ v hv; cases hv
  | cons x r ih =>
    intro last h v hv
    simp only [votersGo, Bool.and_eq_true, decide_eq_true_eq] at h
    rcases List.mem_cons.1 hv with rfl | hv
    · exact h.1
    · have := ih x h.2 v hv
      omega
theorem votersB_in {l : List Int} (h : votersB l = true) : (∀ v ∈ l, 1 ≤ v ∧ v ≤ 9) ∧ 1 ≤ l.length ∧ l.length ≤ 7 := by
  simp only [votersB, Bool.and_eq_true, decide_eq_true_eq] at h
  exact ⟨fun v hv => by have := votersGo_in l 0 h.1 v hv; omega, h.2⟩
def plainC (c : CmP) : Bool := decide (c.kind = 0) && (decide (c.text = ⟨#[]⟩) && (decide (c.num = 0) && decide (c.args.length = 0)))
def wholeC (c : CmP) : Bool :=
  let r := commandS false (commandB c.kind c.text c.num c.args)
  (!r.2.1 && r.2.2.isEmpty) && (decide (c.args.length = r.1.args.length) && decide (c.args = r.1.args))
def EnP.cm (e : EnP) : CmP := ⟨e.ck, e.text, e.args, e.num⟩
def bareE (e : EnP) : Bool := decide (e.session = 0) && (decide (e.seq = 0) && plainC e.cm)
def entryR (e : EnP) : Bool :=
  if withinN e.term = false then false
  else if e.kind = 1 then bareE e && decide (e.vs.length = 0)
  else if e.kind = 2 then decide (0 ≤ e.session) && (decide (0 ≤ e.seq) && (decide (e.vs.length = 0) && wholeC e.cm))
  else decide (e.kind = 3) && (bareE e && votersB e.vs)
/-- A letter. -/
structure LtP where
  kind : Int
  fr : Int
  «to» : Int
  term : Int
  index : Int
  was : Int
  ok : Bool
  commit : Int
  round : Int
  es : List EnP
  vs : List Int
  im : List Int
def zeroL : LtP := ⟨0, 0, 0, 0, 0, 0, false, 0, 0, [], [], []⟩
/-- A letter without what its kind has. -/
def leftL (l : LtP) : LtP × Bool :=
  if l.kind = 1 then ({ l with index := 0, was := 0 }, true)
  else if l.kind = 2 then ({ l with ok := false }, true)
  else if l.kind = 3 then ({ l with commit := 0, es := [], index := 0, was := 0, round := 0 }, true)
  else if l.kind = 5 then ({ l with was := 0, vs := [], im := [], index := 0, round := 0 }, true)
  else if l.kind = 4 then ({ l with ok := false, index := 0, round := 0 }, true)
  else if l.kind = 6 then ({ l with index := 0, round := 0 }, true)
  else (l, false)
def noneL (l : LtP) : Bool := decide (l.index = 0) && (decide (l.was = 0) && (!l.ok && (decide (l.commit = 0) && (decide (l.round = 0) && (decide (l.es.length = 0) && (decide (l.vs.length = 0) && decide (l.im.length = 0)))))))
def entriesR (es : List EnP) : Bool := es.all entryR && decide (es.length ≤ 16)
def rightL (l : LtP) : Bool :=
  if l.fr < 1 ∨ 9 < l.fr ∨ l.to < 1 ∨ 9 < l.to then false
  else if ([l.term, l.was, l.index, l.commit, l.round].all withinN && (entriesR l.es && (decide (l.vs.length = 0) || votersB l.vs))) = false then false
  else (leftL l).2 && noneL (leftL l).1
def bytesL (l : LtP) : List Int :=
  [l.kind, l.fr, l.to] ++ ((numB 8 l.term ++ (numB 8 l.index ++ numB 8 l.was)) ++ ((if l.ok = true then 1 else 0) :: ((numB 8 l.commit ++ numB 8 l.round) ++ (numB 4 l.es.length ++ (l.es.flatMap entryB ++ (numB 4 l.vs.length ++ (l.vs ++ (numB 4 l.im.length ++ l.im))))))))
/-- A letter's bytes, and the error. -/
def putL2 (l : LtP) : List Int × Int := if rightL l = false then ([], 4) else if 1048576 < (bytesL l).length then ([], 3) else (bytesL l, 0)
/-- How many there are, of four bytes; none, if there are fewer bytes. -/
def cntS (r : List Int) : Int × Bool × List Int := if r.length < 4 then (0, false, r) else (getN (r.take 4), decide (getN (r.take 4) ≤ ((r.drop 4).length : Int)), r.drop 4)
def readEs : Nat → List Int → Option (List EnP × List Int)
  | 0, r => some ([], r)
  | n + 1, r => let x := entryS false r
    if x.2.1 = true then none else match readEs n (r.drop (entryB x.1).length) with
      | none => none
      | some (l, r') => some (x.1 :: l, r')
def readL (b : List Int) : Option LtP :=
  if b.length < 44 then none else
  let a := numS false ((b.drop 3).take 24)
  let i := numS a.2.1 a.2.2
  let s := numS i.2.1 i.2.2
  let c := numS false ((b.take 44).drop 28)
  let d := numS c.2.1 c.2.2
  let m := cntS (b.drop 44)
  if m.2.1 = false ∨ 16 < m.1 then none else
  match readEs m.1.toNat m.2.2 with
  | none => none
  | some (es, r) =>
    let v := cntS r
    if v.2.1 = false then none else
    let q := cntS (v.2.2.drop v.1.toNat)
    if q.2.1 = false ∨ q.1 ≠ (q.2.2.length : Int) then none else
    some ⟨b.getD 0 0, b.getD 1 0, b.getD 2 0, a.1, i.1, s.1, decide (b.getD 27 0 = 1), c.1, d.1, es, v.2.2.take v.1.toNat, q.2.2⟩
def getL (b : List Int) : LtP × Int :=
  if 1048576 < b.length then (zeroL, 4) else
  match readL b with
  | none => (zeroL, 4)
  | some l => if (putL2 l).2 = 0 ∧ (putL2 l).1 = b then (l, 0) else (zeroL, 4)
/-- What is got is right, and put as just these bytes. -/
theorem getL_one {b : List Int} (h : (getL b).2 = 0) : rightL (getL b).1 = true ∧ putL2 (getL b).1 = (b, 0) := by
  unfold getL at h ⊢
  split at h
  · cases h
  rename_i h1
  rw [if_neg h1]
  split at h
  · cases h
  rename_i l hl
  split at h
  · rename_i h2
    rw [if_pos h2]
    dsimp only
    have h3 : rightL l = true := by
      cases hr : rightL l with
      | true => rfl
      | false => have := h2.1; unfold putL2 at this; rw [if_pos hr] at this; cases this
    exact ⟨h3, Prod.ext h2.2 h2.1⟩
  · cases h
theorem getL_err (b : List Int) : (getL b).2 = 0 ∨ getL b = (zeroL, 4) := by
  unfold getL
  split
  · exact Or.inr rfl
  · split
    · exact Or.inr rfl
    · split
      · exact Or.inl rfl
      · exact Or.inr rfl
end Go.Proofs.YthdpfchbomaigaaDoor
