/- What is written in any form, with whatever behind it, is read as it was. No program. Conditions: as each says. -/
import Derived.Test.YtnfldkebjeigiaaDoorRdrF
import Derived.Test.YtnfldkebjeigiaaDoorWStr
namespace Go.Proofs.YtnfldkebjeigiaaDoor
open Go.RowKit
set_option maxRecDepth 20000

theorem takeS_back (n : Nat) (a rest : List Int) (h : a.length = n) : takeS n false (a ++ rest) = (a, false, rest) := by
  subst h
  unfold takeS
  rw [if_neg (by simp)]
  simp
def N64 (n : Int) : Prop := -9223372036854775808 ≤ n ∧ n ≤ 9223372036854775807
theorem numS_back (n : Int) (rest : List Int) (h : N64 n) : numS false (numB 8 n ++ rest) = (n, false, rest) := by
  unfold numS
  rw [takeS_back 8 _ _ (numB_len 8 n)]
  dsimp only
  rw [getN_numB]
  have h1 := h.1
  have h2 := h.2
  have e : IntKind.i64.wrap (n % 256 ^ 8) = n := by
    show (if (true && decide (n % 256 ^ 8 % 2 ^ 64 ≥ (2 ^ 63 : Int))) = true then n % 256 ^ 8 % 2 ^ 64 - 2 ^ 64 else n % 256 ^ 8 % 2 ^ 64) = n
    have e1 : (256 : Int) ^ 8 = 18446744073709551616 := by decide
    have e2 : (2 : Int) ^ 64 = 18446744073709551616 := by decide
    have e3 : (2 : Int) ^ 63 = 9223372036854775808 := by decide
    rw [e1, e2, e3]
    split
    · rename_i hc
      have hc : n % 18446744073709551616 % 18446744073709551616 ≥ 9223372036854775808 := by simpa using hc
      omega
    · rename_i hc
      have hc : ¬ n % 18446744073709551616 % 18446744073709551616 ≥ 9223372036854775808 := by simpa using hc
      omega
  rw [e]
theorem kindS_back (k : Int) (rest : List Int) : kindS false (k :: rest) = (k, false, rest) := by
  unfold kindS
  have := takeS_back 1 [k] rest rfl
  rw [List.singleton_append] at this
  rw [this]
  simp [getN]
theorem countS_back (n : Nat) (rest : List Int) (h : n ≤ 65536) : countS false (numB 4 n ++ rest) = ((n : Int), false, rest) := by
  unfold countS
  rw [takeS_back 4 _ _ (numB_len 4 n)]
  dsimp only
  rw [getN_numB]
  have e1 : (256 : Int) ^ 4 = 4294967296 := by decide
  have e : (n : Int) % 256 ^ 4 = n := by rw [e1]; omega
  rw [e, if_neg (by simp; omega)]
theorem strN_strB (s : ByteArray) : strN (strB s) = s := by
  unfold strN strB strOfNums
  rw [List.map_map]
  have : (fun n : Int => UInt8.ofNat n.toNat) ∘ (fun c : UInt8 => (c.toNat : Int)) = id := by
    funext c
    simp
  rw [this, List.map_id]
theorem textS_back (s : ByteArray) (rest : List Int) (h : s.size ≤ 65536) : textS false (textB s ++ rest) = (s, false, rest) := by
  unfold textS textB
  rw [List.append_assoc, countS_back _ _ h]
  dsimp only
  rw [takeS_back _ _ _ (by rw [strB_len]; omega)]
  dsimp only
  rw [strN_strB]
/-- A value that its bytes say wholly. -/
def Bare (v : Va) : Prop := v.kind = 1 ∧ v.text = ByteArray.empty ∨ v.kind = 2 ∧ v.num = 0
/-- Short enough to be counted, its number one of 64 bits. -/
def VaFit (v : Va) : Prop := N64 v.num ∧ v.text.size ≤ 65536
theorem valueS_back (v : Va) (rest : List Int) (hb : Bare v) (hf : VaFit v) : valueS false (valueB v ++ rest) = (v, false, rest) := by
  obtain ⟨kd, num, text⟩ := v
  rcases hb with ⟨h1, h2⟩ | ⟨h1, h2⟩
  · dsimp only at h1 h2
    subst h1
    subst h2
    have e : valueB ⟨1, num, ByteArray.empty⟩ = 1 :: numB 8 num := by unfold valueB; dsimp only; rw [if_pos rfl]
    rw [e]
    unfold valueS
    dsimp only
    have := takeS_back 1 [1] (numB 8 num ++ rest) rfl
    rw [List.singleton_append] at this
    rw [List.cons_append, this]
    dsimp only
    rw [if_pos (by simp [getN])]
    have h8 := numS_back num rest hf.1
    unfold numS at h8
    simp only [Prod.mk.injEq] at h8
    rw [h8.2]
    rw [h8.1]
    rfl
  · dsimp only at h1 h2
    subst h1
    subst h2
    have e : valueB ⟨2, 0, text⟩ = 2 :: textB text := by unfold valueB; dsimp only; rw [if_neg (by decide), if_pos rfl]
    rw [e]
    unfold valueS
    dsimp only
    have := takeS_back 1 [2] (textB text ++ rest) rfl
    rw [List.singleton_append] at this
    rw [List.cons_append, this]
    dsimp only
    rw [if_neg (by simp [getN]), if_pos (by simp [getN]), textS_back text rest hf.2]
    rfl
theorem rowS_back {α : Type} {one : Bool → List Int → α × Bool × List Int} {oneB : α → List Int} (xs : List α) (h : ∀ x ∈ xs, ∀ rest, one false (oneB x ++ rest) = (x, false, rest)) (rest : List Int) : rowS one xs.length false (xs.flatMap oneB ++ rest) = (xs, false, rest) := by
  induction xs with
  | nil => simp [rowS]
  | cons x xs ih =>
    rw [List.length_cons, List.flatMap_cons, List.append_assoc]
    unfold rowS
    rw [if_neg (by simp), h x (by simp)]
    dsimp only
    rw [ih (fun y hy => h y (List.mem_cons_of_mem _ hy))]
theorem rowsS_back {α : Type} {one : Bool → List Int → α × Bool × List Int} {oneB : α → List Int} (xs : List α) (h : ∀ x ∈ xs, ∀ rest, one false (oneB x ++ rest) = (x, false, rest)) (hl : xs.length ≤ 65536) (rest : List Int) : rowsS one false (numB 4 xs.length ++ (xs.flatMap oneB ++ rest)) = (xs, false, rest) := by
  unfold rowsS
  dsimp only
  rw [countS_back _ _ hl]
  dsimp only
  rw [Int.toNat_natCast, rowS_back xs h]
  rfl
/-- A row of values that is wholly said, and short enough. -/
def VasFit (l : List Va) : Prop := l.length ≤ 65536 ∧ ∀ v ∈ l, Bare v ∧ VaFit v
theorem valuesS_back (l : List Va) (rest : List Int) (h : VasFit l) : valuesS false (valuesB l ++ rest) = (l, false, rest) := by
  unfold valuesS valuesB
  rw [List.append_assoc]
  exact rowsS_back l (fun v hv rest => valueS_back v rest (h.2 v hv).1 (h.2 v hv).2) h.1 rest
theorem intsS_back (l : List Int) (rest : List Int) (hl : l.length ≤ 65536) (h : ∀ n ∈ l, N64 n) : intsS false (numB 4 l.length ++ (l.flatMap (numB 8) ++ rest)) = (l, false, rest) :=
  rowsS_back l (fun v hv rest => numS_back v rest (h v hv)) hl rest
def FaFit (f : FaP) : Prop := N64 f.id ∧ N64 f.ty ∧ VasFit f.args
theorem factS_back (f : FaP) (rest : List Int) (h : FaFit f) : factS false (factB f ++ rest) = (f, false, rest) := by
  unfold factS factB
  simp only [List.append_assoc]
  rw [numS_back _ _ h.1]
  dsimp only
  rw [numS_back _ _ h.2.1]
  dsimp only
  rw [valuesS_back _ _ h.2.2]
  rfl
def CmFit (c : CmP) : Prop := c.text.size ≤ 65536 ∧ N64 c.num ∧ VasFit c.args
theorem commandS_back (c : CmP) (rest : List Int) (h : CmFit c) : commandS false (commandB c.kind c.text c.num c.args ++ rest) = (c, false, rest) := by
  unfold commandS commandB
  simp only [List.append_assoc, List.cons_append]
  rw [kindS_back]
  dsimp only
  rw [textS_back _ _ h.1]
  dsimp only
  rw [numS_back _ _ h.2.1]
  dsimp only
  rw [valuesS_back _ _ h.2.2]
  rfl
def RpFit (r : RpP) : Prop := N64 r.err ∧ N64 r.num ∧ (r.facts.length ≤ 65536 ∧ ∀ f ∈ r.facts, FaFit f) ∧ VasFit r.said
theorem replyS_back (r : RpP) (rest : List Int) (h : RpFit r) : replyS false (replyB r ++ rest) = (r, false, rest) := by
  unfold replyS replyB
  simp only [List.append_assoc]
  rw [numS_back _ _ h.1]
  dsimp only
  rw [numS_back _ _ h.2.1]
  dsimp only
  unfold factsS
  rw [rowsS_back (one := factS) r.facts (fun f hf rest => factS_back f rest (h.2.2.1.2 f hf)) h.2.2.1.1]
  dsimp only
  rw [valuesS_back _ _ h.2.2.2]
  rfl
def EnFit (e : EnP) : Prop := N64 e.term ∧ N64 e.session ∧ N64 e.seq ∧ CmFit ⟨e.ck, e.text, e.args, e.num⟩ ∧ e.vs.length ≤ 65536 ∧ ∀ v ∈ e.vs, N64 v
theorem entryS_back (e : EnP) (rest : List Int) (h : EnFit e) : entryS false (entryB e ++ rest) = (e, false, rest) := by
  obtain ⟨h1, h2, h3, h4, h5, h6⟩ := h
  have hc := commandS_back ⟨e.ck, e.text, e.args, e.num⟩ (numB 4 e.vs.length ++ (e.vs.flatMap (numB 8) ++ rest)) h4
  dsimp only at hc
  unfold entryS entryB
  simp only [List.append_assoc, List.cons_append]
  rw [numS_back _ _ h1]
  dsimp only
  rw [kindS_back]
  dsimp only
  rw [numS_back _ _ h2]
  dsimp only
  rw [numS_back _ _ h3]
  dsimp only
  rw [hc]
  dsimp only
  rw [intsS_back _ _ h5 h6]
  rfl
theorem numS_end : numS false [] = (0, true, []) := by
  unfold numS takeS
  rw [if_pos (by simp)]
  rfl
end Go.Proofs.YtnfldkebjeigiaaDoor
