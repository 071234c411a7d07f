/- How much a thing is: plain definitions and laws. No program. Conditions: as each says. -/
import Derived.Test.YtnfldkebjeigiaaDoorThing
import Derived.Test.YtnfldkebjeigiaaDoorBackP
namespace Go.Proofs.YtnfldkebjeigiaaDoor
open Go.RowKit
set_option maxRecDepth 20000

def costV (v : Va) : Int := 1 + (v.text.size : Int) / 20
def costs : Int → List Va → Int
  | n, [] => n
  | n, v :: l => if n ≤ 2000 then costs (n + costV v) l else n
def valuesN (l : List Va) : Int := costs l.length l
theorem costV_pos (v : Va) : 1 ≤ costV v := by unfold costV; omega
theorem costs_big (n : Int) (l : List Va) (h : 2000 < n) : costs n l = n := by
  cases l with
  | nil => rfl
  | cons v l => unfold costs; rw [if_neg (by omega)]
theorem costs_ge : ∀ (l : List Va) (n : Int), n ≤ costs n l := by
  intro l
  induction l with
  | nil => intro n; exact Int.le_refl _
  | cons v l ih =>
    intro n
    unfold costs
    split
    · have := ih (n + costV v)
      have := costV_pos v
      omega
    · exact Int.le_refl _
theorem costs_le : ∀ (l : List Va) (n : Int), (∀ v ∈ l, v.text.size ≤ 140737488351232) → costs n l ≤ n ∨ costs n l ≤ 7036874420000 := by
  intro l
  induction l with
  | nil => intro n _; exact Or.inl (Int.le_refl _)
  | cons v l ih =>
    intro n h
    unfold costs
    split
    · right
      have h1 := h v (by simp)
      have h2 : costV v ≤ 7036874417563 := by unfold costV; omega
      rcases ih (n + costV v) (fun u hu => h u (List.mem_cons_of_mem _ hu)) with h3 | h3 <;> omega
    · left; exact Int.le_refl _
theorem costs_small : ∀ (l : List Va) (n : Int), costs n l ≤ 2000 → n ≤ 2000 ∧ ∀ v ∈ l, (n + costV v ≤ 2000 ∨ n < 0 ∨ costV v ≤ 2000) := by
  intro l
  induction l with
  | nil => intro n h; exact ⟨h, by intro v hv; cases hv⟩
  | cons v l ih =>
    intro n h
    unfold costs at h
    split at h
    · rename_i hn
      obtain ⟨h1, h2⟩ := ih _ h
      refine ⟨hn, fun u hu => ?_⟩
      rcases List.mem_cons.1 hu with rfl | hu
      · exact Or.inl h1
      · have := costV_pos v
        rcases h2 u hu with h3 | h3 | h3
        · left; omega
        · right; left; omega
        · exact Or.inr (Or.inr h3)
    · exact ⟨h, fun u hu => by omega⟩
theorem costs_bytes : ∀ (l : List Va) (n : Int), costs n l ≤ 2000 → ((l.flatMap valueB).length : Int) ≤ 29 * (costs n l - n) := by
  intro l
  induction l with
  | nil => intro n h; simp [costs]
  | cons v l ih =>
    intro n h
    have h1 := (costs_small _ _ h).1
    unfold costs at h ⊢
    rw [if_pos h1] at h ⊢
    have h2 := ih _ h
    have h3 := valueB_len v
    have h4 : (v.text.size : Int) ≤ 20 * costV v := by unfold costV; omega
    have h5 := costV_pos v
    rw [List.flatMap_cons, List.length_append]
    omega
def SmallV (l : List Va) : Prop := l.length ≤ 2000 ∧ (∀ v ∈ l, v.text.size ≤ 60000) ∧ (valuesB l).length ≤ 60004
theorem valuesN_nn (l : List Va) : 0 ≤ valuesN l := by
  have := costs_ge l l.length
  unfold valuesN
  omega
theorem valuesN_le (l : List Va) (hl : l.length ≤ 4398046511104) (h : ∀ v ∈ l, v.text.size ≤ 140737488351232) : valuesN l ≤ 7036874420000 := by
  unfold valuesN
  rcases costs_le l l.length h with h | h <;> omega
theorem valuesN_small (l : List Va) (h : valuesN l ≤ 2000) : SmallV l := by
  obtain ⟨h1, h2⟩ := costs_small l l.length h
  refine ⟨by omega, fun v hv => ?_, ?_⟩
  · have h3 := h2 v hv
    unfold costV at h3
    omega
  · have h3 := costs_bytes l l.length h
    unfold valuesN at h
    unfold valuesB
    rw [List.length_append, numB_len]
    omega
def costsF : Int → List Fa → Int
  | n, [] => n
  | n, f :: l => if n ≤ 2000 then costsF (n + valuesN f.args) l else n
theorem costsF_big (n : Int) (l : List Fa) (h : 2000 < n) : costsF n l = n := by
  cases l with
  | nil => rfl
  | cons v l => unfold costsF; rw [if_neg (by omega)]
theorem costsF_small : ∀ (l : List Fa) (n : Int), 0 ≤ n → costsF n l ≤ 2000 → n ≤ 2000 ∧ ∀ f ∈ l, SmallV f.args := by
  intro l
  induction l with
  | nil => intro n _ h; exact ⟨h, by intro v hv; cases hv⟩
  | cons f l ih =>
    intro n h0 h
    unfold costsF at h
    split at h
    · rename_i hn
      have hv := valuesN_nn f.args
      obtain ⟨h1, h2⟩ := ih _ (by omega) h
      refine ⟨hn, fun u hu => ?_⟩
      rcases List.mem_cons.1 hu with rfl | hu
      · exact valuesN_small _ (by omega)
      · exact h2 u hu
    · exact absurd h (by omega)
def great0 (t : Th) : Int := (t.text.size : Int) / 20 + costV t.value + valuesN t.values + valuesN t.fact.args + (t.command.text.size : Int) / 20 + valuesN t.command.args + valuesN t.reply.said
def great1 (t : Th) : Int := great0 t + (t.entry.text.size : Int) / 20 + valuesN t.entry.args + t.entry.vs.length + t.reply.facts.length
def greatN (t : Th) : Int := costsF (great1 t) t.reply.facts
structure ThSmall (t : Th) : Prop where
  text : t.text.size ≤ 60000
  value : t.value.text.size ≤ 60000
  values : SmallV t.values
  fact : SmallV t.fact.args
  ctext : t.command.text.size ≤ 60000
  command : SmallV t.command.args
  facts : t.reply.facts.length ≤ 2000 ∧ ∀ f ∈ t.reply.facts, SmallV f.args
  said : SmallV t.reply.said
  etext : t.entry.text.size ≤ 60000
  eargs : SmallV t.entry.args
  voters : t.entry.vs.length ≤ 2000
theorem great_small (t : Th) (h : greatN t ≤ 2000) : ThSmall t := by
  have a0 := valuesN_nn t.values
  have a1 := valuesN_nn t.fact.args
  have a2 := valuesN_nn t.command.args
  have a3 := valuesN_nn t.reply.said
  have a4 := valuesN_nn t.entry.args
  have a5 := costV_pos t.value
  have h0 : 0 ≤ great1 t := by unfold great1 great0; omega
  obtain ⟨h1, h2⟩ := costsF_small _ _ h0 h
  unfold great1 great0 at h1
  refine ⟨by omega, ?_, valuesN_small _ (by omega), valuesN_small _ (by omega), by omega, valuesN_small _ (by omega), ⟨by omega, h2⟩, valuesN_small _ (by omega), by omega, valuesN_small _ (by omega), by omega⟩
  have h3 : costV t.value ≤ 2000 := by omega
  unfold costV at h3
  omega
def bareB (v : Va) : Bool := (v.kind == 1 && decide (v.text = ByteArray.empty)) || (v.kind == 2 && v.num == 0)
theorem bareB_true (v : Va) (h : bareB v = true) : Bare v := by
  simp [bareB] at h
  exact h
theorem n64_of {n : Int} (h : (Lit.int .i64 n).wf = true) : N64 n := by
  have h : (decide (IntKind.i64.min ≤ n) && decide (n ≤ IntKind.i64.max)) = true := h
  have e1 : IntKind.i64.min = -9223372036854775808 := by decide
  have e2 : IntKind.i64.max = 9223372036854775807 := by decide
  rw [e1, e2] at h
  simpa [N64] using h
theorem SmallV.fit {l : List Va} (h : SmallV l) (hb : l.all bareB = true) (hw : ∀ v ∈ l, VaArg v) : VasFit l := by
  refine ⟨by have := h.1; omega, fun v hv => ⟨bareB_true v (List.all_eq_true.1 hb v hv), n64_of (hw v hv).2.1, ?_⟩⟩
  have := h.2.1 v hv
  omega
theorem factB_small (f : FaP) (h : SmallV f.args) : (factB f).length ≤ 60020 := by
  have := h.2.2
  unfold factB
  simp only [List.length_append, numB_len]
  omega
theorem factsB_small (l : List FaP) (h : ∀ f ∈ l, SmallV f.args) : (l.flatMap factB).length ≤ 60020 * l.length := by
  induction l with
  | nil => simp
  | cons f l ih =>
    have h1 := factB_small f (h f (by simp))
    have h2 := ih (fun g hg => h g (List.mem_cons_of_mem _ hg))
    rw [List.flatMap_cons, List.length_append, List.length_cons]
    omega
end Go.Proofs.YtnfldkebjeigiaaDoor
