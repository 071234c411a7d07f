/- How much a thing is: plain definitions and laws. No program. Conditions: as each says. -/
import Derived.Test.YtnfldkebjeigiaaGreatDoorGWireWrites10
import Derived.Lib.Bytes
import Derived.Deep.MidRow
import Derived.BigFrame
set_option linter.unusedVariables false
namespace Go.Proofs.YtnfldkebjeigiaaGreatDoor
open Go.RowKit
set_option maxRecDepth 20000
def costV (v : Va) : Int := 1 + (v.text.size : Int) / 20
def costs : Int → List Va → Int
  | n, [] => n
  | n, v :: l => if n ≤ 2000 then costs (n + costV v) l else n
def valuesN (l : List Va) : Int := costs l.length l
theorem costV_pos (v : Va) : 1 ≤ costV v := by unfold costV; omega
theorem costs_big (n : Int) (l : List Va) (h : 2000 < n) : costs n l = n := by
  cases l with
  | nil => rfl
  | cons v l => unfold costs; rw [if_neg (by omega)]
theorem costs_ge : ∀ (l : List Va) (n : Int), n ≤ costs n l := by
  intro l
  induction l with
  | nil => intro n; exact Int.le_refl _
  | cons v l ih =>
    intro n
    unfold costs
    split
    · have := ih (n + costV v)
      have := costV_pos v
      omega
    · exact Int.le_refl _
theorem costs_le : ∀ (l : List Va) (n : Int), (∀ v ∈ l, v.text.size ≤ 140737488351232) → costs n l ≤ n ∨ costs n l ≤ 7036874420000 := by
  intro l
  induction l with
  | nil => intro n _; exact Or.inl (Int.le_refl _)
  | cons v l ih =>
    intro n h
    unfold costs
    split
    · right
      have h1 := h v (by simp)
      have h2 : costV v ≤ 7036874417563 := by unfold costV; omega
      rcases ih (n + costV v) (fun u hu => h u (List.mem_cons_of_mem _ hu)) with h3 | h3 <;> omega
    · left; exact Int.le_refl _
theorem costs_small : ∀ (l : List Va) (n : Int), costs n l ≤ 2000 → n ≤ 2000 ∧ ∀ v ∈ l, (n + costV v ≤ 2000 ∨ n < 0 ∨ costV v ≤ 2000) := by
  intro l
  induction l with
  | nil => intro n h; exact ⟨h, by intro v hv; cases hv⟩
  | cons v l ih =>
    intro n h
    unfold costs at h
    split at h
    · rename_i hn
      obtain ⟨h1, h2⟩ := ih _ h
      refine ⟨hn, fun u hu => ?_⟩
      rcases List.mem_cons.1 hu with rfl | hu
      · exact Or.inl h1
      · have := costV_pos v
        rcases h2 u hu with h3 | h3 | h3
        · left; omega
        · right; left; omega
        · exact Or.inr (Or.inr h3)
    · exact ⟨h, fun u hu => by omega⟩
theorem costs_bytes : ∀ (l : List Va) (n : Int), costs n l ≤ 2000 → ((l.flatMap valueB).length : Int) ≤ 29 * (costs n l - n) := by
  intro l
  induction l with
  | nil => intro n h; simp [costs]
  | cons v l ih =>
    intro n h
    have h1 := (costs_small _ _ h).1
    unfold costs at h ⊢
    rw [if_pos h1] at h ⊢
    have h2 := ih _ h
    have h3 := valueB_len v
    have h4 : (v.text.size : Int) ≤ 20 * costV v := by unfold costV; omega
    have h5 := costV_pos v
    rw [List.flatMap_cons, List.length_append]
    omega
def SmallV (l : List Va) : Prop := l.length ≤ 2000 ∧ (∀ v ∈ l, v.text.size ≤ 60000) ∧ (valuesB l).length ≤ 60004
theorem valuesN_nn (l : List Va) : 0 ≤ valuesN l := by
  have := costs_ge l l.length
  unfold valuesN
  omega
theorem valuesN_le (l : List Va) (hl : l.length ≤ 4398046511104) (h : ∀ v ∈ l, v.text.size ≤ 140737488351232) : valuesN l ≤ 7036874420000 := by
  unfold valuesN
  rcases costs_le l l.length h with h | h <;> omega
theorem valuesN_small (l : List Va) (h : valuesN l ≤ 2000) : SmallV l := by
  obtain ⟨h1, h2⟩ := costs_small l l.length h
  refine ⟨by omega, fun v hv => ?_, ?_⟩
  · have h3 := h2 v hv
    unfold costV at h3
    omega
  · have h3 := costs_bytes l l.length h
    unfold valuesN at h
    unfold valuesB
    rw [List.length_append, numB_len]
    omega
def costsF : Int → List Fa → Int
  | n, [] => n
  | n, f :: l => if n ≤ 2000 then costsF (n + valuesN f.args) l else n
theorem costsF_big (n : Int) (l : List Fa) (h : 2000 < n) : costsF n l = n := by
  cases l with
  | nil => rfl
  | cons v l => unfold costsF; rw [if_neg (by omega)]
theorem costsF_small : ∀ (l : List Fa) (n : Int), 0 ≤ n → costsF n l ≤ 2000 → n ≤ 2000 ∧ ∀ f ∈ l, SmallV f.args := by
  intro l
  induction l with
  | nil => intro n _ h; exact ⟨h, by intro v hv; cases hv⟩
  | cons f l ih =>
    intro n h0 h
    unfold costsF at h
    split at h
    · rename_i hn
      have hv := valuesN_nn f.args
      obtain ⟨h1, h2⟩ := ih _ (by omega) h
      refine ⟨hn, fun u hu => ?_⟩
      rcases List.mem_cons.1 hu with rfl | hu
      · exact valuesN_small _ (by omega)
      · exact h2 u hu
    · exact absurd h (by omega)
def great0 (t : Th) : Int := (t.text.size : Int) / 20 + costV t.value + valuesN t.values + valuesN t.fact.args + (t.command.text.size : Int) / 20 + valuesN t.command.args + valuesN t.reply.said
def great1 (t : Th) : Int := great0 t + (t.entry.text.size : Int) / 20 + valuesN t.entry.args + t.entry.vs.length + t.reply.facts.length
def greatN (t : Th) : Int := costsF (great1 t) t.reply.facts
structure ThSmall (t : Th) : Prop where
  text : t.text.size ≤ 60000
  value : t.value.text.size ≤ 60000
  values : SmallV t.values
  fact : SmallV t.fact.args
  ctext : t.command.text.size ≤ 60000
  command : SmallV t.command.args
  facts : t.reply.facts.length ≤ 2000 ∧ ∀ f ∈ t.reply.facts, SmallV f.args
  said : SmallV t.reply.said
  etext : t.entry.text.size ≤ 60000
  eargs : SmallV t.entry.args
  voters : t.entry.vs.length ≤ 2000
theorem great_small (t : Th) (h : greatN t ≤ 2000) : ThSmall t := by
  have a0 := valuesN_nn t.values
  have a1 := valuesN_nn t.fact.args
  have a2 := valuesN_nn t.command.args
  have a3 := valuesN_nn t.reply.said
  have a4 := valuesN_nn t.entry.args
  have a5 := costV_pos t.value
  have h0 : 0 ≤ great1 t := by unfold great1 great0; omega
  obtain ⟨h1, h2⟩ := costsF_small _ _ h0 h
  unfold great1 great0 at h1
  refine ⟨by omega, ?_, valuesN_small _ (by omega), valuesN_small _ (by omega), by omega, valuesN_small _ (by omega), ⟨by omega, h2⟩, valuesN_small _ (by omega), by omega, valuesN_small _ (by omega), by omega⟩
  have h3 : costV t.value ≤ 2000 := by omega
  unfold costV at h3
  omega
def bareB (v : Va) : Bool := (v.kind == 1 && decide (v.text = ByteArray.empty)) || (v.kind == 2 && v.num == 0)
theorem bareB_true (v : Va) (h : bareB v = true) : Bare v := by
  simp [bareB] at h
  exact h
theorem n64_of {n : Int} (h : (Lit.int .i64 n).wf = true) : N64 n := by
  have h : (decide (IntKind.i64.min ≤ n) && decide (n ≤ IntKind.i64.max)) = true := h
  have e1 : IntKind.i64.min = -9223372036854775808 := by decide
  have e2 : IntKind.i64.max = 9223372036854775807 := by decide
  rw [e1, e2] at h
  simpa [N64] using h
theorem SmallV.fit {l : List Va} (h : SmallV l) (hb : l.all bareB = true) (hw : ∀ v ∈ l, VaArg v) : VasFit l := by
  refine ⟨by have := h.1; omega, fun v hv => ⟨bareB_true v (List.all_eq_true.1 hb v hv), n64_of (hw v hv).2.1, ?_⟩⟩
  have := h.2.1 v hv
  omega
theorem factB_small (f : FaP) (h : SmallV f.args) : (factB f).length ≤ 60020 := by
  have := h.2.2
  unfold factB
  simp only [List.length_append, numB_len]
  omega
theorem factsB_small (l : List FaP) (h : ∀ f ∈ l, SmallV f.args) : (l.flatMap factB).length ≤ 60020 * l.length := by
  induction l with
  | nil => simp
  | cons f l ih =>
    have h1 := factB_small f (h f (by simp))
    have h2 := ih (fun g hg => h g (List.mem_cons_of_mem _ hg))
    rw [List.flatMap_cons, List.length_append, List.length_cons]
    omega
end Go.Proofs.YtnfldkebjeigiaaGreatDoor
/- How much values are, and whether they are wholly said: the law's own helpers, walked. Conditions: memory bounds lengths. -/
namespace Go.Proofs.YtnfldkebjeigiaaGreatDoor
open Go.RowKit
set_option maxRecDepth 20000
theorem lvalue_any (kd num : Int) (text : ByteArray) (w : World) (hl : text.size ≤ 140737488351232) :
    Calls Tryz.prog 52 #[.agg #[.int .u8 kd, .int .i64 num, .string text]] w fun e w' => e = .returned (.int .i64 (costV ⟨kd, num, text⟩)) ∧ Below w.heap.size w w' := by
  have hb := (Below.refl w.heap.size w).alloc (Nat.le_refl _) (.cells #[.int .u8 kd, .int .i64 num, .string text] 24)
  go_enter Tryz.func52, Tryz.ntmps52
  go_wp2_with fail
  go_ret
  exact ⟨by simp [costV]; try omega, hb⟩
set_option maxHeartbeats 1000000 in
theorem lvalues_any (ao : Option Addr) (n cap : Nat) (xs : List Va) (w : World) (B : Nat) (hn : xs.length = n) (hx : ValsIn w B ao xs) (hB : B ≤ w.heap.size) (htx : ∀ v ∈ xs, v.text.size ≤ 140737488351232) (hl : n ≤ 4398046511104) :
    Calls Tryz.prog 53 #[.slice ao n cap] w fun e w' => e = .returned (.int .i64 (valuesN xs)) ∧ Below w.heap.size w w' := by
  have HX := Lib.hid (hx.mono noSub_rising hB)
  have HN := Lib.hid hn
  have HTX := Lib.hid htx
  have hv : costs n xs = valuesN xs := by rw [← hn]; rfl
  have hle := valuesN_le xs (by omega) htx
  have HV := Lib.hid hv
  clear hx hn htx hv
  go_enter Tryz.func53, Tryz.ntmps53
  go_wp2_with fail
  go_loopw [3, 4] (fun m i wr => ∃ (k : Nat) (c : Int), k ≤ n ∧ i = .int .i64 k ∧ m = .int .i64 c ∧ 0 ≤ c ∧ c ≤ 7036874420000 ∧ costs c (xs.drop k) = valuesN xs ∧ Below w.heap.size w wr) (fun _ i _ => n - (intOf i).toNat)
  case atStart => exact ⟨0, n, by omega, rfl, rfl, by omega, by omega, by simpa using HV.out, Below.refl _ _⟩
  case round =>
    clear HV
    obtain ⟨k, c, hk, rfl, rfl, hc0, hc1, hcs, hbel⟩ := hrel
    have HC := Lib.hid hcs
    clear hcs
    by_cases hlt : k < n
    · have i1 : (k : Int) < n := by omega
      by_cases hc2 : c ≤ 2000
      · have hkx : xs[k]? = some (xs[k]'(by rw [HN.out]; exact hlt)) := List.getElem?_eq_getElem _
        have hdr : xs.drop k = (xs[k]'(by rw [HN.out]; exact hlt)) :: xs.drop (k + 1) := List.drop_eq_getElem_cons _
        have htx := HTX.out _ (List.getElem_mem (l := xs) (n := k) (by rw [HN.out]; exact hlt))
        obtain ⟨b, off, hao, hb, hc, _⟩ := HX.out.at hkx
        generalize xs[k]'(by rw [HN.out]; exact hlt) = x at hc hkx hdr htx
        have hnew : costs (c + costV x) (xs.drop (k + 1)) = valuesN xs := by
          have := HC.out
          rw [hdr] at this
          unfold costs at this
          rwa [if_pos hc2] at this
        have hcp := costV_pos x
        have hcu : costV x ≤ 7036874417563 := by unfold costV; omega
        obtain ⟨kd, num, text⟩ := x
        dsimp only at htx
        have hcall := lvalue_any kd num text wr htx
        generalize costV ⟨kd, num, text⟩ = q at hcall hcp hcu hnew
        have HCALL := Lib.hid hcall
        have HNEW := Lib.hid hnew
        have c0 : wr.cell? ⟨b, off + k * 3, none⟩ = some (.int .u8 kd) := (hbel.cell (p := ⟨b, _, none⟩) hb).trans (hc 0 (by decide))
        have c1 : wr.cell? ⟨b, off + k * 3 + 1, none⟩ = some (.int .i64 num) := (hbel.cell (p := ⟨b, _, none⟩) hb).trans (hc 1 (by decide))
        have c2 : wr.cell? ⟨b, off + k * 3 + 1 + 1, none⟩ = some (.string text) := (hbel.cell (p := ⟨b, _, none⟩) hb).trans (hc 2 (by decide))
        have c3 : wr.cell? ⟨b, off + k * 3 + 2, none⟩ = some (.string text) := c2
        have w1 : IntKind.i64.wrap (c + q) = c + q := IntWalk.i64_in _ (by omega)
        have i2 : decide (c ≤ 2000) = true := by simpa using hc2
        subst hao
        clear hc hkx hdr hcall hnew htx
        go_wp2_with fail
        refine HCALL.out.mono ?_
        rintro e w2 ⟨rfl, hb2⟩
        have hb3 := hbel.trans (hb2.mono hbel.size)
        clear c0 c1 c2 c3 hb2
        go_wp2_with fail
        go_roundw
        case rel => exact ⟨k + 1, c + q, by omega, by go_num, by first | rfl | go_num, by omega, by omega, HNEW.out, hb3⟩
        case measure => simp [intOf]; omega
      · have hfin : valuesN xs = c := by rw [← HC.out]; exact costs_big _ _ (by omega)
        have i2 : decide (c ≤ 2000) = false := by simpa using hc2
        have i3 : 2000 < c := by omega
        have HF := Lib.hid hfin
        clear hfin
        go_wp2_with fail
        go_ret
        exact ⟨by (rw [HF.out]); first | done | rfl, hbel⟩
    · obtain rfl : k = n := by omega
      have hfin : valuesN xs = c := by
        rw [← HC.out, List.drop_eq_nil_of_le (by rw [HN.out]; exact Nat.le_refl _)]
        rfl
      have HF := Lib.hid hfin
      clear hfin
      go_wp2_with fail
      go_ret
      exact ⟨by (rw [HF.out]); first | done | rfl, hbel⟩
theorem not_empty {text : ByteArray} (h : ¬ text = ByteArray.empty) : text.toList.isEmpty = false := by
  cases hh : strB text with
  | nil =>
    have h1 := strN_strB text
    rw [hh] at h1
    exact absurd (h1.symm.trans rfl) h
  | cons c l =>
    have h1 : text = strOfNums (c :: l) := by rw [← hh]; exact (strN_strB text).symm
    rw [h1, Lib.strOfNums_toList]
    rfl
end Go.Proofs.YtnfldkebjeigiaaGreatDoor
/- How much a thing is: the law's helper great, walked. Conditions: the thing lies in memory as it is read. -/
namespace Go.Proofs.YtnfldkebjeigiaaGreatDoor
open Go.RowKit
set_option maxRecDepth 20000
def thVal (t : Th) : Value := .agg #[.int .i64 t.number, .string t.text, .int .u8 t.value.kind, .int .i64 t.value.num, .string t.value.text, .slice t.vo t.values.length t.vcap, .int .i64 t.fact.id, .int .i64 t.fact.ty, .slice t.fact.ao t.fact.args.length t.fact.cap, .int .u8 t.command.kind, .string t.command.text, .slice t.command.ao t.command.args.length t.command.cap, .int .i64 t.command.num, .int .i64 t.reply.err, .int .i64 t.reply.num, .slice t.reply.fo t.reply.facts.length t.reply.fcap, .slice t.reply.so t.reply.said.length t.reply.scap, .int .i64 t.entry.term, .int .u8 t.entry.kind, .int .i64 t.entry.session, .int .i64 t.entry.seq, .int .u8 t.entry.ck, .string t.entry.text, .slice t.entry.aao t.entry.args.length t.entry.acap, .int .i64 t.entry.num, .slice t.entry.vao t.entry.vs.length t.entry.vcap]
def thObj (t : Th) : Obj := .cells #[.int .i64 t.number, .string t.text, .int .u8 t.value.kind, .int .i64 t.value.num, .string t.value.text, .slice t.vo t.values.length t.vcap, .int .i64 t.fact.id, .int .i64 t.fact.ty, .slice t.fact.ao t.fact.args.length t.fact.cap, .int .u8 t.command.kind, .string t.command.text, .slice t.command.ao t.command.args.length t.command.cap, .int .i64 t.command.num, .int .i64 t.reply.err, .int .i64 t.reply.num, .slice t.reply.fo t.reply.facts.length t.reply.fcap, .slice t.reply.so t.reply.said.length t.reply.scap, .int .i64 t.entry.term, .int .u8 t.entry.kind, .int .i64 t.entry.session, .int .i64 t.entry.seq, .int .u8 t.entry.ck, .string t.entry.text, .slice t.entry.aao t.entry.args.length t.entry.acap, .int .i64 t.entry.num, .slice t.entry.vao t.entry.vs.length t.entry.vcap] 40 (0, 0)
theorem VasWf.small {ao : Option Addr} {xs : List Va} {cap : Nat} (h : VasWf ao xs cap) : xs.length ≤ 4398046511104 ∧ ∀ v ∈ xs, v.text.size ≤ 140737488351232 := by
  have := h.len
  exact ⟨by omega, fun v hv => (h.all v hv).2.2⟩
theorem VasWf.cost {ao : Option Addr} {xs : List Va} {cap : Nat} (h : VasWf ao xs cap) : 0 ≤ valuesN xs ∧ valuesN xs ≤ 7036874420000 := ⟨valuesN_nn xs, valuesN_le xs h.small.1 h.small.2⟩
theorem lvalues_wf {ao : Option Addr} {cap : Nat} {xs : List Va} {w : World} {B : Nat} (hw : VasWf ao xs cap) (hx : ValsIn w B ao xs) (hB : B ≤ w.heap.size) (N : Int) (hN : valuesN xs = N) :
    Calls Tryz.prog 53 #[.slice ao xs.length cap] w fun e w' => e = .returned (.int .i64 N) ∧ Below w.heap.size w w' := hN ▸ lvalues_any ao _ cap xs w B rfl hx hB hw.small.2 hw.small.1
theorem EnWf.vargs {e : En} (h : EnWf e) : VasWf e.aao e.args e.acap := ⟨h.args, h.argn, h.anil, h.acap⟩
theorem RpWf.small {r : Rp} (h : RpWf r) : r.facts.length ≤ 3518437208781 := by have := h.flen; omega
set_option maxHeartbeats 2000000 in
theorem great_any (t : Th) (w : World) (hx : ThIn w w.heap.size t) (hw : ThWf t) :
    Calls Tryz.prog 6 #[thVal t] w fun e w' => e = .returned (.bool (decide (2000 < greatN t))) ∧ Below w.heap.size w w' := by
  have hb0 := (Below.refl w.heap.size w).alloc (Nat.le_refl _) (thObj t)
  have hk := heap_alloc_new w (thObj t)
  have hs0 : (w.alloc (thObj t)).heap.size = w.heap.size + 1 := by simp
  have HB0 := Lib.hid hb0
  have HK := Lib.hid hk
  have HS0 := Lib.hid hs0
  have HX := Lib.hid hx
  have HW := Lib.hid hw
  clear hb0 hk hs0 hx hw
  unfold thVal
  go_enter Tryz.func6, Tryz.ntmps6
  go_wp2_with fail
  have hb0 := HB0.out
  have hk := HK.out
  have hs0 := HS0.out
  clear HB0 HK HS0
  unfold thObj at hb0 hk hs0
  generalize w.alloc (.cells #[.int .i64 t.number, .string t.text, .int .u8 t.value.kind, .int .i64 t.value.num, .string t.value.text, .slice t.vo t.values.length t.vcap, .int .i64 t.fact.id, .int .i64 t.fact.ty, .slice t.fact.ao t.fact.args.length t.fact.cap, .int .u8 t.command.kind, .string t.command.text, .slice t.command.ao t.command.args.length t.command.cap, .int .i64 t.command.num, .int .i64 t.reply.err, .int .i64 t.reply.num, .slice t.reply.fo t.reply.facts.length t.reply.fcap, .slice t.reply.so t.reply.said.length t.reply.scap, .int .i64 t.entry.term, .int .u8 t.entry.kind, .int .i64 t.entry.session, .int .i64 t.entry.seq, .int .u8 t.entry.ck, .string t.entry.text, .slice t.entry.aao t.entry.args.length t.entry.acap, .int .i64 t.entry.num, .slice t.entry.vao t.entry.vs.length t.entry.vcap] 40) = w0 at hb0 hk hs0 ⊢
  have hc : ∀ (x' : Calm (w.heap.size + 1) w0) (i : Nat) (v : Value), (#[.int .i64 t.number, .string t.text, .int .u8 t.value.kind, .int .i64 t.value.num, .string t.value.text, .slice t.vo t.values.length t.vcap, .int .i64 t.fact.id, .int .i64 t.fact.ty, .slice t.fact.ao t.fact.args.length t.fact.cap, .int .u8 t.command.kind, .string t.command.text, .slice t.command.ao t.command.args.length t.command.cap, .int .i64 t.command.num, .int .i64 t.reply.err, .int .i64 t.reply.num, .slice t.reply.fo t.reply.facts.length t.reply.fcap, .slice t.reply.so t.reply.said.length t.reply.scap, .int .i64 t.entry.term, .int .u8 t.entry.kind, .int .i64 t.entry.session, .int .i64 t.entry.seq, .int .u8 t.entry.ck, .string t.entry.text, .slice t.entry.aao t.entry.args.length t.entry.acap, .int .i64 t.entry.num, .slice t.entry.vao t.entry.vs.length t.entry.vcap] : Array Value)[i]? = some v → x'.1.cell? ⟨w.heap.size, i, none⟩ = some v := fun x' i v h =>
    (Go.Joins.cell_of_block ((x'.2.block _ (show w.heap.size < w.heap.size + 1 by omega)).trans hk) i).trans h
  have hX : ∀ x' : Calm (w.heap.size + 1) w0, ThIn x'.1 w.heap.size t := fun x' => by
    have hh := hb0.trans (x'.2.mono (Nat.le_succ _))
    exact ⟨HX.out.values.below noSub_kept hh (Nat.le_refl _), HX.out.fact.below noSub_kept hh (Nat.le_refl _), HX.out.command.below noSub_kept hh (Nat.le_refl _), rpSub_kept _ _ _ _ _ HX.out.reply hh (Nat.le_refl _), enSub_kept _ _ _ _ _ HX.out.entry hh (Nat.le_refl _)⟩
  have hBw : ∀ x' : Calm (w.heap.size + 1) w0, w.heap.size ≤ x'.1.heap.size := fun x' => by have := x'.2.size; omega
  obtain ⟨N0, hN0⟩ : ∃ N, costV t.value = N := ⟨_, rfl⟩
  obtain ⟨N1, hN1⟩ : ∃ N, valuesN t.values = N := ⟨_, rfl⟩
  obtain ⟨N2, hN2⟩ : ∃ N, valuesN t.fact.args = N := ⟨_, rfl⟩
  obtain ⟨N3, hN3⟩ : ∃ N, valuesN t.command.args = N := ⟨_, rfl⟩
  obtain ⟨N4, hN4⟩ : ∃ N, valuesN t.reply.said = N := ⟨_, rfl⟩
  obtain ⟨N5, hN5⟩ : ∃ N, valuesN t.entry.args = N := ⟨_, rfl⟩
  have b0 : 1 ≤ N0 ∧ N0 ≤ 7036874417563 := by have : t.value.text.size ≤ 140737488351232 := HW.out.value.2.2; rw [← hN0]; exact ⟨costV_pos _, by unfold costV; omega⟩
  have b1 := hN1 ▸ HW.out.values.cost
  have b2 := hN2 ▸ HW.out.fact.args.cost
  have b3 := hN3 ▸ HW.out.command.args.cost
  have b4 := hN4 ▸ HW.out.reply.said.cost
  have b5 := hN5 ▸ HW.out.entry.vargs.cost
  have C0 := Lib.hid fun x' : Calm (w.heap.size + 1) w0 => (hN0 ▸ lvalue_any t.value.kind t.value.num t.value.text x'.1 HW.out.value.2.2 : Calls Tryz.prog 52 #[.agg #[.int .u8 t.value.kind, .int .i64 t.value.num, .string t.value.text]] x'.1 fun e w' => e = .returned (.int .i64 N0) ∧ Below x'.1.heap.size x'.1 w')
  have C1 := Lib.hid fun x' : Calm (w.heap.size + 1) w0 => lvalues_wf HW.out.values (hX x').values (hBw x') N1 hN1
  have C2 := Lib.hid fun x' : Calm (w.heap.size + 1) w0 => lvalues_wf HW.out.fact.args (hX x').fact (hBw x') N2 hN2
  have C3 := Lib.hid fun x' : Calm (w.heap.size + 1) w0 => lvalues_wf HW.out.command.args (hX x').command (hBw x') N3 hN3
  have C4 := Lib.hid fun x' : Calm (w.heap.size + 1) w0 => lvalues_wf HW.out.reply.said (hX x').reply.2 (hBw x') N4 hN4
  have C5 := Lib.hid fun x' : Calm (w.heap.size + 1) w0 => lvalues_wf HW.out.entry.vargs (hX x').entry.1 (hBw x') N5 hN5
  have l1 := HW.out.text
  have l2 := HW.out.command.text
  have l3 := HW.out.entry.text
  have l4 := HW.out.reply.small
  have l5 : t.entry.vs.length ≤ 17592186043904 := by have := HW.out.entry.vn; omega
  obtain ⟨G0, hG0⟩ : ∃ G, great0 t = G := ⟨_, rfl⟩
  have hg0 : great0 t = (t.text.size : Int) / 20 + N0 + N1 + N2 + (t.command.text.size : Int) / 20 + N3 + N4 := by rw [great0, hN0, hN1, hN2, hN3, hN4]
  have hg1 : great1 t = great0 t + (t.entry.text.size : Int) / 20 + N5 + t.entry.vs.length + t.reply.facts.length := by rw [great1, hN5]
  have HG0 := Lib.hid hg0
  have HG1 := Lib.hid hg1
  have HC := Lib.hid hc
  have HXX := Lib.hid hX
  clear hN0 hN1 hN2 hN3 hN4 hN5 hg0 hg1 hG0 G0
  have d1 := fun x' => hc x' 1 _ rfl
  have d2 := fun x' => hc x' 2 _ rfl
  have d3 := fun x' => hc x' 3 _ rfl
  have d4 := fun x' => hc x' 4 _ rfl
  have d5 := fun x' => hc x' 5 _ rfl
  have d8 := fun x' => hc x' 8 _ rfl
  have d10 := fun x' => hc x' 10 _ rfl
  have d11 := fun x' => hc x' 11 _ rfl
  have d16 := fun x' => hc x' 16 _ rfl
  clear hc hX hBw
  have hsz : w.heap.size + 1 ≤ w0.heap.size := by omega
  refine wp_region_calm (B := w.heap.size + 1) (W0 := w0) (Below.refl _ _) (by kernel_rfl) (by kernel_rfl) ?_
  repeat (go_big_quiet_step (first | (go_at_call 52; exact Calm.call hsz (C0.out _)) | (go_at_call 53; first | (with_reducible exact Calm.call hsz (C1.out _)) | (with_reducible exact Calm.call hsz (C2.out _)) | (with_reducible exact Calm.call hsz (C3.out _)) | (with_reducible exact Calm.call hsz (C4.out _)))))
  refine wpQuiet_nil ?_
  intro w1 hb1
  clear d1 d2 d3 d4 d5 d8 d10 d11 d16 C0 C1 C2 C3 C4
  have g0b : 0 ≤ great0 t ∧ great0 t ≤ 100000000000000 := by rw [HG0.out]; omega
  rw [← HG0.out]
  obtain ⟨G0, hG0⟩ : ∃ G, great0 t = G := ⟨_, rfl⟩
  have hg1 := HG1.out
  rw [hG0] at g0b hg1 ⊢
  have HG1 := Lib.hid hg1
  clear hG0 HG0 hg1
  have d22 := fun x' => HC.out x' 22 _ rfl
  have d23 := fun x' => HC.out x' 23 _ rfl
  have d25 := fun x' => HC.out x' 25 _ rfl
  have d15 := fun x' => HC.out x' 15 _ rfl
  go_wp2_with fail
  refine wp_region_calm (B := w.heap.size + 1) (W0 := w0) hb1 (by kernel_rfl) (by kernel_rfl) ?_
  repeat (go_big_quiet_step ((go_at_call 53; exact Calm.call hsz (C5.out _))))
  refine wpQuiet_nil ?_
  intro w2 hb2
  clear d22 d23 d25 d15 C5 hb1
  have g1b : 0 ≤ great1 t ∧ great1 t ≤ 1000000000000000 := by rw [HG1.out]; omega
  rw [← HG1.out]
  have hfin : costsF (great1 t) t.reply.facts = greatN t := rfl
  obtain ⟨G1, hG1⟩ : ∃ G, great1 t = G := ⟨_, rfl⟩
  rw [hG1] at g1b hfin ⊢
  obtain ⟨G, hG⟩ : ∃ G, greatN t = G := ⟨_, rfl⟩
  rw [hG] at hfin
  have HF := Lib.hid hfin
  have HGG := Lib.hid hG
  clear hG1 HG1 hfin hG b0 b1 b2 b3 b4 b5 l1 l2 l3 l5
  obtain ⟨n, hn⟩ : ∃ n, t.reply.facts.length = n := ⟨_, rfl⟩
  rw [hn] at l4
  have HN := Lib.hid hn
  have hd15 : ∀ x' : Calm (w.heap.size + 1) w0, x'.1.cell? ⟨w.heap.size, 15, none⟩ = some (.slice t.reply.fo n t.reply.fcap) := fun x' => (HC.out x' 15 _ rfl).trans (by rw [← hn]; rfl)
  have HD15 := Lib.hid hd15
  clear hn hd15 HC
  go_wp2_with fail
  go_loopw [3, 4] (fun m i wr => ∃ (k : Nat) (c : Int), k ≤ n ∧ i = .int .i64 k ∧ m = .int .i64 c ∧ 0 ≤ c ∧ c ≤ 1000000000000000 ∧ costsF c (t.reply.facts.drop k) = G ∧ Below (w.heap.size + 1) w0 wr) (fun _ i _ => n - (intOf i).toNat)
  case atStart => exact ⟨0, G1, by omega, rfl, rfl, g1b.1, g1b.2, HF.out, hb2⟩
  case round =>
    clear HF hb2
    obtain ⟨k, c, hk, rfl, rfl, hc0, hc1, hcs, hbel⟩ := hrel
    have HCS := Lib.hid hcs
    clear hcs
    have c15 : wr.cell? ⟨w.heap.size, 15, none⟩ = some (.slice t.reply.fo n t.reply.fcap) := HD15.out ⟨wr, hbel⟩
    by_cases hlt : k < n
    · have i1 : (k : Int) < n := by omega
      by_cases hc2 : c ≤ 2000
      · have hkx : t.reply.facts[k]? = some (t.reply.facts[k]'(by rw [HN.out]; exact hlt)) := List.getElem?_eq_getElem _
        have hdr : t.reply.facts.drop k = (t.reply.facts[k]'(by rw [HN.out]; exact hlt)) :: t.reply.facts.drop (k + 1) := List.drop_eq_getElem_cons _
        have hfw := HW.out.reply.facts _ (List.getElem_mem (l := t.reply.facts) (n := k) (by rw [HN.out]; exact hlt))
        obtain ⟨b, off, hao, hb, hc, hsub⟩ := (HXX.out ⟨wr, hbel⟩).reply.1.at hkx
        generalize t.reply.facts[k]'(by rw [HN.out]; exact hlt) = x at hc hkx hdr hfw hsub
        have hbw : w.heap.size ≤ wr.heap.size := by have := hbel.size; omega
        obtain ⟨q, hq⟩ : ∃ q, valuesN x.args = q := ⟨_, rfl⟩
        have hqb := hq ▸ hfw.args.cost
        have hcall := lvalues_wf hfw.args hsub hbw q hq
        have hnew : costsF (c + q) (t.reply.facts.drop (k + 1)) = G := by
          have := HCS.out
          rw [hdr] at this
          unfold costsF at this
          rwa [if_pos hc2, hq] at this
        obtain ⟨id, ty, ao, args, cap⟩ := x
        dsimp only at hcall
        obtain ⟨an, han⟩ : ∃ an, args.length = an := ⟨_, rfl⟩
        rw [han] at hcall
        have HCALL := Lib.hid hcall
        have HNEW := Lib.hid hnew
        have c2 : wr.cell? ⟨b, off + k * 3 + 2, none⟩ = some (.slice ao an cap) := han ▸ hc 2 (by decide)
        have w1 : IntKind.i64.wrap (c + q) = c + q := IntWalk.i64_in _ (by omega)
        have i2 : decide (c ≤ 2000) = true := by simpa using hc2
        have HAO := Lib.hid hao
        have hao' : t.reply.fo = some ⟨b, off, none⟩ := hao
        rw [hao] at c15
        clear hc hkx hdr hcall hnew hfw hsub hq han hao hao'
        go_wp2_with fail
        refine HCALL.out.mono ?_
        rintro e w2 ⟨rfl, hb2⟩
        have hb3 := hbel.trans (hb2.mono (Nat.le_trans hsz hbel.size))
        clear c2 hb2 c15
        go_wp2_with fail
        go_roundw
        case rel => exact ⟨k + 1, c + q, by omega, by go_num, by first | rfl | go_num, by omega, by omega, HNEW.out, hb3⟩
        case measure => simp [intOf]; omega
      · have hfin : G = c := by rw [← HCS.out]; exact costsF_big _ _ (by omega)
        have i2 : decide (c ≤ 2000) = false := by simpa using hc2
        have i3 : 2000 < c := by omega
        have HF := Lib.hid hfin
        clear hfin
        have hb4 := hb0.trans (hbel.mono (Nat.le_succ _))
        go_wp2_with fail
        go_ret
        exact ⟨by (rw [HGG.out, HF.out]); first | done | (simp; omega) | rfl, hb4⟩
    · obtain rfl : k = n := by omega
      have hfin : G = c := by
        rw [← HCS.out, List.drop_eq_nil_of_le (by rw [HN.out]; exact Nat.le_refl _)]
        rfl
      have HF := Lib.hid hfin
      clear hfin
      have hb4 := hb0.trans (hbel.mono (Nat.le_succ _))
      go_wp2_with fail
      go_ret
      exact ⟨by (rw [HGG.out, HF.out]); first | done | rfl | simp, hb4⟩
end Go.Proofs.YtnfldkebjeigiaaGreatDoor
/- A thing's cells, one by one, in every world in which its block stays. Conditions: the block lies as it is read. -/
namespace Go.Proofs.YtnfldkebjeigiaaGreatDoor
open Go.RowKit
set_option maxRecDepth 20000
structure ThCells (t : Th) (g : Nat) (w : World) : Prop where
  d0 : w.cell? ⟨g, 0, none⟩ = some (.int .i64 t.number)
  d1 : w.cell? ⟨g, 1, none⟩ = some (.string t.text)
  d2 : w.cell? ⟨g, 2, none⟩ = some (.int .u8 t.value.kind)
  d3 : w.cell? ⟨g, 3, none⟩ = some (.int .i64 t.value.num)
  d4 : w.cell? ⟨g, 4, none⟩ = some (.string t.value.text)
  d5 : w.cell? ⟨g, 5, none⟩ = some (.slice t.vo t.values.length t.vcap)
  d6 : w.cell? ⟨g, 6, none⟩ = some (.int .i64 t.fact.id)
  d7 : w.cell? ⟨g, 7, none⟩ = some (.int .i64 t.fact.ty)
  d8 : w.cell? ⟨g, 8, none⟩ = some (.slice t.fact.ao t.fact.args.length t.fact.cap)
  d9 : w.cell? ⟨g, 9, none⟩ = some (.int .u8 t.command.kind)
  d10 : w.cell? ⟨g, 10, none⟩ = some (.string t.command.text)
  d11 : w.cell? ⟨g, 11, none⟩ = some (.slice t.command.ao t.command.args.length t.command.cap)
  d12 : w.cell? ⟨g, 12, none⟩ = some (.int .i64 t.command.num)
  d13 : w.cell? ⟨g, 13, none⟩ = some (.int .i64 t.reply.err)
  d14 : w.cell? ⟨g, 14, none⟩ = some (.int .i64 t.reply.num)
  d15 : w.cell? ⟨g, 15, none⟩ = some (.slice t.reply.fo t.reply.facts.length t.reply.fcap)
  d16 : w.cell? ⟨g, 16, none⟩ = some (.slice t.reply.so t.reply.said.length t.reply.scap)
  d17 : w.cell? ⟨g, 17, none⟩ = some (.int .i64 t.entry.term)
  d18 : w.cell? ⟨g, 18, none⟩ = some (.int .u8 t.entry.kind)
  d19 : w.cell? ⟨g, 19, none⟩ = some (.int .i64 t.entry.session)
  d20 : w.cell? ⟨g, 20, none⟩ = some (.int .i64 t.entry.seq)
  d21 : w.cell? ⟨g, 21, none⟩ = some (.int .u8 t.entry.ck)
  d22 : w.cell? ⟨g, 22, none⟩ = some (.string t.entry.text)
  d23 : w.cell? ⟨g, 23, none⟩ = some (.slice t.entry.aao t.entry.args.length t.entry.acap)
  d24 : w.cell? ⟨g, 24, none⟩ = some (.int .i64 t.entry.num)
  d25 : w.cell? ⟨g, 25, none⟩ = some (.slice t.entry.vao t.entry.vs.length t.entry.vcap)
theorem th_cells {t : Th} {g : Nat} {w0 w : World} (h : w0.heap[g]? = some (thObj t)) (hb : Below (g + 1) w0 w) : ThCells t g w := by
  have hk : w.heap[g]? = some (thObj t) := (hb.block g (Nat.lt_succ_self _)).trans h
  unfold thObj at hk
  have hc := fun i => Go.Joins.cell_of_block hk i
  exact ⟨hc 0, hc 1, hc 2, hc 3, hc 4, hc 5, hc 6, hc 7, hc 8, hc 9, hc 10, hc 11, hc 12, hc 13, hc 14, hc 15, hc 16, hc 17, hc 18, hc 19, hc 20, hc 21, hc 22, hc 23, hc 24, hc 25⟩
/-- A thing's cells as one array. -/
def thArr (t : Th) : Array Value := (thCells t).toArray
theorem thVal_arr (t : Th) : .agg (thArr t) = thVal t := rfl
theorem thObj_arr (t : Th) : .cells (thArr t) 40 (0, 0) = thObj t := rfl
theorem thArr_size (t : Th) : (thArr t).toList.length = 26 := rfl
theorem range_block {w : World} {g : Nat} {A : Array Value} {T : TypeId} {fz : Nat × Nat} (h : w.heap[g]? = some (.cells A T fz)) : w.rangeAt g 0 A.toList := fun j v hv => by
  rw [Nat.zero_add, Go.Joins.cell_of_block h j, ← Array.getElem?_toList, hv]
theorem range_new {w : World} {g o : Nat} : w.rangeAt g o [] := fun j v hv => by cases j <;> cases hv
theorem range_cons {w : World} {g o : Nat} {v : Value} {vs : List Value} (h : w.cell? ⟨g, o, none⟩ = some v) (h2 : w.rangeAt g (o + 1) vs) : w.rangeAt g o (v :: vs) := fun j u hu => by
  cases j with
  | zero => simp at hu; subst hu; exact h
  | succ j =>
    have := h2 j u (by simpa using hu)
    rw [show o + (j + 1) = o + 1 + j by omega]
    exact this
/-- The parts of a thing, as they are loaded. -/
structure ThRanges (t : Th) (g : Nat) (w : World) : Prop where
  value : w.rangeAt g 2 [.int .u8 t.value.kind, .int .i64 t.value.num, .string t.value.text]
  fact : w.rangeAt g 6 [.int .i64 t.fact.id, .int .i64 t.fact.ty, .slice t.fact.ao t.fact.args.length t.fact.cap]
  command : w.rangeAt g 9 [.int .u8 t.command.kind, .string t.command.text, .slice t.command.ao t.command.args.length t.command.cap, .int .i64 t.command.num]
  reply : w.rangeAt g 13 [.int .i64 t.reply.err, .int .i64 t.reply.num, .slice t.reply.fo t.reply.facts.length t.reply.fcap, .slice t.reply.so t.reply.said.length t.reply.scap]
  entry : w.rangeAt g 17 [.int .i64 t.entry.term, .int .u8 t.entry.kind, .int .i64 t.entry.session, .int .i64 t.entry.seq, .int .u8 t.entry.ck, .string t.entry.text, .slice t.entry.aao t.entry.args.length t.entry.acap, .int .i64 t.entry.num, .slice t.entry.vao t.entry.vs.length t.entry.vcap]
theorem th_ranges {t : Th} {g : Nat} {w : World} (h : ThCells t g w) : ThRanges t g w := by
  obtain ⟨d0, d1, d2, d3, d4, d5, d6, d7, d8, d9, d10, d11, d12, d13, d14, d15, d16, d17, d18, d19, d20, d21, d22, d23, d24, d25⟩ := h
  exact ⟨range_cons d2 (range_cons d3 (range_cons d4 range_new)), range_cons d6 (range_cons d7 (range_cons d8 range_new)), range_cons d9 (range_cons d10 (range_cons d11 (range_cons d12 range_new))), range_cons d13 (range_cons d14 (range_cons d15 (range_cons d16 range_new))),
    range_cons d17 (range_cons d18 (range_cons d19 (range_cons d20 (range_cons d21 (range_cons d22 (range_cons d23 (range_cons d24 (range_cons d25 range_new))))))))⟩
/-- A load of a struct, where the operation is guarded, and wanted. -/
theorem wpList_load_want {P : Program} {ops : Array Oper} {rest : List Oper} {op : Oper} {a : Act} {w : World} {Q : Exit → Act → World → Prop} (hw : Region.wanted op (yielded ops a.tmps) = true) (ty : TypeId) (x : Operand) (ho : op.op = .load ty x)
    (b o : Nat) (hx : a.eval x = .pointer (some ⟨b, o, none⟩)) (cs : List Value) (d : TypeDesc) (hc : w.rangeAt b o cs)
    (hu : P.underlying ty = some d) (hd : d.isRow = true) (hi : (P.info? ty).map (·.size) = some cs.length)
    (h : wpList P ops Q rest (a.put op.dst (.agg cs.toArray)) w) : wpList P ops Q (op :: rest) a w :=
  Go.BigFrame.wpList_want hw fun _ hK => wp_load_mid ty x ho b o hx cs d hc hu hd hi (hK _ _ h)
theorem info_th : (Tryz.prog.info? 40).map (·.size) = some 26 := by kernel_rfl
theorem info_va : (Tryz.prog.info? 24).map (·.size) = some 3 := by kernel_rfl
theorem info_fa : (Tryz.prog.info? 27).map (·.size) = some 3 := by kernel_rfl
theorem info_cm : (Tryz.prog.info? 30).map (·.size) = some 4 := by kernel_rfl
theorem info_rp : (Tryz.prog.info? 34).map (·.size) = some 4 := by kernel_rfl
theorem info_en : (Tryz.prog.info? 38).map (·.size) = some 9 := by kernel_rfl
theorem ThIn.below {t : Th} {g : Nat} {w w' : World} (h : ThIn w g t) (hb : Below g w w') : ThIn w' g t :=
  ⟨h.values.below noSub_kept hb (Nat.le_refl _), h.fact.below noSub_kept hb (Nat.le_refl _), h.command.below noSub_kept hb (Nat.le_refl _), rpSub_kept _ _ _ _ _ h.reply hb (Nat.le_refl _), enSub_kept _ _ _ _ _ h.entry hb (Nat.le_refl _)⟩
theorem ThIn.mono {t : Th} {g g' : Nat} {w : World} (h : ThIn w g t) (hg : g ≤ g') : ThIn w g' t :=
  ⟨h.values.mono noSub_rising hg, h.fact.mono noSub_rising hg, h.command.mono noSub_rising hg, rpSub_rising _ _ _ _ h.reply hg, enSub_rising _ _ _ _ h.entry hg⟩
/-- The rows that a call made, read. -/
theorem VasOwn.vals {w : World} {base n c : Nat} {a : Option Addr} {xs : List Va} (hn : xs.length = n) (h : VasOwn w base a n c xs) : ValsIn w w.heap.size a xs := own_rowsIn vaCells_len hn h (fun _ _ => trivial)
theorem IntsOwn.nums {w : World} {base n c : Nat} {a : Option Addr} {xs : List Int} (hn : xs.length = n) (h : IntsOwn w base a n c xs) : NumsIn w w.heap.size a xs := own_rowsIn iCells_len hn h (fun _ _ => trivial)
theorem FasOwn.fas {w : World} {base n c : Nat} {a : Option Addr} {xs : List Fa} (h : FasOwn w base a n c xs) : FasIn w w.heap.size a xs := own_rowsIn faCells_len h.len h.row (fun f hf => VasOwn.vals rfl (h.own f hf))
/-- Parts that lie anywhere. -/
def Parts (w : World) (ps : List Pt) : Prop := ∀ p ∈ ps, ptSub w w.heap.size p
theorem Parts.add {w w' : World} {ps : List Pt} {a : Option Addr} {c : Nat} {L : List Int} (h : Parts w ps) (ho : w'.ownsRow w.heap.size 5 1 (.slice a L.length c) L.length (L.map bv)) (hb : Below w.heap.size w w') : Parts w' (ps ++ [⟨a, c, L⟩]) := by
  intro p hp
  rcases List.mem_append.1 hp with hp | hp
  · exact ((h p hp).below hb (Nat.le_refl _)).mono hb.size
  · rw [List.mem_singleton.1 hp]
    exact own_bytes' ho
theorem Parts.alloc {w : World} {ps : List Pt} (h : Parts w ps) (o : Obj) : Parts (w.alloc o) ps := by
  intro p hp
  have hb := (Below.refl w.heap.size w).alloc (Nat.le_refl _) o
  exact ((h p hp).below hb (Nat.le_refl _)).mono hb.size
end Go.Proofs.YtnfldkebjeigiaaGreatDoor
