/- What WireBack writes, one behind the other, and what is read of it: plain laws. No program. Conditions: as each says. -/
import Derived.Test.YtnfldkebjeigiaaDoorThc
import Derived.Test.YtnfldkebjeigiaaDoorWStr3
import Derived.Test.YtnfldkebjeigiaaDoorWStr4
namespace Go.Proofs.YtnfldkebjeigiaaDoor
open Go.RowKit
set_option maxRecDepth 20000

theorem BytesWf.app {a b : List Int} (h : BytesWf a) (h2 : BytesWf b) : BytesWf (a ++ b) := fun x hx => (List.mem_append.1 hx).elim (h x) (h2 x)
theorem BytesWf.con {k : Int} {b : List Int} (h : 0 ≤ k ∧ k < 256) (h2 : BytesWf b) : BytesWf (k :: b) := fun x hx => by
  rcases List.mem_cons.1 hx with rfl | hx
  · exact h
  · exact h2 x hx
theorem BytesWf.flat {α : Type} {f : α → List Int} {l : List α} (h : ∀ x ∈ l, BytesWf (f x)) : BytesWf (l.flatMap f) := fun x hx => by
  obtain ⟨y, hy, hx⟩ := List.mem_flatMap.1 hx
  exact h y hy x hx
theorem u8_of {n : Int} (h : (Lit.int .u8 n).wf = true) : 0 ≤ n ∧ n < 256 := by
  have h : (decide (IntKind.u8.min ≤ n) && decide (n ≤ IntKind.u8.max)) = true := h
  have e1 : IntKind.u8.min = 0 := by decide
  have e2 : IntKind.u8.max = 255 := by decide
  rw [e1, e2] at h
  simp at h
  omega
theorem textB_wf (s : ByteArray) : BytesWf (textB s) := (numB_wf 4 _).app (strB_wf s)
theorem valueB_wf (v : Va) (h : VaArg v) : BytesWf (valueB v) := by
  unfold valueB
  refine BytesWf.con (u8_of h.1) ?_
  split
  · exact numB_wf 8 _
  · split
    · exact textB_wf _
    · intro x hx; cases hx
theorem valuesB_wf (l : List Va) (h : ∀ v ∈ l, VaArg v) : BytesWf (valuesB l) := (numB_wf 4 _).app (BytesWf.flat fun v hv => valueB_wf v (h v hv))
theorem factB_wf (f : FaP) (h : ∀ v ∈ f.args, VaArg v) : BytesWf (factB f) := (numB_wf 8 _).app ((numB_wf 8 _).app (valuesB_wf _ h))
theorem commandB_wf (ck : Int) (text : ByteArray) (num : Int) (args : List Va) (hk : (Lit.int .u8 ck).wf = true) (h : ∀ v ∈ args, VaArg v) : BytesWf (commandB ck text num args) :=
  BytesWf.con (u8_of hk) ((textB_wf _).app ((numB_wf 8 _).app (valuesB_wf _ h)))
theorem replyB_wf (r : RpP) (h : ∀ f ∈ r.facts, ∀ v ∈ f.args, VaArg v) (h2 : ∀ v ∈ r.said, VaArg v) : BytesWf (replyB r) :=
  (numB_wf 8 _).app ((numB_wf 8 _).app ((numB_wf 4 _).app ((BytesWf.flat fun f hf => factB_wf f (h f hf)).app (valuesB_wf _ h2))))
theorem entryB_wf (e : EnP) (h0 : (Lit.int .u8 e.kind).wf = true) (h1 : (Lit.int .u8 e.ck).wf = true) (h : ∀ v ∈ e.args, VaArg v) : BytesWf (entryB e) :=
  (numB_wf 8 _).app (BytesWf.con (u8_of h0) ((numB_wf 8 _).app ((numB_wf 8 _).app ((commandB_wf _ _ _ _ h1 h).app ((numB_wf 4 _).app (BytesWf.flat fun _ _ => numB_wf 8 _))))))
/-- A reply's bytes, as the writer writes them. -/
theorem replyB_rp (r : Rp) : replyB r.plain = numB 8 r.err ++ (numB 8 r.num ++ (numB 4 r.facts.length ++ ((r.facts.flatMap fun f => factB f.plain) ++ valuesB r.said))) := by
  unfold replyB Rp.plain
  dsimp only
  rw [List.length_map, List.flatMap_map]
/-- A thing that is wholly said, and not great. -/
structure ThBack (t : Th) : Prop where
  small : ThSmall t
  wf : ThWf t
  value : bareB t.value = true
  values : t.values.all bareB = true
  fact : t.fact.args.all bareB = true
  command : t.command.args.all bareB = true
  said : t.reply.said.all bareB = true
  entry : t.entry.args.all bareB = true
  facts : (t.reply.facts.all fun f => f.args.all bareB) = true
structure Back (t : Th) (L1 L2 L3 L4 L5 L6 L7 L8 : List Int) : Prop where
  e1 : entryB t.entry.plain = L1
  e2 : numB 8 t.number = L2
  e3 : textB t.text = L3
  e4 : replyB t.reply.plain = L4
  e5 : valueB t.value = L5
  e6 : valuesB t.values = L6
  e7 : factB t.fact.plain = L7
  e8 : commandB t.command.kind t.command.text t.command.num t.command.args = L8
  wf1 : BytesWf L1
  wf2 : BytesWf L2
  wf3 : BytesWf L3
  wf4 : BytesWf L4
  wf5 : BytesWf L5
  wf6 : BytesWf L6
  wf7 : BytesWf L7
  wf8 : BytesWf L8
  len : L1.length + L2.length + L3.length + L4.length + L5.length + L6.length + L7.length + L8.length ≤ 1000000000
  ne : (L8 ++ []).isEmpty = false
  r1 : entryS false (L1 ++ (L2 ++ (L3 ++ (L4 ++ (L5 ++ (L6 ++ (L7 ++ (L8 ++ [])))))))) = (t.entry.plain, false, L2 ++ (L3 ++ (L4 ++ (L5 ++ (L6 ++ (L7 ++ (L8 ++ [])))))))
  r2 : numS false (L2 ++ (L3 ++ (L4 ++ (L5 ++ (L6 ++ (L7 ++ (L8 ++ []))))))) = (t.number, false, L3 ++ (L4 ++ (L5 ++ (L6 ++ (L7 ++ (L8 ++ []))))))
  r3 : textS false (L3 ++ (L4 ++ (L5 ++ (L6 ++ (L7 ++ (L8 ++ [])))))) = (t.text, false, L4 ++ (L5 ++ (L6 ++ (L7 ++ (L8 ++ [])))))
  r4 : replyS false (L4 ++ (L5 ++ (L6 ++ (L7 ++ (L8 ++ []))))) = (t.reply.plain, false, L5 ++ (L6 ++ (L7 ++ (L8 ++ []))))
  r5 : valueS false (L5 ++ (L6 ++ (L7 ++ (L8 ++ [])))) = (t.value, false, L6 ++ (L7 ++ (L8 ++ [])))
  r6 : valuesS false (L6 ++ (L7 ++ (L8 ++ []))) = (t.values, false, L7 ++ (L8 ++ []))
  r7 : factS false (L7 ++ (L8 ++ [])) = (t.fact.plain, false, L8 ++ [])
  r8 : commandS false (L8 ++ []) = (t.command.plain, false, [])
theorem back_of {t : Th} (h : ThBack t) : ∃ L1 L2 L3 L4 L5 L6 L7 L8, Back t L1 L2 L3 L4 L5 L6 L7 L8 := by
  have hs := h.small
  have hw := h.wf
  have fv : VaFit t.value := ⟨n64_of hw.value.2.1, by have := hs.value; omega⟩
  have fvs := hs.values.fit h.values hw.values.all
  have ff : FaFit t.fact.plain := ⟨n64_of hw.fact.id, n64_of hw.fact.ty, hs.fact.fit h.fact hw.fact.args.all⟩
  have fc : CmFit t.command.plain := ⟨by have := hs.ctext; exact Nat.le_trans this (by decide), n64_of hw.command.num, hs.command.fit h.command hw.command.args.all⟩
  have fr : RpFit t.reply.plain := by
    refine ⟨n64_of hw.reply.err, n64_of hw.reply.num, ⟨?_, ?_⟩, hs.said.fit h.said hw.reply.said.all⟩
    · have := hs.facts.1
      show (t.reply.facts.map Fa.plain).length ≤ 65536
      rw [List.length_map]; omega
    · intro f hf
      obtain ⟨g, hg, rfl⟩ := List.mem_map.1 hf
      have hgw := hw.reply.facts g hg
      exact ⟨n64_of hgw.id, n64_of hgw.ty, (hs.facts.2 g hg).fit (List.all_eq_true.1 h.facts g hg) hgw.args.all⟩
  have fe : EnFit t.entry.plain := ⟨n64_of hw.entry.term, n64_of hw.entry.session, n64_of hw.entry.seq, ⟨by have := hs.etext; exact Nat.le_trans this (by decide), n64_of hw.entry.num, hs.eargs.fit h.entry hw.entry.args⟩, by have := hs.voters; exact Nat.le_trans this (by decide), fun v hv => n64_of (hw.entry.vs v hv)⟩
  have l1 : (entryB t.entry.plain).length ≤ 200000 := by
    have h1 := hs.etext
    have h2 := hs.eargs.2.2
    have h3 := hs.voters
    unfold entryB En.plain
    dsimp only
    simp only [List.length_append, List.length_cons, numB_len, commandB_len, flatN_len]
    omega
  have l4 : (replyB t.reply.plain).length ≤ 200000000 := by
    have h1 := hs.facts.1
    have h2 := hs.said.2.2
    have h3 := factsB_small (t.reply.facts.map Fa.plain) (fun f hf => by obtain ⟨g, hg, rfl⟩ := List.mem_map.1 hf; exact hs.facts.2 g hg)
    rw [List.length_map] at h3
    unfold replyB Rp.plain
    dsimp only
    simp only [List.length_append, numB_len]
    omega
  have l5 := valueB_len t.value
  have l5' := hs.value
  have l6 := hs.values.2.2
  have l7 : (factB t.fact.plain).length ≤ 60020 := factB_small _ hs.fact
  have l8 := commandB_len t.command.kind t.command.text t.command.num t.command.args
  have l8' := hs.command.2.2
  have l8'' := hs.ctext
  have l3 := textB_len t.text
  have l3' := hs.text
  have l2 := numB_len 8 t.number
  refine ⟨_, _, _, _, _, _, _, _, rfl, rfl, rfl, rfl, rfl, rfl, rfl, rfl, entryB_wf _ hw.entry.kind hw.entry.ck hw.entry.args, numB_wf 8 _, textB_wf _, replyB_wf _ ?_ hw.reply.said.all, valueB_wf _ hw.value, valuesB_wf _ hw.values.all, factB_wf _ hw.fact.args.all, commandB_wf _ _ _ _ hw.command.kind hw.command.args.all, ?_, ?_, entryS_back _ _ fe, numS_back _ _ (n64_of hw.number), textS_back _ _ (by omega), replyS_back _ _ fr, valueS_back _ _ (bareB_true _ h.value) fv, valuesS_back _ _ fvs, factS_back _ _ ff, commandS_back t.command.plain [] fc⟩
  · intro f hf
    obtain ⟨g, hg, rfl⟩ := List.mem_map.1 hf
    exact (hw.reply.facts g hg).args.all
  · omega
  · rfl
theorem Back.parts_wf {t : Th} {L1 L2 L3 L4 L5 L6 L7 L8 : List Int} (h : Back t L1 L2 L3 L4 L5 L6 L7 L8) {a1 a2 a3 a4 a5 a6 a7 a8 : Option Addr} {q1 q2 q3 q4 q5 q6 q7 q8 : Nat} :
    ∀ p ∈ ([⟨a1, q1, L1⟩, ⟨a2, q2, L2⟩, ⟨a3, q3, L3⟩, ⟨a4, q4, L4⟩, ⟨a5, q5, L5⟩, ⟨a6, q6, L6⟩, ⟨a7, q7, L7⟩, ⟨a8, q8, L8⟩] : List Pt), BytesWf p.data := by
  intro p hp
  simp only [List.mem_cons, List.not_mem_nil, or_false] at hp
  rcases hp with rfl | rfl | rfl | rfl | rfl | rfl | rfl | rfl
  · exact h.wf1
  · exact h.wf2
  · exact h.wf3
  · exact h.wf4
  · exact h.wf5
  · exact h.wf6
  · exact h.wf7
  · exact h.wf8
/-- What is left, form by form. -/
structure Chain (t : Th) (W0 W1 W2 W3 W4 W5 W6 W7 : List Int) : Prop where
  r1 : entryS false W0 = (t.entry.plain, false, W1)
  r2 : numS false W1 = (t.number, false, W2)
  r3 : textS false W2 = (t.text, false, W3)
  r4 : replyS false W3 = (t.reply.plain, false, W4)
  r5 : valueS false W4 = (t.value, false, W5)
  r6 : valuesS false W5 = (t.values, false, W6)
  r7 : factS false W6 = (t.fact.plain, false, W7)
  r8 : commandS false W7 = (t.command.plain, false, [])
  f0 : BytesWf W0
  f1 : BytesWf W1
  f2 : BytesWf W2
  f3 : BytesWf W3
  f4 : BytesWf W4
  f5 : BytesWf W5
  f6 : BytesWf W6
  f7 : BytesWf W7
  l0 : W0.length ≤ 140737488351232
  l1 : W1.length ≤ 140737488351232
  l2 : W2.length ≤ 140737488351232
  l3 : W3.length ≤ 140737488351232
  l4 : W4.length ≤ 140737488351232
  l5 : W5.length ≤ 140737488351232
  l6 : W6.length ≤ 140737488351232
  l7 : W7.length ≤ 140737488351232
  ne : W7.isEmpty = false
theorem Back.chain {t : Th} {L1 L2 L3 L4 L5 L6 L7 L8 : List Int} (h : Back t L1 L2 L3 L4 L5 L6 L7 L8) :
    ∃ W0 W1 W2 W3 W4 W5 W6 W7, L1 ++ (L2 ++ (L3 ++ (L4 ++ (L5 ++ (L6 ++ (L7 ++ (L8 ++ []))))))) = W0 ∧ Chain t W0 W1 W2 W3 W4 W5 W6 W7 := by
  have hl := h.len
  have w7 : BytesWf (L8 ++ []) := h.wf8.app (by intro x hx; cases hx)
  have w6 := h.wf7.app w7
  have w5 := h.wf6.app w6
  have w4 := h.wf5.app w5
  have w3 := h.wf4.app w4
  have w2 := h.wf3.app w3
  have w1 := h.wf2.app w2
  have w0 := h.wf1.app w1
  refine ⟨_, _, _, _, _, _, _, _, rfl, h.r1, h.r2, h.r3, h.r4, h.r5, h.r6, h.r7, h.r8, w0, w1, w2, w3, w4, w5, w6, w7, ?_, ?_, ?_, ?_, ?_, ?_, ?_, ?_, h.ne⟩ <;> (simp only [List.length_append, List.length_nil]; omega)
end Go.Proofs.YtnfldkebjeigiaaDoor
