/- What WireBack writes, one behind the other, and what is read of it: plain laws. No program. Conditions: as each says. -/
import Derived.Test.YtiggpcmikhojmaaGreatDoorGWireNumbers8
import Derived.Test.YtiggpcmikhojmaaGreatDoorGWireNumbers20
import Derived.Test.YtiggpcmikhojmaaGreatDoorGWireNumbers17
set_option linter.unusedVariables false
namespace Go.Proofs.YtiggpcmikhojmaaGreatDoor
open Go.RowKit
set_option maxRecDepth 20000
theorem BytesWf.app {a b : List Int} (h : BytesWf a) (h2 : BytesWf b) : BytesWf (a ++ b) := fun x hx => (List.mem_append.1 hx).elim (h x) (h2 x)
theorem BytesWf.con {k : Int} {b : List Int} (h : 0 ≤ k ∧ k < 256) (h2 : BytesWf b) : BytesWf (k :: b) := fun x hx => by
  rcases List.mem_cons.1 hx with rfl | hx
  · exact h
  · exact h2 x hx
theorem BytesWf.flat {α : Type} {f : α → List Int} {l : List α} (h : ∀ x ∈ l, BytesWf (f x)) : BytesWf (l.flatMap f) := fun x hx => by
  obtain ⟨y, hy, hx⟩ := List.mem_flatMap.1 hx
  exact h y hy x hx
theorem u8_of {n : Int} (h : (Lit.int .u8 n).wf = true) : 0 ≤ n ∧ n < 256 := by
  have h : (decide (IntKind.u8.min ≤ n) && decide (n ≤ IntKind.u8.max)) = true := h
  have e1 : IntKind.u8.min = 0 := by decide
  have e2 : IntKind.u8.max = 255 := by decide
  rw [e1, e2] at h
  simp at h
  omega
theorem textB_wf (s : ByteArray) : BytesWf (textB s) := (numB_wf 4 _).app (strB_wf s)
theorem valueB_wf (v : Va) (h : VaArg v) : BytesWf (valueB v) := by
  unfold valueB
  refine BytesWf.con (u8_of h.1) ?_
  split
  · exact numB_wf 8 _
  · split
    · exact textB_wf _
    · intro x hx; cases hx
theorem valuesB_wf (l : List Va) (h : ∀ v ∈ l, VaArg v) : BytesWf (valuesB l) := (numB_wf 4 _).app (BytesWf.flat fun v hv => valueB_wf v (h v hv))
theorem factB_wf (f : FaP) (h : ∀ v ∈ f.args, VaArg v) : BytesWf (factB f) := (numB_wf 8 _).app ((numB_wf 8 _).app (valuesB_wf _ h))
theorem commandB_wf (ck : Int) (text : ByteArray) (num : Int) (args : List Va) (hk : (Lit.int .u8 ck).wf = true) (h : ∀ v ∈ args, VaArg v) : BytesWf (commandB ck text num args) :=
  BytesWf.con (u8_of hk) ((textB_wf _).app ((numB_wf 8 _).app (valuesB_wf _ h)))
theorem replyB_wf (r : RpP) (h : ∀ f ∈ r.facts, ∀ v ∈ f.args, VaArg v) (h2 : ∀ v ∈ r.said, VaArg v) : BytesWf (replyB r) :=
  (numB_wf 8 _).app ((numB_wf 8 _).app ((numB_wf 4 _).app ((BytesWf.flat fun f hf => factB_wf f (h f hf)).app (valuesB_wf _ h2))))
theorem entryB_wf (e : EnP) (h0 : (Lit.int .u8 e.kind).wf = true) (h1 : (Lit.int .u8 e.ck).wf = true) (h : ∀ v ∈ e.args, VaArg v) : BytesWf (entryB e) :=
  (numB_wf 8 _).app (BytesWf.con (u8_of h0) ((numB_wf 8 _).app ((numB_wf 8 _).app ((commandB_wf _ _ _ _ h1 h).app ((numB_wf 4 _).app (BytesWf.flat fun _ _ => numB_wf 8 _))))))
/-- A reply's bytes, as the writer writes them. -/
theorem replyB_rp (r : Rp) : replyB r.plain = numB 8 r.err ++ (numB 8 r.num ++ (numB 4 r.facts.length ++ ((r.facts.flatMap fun f => factB f.plain) ++ valuesB r.said))) := by
  unfold replyB Rp.plain
  dsimp only
  rw [List.length_map, List.flatMap_map]
/-- A thing that is wholly said, and not great. -/
structure ThBack (t : Th) : Prop where
  small : ThSmall t
  wf : ThWf t
  value : bareB t.value = true
  values : t.values.all bareB = true
  fact : t.fact.args.all bareB = true
  command : t.command.args.all bareB = true
  said : t.reply.said.all bareB = true
  entry : t.entry.args.all bareB = true
  facts : (t.reply.facts.all fun f => f.args.all bareB) = true
structure Back (t : Th) (L1 L2 L3 L4 L5 L6 L7 L8 : List Int) : Prop where
  e1 : entryB t.entry.plain = L1
  e2 : numB 8 t.number = L2
  e3 : textB t.text = L3
  e4 : replyB t.reply.plain = L4
  e5 : valueB t.value = L5
  e6 : valuesB t.values = L6
  e7 : factB t.fact.plain = L7
  e8 : commandB t.command.kind t.command.text t.command.num t.command.args = L8
  wf1 : BytesWf L1
  wf2 : BytesWf L2
  wf3 : BytesWf L3
  wf4 : BytesWf L4
  wf5 : BytesWf L5
  wf6 : BytesWf L6
  wf7 : BytesWf L7
  wf8 : BytesWf L8
  len : L1.length + L2.length + L3.length + L4.length + L5.length + L6.length + L7.length + L8.length ≤ 1000000000
  ne : (L8 ++ []).isEmpty = false
  r1 : entryS false (L1 ++ (L2 ++ (L3 ++ (L4 ++ (L5 ++ (L6 ++ (L7 ++ (L8 ++ [])))))))) = (t.entry.plain, false, L2 ++ (L3 ++ (L4 ++ (L5 ++ (L6 ++ (L7 ++ (L8 ++ [])))))))
  r2 : numS false (L2 ++ (L3 ++ (L4 ++ (L5 ++ (L6 ++ (L7 ++ (L8 ++ []))))))) = (t.number, false, L3 ++ (L4 ++ (L5 ++ (L6 ++ (L7 ++ (L8 ++ []))))))
  r3 : textS false (L3 ++ (L4 ++ (L5 ++ (L6 ++ (L7 ++ (L8 ++ [])))))) = (t.text, false, L4 ++ (L5 ++ (L6 ++ (L7 ++ (L8 ++ [])))))
  r4 : replyS false (L4 ++ (L5 ++ (L6 ++ (L7 ++ (L8 ++ []))))) = (t.reply.plain, false, L5 ++ (L6 ++ (L7 ++ (L8 ++ []))))
  r5 : valueS false (L5 ++ (L6 ++ (L7 ++ (L8 ++ [])))) = (t.value, false, L6 ++ (L7 ++ (L8 ++ [])))
  r6 : valuesS false (L6 ++ (L7 ++ (L8 ++ []))) = (t.values, false, L7 ++ (L8 ++ []))
  r7 : factS false (L7 ++ (L8 ++ [])) = (t.fact.plain, false, L8 ++ [])
  r8 : commandS false (L8 ++ []) = (t.command.plain, false, [])
theorem back_of {t : Th} (h : ThBack t) : ∃ L1 L2 L3 L4 L5 L6 L7 L8, Back t L1 L2 L3 L4 L5 L6 L7 L8 := by
  have hs := h.small
  have hw := h.wf
  have fv : VaFit t.value := ⟨n64_of hw.value.2.1, by have := hs.value; omega⟩
  have fvs := hs.values.fit h.values hw.values.all
  have ff : FaFit t.fact.plain := ⟨n64_of hw.fact.id, n64_of hw.fact.ty, hs.fact.fit h.fact hw.fact.args.all⟩
  have fc : CmFit t.command.plain := ⟨by have := hs.ctext; exact Nat.le_trans this (by decide), n64_of hw.command.num, hs.command.fit h.command hw.command.args.all⟩
  have fr : RpFit t.reply.plain := by
    refine ⟨n64_of hw.reply.err, n64_of hw.reply.num, ⟨?_, ?_⟩, hs.said.fit h.said hw.reply.said.all⟩
    · have := hs.facts.1
      show (t.reply.facts.map Fa.plain).length ≤ 65536
      rw [List.length_map]; omega
    · intro f hf
      obtain ⟨g, hg, rfl⟩ := List.mem_map.1 hf
      have hgw := hw.reply.facts g hg
      exact ⟨n64_of hgw.id, n64_of hgw.ty, (hs.facts.2 g hg).fit (List.all_eq_true.1 h.facts g hg) hgw.args.all⟩
  have fe : EnFit t.entry.plain := ⟨n64_of hw.entry.term, n64_of hw.entry.session, n64_of hw.entry.seq, ⟨by have := hs.etext; exact Nat.le_trans this (by decide), n64_of hw.entry.num, hs.eargs.fit h.entry hw.entry.args⟩, by have := hs.voters; exact Nat.le_trans this (by decide), fun v hv => n64_of (hw.entry.vs v hv)⟩
  have l1 : (entryB t.entry.plain).length ≤ 200000 := by
    have h1 := hs.etext
    have h2 := hs.eargs.2.2
    have h3 := hs.voters
    unfold entryB En.plain
    dsimp only
    simp only [List.length_append, List.length_cons, numB_len, commandB_len, flatN_len]
    omega
  have l4 : (replyB t.reply.plain).length ≤ 200000000 := by
    have h1 := hs.facts.1
    have h2 := hs.said.2.2
    have h3 := factsB_small (t.reply.facts.map Fa.plain) (fun f hf => by obtain ⟨g, hg, rfl⟩ := List.mem_map.1 hf; exact hs.facts.2 g hg)
    rw [List.length_map] at h3
    unfold replyB Rp.plain
    dsimp only
    simp only [List.length_append, numB_len]
    omega
  have l5 := valueB_len t.value
  have l5' := hs.value
  have l6 := hs.values.2.2
  have l7 : (factB t.fact.plain).length ≤ 60020 := factB_small _ hs.fact
  have l8 := commandB_len t.command.kind t.command.text t.command.num t.command.args
  have l8' := hs.command.2.2
  have l8'' := hs.ctext
  have l3 := textB_len t.text
  have l3' := hs.text
  have l2 := numB_len 8 t.number
  refine ⟨_, _, _, _, _, _, _, _, rfl, rfl, rfl, rfl, rfl, rfl, rfl, rfl, entryB_wf _ hw.entry.kind hw.entry.ck hw.entry.args, numB_wf 8 _, textB_wf _, replyB_wf _ ?_ hw.reply.said.all, valueB_wf _ hw.value, valuesB_wf _ hw.values.all, factB_wf _ hw.fact.args.all, commandB_wf _ _ _ _ hw.command.kind hw.command.args.all, ?_, ?_, entryS_back _ _ fe, numS_back _ _ (n64_of hw.number), textS_back _ _ (by omega), replyS_back _ _ fr, valueS_back _ _ (bareB_true _ h.value) fv, valuesS_back _ _ fvs, factS_back _ _ ff, commandS_back t.command.plain [] fc⟩
  · intro f hf
    obtain ⟨g, hg, rfl⟩ := List.mem_map.1 hf
    exact (hw.reply.facts g hg).args.all
  · omega
  · rfl
theorem Back.parts_wf {t : Th} {L1 L2 L3 L4 L5 L6 L7 L8 : List Int} (h : Back t L1 L2 L3 L4 L5 L6 L7 L8) {a1 a2 a3 a4 a5 a6 a7 a8 : Option Addr} {q1 q2 q3 q4 q5 q6 q7 q8 : Nat} :
    ∀ p ∈ ([⟨a1, q1, L1⟩, ⟨a2, q2, L2⟩, ⟨a3, q3, L3⟩, ⟨a4, q4, L4⟩, ⟨a5, q5, L5⟩, ⟨a6, q6, L6⟩, ⟨a7, q7, L7⟩, ⟨a8, q8, L8⟩] : List Pt), BytesWf p.data := by
  intro p hp
  simp only [List.mem_cons, List.not_mem_nil, or_false] at hp
  rcases hp with rfl | rfl | rfl | rfl | rfl | rfl | rfl | rfl
  · exact h.wf1
  · exact h.wf2
  · exact h.wf3
  · exact h.wf4
  · exact h.wf5
  · exact h.wf6
  · exact h.wf7
  · exact h.wf8
/-- What is left, form by form. -/
structure Chain (t : Th) (W0 W1 W2 W3 W4 W5 W6 W7 : List Int) : Prop where
  r1 : entryS false W0 = (t.entry.plain, false, W1)
  r2 : numS false W1 = (t.number, false, W2)
  r3 : textS false W2 = (t.text, false, W3)
  r4 : replyS false W3 = (t.reply.plain, false, W4)
  r5 : valueS false W4 = (t.value, false, W5)
  r6 : valuesS false W5 = (t.values, false, W6)
  r7 : factS false W6 = (t.fact.plain, false, W7)
  r8 : commandS false W7 = (t.command.plain, false, [])
  f0 : BytesWf W0
  f1 : BytesWf W1
  f2 : BytesWf W2
  f3 : BytesWf W3
  f4 : BytesWf W4
  f5 : BytesWf W5
  f6 : BytesWf W6
  f7 : BytesWf W7
  l0 : W0.length ≤ 140737488351232
  l1 : W1.length ≤ 140737488351232
  l2 : W2.length ≤ 140737488351232
  l3 : W3.length ≤ 140737488351232
  l4 : W4.length ≤ 140737488351232
  l5 : W5.length ≤ 140737488351232
  l6 : W6.length ≤ 140737488351232
  l7 : W7.length ≤ 140737488351232
  ne : W7.isEmpty = false
theorem Back.chain {t : Th} {L1 L2 L3 L4 L5 L6 L7 L8 : List Int} (h : Back t L1 L2 L3 L4 L5 L6 L7 L8) :
    ∃ W0 W1 W2 W3 W4 W5 W6 W7, L1 ++ (L2 ++ (L3 ++ (L4 ++ (L5 ++ (L6 ++ (L7 ++ (L8 ++ []))))))) = W0 ∧ Chain t W0 W1 W2 W3 W4 W5 W6 W7 := by
  have hl := h.len
  have w7 : BytesWf (L8 ++ []) := h.wf8.app (by intro x hx; cases hx)
  have w6 := h.wf7.app w7
  have w5 := h.wf6.app w6
  have w4 := h.wf5.app w5
  have w3 := h.wf4.app w4
  have w2 := h.wf3.app w3
  have w1 := h.wf2.app w2
  have w0 := h.wf1.app w1
  refine ⟨_, _, _, _, _, _, _, _, rfl, h.r1, h.r2, h.r3, h.r4, h.r5, h.r6, h.r7, h.r8, w0, w1, w2, w3, w4, w5, w6, w7, ?_, ?_, ?_, ?_, ?_, ?_, ?_, ?_, h.ne⟩ <;> (simp only [List.length_append, List.length_nil]; omega)
end Go.Proofs.YtiggpcmikhojmaaGreatDoor
/- The reader of the document's answer: Fact. Conditions: its bytes lie as their reading says. -/
namespace Go.Proofs.YtiggpcmikhojmaaGreatDoor
open Go.RowKit
set_option maxRecDepth 20000
set_option maxHeartbeats 8000000 in
theorem rrFact_any (M db : Nat) (bad : Bool) (left : List Int) (r : FaP × Bool × List Int) (w : World) (hr : factS bad left = r) (h : Ref w M db bad left) (hw : BytesWf left) :
    Calls Tryz.prog 89 #[.pointer (some ⟨db, 0, none⟩)] w fun e w' => ∃ f : Fa, f.plain = r.1 ∧ e = .returned (faVal f) ∧ (VasOwn w' w.heap.size f.ao f.args.length f.cap f.args) ∧ Ref w' M db r.2.1 r.2.2 ∧ Only db w w' := by
  have hdb := h.lt
  have hM := h.le
  obtain ⟨⟨x0, b_0, l_0⟩, h_0⟩ : ∃ r, numS bad left = r := ⟨_, rfl⟩
  have q_0 := numS_shrinks bad left hw
  rw [h_0] at q_0
  dsimp only at q_0
  obtain ⟨⟨x1, b_1, l_1⟩, h_1⟩ : ∃ r, numS b_0 l_0 = r := ⟨_, rfl⟩
  have q_1 := numS_shrinks b_0 l_0 q_0.1
  rw [h_1] at q_1
  dsimp only at q_1
  obtain ⟨⟨x2, b_2, l_2⟩, h_2⟩ : ∃ r, valuesS b_1 l_1 = r := ⟨_, rfl⟩
  have q_2 := valuesS_shrinks b_1 l_1 q_1.1
  rw [h_2] at q_2
  dsimp only at q_2
  have HS := Lib.hid (show (if b_2 = true then ⟨0, 0, []⟩ else ⟨x0, x1, x2⟩, b_2, l_2) = r by rw [← hr]; unfold factS; dsimp only; simp only [h_0, h_1, h_2])
  have HH0 := Lib.hid h_0
  have HW0 := Lib.hid q_0.1
  have HH1 := Lib.hid h_1
  have HW1 := Lib.hid q_1.1
  have HH2 := Lib.hid h_2
  have HW2 := Lib.hid q_2.1
  have HW := Lib.hid hw
  clear hr h_0 q_0 h_1 q_1 h_2 q_2
  have hA := (Below.refl w.heap.size w).alloc (Nat.le_refl _) (.cells #[.int .i64 0, .int .i64 0, .slice none 0 0] 27)
  have hA2 := (Below.refl (w.alloc (.cells #[.int .i64 0, .int .i64 0, .slice none 0 0] 27)).heap.size (w.alloc (.cells #[.int .i64 0, .int .i64 0, .slice none 0 0] 27))).alloc (Nat.le_refl _) (.cells #[.int .i64 0, .int .i64 0, .slice none 0 0] 27)
  have R0 := Lib.hid ((h.below hA).below hA2)
  have O0 := Lib.hid (((Only.refl db w).alloc (.cells #[.int .i64 0, .int .i64 0, .slice none 0 0] 27)).alloc (.cells #[.int .i64 0, .int .i64 0, .slice none 0 0] 27))
  have Z0 := Lib.hid ((hA2.block w.heap.size (by simp)).trans (heap_alloc_new w (.cells #[.int .i64 0, .int .i64 0, .slice none 0 0] 27)))
  have hG0 := heap_alloc_new (w.alloc (.cells #[.int .i64 0, .int .i64 0, .slice none 0 0] 27)) (.cells #[.int .i64 0, .int .i64 0, .slice none 0 0] 27)
  rw [World.size_alloc] at hG0
  have G0 := Lib.hid hG0
  have hz0 : w.heap.size + 2 ≤ ((w.alloc (.cells #[.int .i64 0, .int .i64 0, .slice none 0 0] 27)).alloc (.cells #[.int .i64 0, .int .i64 0, .slice none 0 0] 27)).heap.size := by simp
  clear h hA hA2 hG0
  go_enter Tryz.func89, Tryz.ntmps89
  go_wp2_with fail
  generalize (w.alloc (.cells #[.int .i64 0, .int .i64 0, .slice none 0 0] 27)).alloc (.cells #[.int .i64 0, .int .i64 0, .slice none 0 0] 27) = w0 at R0 O0 Z0 G0 hz0 ⊢
  refine (rnum_any M db bad left x0 b_0 l_0 w0 HH0.out R0.out HW.out).mono ?_
  rintro e w1 ⟨rfl, hr, ho⟩
  have R1 := Lib.hid hr
  have O1 := Lib.hid (O0.out.trans ho)
  have hs1 := ho.1
  have hz1 : w.heap.size + 2 ≤ w1.heap.size := Nat.le_trans hz0 hs1
  have Z1 := Lib.hid ((ho.2 w.heap.size (by omega) (by omega)).trans Z0.out)
  have G1 := Lib.hid ((ho.2 (w.heap.size + 1) (by omega) (by omega)).trans G0.out)
  clear hr ho R0 O0 Z0 G0 
  have f0 : w1.frozen? ⟨w.heap.size + 1, 0, none⟩ = false := Go.Joins.unfrozen_of_block G1.out 0
  have e0 : w1.cell? ⟨w.heap.size + 1, 0, none⟩ = some (.int .i64 0) := Go.Joins.cell_of_block G1.out 0
  go_wp2_with fail
  have q : (w1.setCell ⟨w.heap.size + 1, 0, none⟩ (.int .i64 x0)).heap[w.heap.size + 1]? = some (.cells #[.int .i64 x0, .int .i64 0, .slice none 0 0] 27 (0, 0)) := (Go.Joins.block_setCell (i := 0) G1.out (.int .i64 x0))
  have r_ : Ref (w1.setCell ⟨w.heap.size + 1, 0, none⟩ (.int .i64 x0)) M db b_0 l_0 := (R1.out.other (g := w.heap.size + 1) (i := 0) (by omega) (by omega) (.int .i64 x0))
  have o_ : Only db w (w1.setCell ⟨w.heap.size + 1, 0, none⟩ (.int .i64 x0)) := (O1.out.new (g := w.heap.size + 1) (i := 0) (by omega) (.int .i64 x0))
  have z_ : (w1.setCell ⟨w.heap.size + 1, 0, none⟩ (.int .i64 x0)).heap[w.heap.size]? = some (.cells #[.int .i64 0, .int .i64 0, .slice none 0 0] 27 (0, 0)) := ((heap_setCell_other _ ⟨w.heap.size + 1, 0, none⟩ _ (.int .i64 x0) (show w.heap.size ≠ w.heap.size + 1 by omega)).trans Z1.out)
  have hz_ : w.heap.size + 2 ≤ (w1.setCell ⟨w.heap.size + 1, 0, none⟩ (.int .i64 x0)).heap.size := by simpa using hz1
  generalize (w1.setCell ⟨w.heap.size + 1, 0, none⟩ (.int .i64 x0)) = w2 at q r_ o_ z_ hz_  ⊢
  have G2 := Lib.hid q
  have R2 := Lib.hid r_
  have O2 := Lib.hid o_
  have Z2 := Lib.hid z_
  have hz2 : w.heap.size + 2 ≤ w2.heap.size := hz_
  clear q r_ o_ z_ hz_  f0 e0 R1 O1 Z1 G1 
  refine (rnum_any M db b_0 l_0 x1 b_1 l_1 w2 HH1.out R2.out HW0.out).mono ?_
  rintro e w3 ⟨rfl, hr, ho⟩
  have R3 := Lib.hid hr
  have O3 := Lib.hid (O2.out.trans ho)
  have hs3 := ho.1
  have hz3 : w.heap.size + 2 ≤ w3.heap.size := Nat.le_trans hz2 hs3
  have Z3 := Lib.hid ((ho.2 w.heap.size (by omega) (by omega)).trans Z2.out)
  have G3 := Lib.hid ((ho.2 (w.heap.size + 1) (by omega) (by omega)).trans G2.out)
  clear hr ho R2 O2 Z2 G2 
  have f1 : w3.frozen? ⟨w.heap.size + 1, 1, none⟩ = false := Go.Joins.unfrozen_of_block G3.out 1
  have e1 : w3.cell? ⟨w.heap.size + 1, 1, none⟩ = some (.int .i64 0) := Go.Joins.cell_of_block G3.out 1
  go_wp2_with fail
  have q : (w3.setCell ⟨w.heap.size + 1, 1, none⟩ (.int .i64 x1)).heap[w.heap.size + 1]? = some (.cells #[.int .i64 x0, .int .i64 x1, .slice none 0 0] 27 (0, 0)) := (Go.Joins.block_setCell (i := 1) G3.out (.int .i64 x1))
  have r_ : Ref (w3.setCell ⟨w.heap.size + 1, 1, none⟩ (.int .i64 x1)) M db b_1 l_1 := (R3.out.other (g := w.heap.size + 1) (i := 1) (by omega) (by omega) (.int .i64 x1))
  have o_ : Only db w (w3.setCell ⟨w.heap.size + 1, 1, none⟩ (.int .i64 x1)) := (O3.out.new (g := w.heap.size + 1) (i := 1) (by omega) (.int .i64 x1))
  have z_ : (w3.setCell ⟨w.heap.size + 1, 1, none⟩ (.int .i64 x1)).heap[w.heap.size]? = some (.cells #[.int .i64 0, .int .i64 0, .slice none 0 0] 27 (0, 0)) := ((heap_setCell_other _ ⟨w.heap.size + 1, 1, none⟩ _ (.int .i64 x1) (show w.heap.size ≠ w.heap.size + 1 by omega)).trans Z3.out)
  have hz_ : w.heap.size + 2 ≤ (w3.setCell ⟨w.heap.size + 1, 1, none⟩ (.int .i64 x1)).heap.size := by simpa using hz3
  generalize (w3.setCell ⟨w.heap.size + 1, 1, none⟩ (.int .i64 x1)) = w4 at q r_ o_ z_ hz_  ⊢
  have G4 := Lib.hid q
  have R4 := Lib.hid r_
  have O4 := Lib.hid o_
  have Z4 := Lib.hid z_
  have hz4 : w.heap.size + 2 ≤ w4.heap.size := hz_
  clear q r_ o_ z_ hz_  f1 e1 R3 O3 Z3 G3 
  refine (rvalues_any M db b_1 l_1 x2 b_2 l_2 w4 HH2.out R4.out HW1.out).mono ?_
  rintro e w5 ⟨a2, n2, c2, hn2, rfl, hown, hr, ho⟩
  have N2 := Lib.hid hn2
  have W2_5 := Lib.hid (hown.le (base' := w.heap.size + 2) hz4)
  clear hown hn2
  have R5 := Lib.hid hr
  have O5 := Lib.hid (O4.out.trans ho)
  have hs5 := ho.1
  have hz5 : w.heap.size + 2 ≤ w5.heap.size := Nat.le_trans hz4 hs5
  have Z5 := Lib.hid ((ho.2 w.heap.size (by omega) (by omega)).trans Z4.out)
  have G5 := Lib.hid ((ho.2 (w.heap.size + 1) (by omega) (by omega)).trans G4.out)
  clear hr ho R4 O4 Z4 G4 
  have f2 : w5.frozen? ⟨w.heap.size + 1, 2, none⟩ = false := Go.Joins.unfrozen_of_block G5.out 2
  have e0 : w5.cell? ⟨w.heap.size + 1, 0, none⟩ = some (.int .i64 x0) := Go.Joins.cell_of_block G5.out 0
  have e1 : w5.cell? ⟨w.heap.size + 1, 1, none⟩ = some (.int .i64 x1) := Go.Joins.cell_of_block G5.out 1
  have e2 : w5.cell? ⟨w.heap.size + 1, 2, none⟩ = some (.slice none 0 0) := Go.Joins.cell_of_block G5.out 2
  have g0 : w5.frozen? ⟨w.heap.size, 0, none⟩ = false := Go.Joins.unfrozen_of_block Z5.out 0
  have g1 : w5.frozen? ⟨w.heap.size, 1, none⟩ = false := Go.Joins.unfrozen_of_block Z5.out 1
  have g2 : w5.frozen? ⟨w.heap.size, 2, none⟩ = false := Go.Joins.unfrozen_of_block Z5.out 2
  have hbc : ∀ u, (w5.setCell ⟨w.heap.size + 1, 2, none⟩ u).cell? ⟨db, 2, none⟩ = some (.bool b_2) := fun u => (R5.out.other (g := w.heap.size + 1) (i := 2) (by omega) (by omega) u).badCell.1
  have z0 : ∀ u, (w5.setCell ⟨w.heap.size + 1, 2, none⟩ u).cell? ⟨w.heap.size, 0, none⟩ = some (.int .i64 0) := fun u => Go.Joins.cell_of_block ((heap_setCell_other _ ⟨w.heap.size + 1, 2, none⟩ _ u (show w.heap.size ≠ w.heap.size + 1 by omega)).trans Z5.out) 0
  have z1 : ∀ u, (w5.setCell ⟨w.heap.size + 1, 2, none⟩ u).cell? ⟨w.heap.size, 1, none⟩ = some (.int .i64 0) := fun u => Go.Joins.cell_of_block ((heap_setCell_other _ ⟨w.heap.size + 1, 2, none⟩ _ u (show w.heap.size ≠ w.heap.size + 1 by omega)).trans Z5.out) 1
  have z2 : ∀ u, (w5.setCell ⟨w.heap.size + 1, 2, none⟩ u).cell? ⟨w.heap.size, 2, none⟩ = some (.slice none 0 0) := fun u => Go.Joins.cell_of_block ((heap_setCell_other _ ⟨w.heap.size + 1, 2, none⟩ _ u (show w.heap.size ≠ w.heap.size + 1 by omega)).trans Z5.out) 2
  cases b_2 with
  | true =>
    go_wp2_with fail
    have q : ((((w5.setCell ⟨w.heap.size + 1, 2, none⟩ (.slice a2 n2 c2)).setCell ⟨w.heap.size, 0, none⟩ (.int .i64 0)).setCell ⟨w.heap.size, 1, none⟩ (.int .i64 0)).setCell ⟨w.heap.size, 2, none⟩ (.slice none 0 0)).heap[w.heap.size]? = some (.cells #[.int .i64 0, .int .i64 0, .slice none 0 0] 27 (0, 0)) := (Go.Joins.block_setCell (i := 2) (Go.Joins.block_setCell (i := 1) (Go.Joins.block_setCell (i := 0) ((heap_setCell_other _ ⟨w.heap.size + 1, 2, none⟩ _ (.slice a2 n2 c2) (show w.heap.size ≠ w.heap.size + 1 by omega)).trans Z5.out) (.int .i64 0)) (.int .i64 0)) (.slice none 0 0))
    have r_ : Ref ((((w5.setCell ⟨w.heap.size + 1, 2, none⟩ (.slice a2 n2 c2)).setCell ⟨w.heap.size, 0, none⟩ (.int .i64 0)).setCell ⟨w.heap.size, 1, none⟩ (.int .i64 0)).setCell ⟨w.heap.size, 2, none⟩ (.slice none 0 0)) M db _ l_2 := ((((R5.out.other (g := w.heap.size + 1) (i := 2) (by omega) (by omega) (.slice a2 n2 c2)).other (g := w.heap.size) (i := 0) hM (by omega) (.int .i64 0)).other (g := w.heap.size) (i := 1) hM (by omega) (.int .i64 0)).other (g := w.heap.size) (i := 2) hM (by omega) (.slice none 0 0))
    have o_ : Only db w ((((w5.setCell ⟨w.heap.size + 1, 2, none⟩ (.slice a2 n2 c2)).setCell ⟨w.heap.size, 0, none⟩ (.int .i64 0)).setCell ⟨w.heap.size, 1, none⟩ (.int .i64 0)).setCell ⟨w.heap.size, 2, none⟩ (.slice none 0 0)) := ((((O5.out.new (g := w.heap.size + 1) (i := 2) (by omega) (.slice a2 n2 c2)).new (g := w.heap.size) (i := 0) (Nat.le_refl _) (.int .i64 0)).new (g := w.heap.size) (i := 1) (Nat.le_refl _) (.int .i64 0)).new (g := w.heap.size) (i := 2) (Nat.le_refl _) (.slice none 0 0))
    have v2_ := ((((W2_5.out.only (Only.set (w.heap.size + 1) _ 2 (.slice a2 n2 c2)) (by omega)).only (Only.set w.heap.size _ 0 (.int .i64 0)) (by omega)).only (Only.set w.heap.size _ 1 (.int .i64 0)) (by omega)).only (Only.set w.heap.size _ 2 (.slice none 0 0)) (by omega))
    generalize ((((w5.setCell ⟨w.heap.size + 1, 2, none⟩ (.slice a2 n2 c2)).setCell ⟨w.heap.size, 0, none⟩ (.int .i64 0)).setCell ⟨w.heap.size, 1, none⟩ (.int .i64 0)).setCell ⟨w.heap.size, 2, none⟩ (.slice none 0 0)) = w99 at q r_ o_ v2_ ⊢
    have d0 : w99.cell? ⟨w.heap.size, 0, none⟩ = some (.int .i64 0) := Go.Joins.cell_of_block q 0
    have d1 : w99.cell? ⟨w.heap.size, 1, none⟩ = some (.int .i64 0) := Go.Joins.cell_of_block q 1
    have d2 : w99.cell? ⟨w.heap.size, 2, none⟩ = some (.slice none 0 0) := Go.Joins.cell_of_block q 2
    have hS := HS.out
    try simp only [if_true] at hS
    subst hS
    exact bodyPost_ret (v := .agg #[.int .i64 0, .int .i64 0, .slice none 0 0]) (by simp [results, Tryz.results89, go_sem, d0, d1, d2]) rfl ⟨⟨0, 0, none, [], 0⟩, rfl, rfl, VasOwn.nil _ _, r_, o_⟩
  | false =>
    go_wp2_with fail
    have q : ((((w5.setCell ⟨w.heap.size + 1, 2, none⟩ (.slice a2 n2 c2)).setCell ⟨w.heap.size, 0, none⟩ (.int .i64 x0)).setCell ⟨w.heap.size, 1, none⟩ (.int .i64 x1)).setCell ⟨w.heap.size, 2, none⟩ (.slice a2 n2 c2)).heap[w.heap.size]? = some (.cells #[.int .i64 x0, .int .i64 x1, .slice a2 n2 c2] 27 (0, 0)) := (Go.Joins.block_setCell (i := 2) (Go.Joins.block_setCell (i := 1) (Go.Joins.block_setCell (i := 0) ((heap_setCell_other _ ⟨w.heap.size + 1, 2, none⟩ _ (.slice a2 n2 c2) (show w.heap.size ≠ w.heap.size + 1 by omega)).trans Z5.out) (.int .i64 x0)) (.int .i64 x1)) (.slice a2 n2 c2))
    have r_ : Ref ((((w5.setCell ⟨w.heap.size + 1, 2, none⟩ (.slice a2 n2 c2)).setCell ⟨w.heap.size, 0, none⟩ (.int .i64 x0)).setCell ⟨w.heap.size, 1, none⟩ (.int .i64 x1)).setCell ⟨w.heap.size, 2, none⟩ (.slice a2 n2 c2)) M db _ l_2 := ((((R5.out.other (g := w.heap.size + 1) (i := 2) (by omega) (by omega) (.slice a2 n2 c2)).other (g := w.heap.size) (i := 0) hM (by omega) (.int .i64 x0)).other (g := w.heap.size) (i := 1) hM (by omega) (.int .i64 x1)).other (g := w.heap.size) (i := 2) hM (by omega) (.slice a2 n2 c2))
    have o_ : Only db w ((((w5.setCell ⟨w.heap.size + 1, 2, none⟩ (.slice a2 n2 c2)).setCell ⟨w.heap.size, 0, none⟩ (.int .i64 x0)).setCell ⟨w.heap.size, 1, none⟩ (.int .i64 x1)).setCell ⟨w.heap.size, 2, none⟩ (.slice a2 n2 c2)) := ((((O5.out.new (g := w.heap.size + 1) (i := 2) (by omega) (.slice a2 n2 c2)).new (g := w.heap.size) (i := 0) (Nat.le_refl _) (.int .i64 x0)).new (g := w.heap.size) (i := 1) (Nat.le_refl _) (.int .i64 x1)).new (g := w.heap.size) (i := 2) (Nat.le_refl _) (.slice a2 n2 c2))
    have v2_ := ((((W2_5.out.only (Only.set (w.heap.size + 1) _ 2 (.slice a2 n2 c2)) (by omega)).only (Only.set w.heap.size _ 0 (.int .i64 x0)) (by omega)).only (Only.set w.heap.size _ 1 (.int .i64 x1)) (by omega)).only (Only.set w.heap.size _ 2 (.slice a2 n2 c2)) (by omega))
    generalize ((((w5.setCell ⟨w.heap.size + 1, 2, none⟩ (.slice a2 n2 c2)).setCell ⟨w.heap.size, 0, none⟩ (.int .i64 x0)).setCell ⟨w.heap.size, 1, none⟩ (.int .i64 x1)).setCell ⟨w.heap.size, 2, none⟩ (.slice a2 n2 c2)) = w99 at q r_ o_ v2_ ⊢
    have d0 : w99.cell? ⟨w.heap.size, 0, none⟩ = some (.int .i64 x0) := Go.Joins.cell_of_block q 0
    have d1 : w99.cell? ⟨w.heap.size, 1, none⟩ = some (.int .i64 x1) := Go.Joins.cell_of_block q 1
    have d2 : w99.cell? ⟨w.heap.size, 2, none⟩ = some (.slice a2 n2 c2) := Go.Joins.cell_of_block q 2
    have hS := HS.out
    try simp only [if_false, Bool.false_eq_true] at hS
    subst hS
    obtain rfl := N2.out
    have v29 := v2_.le (base' := w.heap.size) (by omega)
    exact bodyPost_ret (v := .agg #[.int .i64 x0, .int .i64 x1, .slice a2 x2.length c2]) (by simp [results, Tryz.results89, go_sem, d0, d1, d2]) rfl ⟨⟨x0, x1, a2, x2, c2⟩, rfl, rfl, v29, r_, o_⟩
end Go.Proofs.YtiggpcmikhojmaaGreatDoor
