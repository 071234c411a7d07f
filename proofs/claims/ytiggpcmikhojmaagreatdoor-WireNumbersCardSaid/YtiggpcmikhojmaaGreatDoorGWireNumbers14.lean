/- WireWrites lends five things and lays four blocks, in whatever order. Conditions: the thing lies in memory as it is read. -/
import Derived.Test.YtiggpcmikhojmaaGreatDoorGWireNumbers13
import Derived.Test.YtiggpcmikhojmaaGreatDoorGWireNumbers8
set_option linter.unusedVariables false
namespace Go.Proofs.YtiggpcmikhojmaaGreatDoor
open Go.RowKit
set_option maxRecDepth 20000
/-- What is lent, each thing where it has come up. -/
def L17 (t : Th) (w : World) (B : Nat) (v : Value) : Prop := ∃ g, v = .slice (some ⟨g, 0, none⟩) t.values.length (t.values.length + 12) ∧ LentV w B g t.values
def L20 (t : Th) (w : World) (B : Nat) (v : Value) : Prop := ∃ g, v = .agg #[.int .i64 t.fact.id, .int .i64 t.fact.ty, .slice (some ⟨g, 0, none⟩) t.fact.args.length (t.fact.args.length + 12)] ∧ LentV w B g t.fact.args
def L23 (t : Th) (w : World) (B : Nat) (v : Value) : Prop := ∃ g, v = .agg #[.int .u8 t.command.kind, .string t.command.text, .slice (some ⟨g, 0, none⟩) t.command.args.length (t.command.args.length + 12), .int .i64 t.command.num] ∧ LentV w B g t.command.args
def L26 (t : Th) (w : World) (B : Nat) (v : Value) : Prop := ∃ (g1 g2 : Nat) (frs : List Fa), v = .agg #[.int .i64 t.reply.err, .int .i64 t.reply.num, .slice (some ⟨g1, 0, none⟩) t.reply.facts.length (t.reply.facts.length + 12), .slice (some ⟨g2, 0, none⟩) t.reply.said.length (t.reply.said.length + 12)] ∧ frs.map Fa.plain = t.reply.facts.map Fa.plain ∧ FasLent w B g1 t.reply.facts.length frs ∧ LentV w B g2 t.reply.said
def L29 (t : Th) (w : World) (B : Nat) (v : Value) : Prop := ∃ (g1 g2 : Nat), v = .agg #[.int .i64 t.entry.term, .int .u8 t.entry.kind, .int .i64 t.entry.session, .int .i64 t.entry.seq, .int .u8 t.entry.ck, .string t.entry.text, .slice (some ⟨g1, 0, none⟩) t.entry.args.length (t.entry.args.length + 12), .int .i64 t.entry.num, .slice (some ⟨g2, 0, none⟩) t.entry.vs.length (t.entry.vs.length + 12)] ∧ LentV w B g1 t.entry.args ∧ LentI w B g2 t.entry.vs
/-- A block of zeros that was laid. -/
def Laid (w : World) (B : Nat) (T : TypeId) (z : Array Value) (v : Value) : Prop := ∃ q, v = .pointer (some ⟨q, 0, none⟩) ∧ B ≤ q ∧ w.heap[q]? = some (.cells z T (0, 0))
theorem Laid.below {w w' : World} {B : Nat} {T : TypeId} {z : Array Value} {v : Value} (h : Laid w B T z v) (hb : Below w.heap.size w w') : Laid w' B T z v := by
  obtain ⟨q, h1, h2, h3⟩ := h
  exact ⟨q, h1, h2, (hb.block q (Array.getElem?_eq_some_iff.1 h3).1).trans h3⟩
structure WV (t : Th) (B : Nat) (w0 : World) (c : Nat) (y15 y16 y17 y18 : Bool) (v4 v5 v6 v7 v17 v20 v23 v26 v29 : Value) (w : World) : Prop where
  below : Below B w0 w
  size : B ≤ w.heap.size
  c1 : 1 ≤ c → L17 t w B v17
  c2 : 2 ≤ c → L20 t w B v20
  c3 : 3 ≤ c → L23 t w B v23
  c4 : 4 ≤ c → L26 t w B v26
  c5 : 5 ≤ c → L29 t w B v29
  a15 : y15 = true → Laid w B 27 #[.int .i64 0, .int .i64 0, .slice none 0 0] v4
  a16 : y16 = true → Laid w B 30 #[.int .u8 0, .string ⟨#[]⟩, .slice none 0 0, .int .i64 0] v5
  a17 : y17 = true → Laid w B 34 #[.int .i64 0, .int .i64 0, .slice none 0 0, .slice none 0 0] v6
  a18 : y18 = true → Laid w B 38 #[.int .i64 0, .int .u8 0, .int .i64 0, .int .i64 0, .int .u8 0, .string ⟨#[]⟩, .slice none 0 0, .int .i64 0, .slice none 0 0] v7
theorem WV.grow {t : Th} {B : Nat} {w0 w w' : World} {c : Nat} {y15 y16 y17 y18 : Bool} {v4 v5 v6 v7 v17 v20 v23 v26 v29 : Value} (h : WV t B w0 c y15 y16 y17 y18 v4 v5 v6 v7 v17 v20 v23 v26 v29 w) (hb : Below w.heap.size w w') : WV t B w0 c y15 y16 y17 y18 v4 v5 v6 v7 v17 v20 v23 v26 v29 w' :=
  ⟨h.below.trans (hb.mono h.size), Nat.le_trans h.size hb.size,
    fun hc => by obtain ⟨g, h1, h2⟩ := h.c1 hc; exact ⟨g, h1, h2.below hb (Nat.le_refl _)⟩,
    fun hc => by obtain ⟨g, h1, h2⟩ := h.c2 hc; exact ⟨g, h1, h2.below hb (Nat.le_refl _)⟩,
    fun hc => by obtain ⟨g, h1, h2⟩ := h.c3 hc; exact ⟨g, h1, h2.below hb (Nat.le_refl _)⟩,
    fun hc => by obtain ⟨g1, g2, frs, h1, h2, h3, h4⟩ := h.c4 hc; exact ⟨g1, g2, frs, h1, h2, h3.below hb (Nat.le_refl _), h4.below hb (Nat.le_refl _)⟩,
    fun hc => by obtain ⟨g1, g2, h1, h2, h3⟩ := h.c5 hc; exact ⟨g1, g2, h1, h2.below hb (Nat.le_refl _), h3.below hb (Nat.le_refl _)⟩,
    fun hy => (h.a15 hy).below hb, fun hy => (h.a16 hy).below hb, fun hy => (h.a17 hy).below hb, fun hy => (h.a18 hy).below hb⟩
/-- The slots, as the region has them. -/
def fr3 (t : Th) (W : World) (A : Array Value) (v4 v5 v6 v7 v17 v20 v23 v26 v29 : Value) : Act := { tmps := (.agg A :: .pointer (some ⟨W.heap.size, 0, none⟩) :: .bool false :: undef :: v4 :: v5 :: v6 :: v7 :: undef :: undef :: undef :: undef :: .agg A :: .bool false :: undef :: .pointer (some ⟨W.heap.size, 5, none⟩) :: .slice t.vo t.values.length t.vcap :: v17 :: .pointer (some ⟨W.heap.size, 6, none⟩) :: .agg #[.int .i64 t.fact.id, .int .i64 t.fact.ty, .slice t.fact.ao t.fact.args.length t.fact.cap] :: v20 :: .pointer (some ⟨W.heap.size, 9, none⟩) :: .agg #[.int .u8 t.command.kind, .string t.command.text, .slice t.command.ao t.command.args.length t.command.cap, .int .i64 t.command.num] :: v23 :: .pointer (some ⟨W.heap.size, 13, none⟩) :: .agg #[.int .i64 t.reply.err, .int .i64 t.reply.num, .slice t.reply.fo t.reply.facts.length t.reply.fcap, .slice t.reply.so t.reply.said.length t.reply.scap] :: v26 :: .pointer (some ⟨W.heap.size, 17, none⟩) :: .agg #[.int .i64 t.entry.term, .int .u8 t.entry.kind, .int .i64 t.entry.session, .int .i64 t.entry.seq, .int .u8 t.entry.ck, .string t.entry.text, .slice t.entry.aao t.entry.args.length t.entry.acap, .int .i64 t.entry.num, .slice t.entry.vao t.entry.vs.length t.entry.vcap] :: v29 :: undef :: undef :: undef :: undef :: undef :: undef :: undef :: undef :: undef :: undef :: undef :: undef :: undef :: undef :: undef :: undef :: undef :: undef :: undef :: undef :: undef :: undef :: undef :: undef :: undef :: undef :: undef :: undef :: undef :: undef :: undef :: undef :: undef :: undef :: undef :: undef :: undef :: undef :: undef :: undef :: undef :: undef :: undef :: undef :: undef :: undef :: undef :: undef :: undef :: undef :: undef :: undef :: undef :: undef :: undef :: undef :: undef :: undef :: undef :: undef :: undef :: undef :: undef :: undef :: undef :: undef :: undef :: undef :: undef :: undef :: undef :: undef :: undef :: undef :: undef :: undef :: undef :: undef :: undef :: undef :: undef :: undef :: undef :: undef :: undef :: undef :: undef :: undef :: undef :: undef :: undef :: undef :: undef :: undef :: undef :: undef :: undef :: undef :: undef :: undef :: undef :: undef :: undef :: undef :: undef :: undef :: undef :: undef :: []).toArray, defers := [] }
def lst3 (c : Nat) (y15 y16 y17 y18 : Bool) : Array Bool := #[true, true, decide (1 ≤ c), true, true, decide (2 ≤ c), true, true, decide (3 ≤ c), true, true, decide (4 ≤ c), true, true, decide (5 ≤ c), y15, y16, y17, y18, false, false, false, false, false]
def no : Bool → Nat
  | true => 0
  | false => 1
theorem no_zero {c : Nat} {a b d e : Bool} (hc : c ≤ 5) (h : 0 = 5 - c + no a + no b + no d + no e) : c = 5 ∧ a = true ∧ b = true ∧ d = true ∧ e = true := by
  cases a <;> cases b <;> cases d <;> cases e <;> simp only [no] at h <;> first | omega | exact ⟨by omega, rfl, rfl, rfl, rfl⟩
def St3 (t : Th) (W : World) (A : Array Value) (w0 : World) (n : Nat) (listed : Array Bool) (a : Act) (w : World) : Prop :=
  ∃ (c : Nat) (y15 y16 y17 y18 : Bool) (v4 v5 v6 v7 v17 v20 v23 v26 v29 : Value), listed = lst3 c y15 y16 y17 y18 ∧ a = fr3 t W A v4 v5 v6 v7 v17 v20 v23 v26 v29 ∧ c ≤ 5 ∧ n = 5 - c + no y15 + no y16 + no y17 + no y18 ∧ WV t (W.heap.size + 1) w0 c y15 y16 y17 y18 v4 v5 v6 v7 v17 v20 v23 v26 v29 w
set_option maxHeartbeats 1000000 in
theorem w3_op2 {t : Th} {W w0 w : World} {A : Array Value} {y15 y16 y17 y18 : Bool} {v4 v5 v6 v7 v17 v20 v23 v26 v29 : Value} {Q : Exit → Act → World → Prop} {K : Act → World → Prop} {ps : String} {af : Array Edge} (hs : ThSmall t) (hw : ThWf t) (hti : ∀ w', Below (W.heap.size + 1) w0 w' → ThIn w' W.heap.size t) (h : WV t (W.heap.size + 1) w0 0 y15 y16 y17 y18 v4 v5 v6 v7 v17 v20 v23 v26 v29 w)
    (hK : ∀ x w', WV t (W.heap.size + 1) w0 1 y15 y16 y17 y18 v4 v5 v6 v7 x v20 v23 v26 v29 w' → K (fr3 t W A v4 v5 v6 v7 x v20 v23 v26 v29) w') : Oper.wp Tryz.prog { dst := some 17, op := .call { callee := .value (.func 22), args := #[.tmp 16], argTypes := #[25] }, type := 25, pos := ps, after := af, guard := none } (fr3 t W A v4 v5 v6 v7 v17 v20 v23 v26 v29) w K Q := by
  have hin := hti w h.below
  have hsz : W.heap.size ≤ w.heap.size := Nat.le_trans (Nat.le_succ _) h.size
  have HK := Lib.hid hK
  have H := Lib.hid h
  have HIN := Lib.hid hin
  clear hK h hin hti
  unfold fr3
  go_simp
  refine (lentV_at t.vo _ t.vcap t.values w W.heap.size rfl HIN.out.values hsz hw.values.nil (by have := hs.values.1; omega)).mono ?_
  rintro e w' ⟨g, rfl, hg1, hg2, hL, hb⟩
  have h2 := H.out.grow hb
  have HNEW := Lib.hid (show L17 t w' (W.heap.size + 1) _ from ⟨g, rfl, hL.le H.out.size⟩)
  refine HK.out _ w' ⟨h2.below, h2.size, fun _ => HNEW.out, fun hc => absurd hc (by omega), fun hc => absurd hc (by omega), fun hc => absurd hc (by omega), fun hc => absurd hc (by omega), h2.a15, h2.a16, h2.a17, h2.a18⟩
set_option maxHeartbeats 1000000 in
theorem w3_op5 {t : Th} {W w0 w : World} {A : Array Value} {y15 y16 y17 y18 : Bool} {v4 v5 v6 v7 v17 v20 v23 v26 v29 : Value} {Q : Exit → Act → World → Prop} {K : Act → World → Prop} {ps : String} {af : Array Edge} (hs : ThSmall t) (hw : ThWf t) (hti : ∀ w', Below (W.heap.size + 1) w0 w' → ThIn w' W.heap.size t) (h : WV t (W.heap.size + 1) w0 1 y15 y16 y17 y18 v4 v5 v6 v7 v17 v20 v23 v26 v29 w)
    (hK : ∀ x w', WV t (W.heap.size + 1) w0 2 y15 y16 y17 y18 v4 v5 v6 v7 v17 x v23 v26 v29 w' → K (fr3 t W A v4 v5 v6 v7 v17 x v23 v26 v29) w') : Oper.wp Tryz.prog { dst := some 20, op := .call { callee := .value (.func 23), args := #[.tmp 19], argTypes := #[27] }, type := 27, pos := ps, after := af, guard := none } (fr3 t W A v4 v5 v6 v7 v17 v20 v23 v26 v29) w K Q := by
  have hin := hti w h.below
  have hsz : W.heap.size ≤ w.heap.size := Nat.le_trans (Nat.le_succ _) h.size
  have HK := Lib.hid hK
  have H := Lib.hid h
  have HIN := Lib.hid hin
  clear hK h hin hti
  unfold fr3
  go_simp
  refine (lentFa_any t.fact.id t.fact.ty t.fact.ao _ t.fact.cap t.fact.args w rfl (RowsIn.mono noSub_rising HIN.out.fact hsz) hw.fact.args.nil (by have := hs.fact.1; omega)).mono ?_
  rintro e w' ⟨g, rfl, hg1, hL, hb⟩
  have h2 := H.out.grow hb
  have HNEW := Lib.hid (show L20 t w' (W.heap.size + 1) _ from ⟨g, rfl, hL.le H.out.size⟩)
  refine HK.out _ w' ⟨h2.below, h2.size, fun hc => h2.c1 (by omega), fun _ => HNEW.out, fun hc => absurd hc (by omega), fun hc => absurd hc (by omega), fun hc => absurd hc (by omega), h2.a15, h2.a16, h2.a17, h2.a18⟩
set_option maxHeartbeats 1000000 in
theorem w3_op8 {t : Th} {W w0 w : World} {A : Array Value} {y15 y16 y17 y18 : Bool} {v4 v5 v6 v7 v17 v20 v23 v26 v29 : Value} {Q : Exit → Act → World → Prop} {K : Act → World → Prop} {ps : String} {af : Array Edge} (hs : ThSmall t) (hw : ThWf t) (hti : ∀ w', Below (W.heap.size + 1) w0 w' → ThIn w' W.heap.size t) (h : WV t (W.heap.size + 1) w0 2 y15 y16 y17 y18 v4 v5 v6 v7 v17 v20 v23 v26 v29 w)
    (hK : ∀ x w', WV t (W.heap.size + 1) w0 3 y15 y16 y17 y18 v4 v5 v6 v7 v17 v20 x v26 v29 w' → K (fr3 t W A v4 v5 v6 v7 v17 v20 x v26 v29) w') : Oper.wp Tryz.prog { dst := some 23, op := .call { callee := .value (.func 24), args := #[.tmp 22], argTypes := #[30] }, type := 30, pos := ps, after := af, guard := none } (fr3 t W A v4 v5 v6 v7 v17 v20 v23 v26 v29) w K Q := by
  have hin := hti w h.below
  have hsz : W.heap.size ≤ w.heap.size := Nat.le_trans (Nat.le_succ _) h.size
  have HK := Lib.hid hK
  have H := Lib.hid h
  have HIN := Lib.hid hin
  clear hK h hin hti
  unfold fr3
  go_simp
  refine (lentC_any t.command.kind t.command.text t.command.num t.command.ao _ t.command.cap t.command.args w rfl (RowsIn.mono noSub_rising HIN.out.command hsz) hw.command.args.nil (by have := hs.command.1; omega)).mono ?_
  rintro e w' ⟨g, rfl, hg1, hL, hb⟩
  have h2 := H.out.grow hb
  have HNEW := Lib.hid (show L23 t w' (W.heap.size + 1) _ from ⟨g, rfl, hL.le H.out.size⟩)
  refine HK.out _ w' ⟨h2.below, h2.size, fun hc => h2.c1 (by omega), fun hc => h2.c2 (by omega), fun _ => HNEW.out, fun hc => absurd hc (by omega), fun hc => absurd hc (by omega), h2.a15, h2.a16, h2.a17, h2.a18⟩
set_option maxHeartbeats 1000000 in
theorem w3_op11 {t : Th} {W w0 w : World} {A : Array Value} {y15 y16 y17 y18 : Bool} {v4 v5 v6 v7 v17 v20 v23 v26 v29 : Value} {Q : Exit → Act → World → Prop} {K : Act → World → Prop} {ps : String} {af : Array Edge} (hs : ThSmall t) (hw : ThWf t) (hti : ∀ w', Below (W.heap.size + 1) w0 w' → ThIn w' W.heap.size t) (h : WV t (W.heap.size + 1) w0 3 y15 y16 y17 y18 v4 v5 v6 v7 v17 v20 v23 v26 v29 w)
    (hK : ∀ x w', WV t (W.heap.size + 1) w0 4 y15 y16 y17 y18 v4 v5 v6 v7 v17 v20 v23 x v29 w' → K (fr3 t W A v4 v5 v6 v7 v17 v20 v23 x v29) w') : Oper.wp Tryz.prog { dst := some 26, op := .call { callee := .value (.func 25), args := #[.tmp 25], argTypes := #[34] }, type := 34, pos := ps, after := af, guard := none } (fr3 t W A v4 v5 v6 v7 v17 v20 v23 v26 v29) w K Q := by
  have hin := hti w h.below
  have hsz : W.heap.size ≤ w.heap.size := Nat.le_trans (Nat.le_succ _) h.size
  have HK := Lib.hid hK
  have H := Lib.hid h
  have HIN := Lib.hid hin
  clear hK h hin hti
  unfold fr3
  go_simp
  refine (lentRp_any t.reply.err t.reply.num t.reply.fo t.reply.fcap t.reply.facts t.reply.so t.reply.scap t.reply.said w (RowsIn.mono faSub_rising HIN.out.reply.1 hsz) (RowsIn.mono noSub_rising HIN.out.reply.2 hsz) (fun f hf => ⟨(hw.reply.facts f hf).args.nil, by have := (hs.facts.2 f hf).1; omega⟩) hw.reply.said.nil (by have := hs.facts.1; omega) (by have := hs.said.1; omega)).mono ?_
  rintro e w' ⟨g1, g2, frs, rfl, hmap, hL, hV, hb⟩
  have h2 := H.out.grow hb
  have HNEW := Lib.hid (show L26 t w' (W.heap.size + 1) _ from ⟨g1, g2, frs, rfl, hmap, hL.le H.out.size, hV.le H.out.size⟩)
  refine HK.out _ w' ⟨h2.below, h2.size, fun hc => h2.c1 (by omega), fun hc => h2.c2 (by omega), fun hc => h2.c3 (by omega), fun _ => HNEW.out, fun hc => absurd hc (by omega), h2.a15, h2.a16, h2.a17, h2.a18⟩
set_option maxHeartbeats 1000000 in
theorem w3_op14 {t : Th} {W w0 w : World} {A : Array Value} {y15 y16 y17 y18 : Bool} {v4 v5 v6 v7 v17 v20 v23 v26 v29 : Value} {Q : Exit → Act → World → Prop} {K : Act → World → Prop} {ps : String} {af : Array Edge} (hs : ThSmall t) (hw : ThWf t) (hti : ∀ w', Below (W.heap.size + 1) w0 w' → ThIn w' W.heap.size t) (h : WV t (W.heap.size + 1) w0 4 y15 y16 y17 y18 v4 v5 v6 v7 v17 v20 v23 v26 v29 w)
    (hK : ∀ x w', WV t (W.heap.size + 1) w0 5 y15 y16 y17 y18 v4 v5 v6 v7 v17 v20 v23 v26 x w' → K (fr3 t W A v4 v5 v6 v7 v17 v20 v23 v26 x) w') : Oper.wp Tryz.prog { dst := some 29, op := .call { callee := .value (.func 26), args := #[.tmp 28], argTypes := #[38] }, type := 38, pos := ps, after := af, guard := none } (fr3 t W A v4 v5 v6 v7 v17 v20 v23 v26 v29) w K Q := by
  have hin := hti w h.below
  have hsz : W.heap.size ≤ w.heap.size := Nat.le_trans (Nat.le_succ _) h.size
  have HK := Lib.hid hK
  have H := Lib.hid h
  have HIN := Lib.hid hin
  clear hK h hin hti
  unfold fr3
  go_simp
  refine (lentEn_any t.entry.term t.entry.kind t.entry.session t.entry.seq t.entry.ck t.entry.text t.entry.aao t.entry.acap t.entry.args t.entry.num t.entry.vao t.entry.vcap t.entry.vs w (RowsIn.mono noSub_rising HIN.out.entry.1 hsz) (RowsIn.mono noSub_rising HIN.out.entry.2 hsz) hw.entry.anil hw.entry.vnil (by have := hs.eargs.1; omega) (by have := hs.voters; omega)).mono ?_
  rintro e w' ⟨g1, g2, rfl, hL, hV, hb⟩
  have h2 := H.out.grow hb
  have HNEW := Lib.hid (show L29 t w' (W.heap.size + 1) _ from ⟨g1, g2, rfl, hL.le H.out.size, hV.le H.out.size⟩)
  refine HK.out _ w' ⟨h2.below, h2.size, fun hc => h2.c1 (by omega), fun hc => h2.c2 (by omega), fun hc => h2.c3 (by omega), fun hc => h2.c4 (by omega), fun _ => HNEW.out, h2.a15, h2.a16, h2.a17, h2.a18⟩
set_option maxHeartbeats 1000000 in
theorem w3_op15 {t : Th} {W w0 w : World} {A : Array Value} {c : Nat} {y16 y17 y18 : Bool} {v4 v5 v6 v7 v17 v20 v23 v26 v29 : Value} {Q : Exit → Act → World → Prop} {K : Act → World → Prop} {ps : String} {af : Array Edge} (h : WV t (W.heap.size + 1) w0 c false y16 y17 y18 v4 v5 v6 v7 v17 v20 v23 v26 v29 w)
    (hK : ∀ x w', WV t (W.heap.size + 1) w0 c true y16 y17 y18 x v5 v6 v7 v17 v20 v23 v26 v29 w' → K (fr3 t W A x v5 v6 v7 v17 v20 v23 v26 v29) w') : Oper.wp Tryz.prog { dst := some 4, op := .alloc 27, type := 0, pos := ps, after := af, guard := none } (fr3 t W A v4 v5 v6 v7 v17 v20 v23 v26 v29) w K Q := by
  have hb := (Below.refl w.heap.size w).alloc (Nat.le_refl _) (.cells #[.int .i64 0, .int .i64 0, .slice none 0 0] 27)
  have hk := heap_alloc_new w (.cells #[.int .i64 0, .int .i64 0, .slice none 0 0] 27)
  have HK := Lib.hid hK
  have H := Lib.hid h
  have HB := Lib.hid hb
  have HN := Lib.hid hk
  clear hK h hb hk
  unfold fr3
  go_simp
  have h2 := H.out.grow HB.out
  refine HK.out _ _ ⟨h2.below, h2.size, h2.c1, h2.c2, h2.c3, h2.c4, h2.c5, fun _ => ⟨w.heap.size, rfl, H.out.size, HN.out⟩, h2.a16, h2.a17, h2.a18⟩
set_option maxHeartbeats 1000000 in
theorem w3_op16 {t : Th} {W w0 w : World} {A : Array Value} {c : Nat} {y15 y17 y18 : Bool} {v4 v5 v6 v7 v17 v20 v23 v26 v29 : Value} {Q : Exit → Act → World → Prop} {K : Act → World → Prop} {ps : String} {af : Array Edge} (h : WV t (W.heap.size + 1) w0 c y15 false y17 y18 v4 v5 v6 v7 v17 v20 v23 v26 v29 w)
    (hK : ∀ x w', WV t (W.heap.size + 1) w0 c y15 true y17 y18 v4 x v6 v7 v17 v20 v23 v26 v29 w' → K (fr3 t W A v4 x v6 v7 v17 v20 v23 v26 v29) w') : Oper.wp Tryz.prog { dst := some 5, op := .alloc 30, type := 0, pos := ps, after := af, guard := none } (fr3 t W A v4 v5 v6 v7 v17 v20 v23 v26 v29) w K Q := by
  have hb := (Below.refl w.heap.size w).alloc (Nat.le_refl _) (.cells #[.int .u8 0, .string ⟨#[]⟩, .slice none 0 0, .int .i64 0] 30)
  have hk := heap_alloc_new w (.cells #[.int .u8 0, .string ⟨#[]⟩, .slice none 0 0, .int .i64 0] 30)
  have HK := Lib.hid hK
  have H := Lib.hid h
  have HB := Lib.hid hb
  have HN := Lib.hid hk
  clear hK h hb hk
  unfold fr3
  go_simp
  have h2 := H.out.grow HB.out
  refine HK.out _ _ ⟨h2.below, h2.size, h2.c1, h2.c2, h2.c3, h2.c4, h2.c5, h2.a15, fun _ => ⟨w.heap.size, rfl, H.out.size, HN.out⟩, h2.a17, h2.a18⟩
set_option maxHeartbeats 1000000 in
theorem w3_op17 {t : Th} {W w0 w : World} {A : Array Value} {c : Nat} {y15 y16 y18 : Bool} {v4 v5 v6 v7 v17 v20 v23 v26 v29 : Value} {Q : Exit → Act → World → Prop} {K : Act → World → Prop} {ps : String} {af : Array Edge} (h : WV t (W.heap.size + 1) w0 c y15 y16 false y18 v4 v5 v6 v7 v17 v20 v23 v26 v29 w)
    (hK : ∀ x w', WV t (W.heap.size + 1) w0 c y15 y16 true y18 v4 v5 x v7 v17 v20 v23 v26 v29 w' → K (fr3 t W A v4 v5 x v7 v17 v20 v23 v26 v29) w') : Oper.wp Tryz.prog { dst := some 6, op := .alloc 34, type := 0, pos := ps, after := af, guard := none } (fr3 t W A v4 v5 v6 v7 v17 v20 v23 v26 v29) w K Q := by
  have hb := (Below.refl w.heap.size w).alloc (Nat.le_refl _) (.cells #[.int .i64 0, .int .i64 0, .slice none 0 0, .slice none 0 0] 34)
  have hk := heap_alloc_new w (.cells #[.int .i64 0, .int .i64 0, .slice none 0 0, .slice none 0 0] 34)
  have HK := Lib.hid hK
  have H := Lib.hid h
  have HB := Lib.hid hb
  have HN := Lib.hid hk
  clear hK h hb hk
  unfold fr3
  go_simp
  have h2 := H.out.grow HB.out
  refine HK.out _ _ ⟨h2.below, h2.size, h2.c1, h2.c2, h2.c3, h2.c4, h2.c5, h2.a15, h2.a16, fun _ => ⟨w.heap.size, rfl, H.out.size, HN.out⟩, h2.a18⟩
set_option maxHeartbeats 1000000 in
theorem w3_op18 {t : Th} {W w0 w : World} {A : Array Value} {c : Nat} {y15 y16 y17 : Bool} {v4 v5 v6 v7 v17 v20 v23 v26 v29 : Value} {Q : Exit → Act → World → Prop} {K : Act → World → Prop} {ps : String} {af : Array Edge} (h : WV t (W.heap.size + 1) w0 c y15 y16 y17 false v4 v5 v6 v7 v17 v20 v23 v26 v29 w)
    (hK : ∀ x w', WV t (W.heap.size + 1) w0 c y15 y16 y17 true v4 v5 v6 x v17 v20 v23 v26 v29 w' → K (fr3 t W A v4 v5 v6 x v17 v20 v23 v26 v29) w') : Oper.wp Tryz.prog { dst := some 7, op := .alloc 38, type := 0, pos := ps, after := af, guard := none } (fr3 t W A v4 v5 v6 v7 v17 v20 v23 v26 v29) w K Q := by
  have hb := (Below.refl w.heap.size w).alloc (Nat.le_refl _) (.cells #[.int .i64 0, .int .u8 0, .int .i64 0, .int .i64 0, .int .u8 0, .string ⟨#[]⟩, .slice none 0 0, .int .i64 0, .slice none 0 0] 38)
  have hk := heap_alloc_new w (.cells #[.int .i64 0, .int .u8 0, .int .i64 0, .int .i64 0, .int .u8 0, .string ⟨#[]⟩, .slice none 0 0, .int .i64 0, .slice none 0 0] 38)
  have HK := Lib.hid hK
  have H := Lib.hid h
  have HB := Lib.hid hb
  have HN := Lib.hid hk
  clear hK h hb hk
  unfold fr3
  go_simp
  have h2 := H.out.grow HB.out
  refine HK.out _ _ ⟨h2.below, h2.size, h2.c1, h2.c2, h2.c3, h2.c4, h2.c5, h2.a15, h2.a16, h2.a17, fun _ => ⟨w.heap.size, rfl, H.out.size, HN.out⟩⟩
end Go.Proofs.YtiggpcmikhojmaaGreatDoor
