/- A thing's cells, one by one, in every world in which its block stays. Conditions: the block lies as it is read. -/
import Derived.Test.YtnfldkebjeigiaaDoorGrt
import Derived.Deep.MidRow
import Derived.BigFrame
namespace Go.Proofs.YtnfldkebjeigiaaDoor
open Go.RowKit
set_option maxRecDepth 20000

structure ThCells (t : Th) (g : Nat) (w : World) : Prop where
  d0 : w.cell? ⟨g, 0, none⟩ = some (.int .i64 t.number)
  d1 : w.cell? ⟨g, 1, none⟩ = some (.string t.text)
  d2 : w.cell? ⟨g, 2, none⟩ = some (.int .u8 t.value.kind)
  d3 : w.cell? ⟨g, 3, none⟩ = some (.int .i64 t.value.num)
  d4 : w.cell? ⟨g, 4, none⟩ = some (.string t.value.text)
  d5 : w.cell? ⟨g, 5, none⟩ = some (.slice t.vo t.values.length t.vcap)
  d6 : w.cell? ⟨g, 6, none⟩ = some (.int .i64 t.fact.id)
  d7 : w.cell? ⟨g, 7, none⟩ = some (.int .i64 t.fact.ty)
  d8 : w.cell? ⟨g, 8, none⟩ = some (.slice t.fact.ao t.fact.args.length t.fact.cap)
  d9 : w.cell? ⟨g, 9, none⟩ = some (.int .u8 t.command.kind)
  d10 : w.cell? ⟨g, 10, none⟩ = some (.string t.command.text)
  d11 : w.cell? ⟨g, 11, none⟩ = some (.slice t.command.ao t.command.args.length t.command.cap)
  d12 : w.cell? ⟨g, 12, none⟩ = some (.int .i64 t.command.num)
  d13 : w.cell? ⟨g, 13, none⟩ = some (.int .i64 t.reply.err)
  d14 : w.cell? ⟨g, 14, none⟩ = some (.int .i64 t.reply.num)
  d15 : w.cell? ⟨g, 15, none⟩ = some (.slice t.reply.fo t.reply.facts.length t.reply.fcap)
  d16 : w.cell? ⟨g, 16, none⟩ = some (.slice t.reply.so t.reply.said.length t.reply.scap)
  d17 : w.cell? ⟨g, 17, none⟩ = some (.int .i64 t.entry.term)
  d18 : w.cell? ⟨g, 18, none⟩ = some (.int .u8 t.entry.kind)
  d19 : w.cell? ⟨g, 19, none⟩ = some (.int .i64 t.entry.session)
  d20 : w.cell? ⟨g, 20, none⟩ = some (.int .i64 t.entry.seq)
  d21 : w.cell? ⟨g, 21, none⟩ = some (.int .u8 t.entry.ck)
  d22 : w.cell? ⟨g, 22, none⟩ = some (.string t.entry.text)
  d23 : w.cell? ⟨g, 23, none⟩ = some (.slice t.entry.aao t.entry.args.length t.entry.acap)
  d24 : w.cell? ⟨g, 24, none⟩ = some (.int .i64 t.entry.num)
  d25 : w.cell? ⟨g, 25, none⟩ = some (.slice t.entry.vao t.entry.vs.length t.entry.vcap)
theorem th_cells {t : Th} {g : Nat} {w0 w : World} (h : w0.heap[g]? = some (thObj t)) (hb : Below (g + 1) w0 w) : ThCells t g w := by
  have hk : w.heap[g]? = some (thObj t) := (hb.block g (Nat.lt_succ_self _)).trans h
  unfold thObj at hk
  have hc := fun i => Go.Joins.cell_of_block hk i
  exact ⟨hc 0, hc 1, hc 2, hc 3, hc 4, hc 5, hc 6, hc 7, hc 8, hc 9, hc 10, hc 11, hc 12, hc 13, hc 14, hc 15, hc 16, hc 17, hc 18, hc 19, hc 20, hc 21, hc 22, hc 23, hc 24, hc 25⟩
/-- A thing's cells as one array. -/
def thArr (t : Th) : Array Value := (thCells t).toArray
theorem thVal_arr (t : Th) : .agg (thArr t) = thVal t := rfl
theorem thObj_arr (t : Th) : .cells (thArr t) 40 (0, 0) = thObj t := rfl
theorem thArr_size (t : Th) : (thArr t).toList.length = 26 := rfl
theorem range_block {w : World} {g : Nat} {A : Array Value} {T : TypeId} {fz : Nat × Nat} (h : w.heap[g]? = some (.cells A T fz)) : w.rangeAt g 0 A.toList := fun j v hv => by
  rw [Nat.zero_add, Go.Joins.cell_of_block h j, ← Array.getElem?_toList, hv]
theorem range_new {w : World} {g o : Nat} : w.rangeAt g o [] := fun j v hv => by cases j <;> cases hv
theorem range_cons {w : World} {g o : Nat} {v : Value} {vs : List Value} (h : w.cell? ⟨g, o, none⟩ = some v) (h2 : w.rangeAt g (o + 1) vs) : w.rangeAt g o (v :: vs) := fun j u hu => by
  cases j with
  | zero => simp at hu; subst hu; exact h
  | succ j =>
    have := h2 j u (by simpa using hu)
    rw [show o + (j + 1) = o + 1 + j by omega]
    exact this
/-- The parts of a thing, as they are loaded. -/
structure ThRanges (t : Th) (g : Nat) (w : World) : Prop where
  value : w.rangeAt g 2 [.int .u8 t.value.kind, .int .i64 t.value.num, .string t.value.text]
  fact : w.rangeAt g 6 [.int .i64 t.fact.id, .int .i64 t.fact.ty, .slice t.fact.ao t.fact.args.length t.fact.cap]
  command : w.rangeAt g 9 [.int .u8 t.command.kind, .string t.command.text, .slice t.command.ao t.command.args.length t.command.cap, .int .i64 t.command.num]
  reply : w.rangeAt g 13 [.int .i64 t.reply.err, .int .i64 t.reply.num, .slice t.reply.fo t.reply.facts.length t.reply.fcap, .slice t.reply.so t.reply.said.length t.reply.scap]
  entry : w.rangeAt g 17 [.int .i64 t.entry.term, .int .u8 t.entry.kind, .int .i64 t.entry.session, .int .i64 t.entry.seq, .int .u8 t.entry.ck, .string t.entry.text, .slice t.entry.aao t.entry.args.length t.entry.acap, .int .i64 t.entry.num, .slice t.entry.vao t.entry.vs.length t.entry.vcap]
theorem th_ranges {t : Th} {g : Nat} {w : World} (h : ThCells t g w) : ThRanges t g w := by
  obtain ⟨d0, d1, d2, d3, d4, d5, d6, d7, d8, d9, d10, d11, d12, d13, d14, d15, d16, d17, d18, d19, d20, d21, d22, d23, d24, d25⟩ := h
  exact ⟨range_cons d2 (range_cons d3 (range_cons d4 range_new)), range_cons d6 (range_cons d7 (range_cons d8 range_new)), range_cons d9 (range_cons d10 (range_cons d11 (range_cons d12 range_new))), range_cons d13 (range_cons d14 (range_cons d15 (range_cons d16 range_new))),
    range_cons d17 (range_cons d18 (range_cons d19 (range_cons d20 (range_cons d21 (range_cons d22 (range_cons d23 (range_cons d24 (range_cons d25 range_new))))))))⟩
/-- A load of a struct, where the operation is guarded, and wanted. -/
theorem wpList_load_want {P : Program} {ops : Array Oper} {rest : List Oper} {op : Oper} {a : Act} {w : World} {Q : Exit → Act → World → Prop} (hw : Region.wanted op (yielded ops a.tmps) = true) (ty : TypeId) (x : Operand) (ho : op.op = .load ty x)
    (b o : Nat) (hx : a.eval x = .pointer (some ⟨b, o, none⟩)) (cs : List Value) (d : TypeDesc) (hc : w.rangeAt b o cs)
    (hu : P.underlying ty = some d) (hd : d.isRow = true) (hi : (P.info? ty).map (·.size) = some cs.length)
    (h : wpList P ops Q rest (a.put op.dst (.agg cs.toArray)) w) : wpList P ops Q (op :: rest) a w :=
  Go.BigFrame.wpList_want hw fun _ hK => wp_load_mid ty x ho b o hx cs d hc hu hd hi (hK _ _ h)
theorem info_th : (Tryd.prog.info? 40).map (·.size) = some 26 := by kernel_rfl
theorem info_va : (Tryd.prog.info? 24).map (·.size) = some 3 := by kernel_rfl
theorem info_fa : (Tryd.prog.info? 27).map (·.size) = some 3 := by kernel_rfl
theorem info_cm : (Tryd.prog.info? 30).map (·.size) = some 4 := by kernel_rfl
theorem info_rp : (Tryd.prog.info? 34).map (·.size) = some 4 := by kernel_rfl
theorem info_en : (Tryd.prog.info? 38).map (·.size) = some 9 := by kernel_rfl
theorem ThIn.below {t : Th} {g : Nat} {w w' : World} (h : ThIn w g t) (hb : Below g w w') : ThIn w' g t :=
  ⟨h.values.below noSub_kept hb (Nat.le_refl _), h.fact.below noSub_kept hb (Nat.le_refl _), h.command.below noSub_kept hb (Nat.le_refl _), rpSub_kept _ _ _ _ _ h.reply hb (Nat.le_refl _), enSub_kept _ _ _ _ _ h.entry hb (Nat.le_refl _)⟩
theorem ThIn.mono {t : Th} {g g' : Nat} {w : World} (h : ThIn w g t) (hg : g ≤ g') : ThIn w g' t :=
  ⟨h.values.mono noSub_rising hg, h.fact.mono noSub_rising hg, h.command.mono noSub_rising hg, rpSub_rising _ _ _ _ h.reply hg, enSub_rising _ _ _ _ h.entry hg⟩
/-- The rows that a call made, read. -/
theorem VasOwn.vals {w : World} {base n c : Nat} {a : Option Addr} {xs : List Va} (hn : xs.length = n) (h : VasOwn w base a n c xs) : ValsIn w w.heap.size a xs := own_rowsIn vaCells_len hn h (fun _ _ => trivial)
theorem IntsOwn.nums {w : World} {base n c : Nat} {a : Option Addr} {xs : List Int} (hn : xs.length = n) (h : IntsOwn w base a n c xs) : NumsIn w w.heap.size a xs := own_rowsIn iCells_len hn h (fun _ _ => trivial)
theorem FasOwn.fas {w : World} {base n c : Nat} {a : Option Addr} {xs : List Fa} (h : FasOwn w base a n c xs) : FasIn w w.heap.size a xs := own_rowsIn faCells_len h.len h.row (fun f hf => VasOwn.vals rfl (h.own f hf))
/-- Parts that lie anywhere. -/
def Parts (w : World) (ps : List Pt) : Prop := ∀ p ∈ ps, ptSub w w.heap.size p
theorem Parts.add {w w' : World} {ps : List Pt} {a : Option Addr} {c : Nat} {L : List Int} (h : Parts w ps) (ho : w'.ownsRow w.heap.size 5 1 (.slice a L.length c) L.length (L.map bv)) (hb : Below w.heap.size w w') : Parts w' (ps ++ [⟨a, c, L⟩]) := by
  intro p hp
  rcases List.mem_append.1 hp with hp | hp
  · exact ((h p hp).below hb (Nat.le_refl _)).mono hb.size
  · rw [List.mem_singleton.1 hp]
    exact own_bytes' ho
theorem Parts.alloc {w : World} {ps : List Pt} (h : Parts w ps) (o : Obj) : Parts (w.alloc o) ps := by
  intro p hp
  have hb := (Below.refl w.heap.size w).alloc (Nat.le_refl _) o
  exact ((h p hp).below hb (Nat.le_refl _)).mono hb.size
end Go.Proofs.YtnfldkebjeigiaaDoor
