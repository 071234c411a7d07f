/- Join of wire; a reader's Number and Value with what they tell under names. Conditions: as each says. -/
import Derived.Test.YtnfldkebjeigiaaDoorWJoin
import Derived.Test.YtnfldkebjeigiaaDoorWForms2
import Derived.Test.YtnfldkebjeigiaaDoorRdr7
import Derived.Test.YtnfldkebjeigiaaDoorSameB
namespace Go.Proofs.YtnfldkebjeigiaaDoor
open Go.RowKit
set_option maxRecDepth 20000

theorem wjoin_any (ao : Option Addr) (n cap : Nat) (ps : List Pt) (L : List Int) (w : World) (B : Nat) (hn : ps.length = n) (hL : ps.flatMap Pt.data = L) (hx : RowsIn 1 ptCells ptSub w B ao ps) (hB : B ≤ w.heap.size) (hw : ∀ p ∈ ps, BytesWf p.data) (hc : n ≤ cap) (hl : L.length ≤ 140737488351232) (hnl : n ≤ 1099511627776) :
    Calls Tryd.prog 9 #[.slice ao n cap] w (JoinedAt L w) := by
  have HJ := Lib.hid (join_any ao n cap ps w B hn hx hB hw hc (by rw [hL]; exact hl) hnl)
  rw [hL] at HJ
  clear hn hx hw hL
  go_enter Tryd.func9, Tryd.ntmps9
  go_wp2_with fail
  refine HJ.out.mono ?_
  rintro e w1 ⟨a, c, rfl, h1, h2, h3, h4, h5⟩
  have H := Lib.hid h4
  clear h4
  go_wp2_with fail
  go_ret
  exact ⟨a, c, rfl, h1, h2, h3, H.out, h5⟩
theorem number_at (M rb : Nat) (bad : Bool) (left : List Int) (v : Int) (b2 : Bool) (l2 : List Int) (w : World) (hs : (IntKind.i64.wrap (getN (takeS 8 bad left).1), (takeS 8 bad left).2) = (v, b2, l2)) (h : Rdr w M rb bad left) (hw : BytesWf left) (hl : left.length ≤ 140737488351232) :
    Calls Tryd.prog 19 #[.pointer (some ⟨rb, 0, none⟩)] w (SaidAt M rb v b2 l2 w) := by
  have := number_rd M rb bad left w h hw hl
  simp only [Prod.mk.injEq] at hs
  obtain ⟨h1, h2⟩ := hs
  rw [h1, h2] at this
  exact this
theorem value_at (M rb : Nat) (bad : Bool) (left : List Int) (v : Va) (b2 : Bool) (l2 : List Int) (w : World) (hs : valueS bad left = (v, b2, l2)) (h : Rdr w M rb bad left) (hw : BytesWf left) (hl : left.length ≤ 140737488351232) :
    Calls Tryd.prog 22 #[.pointer (some ⟨rb, 0, none⟩)] w fun e w' => e = .returned v.val ∧ Rdr w' M rb b2 l2 ∧ Only rb w w' := by
  have := value_rd M rb bad left w h hw hl
  rw [hs] at this
  exact this
theorem bytes_new (w : World) (T : TypeId) (xs : List Int) (cs : Array Value) (fr : Nat × Nat) (g B : Nat) (hcs : cs = (xs.map bv).toArray) (hg : g = w.heap.size) (hB : g < B) : BytesIn (w.alloc (.cells cs T fr)) B (some ⟨g, 0, none⟩) xs := by
  subst hcs hg
  refine Or.inr ⟨w.heap.size, 0, rfl, hB, fun i hi => ?_⟩
  rw [Go.Joins.cell_alloc_mark_at _ _ _ _ _ _ rfl]
  simp [bv, List.getD, List.getElem?_eq_getElem hi]
/-- Bytes of a call's own, with their list under a name. -/
theorem number_w (n : Int) (L : List Int) (w : World) (hL : numB 8 n = L) : Calls Tryd.prog 11 #[.int .i64 n] w (BytesNew L w.heap.size w) := hL ▸ number_any n w
theorem value_w (kd num : Int) (text : ByteArray) (L : List Int) (w : World) (hL : valueB ⟨kd, num, text⟩ = L) (hl : text.size ≤ 1099511627776) : Calls Tryd.prog 14 #[.agg #[.int .u8 kd, .int .i64 num, .string text]] w (BytesNew L w.heap.size w) := hL ▸ wvalue_any ⟨kd, num, text⟩ w hl
theorem values_w (L : List Int) (w : World) (hL : valuesB [] = L) : Calls Tryd.prog 15 #[.slice none 0 0] w (BytesNew L w.heap.size w) := hL ▸ wvalues_any none 0 0 [] w rfl (Or.inl rfl) (by intro v hv; cases hv) (by decide) (by decide)
theorem own_in {w : World} {base n c : Nat} {a : Option Addr} {l : List Int} (hn : l.length = n) (h : w.ownsRow base 5 1 (.slice a n c) n (l.map bv)) : BytesIn w w.heap.size a l := by
  subst hn; exact own_bytes' h
theorem rowsIn_block {α : Type} {k : Nat} {cells : α → List Value} {sub : World → Nat → α → Prop} (hk : ∀ x, (cells x).length = k) {w : World} {b B : Nat} {T : TypeId} {fz : Nat × Nat} (xs : List α) (cs : Array Value) (h : w.heap[b]? = some (.cells cs T fz)) (hcs : cs.toList = xs.flatMap cells) (hb : b < B) (hs : ∀ x ∈ xs, sub w B x) : RowsIn k cells sub w B (some ⟨b, 0, none⟩) xs := by
  refine Or.inr ⟨b, 0, rfl, hb, fun i x hx => ⟨fun j hj => ?_, hs x (List.mem_of_getElem? hx)⟩⟩
  rw [Go.Joins.cell_of_block h (0 + i * k + j), ← Array.getElem?_toList, hcs, Nat.zero_add]
  exact flat_get hk xs i x hx j hj
/-- A reader stays where another one reads. -/
theorem Rdr.only2 {w w' : World} {M rb rb2 : Nat} {bad : Bool} {left : List Int} (h : Rdr w M rb bad left) (ho : Only rb2 w w') (hn : rb ≠ rb2) (hM : M ≤ rb2) : Rdr w' M rb bad left := by
  obtain ⟨a, c, h⟩ := h
  refine ⟨a, c, (ho.2 rb h.lt hn).trans h.blk, ?_, h.cap, h.nil, Nat.le_trans h.le ho.1⟩
  rcases h.off with h0 | ⟨b, off, h1, h2, h4, h3⟩
  · exact Or.inl h0
  · exact Or.inr ⟨b, off, h1, h2, h4, fun j hj => (cell_block (ho.2 b (by have := h.le; omega) (by omega))).trans (h3 j hj)⟩
end Go.Proofs.YtnfldkebjeigiaaDoor
