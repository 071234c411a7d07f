/- WireWrites: four blocks that were laid are filled. Conditions: the blocks lie as they were laid. -/
import Derived.Test.YtnfldkebjeigiaaGreatDoorGWireWrites17
import Derived.Test.YtnfldkebjeigiaaGreatDoorGWireWrites15
set_option linter.unusedVariables false
namespace Go.Proofs.YtnfldkebjeigiaaGreatDoor
open Go.RowKit
set_option maxRecDepth 20000
theorem own_off {w : World} {B e size n q : Nat} {v : Value} {xs : List Value} {Z : Array Value} {T : TypeId} {fz : Nat × Nat} (h : w.ownsRow B e size v n xs) (hk : w.heap[q]? = some (.cells Z T fz)) (hT : e ≠ T) : v.ownBlock ≠ some q := by
  intro hq
  rcases h.2 with ⟨rfl, _⟩ | ⟨g, cap, cur, rfl, _, hg, _⟩
  · cases hq
  · obtain rfl : g = q := Option.some.inj hq
    rw [hk] at hg
    simp only [Option.some.injEq, Obj.cells.injEq] at hg
    exact hT hg.2.1.symm
theorem own_off_size {w : World} {B e size n q g cap : Nat} {xs : List Value} {Z : Array Value} {T : TypeId} {fz : Nat × Nat} (h : w.ownsRow B e size (.slice (some ⟨g, 0, none⟩) n cap) n xs) (hk : w.heap[q]? = some (.cells Z T fz)) (hz : Z.size < cap * size) : (Value.slice (some ⟨g, 0, none⟩) n cap).ownBlock ≠ some q := by
  intro hq
  rcases h.2 with ⟨h1, _⟩ | ⟨g', cap', cur, h1, _, hg, _, _, hs, _⟩
  · cases h1
  · cases h1
    obtain rfl : g = q := Option.some.inj hq
    rw [hk] at hg
    simp only [Option.some.injEq, Obj.cells.injEq] at hg
    rw [← hg.1] at hs
    omega
theorem own_keepB {w w' : World} {B e size n q : Nat} {v : Value} {xs : List Value} (h : w.ownsRow B e size v n xs) (ho : ∀ k, k ≠ q → w'.heap[k]? = w.heap[k]?) (hne : v.ownBlock ≠ some q) : w'.ownsRow B e size v n xs := by
  refine ⟨h.1, ?_⟩
  rcases h.2 with hn | ⟨g, cap, cur, rfl, h1, h2, h3⟩
  · exact Or.inl hn
  · refine Or.inr ⟨g, cap, cur, rfl, h1, ?_, h3⟩
    rw [ho g (by rintro rfl; exact hne rfl)]
    exact h2
/-- All that is lent. -/
structure LS (t : Th) (B ga gb gc g1 g2 e1 e2 : Nat) (frs : List Fa) (w : World) : Prop where
  a : LentV w B ga t.values
  b : LentV w B gb t.fact.args
  c : LentV w B gc t.command.args
  f : FasLent w B g1 t.reply.facts.length frs
  s : LentV w B g2 t.reply.said
  x : LentV w B e1 t.entry.args
  v : LentI w B e2 t.entry.vs
theorem LS.keepB {t : Th} {B ga gb gc g1 g2 e1 e2 q : Nat} {frs : List Fa} {w w' : World} {Z : Array Value} {T : TypeId} {fz : Nat × Nat} (h : LS t B ga gb gc g1 g2 e1 e2 frs w) (ho : ∀ k, k ≠ q → w'.heap[k]? = w.heap[k]?) (hk : w.heap[q]? = some (.cells Z T fz)) (hT : 24 ≠ T) (hI : 3 ≠ T) (hF : 27 ≠ T ∨ Z.size = 3) : LS t B ga gb gc g1 g2 e1 e2 frs w' :=
  ⟨own_keepB h.a ho (own_off h.a hk hT), own_keepB h.b ho (own_off h.b hk hT), own_keepB h.c ho (own_off h.c hk hT),
    ⟨own_keepB h.f.row ho (by
      rcases hF with hF | hF
      · exact own_off h.f.row hk hF
      · exact own_off_size h.f.row hk (by rw [hF]; omega)), fun f hf => by
      obtain ⟨g, h1, h2, h3⟩ := h.f.lent f hf
      exact ⟨g, h1, h2, own_keepB h3 ho (own_off h3 hk hT)⟩⟩,
    own_keepB h.s ho (own_off h.s hk hT), own_keepB h.x ho (own_off h.x hk hT), own_keepB h.v ho (own_off h.v hk hI)⟩
theorem LS.grow {t : Th} {B ga gb gc g1 g2 e1 e2 : Nat} {frs : List Fa} {w w' : World} (h : LS t B ga gb gc g1 g2 e1 e2 frs w) (hb : Below w.heap.size w w') : LS t B ga gb gc g1 g2 e1 e2 frs w' :=
  ⟨h.a.below hb (Nat.le_refl _), h.b.below hb (Nat.le_refl _), h.c.below hb (Nat.le_refl _), h.f.below hb (Nat.le_refl _), h.s.below hb (Nat.le_refl _), h.x.below hb (Nat.le_refl _), h.v.below hb (Nat.le_refl _)⟩
structure W3 (t : Th) (B : Nat) (w0 : World) (ga gb gc g1 g2 e1 e2 : Nat) (frs : List Fa) (p4 p5 p6 p7 : Nat) (z4 z5 z6 z7 : Array Value) (w : World) : Prop where
  below : Below B w0 w
  size : B ≤ w.heap.size
  ls : LS t B ga gb gc g1 g2 e1 e2 frs w
  b4 : B ≤ p4
  b5 : B ≤ p5
  b6 : B ≤ p6
  b7 : B ≤ p7
  k4 : w.heap[p4]? = some (.cells z4 27 (0, 0))
  k5 : w.heap[p5]? = some (.cells z5 30 (0, 0))
  k6 : w.heap[p6]? = some (.cells z6 34 (0, 0))
  k7 : w.heap[p7]? = some (.cells z7 38 (0, 0))
theorem block_to {w : World} {g i : Nat} {cs cs' : Array Value} {T : TypeId} {fr : Nat × Nat} (h : w.heap[g]? = some (.cells cs T fr)) (v : Value) (he : cs.setIfInBounds i v = cs') : (w.setCell ⟨g, i, none⟩ v).heap[g]? = some (.cells cs' T fr) := he ▸ Go.Joins.block_setCell h v
theorem blk_ne {w : World} {q r : Nat} {Z Y : Array Value} {T U : TypeId} {fz fy : Nat × Nat} (h1 : w.heap[q]? = some (.cells Z T fz)) (h2 : w.heap[r]? = some (.cells Y U fy)) (hT : T ≠ U) : q ≠ r := by
  rintro rfl
  rw [h1] at h2
  simp only [Option.some.injEq, Obj.cells.injEq] at h2
  exact hT h2.2.1
theorem W3.grow {t : Th} {B : Nat} {w0 w w' : World} {ga gb gc g1 g2 e1 e2 p4 p5 p6 p7 : Nat} {frs : List Fa} {z4 z5 z6 z7 : Array Value} (h : W3 t B w0 ga gb gc g1 g2 e1 e2 frs p4 p5 p6 p7 z4 z5 z6 z7 w) (hb : Below w.heap.size w w') : W3 t B w0 ga gb gc g1 g2 e1 e2 frs p4 p5 p6 p7 z4 z5 z6 z7 w' :=
  have lt : ∀ {q : Nat} {Z : Array Value} {T : TypeId}, w.heap[q]? = some (.cells Z T (0, 0)) → w'.heap[q]? = some (.cells Z T (0, 0)) := fun hq => (hb.block _ (Array.getElem?_eq_some_iff.1 hq).1).trans hq
  ⟨h.below.trans (hb.mono h.size), Nat.le_trans h.size hb.size, h.ls.grow hb, h.b4, h.b5, h.b6, h.b7, lt h.k4, lt h.k5, lt h.k6, lt h.k7⟩
set_option maxHeartbeats 1000000 in
theorem W3.store4 {t : Th} {B : Nat} {w0 w : World} {ga gb gc g1 g2 e1 e2 p4 p5 p6 p7 : Nat} {frs : List Fa} {z5 z6 z7 : Array Value} (h : W3 t B w0 ga gb gc g1 g2 e1 e2 frs p4 p5 p6 p7 #[.int .i64 0, .int .i64 0, .slice none 0 0] z5 z6 z7 w) :
    W3 t B w0 ga gb gc g1 g2 e1 e2 frs p4 p5 p6 p7 #[.int .i64 t.fact.id, .int .i64 t.fact.ty, .slice (some ⟨gb, 0, none⟩) t.fact.args.length (t.fact.args.length + 12)] z5 z6 z7 (((w.setCell ⟨p4, 0, none⟩ (.int .i64 t.fact.id)).setCell ⟨p4, 1, none⟩ (.int .i64 t.fact.ty)).setCell ⟨p4, 2, none⟩ (.slice (some ⟨gb, 0, none⟩) t.fact.args.length (t.fact.args.length + 12))) := by
  have ho : ∀ k, k ≠ p4 → (((w.setCell ⟨p4, 0, none⟩ (.int .i64 t.fact.id)).setCell ⟨p4, 1, none⟩ (.int .i64 t.fact.ty)).setCell ⟨p4, 2, none⟩ (.slice (some ⟨gb, 0, none⟩) t.fact.args.length (t.fact.args.length + 12))).heap[k]? = w.heap[k]? := fun k hk => by rw [heap_setCell_other _ _ _ _ hk, heap_setCell_other _ _ _ _ hk, heap_setCell_other _ _ _ _ hk]
  have hb : Below B w (((w.setCell ⟨p4, 0, none⟩ (.int .i64 t.fact.id)).setCell ⟨p4, 1, none⟩ (.int .i64 t.fact.ty)).setCell ⟨p4, 2, none⟩ (.slice (some ⟨gb, 0, none⟩) t.fact.args.length (t.fact.args.length + 12))) := (((Below.refl B w).setCell (p := ⟨p4, 0, none⟩) h.b4 (.int .i64 t.fact.id)).setCell (p := ⟨p4, 1, none⟩) h.b4 (.int .i64 t.fact.ty)).setCell (p := ⟨p4, 2, none⟩) h.b4 (.slice (some ⟨gb, 0, none⟩) t.fact.args.length (t.fact.args.length + 12))
  have n0 : (w.setCell ⟨p4, 0, none⟩ (.int .i64 t.fact.id)).heap[p4]? = some (.cells #[.int .i64 t.fact.id, .int .i64 0, .slice none 0 0] 27 (0, 0)) := block_to (i := 0) h.k4 (.int .i64 t.fact.id) rfl
  have n1 : ((w.setCell ⟨p4, 0, none⟩ (.int .i64 t.fact.id)).setCell ⟨p4, 1, none⟩ (.int .i64 t.fact.ty)).heap[p4]? = some (.cells #[.int .i64 t.fact.id, .int .i64 t.fact.ty, .slice none 0 0] 27 (0, 0)) := block_to (i := 1) n0 (.int .i64 t.fact.ty) rfl
  have n2 : (((w.setCell ⟨p4, 0, none⟩ (.int .i64 t.fact.id)).setCell ⟨p4, 1, none⟩ (.int .i64 t.fact.ty)).setCell ⟨p4, 2, none⟩ (.slice (some ⟨gb, 0, none⟩) t.fact.args.length (t.fact.args.length + 12))).heap[p4]? = some (.cells #[.int .i64 t.fact.id, .int .i64 t.fact.ty, .slice (some ⟨gb, 0, none⟩) t.fact.args.length (t.fact.args.length + 12)] 27 (0, 0)) := block_to (i := 2) n1 (.slice (some ⟨gb, 0, none⟩) t.fact.args.length (t.fact.args.length + 12)) rfl
  exact ⟨h.below.trans hb, Nat.le_trans h.size hb.size, h.ls.keepB ho h.k4 (by decide) (by decide) (Or.inr rfl), h.b4, h.b5, h.b6, h.b7, n2, (ho _ (blk_ne h.k5 h.k4 (by decide))).trans h.k5, (ho _ (blk_ne h.k6 h.k4 (by decide))).trans h.k6, (ho _ (blk_ne h.k7 h.k4 (by decide))).trans h.k7⟩
set_option maxHeartbeats 1000000 in
theorem W3.store5 {t : Th} {B : Nat} {w0 w : World} {ga gb gc g1 g2 e1 e2 p4 p5 p6 p7 : Nat} {frs : List Fa} {z4 z6 z7 : Array Value} (h : W3 t B w0 ga gb gc g1 g2 e1 e2 frs p4 p5 p6 p7 z4 #[.int .u8 0, .string ⟨#[]⟩, .slice none 0 0, .int .i64 0] z6 z7 w) :
    W3 t B w0 ga gb gc g1 g2 e1 e2 frs p4 p5 p6 p7 z4 #[.int .u8 t.command.kind, .string t.command.text, .slice (some ⟨gc, 0, none⟩) t.command.args.length (t.command.args.length + 12), .int .i64 t.command.num] z6 z7 ((((w.setCell ⟨p5, 0, none⟩ (.int .u8 t.command.kind)).setCell ⟨p5, 1, none⟩ (.string t.command.text)).setCell ⟨p5, 2, none⟩ (.slice (some ⟨gc, 0, none⟩) t.command.args.length (t.command.args.length + 12))).setCell ⟨p5, 3, none⟩ (.int .i64 t.command.num)) := by
  have ho : ∀ k, k ≠ p5 → ((((w.setCell ⟨p5, 0, none⟩ (.int .u8 t.command.kind)).setCell ⟨p5, 1, none⟩ (.string t.command.text)).setCell ⟨p5, 2, none⟩ (.slice (some ⟨gc, 0, none⟩) t.command.args.length (t.command.args.length + 12))).setCell ⟨p5, 3, none⟩ (.int .i64 t.command.num)).heap[k]? = w.heap[k]? := fun k hk => by rw [heap_setCell_other _ _ _ _ hk, heap_setCell_other _ _ _ _ hk, heap_setCell_other _ _ _ _ hk, heap_setCell_other _ _ _ _ hk]
  have hb : Below B w ((((w.setCell ⟨p5, 0, none⟩ (.int .u8 t.command.kind)).setCell ⟨p5, 1, none⟩ (.string t.command.text)).setCell ⟨p5, 2, none⟩ (.slice (some ⟨gc, 0, none⟩) t.command.args.length (t.command.args.length + 12))).setCell ⟨p5, 3, none⟩ (.int .i64 t.command.num)) := ((((Below.refl B w).setCell (p := ⟨p5, 0, none⟩) h.b5 (.int .u8 t.command.kind)).setCell (p := ⟨p5, 1, none⟩) h.b5 (.string t.command.text)).setCell (p := ⟨p5, 2, none⟩) h.b5 (.slice (some ⟨gc, 0, none⟩) t.command.args.length (t.command.args.length + 12))).setCell (p := ⟨p5, 3, none⟩) h.b5 (.int .i64 t.command.num)
  have n0 : (w.setCell ⟨p5, 0, none⟩ (.int .u8 t.command.kind)).heap[p5]? = some (.cells #[.int .u8 t.command.kind, .string ⟨#[]⟩, .slice none 0 0, .int .i64 0] 30 (0, 0)) := block_to (i := 0) h.k5 (.int .u8 t.command.kind) rfl
  have n1 : ((w.setCell ⟨p5, 0, none⟩ (.int .u8 t.command.kind)).setCell ⟨p5, 1, none⟩ (.string t.command.text)).heap[p5]? = some (.cells #[.int .u8 t.command.kind, .string t.command.text, .slice none 0 0, .int .i64 0] 30 (0, 0)) := block_to (i := 1) n0 (.string t.command.text) rfl
  have n2 : (((w.setCell ⟨p5, 0, none⟩ (.int .u8 t.command.kind)).setCell ⟨p5, 1, none⟩ (.string t.command.text)).setCell ⟨p5, 2, none⟩ (.slice (some ⟨gc, 0, none⟩) t.command.args.length (t.command.args.length + 12))).heap[p5]? = some (.cells #[.int .u8 t.command.kind, .string t.command.text, .slice (some ⟨gc, 0, none⟩) t.command.args.length (t.command.args.length + 12), .int .i64 0] 30 (0, 0)) := block_to (i := 2) n1 (.slice (some ⟨gc, 0, none⟩) t.command.args.length (t.command.args.length + 12)) rfl
  have n3 : ((((w.setCell ⟨p5, 0, none⟩ (.int .u8 t.command.kind)).setCell ⟨p5, 1, none⟩ (.string t.command.text)).setCell ⟨p5, 2, none⟩ (.slice (some ⟨gc, 0, none⟩) t.command.args.length (t.command.args.length + 12))).setCell ⟨p5, 3, none⟩ (.int .i64 t.command.num)).heap[p5]? = some (.cells #[.int .u8 t.command.kind, .string t.command.text, .slice (some ⟨gc, 0, none⟩) t.command.args.length (t.command.args.length + 12), .int .i64 t.command.num] 30 (0, 0)) := block_to (i := 3) n2 (.int .i64 t.command.num) rfl
  exact ⟨h.below.trans hb, Nat.le_trans h.size hb.size, h.ls.keepB ho h.k5 (by decide) (by decide) (Or.inl (by decide)), h.b4, h.b5, h.b6, h.b7, (ho _ (blk_ne h.k4 h.k5 (by decide))).trans h.k4, n3, (ho _ (blk_ne h.k6 h.k5 (by decide))).trans h.k6, (ho _ (blk_ne h.k7 h.k5 (by decide))).trans h.k7⟩
set_option maxHeartbeats 1000000 in
theorem W3.store6 {t : Th} {B : Nat} {w0 w : World} {ga gb gc g1 g2 e1 e2 p4 p5 p6 p7 : Nat} {frs : List Fa} {z4 z5 z7 : Array Value} (h : W3 t B w0 ga gb gc g1 g2 e1 e2 frs p4 p5 p6 p7 z4 z5 #[.int .i64 0, .int .i64 0, .slice none 0 0, .slice none 0 0] z7 w) :
    W3 t B w0 ga gb gc g1 g2 e1 e2 frs p4 p5 p6 p7 z4 z5 #[.int .i64 t.reply.err, .int .i64 t.reply.num, .slice (some ⟨g1, 0, none⟩) t.reply.facts.length (t.reply.facts.length + 12), .slice (some ⟨g2, 0, none⟩) t.reply.said.length (t.reply.said.length + 12)] z7 ((((w.setCell ⟨p6, 0, none⟩ (.int .i64 t.reply.err)).setCell ⟨p6, 1, none⟩ (.int .i64 t.reply.num)).setCell ⟨p6, 2, none⟩ (.slice (some ⟨g1, 0, none⟩) t.reply.facts.length (t.reply.facts.length + 12))).setCell ⟨p6, 3, none⟩ (.slice (some ⟨g2, 0, none⟩) t.reply.said.length (t.reply.said.length + 12))) := by
  have ho : ∀ k, k ≠ p6 → ((((w.setCell ⟨p6, 0, none⟩ (.int .i64 t.reply.err)).setCell ⟨p6, 1, none⟩ (.int .i64 t.reply.num)).setCell ⟨p6, 2, none⟩ (.slice (some ⟨g1, 0, none⟩) t.reply.facts.length (t.reply.facts.length + 12))).setCell ⟨p6, 3, none⟩ (.slice (some ⟨g2, 0, none⟩) t.reply.said.length (t.reply.said.length + 12))).heap[k]? = w.heap[k]? := fun k hk => by rw [heap_setCell_other _ _ _ _ hk, heap_setCell_other _ _ _ _ hk, heap_setCell_other _ _ _ _ hk, heap_setCell_other _ _ _ _ hk]
  have hb : Below B w ((((w.setCell ⟨p6, 0, none⟩ (.int .i64 t.reply.err)).setCell ⟨p6, 1, none⟩ (.int .i64 t.reply.num)).setCell ⟨p6, 2, none⟩ (.slice (some ⟨g1, 0, none⟩) t.reply.facts.length (t.reply.facts.length + 12))).setCell ⟨p6, 3, none⟩ (.slice (some ⟨g2, 0, none⟩) t.reply.said.length (t.reply.said.length + 12))) := ((((Below.refl B w).setCell (p := ⟨p6, 0, none⟩) h.b6 (.int .i64 t.reply.err)).setCell (p := ⟨p6, 1, none⟩) h.b6 (.int .i64 t.reply.num)).setCell (p := ⟨p6, 2, none⟩) h.b6 (.slice (some ⟨g1, 0, none⟩) t.reply.facts.length (t.reply.facts.length + 12))).setCell (p := ⟨p6, 3, none⟩) h.b6 (.slice (some ⟨g2, 0, none⟩) t.reply.said.length (t.reply.said.length + 12))
  have n0 : (w.setCell ⟨p6, 0, none⟩ (.int .i64 t.reply.err)).heap[p6]? = some (.cells #[.int .i64 t.reply.err, .int .i64 0, .slice none 0 0, .slice none 0 0] 34 (0, 0)) := block_to (i := 0) h.k6 (.int .i64 t.reply.err) rfl
  have n1 : ((w.setCell ⟨p6, 0, none⟩ (.int .i64 t.reply.err)).setCell ⟨p6, 1, none⟩ (.int .i64 t.reply.num)).heap[p6]? = some (.cells #[.int .i64 t.reply.err, .int .i64 t.reply.num, .slice none 0 0, .slice none 0 0] 34 (0, 0)) := block_to (i := 1) n0 (.int .i64 t.reply.num) rfl
  have n2 : (((w.setCell ⟨p6, 0, none⟩ (.int .i64 t.reply.err)).setCell ⟨p6, 1, none⟩ (.int .i64 t.reply.num)).setCell ⟨p6, 2, none⟩ (.slice (some ⟨g1, 0, none⟩) t.reply.facts.length (t.reply.facts.length + 12))).heap[p6]? = some (.cells #[.int .i64 t.reply.err, .int .i64 t.reply.num, .slice (some ⟨g1, 0, none⟩) t.reply.facts.length (t.reply.facts.length + 12), .slice none 0 0] 34 (0, 0)) := block_to (i := 2) n1 (.slice (some ⟨g1, 0, none⟩) t.reply.facts.length (t.reply.facts.length + 12)) rfl
  have n3 : ((((w.setCell ⟨p6, 0, none⟩ (.int .i64 t.reply.err)).setCell ⟨p6, 1, none⟩ (.int .i64 t.reply.num)).setCell ⟨p6, 2, none⟩ (.slice (some ⟨g1, 0, none⟩) t.reply.facts.length (t.reply.facts.length + 12))).setCell ⟨p6, 3, none⟩ (.slice (some ⟨g2, 0, none⟩) t.reply.said.length (t.reply.said.length + 12))).heap[p6]? = some (.cells #[.int .i64 t.reply.err, .int .i64 t.reply.num, .slice (some ⟨g1, 0, none⟩) t.reply.facts.length (t.reply.facts.length + 12), .slice (some ⟨g2, 0, none⟩) t.reply.said.length (t.reply.said.length + 12)] 34 (0, 0)) := block_to (i := 3) n2 (.slice (some ⟨g2, 0, none⟩) t.reply.said.length (t.reply.said.length + 12)) rfl
  exact ⟨h.below.trans hb, Nat.le_trans h.size hb.size, h.ls.keepB ho h.k6 (by decide) (by decide) (Or.inl (by decide)), h.b4, h.b5, h.b6, h.b7, (ho _ (blk_ne h.k4 h.k6 (by decide))).trans h.k4, (ho _ (blk_ne h.k5 h.k6 (by decide))).trans h.k5, n3, (ho _ (blk_ne h.k7 h.k6 (by decide))).trans h.k7⟩
set_option maxHeartbeats 1000000 in
theorem W3.store7 {t : Th} {B : Nat} {w0 w : World} {ga gb gc g1 g2 e1 e2 p4 p5 p6 p7 : Nat} {frs : List Fa} {z4 z5 z6 : Array Value} (h : W3 t B w0 ga gb gc g1 g2 e1 e2 frs p4 p5 p6 p7 z4 z5 z6 #[.int .i64 0, .int .u8 0, .int .i64 0, .int .i64 0, .int .u8 0, .string ⟨#[]⟩, .slice none 0 0, .int .i64 0, .slice none 0 0] w) :
    W3 t B w0 ga gb gc g1 g2 e1 e2 frs p4 p5 p6 p7 z4 z5 z6 #[.int .i64 t.entry.term, .int .u8 t.entry.kind, .int .i64 t.entry.session, .int .i64 t.entry.seq, .int .u8 t.entry.ck, .string t.entry.text, .slice (some ⟨e1, 0, none⟩) t.entry.args.length (t.entry.args.length + 12), .int .i64 t.entry.num, .slice (some ⟨e2, 0, none⟩) t.entry.vs.length (t.entry.vs.length + 12)] (((((((((w.setCell ⟨p7, 0, none⟩ (.int .i64 t.entry.term)).setCell ⟨p7, 1, none⟩ (.int .u8 t.entry.kind)).setCell ⟨p7, 2, none⟩ (.int .i64 t.entry.session)).setCell ⟨p7, 3, none⟩ (.int .i64 t.entry.seq)).setCell ⟨p7, 4, none⟩ (.int .u8 t.entry.ck)).setCell ⟨p7, 5, none⟩ (.string t.entry.text)).setCell ⟨p7, 6, none⟩ (.slice (some ⟨e1, 0, none⟩) t.entry.args.length (t.entry.args.length + 12))).setCell ⟨p7, 7, none⟩ (.int .i64 t.entry.num)).setCell ⟨p7, 8, none⟩ (.slice (some ⟨e2, 0, none⟩) t.entry.vs.length (t.entry.vs.length + 12))) := by
  have ho : ∀ k, k ≠ p7 → (((((((((w.setCell ⟨p7, 0, none⟩ (.int .i64 t.entry.term)).setCell ⟨p7, 1, none⟩ (.int .u8 t.entry.kind)).setCell ⟨p7, 2, none⟩ (.int .i64 t.entry.session)).setCell ⟨p7, 3, none⟩ (.int .i64 t.entry.seq)).setCell ⟨p7, 4, none⟩ (.int .u8 t.entry.ck)).setCell ⟨p7, 5, none⟩ (.string t.entry.text)).setCell ⟨p7, 6, none⟩ (.slice (some ⟨e1, 0, none⟩) t.entry.args.length (t.entry.args.length + 12))).setCell ⟨p7, 7, none⟩ (.int .i64 t.entry.num)).setCell ⟨p7, 8, none⟩ (.slice (some ⟨e2, 0, none⟩) t.entry.vs.length (t.entry.vs.length + 12))).heap[k]? = w.heap[k]? := fun k hk => by rw [heap_setCell_other _ _ _ _ hk, heap_setCell_other _ _ _ _ hk, heap_setCell_other _ _ _ _ hk, heap_setCell_other _ _ _ _ hk, heap_setCell_other _ _ _ _ hk, heap_setCell_other _ _ _ _ hk, heap_setCell_other _ _ _ _ hk, heap_setCell_other _ _ _ _ hk, heap_setCell_other _ _ _ _ hk]
  have hb : Below B w (((((((((w.setCell ⟨p7, 0, none⟩ (.int .i64 t.entry.term)).setCell ⟨p7, 1, none⟩ (.int .u8 t.entry.kind)).setCell ⟨p7, 2, none⟩ (.int .i64 t.entry.session)).setCell ⟨p7, 3, none⟩ (.int .i64 t.entry.seq)).setCell ⟨p7, 4, none⟩ (.int .u8 t.entry.ck)).setCell ⟨p7, 5, none⟩ (.string t.entry.text)).setCell ⟨p7, 6, none⟩ (.slice (some ⟨e1, 0, none⟩) t.entry.args.length (t.entry.args.length + 12))).setCell ⟨p7, 7, none⟩ (.int .i64 t.entry.num)).setCell ⟨p7, 8, none⟩ (.slice (some ⟨e2, 0, none⟩) t.entry.vs.length (t.entry.vs.length + 12))) := (((((((((Below.refl B w).setCell (p := ⟨p7, 0, none⟩) h.b7 (.int .i64 t.entry.term)).setCell (p := ⟨p7, 1, none⟩) h.b7 (.int .u8 t.entry.kind)).setCell (p := ⟨p7, 2, none⟩) h.b7 (.int .i64 t.entry.session)).setCell (p := ⟨p7, 3, none⟩) h.b7 (.int .i64 t.entry.seq)).setCell (p := ⟨p7, 4, none⟩) h.b7 (.int .u8 t.entry.ck)).setCell (p := ⟨p7, 5, none⟩) h.b7 (.string t.entry.text)).setCell (p := ⟨p7, 6, none⟩) h.b7 (.slice (some ⟨e1, 0, none⟩) t.entry.args.length (t.entry.args.length + 12))).setCell (p := ⟨p7, 7, none⟩) h.b7 (.int .i64 t.entry.num)).setCell (p := ⟨p7, 8, none⟩) h.b7 (.slice (some ⟨e2, 0, none⟩) t.entry.vs.length (t.entry.vs.length + 12))
  have n0 : (w.setCell ⟨p7, 0, none⟩ (.int .i64 t.entry.term)).heap[p7]? = some (.cells #[.int .i64 t.entry.term, .int .u8 0, .int .i64 0, .int .i64 0, .int .u8 0, .string ⟨#[]⟩, .slice none 0 0, .int .i64 0, .slice none 0 0] 38 (0, 0)) := block_to (i := 0) h.k7 (.int .i64 t.entry.term) rfl
  have n1 : ((w.setCell ⟨p7, 0, none⟩ (.int .i64 t.entry.term)).setCell ⟨p7, 1, none⟩ (.int .u8 t.entry.kind)).heap[p7]? = some (.cells #[.int .i64 t.entry.term, .int .u8 t.entry.kind, .int .i64 0, .int .i64 0, .int .u8 0, .string ⟨#[]⟩, .slice none 0 0, .int .i64 0, .slice none 0 0] 38 (0, 0)) := block_to (i := 1) n0 (.int .u8 t.entry.kind) rfl
  have n2 : (((w.setCell ⟨p7, 0, none⟩ (.int .i64 t.entry.term)).setCell ⟨p7, 1, none⟩ (.int .u8 t.entry.kind)).setCell ⟨p7, 2, none⟩ (.int .i64 t.entry.session)).heap[p7]? = some (.cells #[.int .i64 t.entry.term, .int .u8 t.entry.kind, .int .i64 t.entry.session, .int .i64 0, .int .u8 0, .string ⟨#[]⟩, .slice none 0 0, .int .i64 0, .slice none 0 0] 38 (0, 0)) := block_to (i := 2) n1 (.int .i64 t.entry.session) rfl
  have n3 : ((((w.setCell ⟨p7, 0, none⟩ (.int .i64 t.entry.term)).setCell ⟨p7, 1, none⟩ (.int .u8 t.entry.kind)).setCell ⟨p7, 2, none⟩ (.int .i64 t.entry.session)).setCell ⟨p7, 3, none⟩ (.int .i64 t.entry.seq)).heap[p7]? = some (.cells #[.int .i64 t.entry.term, .int .u8 t.entry.kind, .int .i64 t.entry.session, .int .i64 t.entry.seq, .int .u8 0, .string ⟨#[]⟩, .slice none 0 0, .int .i64 0, .slice none 0 0] 38 (0, 0)) := block_to (i := 3) n2 (.int .i64 t.entry.seq) rfl
  have n4 : (((((w.setCell ⟨p7, 0, none⟩ (.int .i64 t.entry.term)).setCell ⟨p7, 1, none⟩ (.int .u8 t.entry.kind)).setCell ⟨p7, 2, none⟩ (.int .i64 t.entry.session)).setCell ⟨p7, 3, none⟩ (.int .i64 t.entry.seq)).setCell ⟨p7, 4, none⟩ (.int .u8 t.entry.ck)).heap[p7]? = some (.cells #[.int .i64 t.entry.term, .int .u8 t.entry.kind, .int .i64 t.entry.session, .int .i64 t.entry.seq, .int .u8 t.entry.ck, .string ⟨#[]⟩, .slice none 0 0, .int .i64 0, .slice none 0 0] 38 (0, 0)) := block_to (i := 4) n3 (.int .u8 t.entry.ck) rfl
  have n5 : ((((((w.setCell ⟨p7, 0, none⟩ (.int .i64 t.entry.term)).setCell ⟨p7, 1, none⟩ (.int .u8 t.entry.kind)).setCell ⟨p7, 2, none⟩ (.int .i64 t.entry.session)).setCell ⟨p7, 3, none⟩ (.int .i64 t.entry.seq)).setCell ⟨p7, 4, none⟩ (.int .u8 t.entry.ck)).setCell ⟨p7, 5, none⟩ (.string t.entry.text)).heap[p7]? = some (.cells #[.int .i64 t.entry.term, .int .u8 t.entry.kind, .int .i64 t.entry.session, .int .i64 t.entry.seq, .int .u8 t.entry.ck, .string t.entry.text, .slice none 0 0, .int .i64 0, .slice none 0 0] 38 (0, 0)) := block_to (i := 5) n4 (.string t.entry.text) rfl
  have n6 : (((((((w.setCell ⟨p7, 0, none⟩ (.int .i64 t.entry.term)).setCell ⟨p7, 1, none⟩ (.int .u8 t.entry.kind)).setCell ⟨p7, 2, none⟩ (.int .i64 t.entry.session)).setCell ⟨p7, 3, none⟩ (.int .i64 t.entry.seq)).setCell ⟨p7, 4, none⟩ (.int .u8 t.entry.ck)).setCell ⟨p7, 5, none⟩ (.string t.entry.text)).setCell ⟨p7, 6, none⟩ (.slice (some ⟨e1, 0, none⟩) t.entry.args.length (t.entry.args.length + 12))).heap[p7]? = some (.cells #[.int .i64 t.entry.term, .int .u8 t.entry.kind, .int .i64 t.entry.session, .int .i64 t.entry.seq, .int .u8 t.entry.ck, .string t.entry.text, .slice (some ⟨e1, 0, none⟩) t.entry.args.length (t.entry.args.length + 12), .int .i64 0, .slice none 0 0] 38 (0, 0)) := block_to (i := 6) n5 (.slice (some ⟨e1, 0, none⟩) t.entry.args.length (t.entry.args.length + 12)) rfl
  have n7 : ((((((((w.setCell ⟨p7, 0, none⟩ (.int .i64 t.entry.term)).setCell ⟨p7, 1, none⟩ (.int .u8 t.entry.kind)).setCell ⟨p7, 2, none⟩ (.int .i64 t.entry.session)).setCell ⟨p7, 3, none⟩ (.int .i64 t.entry.seq)).setCell ⟨p7, 4, none⟩ (.int .u8 t.entry.ck)).setCell ⟨p7, 5, none⟩ (.string t.entry.text)).setCell ⟨p7, 6, none⟩ (.slice (some ⟨e1, 0, none⟩) t.entry.args.length (t.entry.args.length + 12))).setCell ⟨p7, 7, none⟩ (.int .i64 t.entry.num)).heap[p7]? = some (.cells #[.int .i64 t.entry.term, .int .u8 t.entry.kind, .int .i64 t.entry.session, .int .i64 t.entry.seq, .int .u8 t.entry.ck, .string t.entry.text, .slice (some ⟨e1, 0, none⟩) t.entry.args.length (t.entry.args.length + 12), .int .i64 t.entry.num, .slice none 0 0] 38 (0, 0)) := block_to (i := 7) n6 (.int .i64 t.entry.num) rfl
  have n8 : (((((((((w.setCell ⟨p7, 0, none⟩ (.int .i64 t.entry.term)).setCell ⟨p7, 1, none⟩ (.int .u8 t.entry.kind)).setCell ⟨p7, 2, none⟩ (.int .i64 t.entry.session)).setCell ⟨p7, 3, none⟩ (.int .i64 t.entry.seq)).setCell ⟨p7, 4, none⟩ (.int .u8 t.entry.ck)).setCell ⟨p7, 5, none⟩ (.string t.entry.text)).setCell ⟨p7, 6, none⟩ (.slice (some ⟨e1, 0, none⟩) t.entry.args.length (t.entry.args.length + 12))).setCell ⟨p7, 7, none⟩ (.int .i64 t.entry.num)).setCell ⟨p7, 8, none⟩ (.slice (some ⟨e2, 0, none⟩) t.entry.vs.length (t.entry.vs.length + 12))).heap[p7]? = some (.cells #[.int .i64 t.entry.term, .int .u8 t.entry.kind, .int .i64 t.entry.session, .int .i64 t.entry.seq, .int .u8 t.entry.ck, .string t.entry.text, .slice (some ⟨e1, 0, none⟩) t.entry.args.length (t.entry.args.length + 12), .int .i64 t.entry.num, .slice (some ⟨e2, 0, none⟩) t.entry.vs.length (t.entry.vs.length + 12)] 38 (0, 0)) := block_to (i := 8) n7 (.slice (some ⟨e2, 0, none⟩) t.entry.vs.length (t.entry.vs.length + 12)) rfl
  exact ⟨h.below.trans hb, Nat.le_trans h.size hb.size, h.ls.keepB ho h.k7 (by decide) (by decide) (Or.inl (by decide)), h.b4, h.b5, h.b6, h.b7, (ho _ (blk_ne h.k4 h.k7 (by decide))).trans h.k4, (ho _ (blk_ne h.k5 h.k7 (by decide))).trans h.k5, (ho _ (blk_ne h.k6 h.k7 (by decide))).trans h.k6, n8⟩
theorem W3.cells {t : Th} {B : Nat} {w0 w : World} {ga gb gc g1 g2 e1 e2 p4 p5 p6 p7 : Nat} {frs : List Fa} (h : W3 t B w0 ga gb gc g1 g2 e1 e2 frs p4 p5 p6 p7 #[.int .i64 t.fact.id, .int .i64 t.fact.ty, .slice (some ⟨gb, 0, none⟩) t.fact.args.length (t.fact.args.length + 12)] #[.int .u8 t.command.kind, .string t.command.text, .slice (some ⟨gc, 0, none⟩) t.command.args.length (t.command.args.length + 12), .int .i64 t.command.num] #[.int .i64 t.reply.err, .int .i64 t.reply.num, .slice (some ⟨g1, 0, none⟩) t.reply.facts.length (t.reply.facts.length + 12), .slice (some ⟨g2, 0, none⟩) t.reply.said.length (t.reply.said.length + 12)] #[.int .i64 t.entry.term, .int .u8 t.entry.kind, .int .i64 t.entry.session, .int .i64 t.entry.seq, .int .u8 t.entry.ck, .string t.entry.text, .slice (some ⟨e1, 0, none⟩) t.entry.args.length (t.entry.args.length + 12), .int .i64 t.entry.num, .slice (some ⟨e2, 0, none⟩) t.entry.vs.length (t.entry.vs.length + 12)] w) :
    w.cell? ⟨p4, 0, none⟩ = some (.int .i64 t.fact.id) ∧ w.cell? ⟨p4, 1, none⟩ = some (.int .i64 t.fact.ty) ∧ w.cell? ⟨p4, 2, none⟩ = some (.slice (some ⟨gb, 0, none⟩) t.fact.args.length (t.fact.args.length + 12)) ∧ w.cell? ⟨p5, 0, none⟩ = some (.int .u8 t.command.kind) ∧ w.cell? ⟨p5, 1, none⟩ = some (.string t.command.text) ∧ w.cell? ⟨p5, 2, none⟩ = some (.slice (some ⟨gc, 0, none⟩) t.command.args.length (t.command.args.length + 12)) ∧ w.cell? ⟨p5, 3, none⟩ = some (.int .i64 t.command.num) ∧ w.cell? ⟨p6, 0, none⟩ = some (.int .i64 t.reply.err) ∧ w.cell? ⟨p6, 1, none⟩ = some (.int .i64 t.reply.num) ∧ w.cell? ⟨p6, 2, none⟩ = some (.slice (some ⟨g1, 0, none⟩) t.reply.facts.length (t.reply.facts.length + 12)) ∧ w.cell? ⟨p6, 3, none⟩ = some (.slice (some ⟨g2, 0, none⟩) t.reply.said.length (t.reply.said.length + 12)) ∧ w.cell? ⟨p7, 0, none⟩ = some (.int .i64 t.entry.term) ∧ w.cell? ⟨p7, 1, none⟩ = some (.int .u8 t.entry.kind) ∧ w.cell? ⟨p7, 2, none⟩ = some (.int .i64 t.entry.session) ∧ w.cell? ⟨p7, 3, none⟩ = some (.int .i64 t.entry.seq) ∧ w.cell? ⟨p7, 4, none⟩ = some (.int .u8 t.entry.ck) ∧ w.cell? ⟨p7, 5, none⟩ = some (.string t.entry.text) ∧ w.cell? ⟨p7, 6, none⟩ = some (.slice (some ⟨e1, 0, none⟩) t.entry.args.length (t.entry.args.length + 12)) ∧ w.cell? ⟨p7, 7, none⟩ = some (.int .i64 t.entry.num) ∧ w.cell? ⟨p7, 8, none⟩ = some (.slice (some ⟨e2, 0, none⟩) t.entry.vs.length (t.entry.vs.length + 12)) :=
  ⟨Go.Joins.cell_of_block h.k4 0, Go.Joins.cell_of_block h.k4 1, Go.Joins.cell_of_block h.k4 2, Go.Joins.cell_of_block h.k5 0, Go.Joins.cell_of_block h.k5 1, Go.Joins.cell_of_block h.k5 2, Go.Joins.cell_of_block h.k5 3, Go.Joins.cell_of_block h.k6 0, Go.Joins.cell_of_block h.k6 1, Go.Joins.cell_of_block h.k6 2, Go.Joins.cell_of_block h.k6 3, Go.Joins.cell_of_block h.k7 0, Go.Joins.cell_of_block h.k7 1, Go.Joins.cell_of_block h.k7 2, Go.Joins.cell_of_block h.k7 3, Go.Joins.cell_of_block h.k7 4, Go.Joins.cell_of_block h.k7 5, Go.Joins.cell_of_block h.k7 6, Go.Joins.cell_of_block h.k7 7, Go.Joins.cell_of_block h.k7 8⟩
end Go.Proofs.YtnfldkebjeigiaaGreatDoor
/- Reply of wire: the bytes of a form. Conditions: what is written is not too long. -/
namespace Go.Proofs.YtnfldkebjeigiaaGreatDoor
open Go.RowKit
set_option maxRecDepth 20000
set_option maxHeartbeats 2000000 in
theorem wreply_any (er num : Int) (fo : Option Addr) (n fcap : Nat) (facts : List Fa) (so : Option Addr) (m scap : Nat) (said : List Va) (w : World) (hn : facts.length = n) (hm : said.length = m) (hx : FasIn w w.heap.size fo facts) (hs : ValsIn w w.heap.size so said)
    (htf : ∀ f ∈ facts, f.args.length ≤ 1099511627776 ∧ ∀ v ∈ f.args, v.text.size ≤ 1099511627776) (hts : ∀ v ∈ said, v.text.size ≤ 1099511627776) (hnl : n ≤ 1099511627776) (hml : m ≤ 1099511627776) (L : List Int) (hL : (facts.flatMap fun f => factB f.plain) = L) (hlim : L.length + (valuesB said).length + 100 ≤ 100000000000) :
    Calls Tryz.prog 19 #[.agg #[.int .i64 er, .int .i64 num, .slice fo n fcap, .slice so m scap]] w (BytesNew (numB 8 er ++ (numB 8 num ++ (numB 4 n ++ (L ++ valuesB said)))) w.heap.size w) := by
  have hst := Wrote.start (buf_new (w.alloc (.cells #[.int .i64 er, .int .i64 num, .slice fo n fcap, .slice so m scap] 34)))
  have hb := ((Below.refl w.heap.size w).alloc (Nat.le_refl _) (.cells #[.int .i64 er, .int .i64 num, .slice fo n fcap, .slice so m scap] 34)).alloc (by simp) (.cells #[.slice none 0 0, .int .i64 0, .int .i8 0] 97)
  have hk := heap_alloc_keep (heap_alloc_new w (.cells #[.int .i64 er, .int .i64 num, .slice fo n fcap, .slice so m scap] 34)) (.cells #[.slice none 0 0, .int .i64 0, .int .i8 0] 97)
  have hsz : (w.alloc (.cells #[.int .i64 er, .int .i64 num, .slice fo n fcap, .slice so m scap] 34)).heap.size = w.heap.size + 1 := by simp
  have hs0 : ((w.alloc (.cells #[.int .i64 er, .int .i64 num, .slice fo n fcap, .slice so m scap] 34)).alloc (.cells #[.slice none 0 0, .int .i64 0, .int .i8 0] 97)).heap.size = w.heap.size + 2 := by simp
  rw [hsz] at hst
  have HX := Lib.hid hx
  have HS := Lib.hid hs
  have HN := Lib.hid hn
  have HM := Lib.hid hm
  have HTF := Lib.hid htf
  have HTS := Lib.hid hts
  have HL := Lib.hid hL
  have HST := Lib.hid hst
  have HB := Lib.hid hb
  have HK := Lib.hid hk
  have HS0 := Lib.hid hs0
  clear hst hb hk hsz hs0 hx hs hn hm htf hts hL
  go_enter Tryz.func19, Tryz.ntmps19
  go_wp2_with fail
  have hst := HST.out
  have hb := HB.out
  have hk := HK.out
  have hs0 := HS0.out
  generalize ((w.alloc (.cells #[.int .i64 er, .int .i64 num, .slice fo n fcap, .slice so m scap] 34)).alloc (.cells #[.slice none 0 0, .int .i64 0, .int .i8 0] 97)) = w0 at hst hb hk hs0 ⊢
  clear HST HB HK HS0
  have HX := Lib.hid ((HX.out.below faSub_kept hb (Nat.le_refl _)).mono faSub_rising (Nat.le_succ _))
  have HS := Lib.hid ((HS.out.below noSub_kept hb (Nat.le_refl _)).mono noSub_rising (Nat.le_succ _))
  have HK := Lib.hid hk
  refine (put2_any (w.heap.size + 1) (w.heap.size + 1) 8 _ [] er num w0 (by simp [hs0]) (by omega) (by omega) hst.1 (by omega) (by simp)).mono ?_
  rintro e w1 ⟨rfl, hw⟩
  rw [List.nil_append] at hw
  have hk1 := hw.sits hk (by omega) (by decide)
  have d2 : w1.cell? ⟨w.heap.size, 2, none⟩ = some (.slice fo n fcap) := Go.Joins.cell_of_block hk1 2
  have H1 := Lib.hid hw
  have HK1 := Lib.hid hk1
  have hB0 : w.heap.size + 1 ≤ w0.heap.size := by omega
  clear hw hk1 hk hst
  go_wp2_with fail
  refine (count_any (w.heap.size + 1) (w.heap.size + 1) _ n w1 H1.out.1 (Nat.le_trans hB0 H1.out.2.1.size) (by simp only [List.length_append, numB_len]; omega)).mono ?_
  rintro e w2 ⟨rfl, hw⟩
  have hk2 := hw.sits HK1.out (by omega) (by decide)
  have d2 : w2.cell? ⟨w.heap.size, 2, none⟩ = some (.slice fo n fcap) := Go.Joins.cell_of_block hk2 2
  have H2 := Lib.hid (H1.out.trans hw)
  clear hw hk2 HK1 H1
  go_wp2_with fail
  go_loopw [19] (fun i wr => ∃ k : Nat, k ≤ n ∧ i = .int .i64 k ∧ Wrote (w.heap.size + 1) (w.heap.size + 1) (numB 8 er ++ numB 8 num ++ numB 4 n ++ (facts.take k).flatMap fun f => factB f.plain) w0 wr) (fun i _ => n - (intOf i).toNat)
  case atStart => exact ⟨0, by omega, rfl, by simpa using H2.out⟩
  case round =>
    clear H2 d2
    obtain ⟨k, hk, rfl, hw⟩ := hrel
    have HW := Lib.hid hw
    clear hw
    by_cases hlt : k < n
    · have hkx : facts[k]? = some (facts[k]'(by rw [HN.out]; exact hlt)) := List.getElem?_eq_getElem _
      obtain ⟨rb, off, hao, hbb, hc, hsub⟩ := HX.out.at hkx
      have htk : ((facts.take (k + 1)).flatMap fun f => factB f.plain) = ((facts.take k).flatMap fun f => factB f.plain) ++ factB (facts[k]'(by rw [HN.out]; exact hlt)).plain := by
        rw [List.take_succ_eq_append_getElem (by rw [HN.out]; exact hlt), List.flatMap_append]; simp
      have hle := flatMap_at_le (fun f : Fa => factB f.plain) facts k _ hkx
      rw [HL.out] at hle
      have htx := HTF.out _ (List.getElem_mem (l := facts) (n := k) (by rw [HN.out]; exact hlt))
      generalize facts[k]'(by rw [HN.out]; exact hlt) = x at hc htk hle htx hkx hsub
      have hfl : (factB x.plain).length = 16 + (valuesB x.args).length := by simp only [Fa.plain, factB, List.length_append, numB_len]; omega
      have hcall : ∀ w', Wrote (w.heap.size + 1) (w.heap.size + 1) (numB 8 er ++ numB 8 num ++ numB 4 n ++ (facts.take k).flatMap fun f => factB f.plain) w0 w' → Calls Tryz.prog 65 #[.pointer (some ⟨w.heap.size + 1, 0, none⟩), faVal x] w' fun e w'' => e = .returned (.tuple #[]) ∧ Wrote (w.heap.size + 1) (w.heap.size + 1) ((numB 8 er ++ numB 8 num ++ numB 4 n ++ (facts.take k).flatMap fun f => factB f.plain) ++ factB x.plain) w' w'' := fun w' hw' =>
        fact_any (w.heap.size + 1) (w.heap.size + 1) _ x.id x.ty x.ao _ x.cap x.args w' rfl (hsub.below noSub_kept hw'.2.1 (Nat.le_refl _)) htx.2 hw'.1 (Nat.le_trans hB0 hw'.2.1.size) htx.1 (by simp only [List.length_append, numB_len]; omega)
      obtain ⟨id, ty, ao, args, cap⟩ := x
      unfold faVal at hcall
      dsimp only at hcall
      obtain ⟨an, han⟩ : ∃ an, args.length = an := ⟨_, rfl⟩
      rw [han] at hcall
      have hbel := HW.out.2.1
      have c0 : wr.cell? ⟨rb, off + k * 3, none⟩ = some (.int .i64 id) := (hbel.cell (p := ⟨rb, _, none⟩) hbb).trans (hc 0 (by decide))
      have c1 : wr.cell? ⟨rb, off + k * 3 + 1, none⟩ = some (.int .i64 ty) := (hbel.cell (p := ⟨rb, _, none⟩) hbb).trans (hc 1 (by decide))
      have c2 : wr.cell? ⟨rb, off + k * 3 + 1 + 1, none⟩ = some (.slice ao an cap) := (hbel.cell (p := ⟨rb, _, none⟩) hbb).trans (han ▸ hc 2 (by decide))
      have c3 : wr.cell? ⟨rb, off + k * 3 + 2, none⟩ = some (.slice ao an cap) := c2
      have HT := Lib.hid htk
      have HC := Lib.hid hcall
      have i1 : (k : Int) < n := by omega
      subst hao
      clear hc htk hle htx hkx hcall hbel hsub hfl han
      go_wp2_with fail
      refine (HC.out _ (HW.out.alloc hB0 _)).mono ?_
      rintro e w3 ⟨rfl, hw3⟩
      have hw4 := (HW.out.alloc hB0 _).trans hw3
      rw [List.append_assoc, ← HT.out] at hw4
      have HW4 := Lib.hid hw4
      clear hw3 hw4 c0 c1 c2 c3
      go_wp2_with fail
      go_roundw
      case rel => exact ⟨k + 1, by omega, by go_num, HW4.out⟩
      case measure => simp [intOf]; omega
    · obtain rfl : k = n := by omega
      have hw5 := HW.out
      rw [List.take_of_length_le (l := facts) (by rw [HN.out]; exact Nat.le_refl _), HL.out] at hw5
      have hk5 := hw5.sits HK.out (by omega) (by decide)
      have d3 : wr.cell? ⟨w.heap.size, 3, none⟩ = some (.slice so m scap) := Go.Joins.cell_of_block hk5 3
      have HW5 := Lib.hid hw5
      clear hw5 hk5 HW
      go_wp2_with fail
      refine (values_any (w.heap.size + 1) (w.heap.size + 1) _ so m scap said wr HM.out (HS.out.below noSub_kept HW5.out.2.1 (Nat.le_refl _)) HTS.out HW5.out.1 (Nat.le_trans hB0 HW5.out.2.1.size) (by simp only [List.length_append, numB_len]; omega) hml (by simp only [List.length_append, numB_len]; omega)).mono ?_
      rintro e w6 ⟨rfl, hw6⟩
      have hw7 := HW5.out.trans hw6
      have hbs : numB 8 er ++ numB 8 num ++ numB 4 k ++ L ++ valuesB said = numB 8 er ++ (numB 8 num ++ (numB 4 k ++ (L ++ valuesB said))) := by simp
      rw [hbs] at hw7
      have HW7 := Lib.hid hw7
      have hb6 := hb.trans (hw7.2.1.mono (Nat.le_succ _))
      have hs6 : w.heap.size + 1 ≤ w6.heap.size := by have := hw7.2.1.size; omega
      clear hw6 hw7 hbs d3
      go_wp2_with fail
      refine (told_any (w.heap.size + 1) (w.heap.size + 1) _ w6 HW7.out.1 hs6 (by simp only [List.length_append, numB_len]; omega)).mono ?_
      rintro e w8 ⟨a, c, rfl, ho, hb2⟩
      have HO := Lib.hid (Go.Joins.ownsRow_le ho hb6.size)
      have hb9 := hb6.trans (hb2.mono hb6.size)
      clear ho hb2
      go_wp2_with fail
      go_ret
      exact ⟨a, c, by simp [List.length_append], HO.out, hb9⟩
end Go.Proofs.YtnfldkebjeigiaaGreatDoor
