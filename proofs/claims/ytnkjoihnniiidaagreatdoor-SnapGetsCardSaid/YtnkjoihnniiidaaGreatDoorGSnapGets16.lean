/- Small laws for rows whose elements take several cells. No program. Conditions: as each says. -/
import Derived.Test.YtnkjoihnniiidaaGreatDoorGSnapGets14
import Derived.Test.YtnkjoihnniiidaaGreatDoorGSnapGets15
import Derived.Test.YtnkjoihnniiidaaGreatDoorGSnapGets2
import Derived.StillTailTactics
import Derived.Test.YtnkjoihnniiidaaGreatDoorGSnapGets3
import Derived.Lib.Bytes
import Derived.Deep.MidRow
import Derived.BigFrame
import Derived.Maps.AppendAt
import Derived.Test.YtnkjoihnniiidaaGreatDoorGSnapGets13
import Derived.Test.YtnkjoihnniiidaaGreatDoorGSnapGets1
set_option linter.unusedVariables false
set_option linter.unusedSimpArgs false
namespace Go.Proofs.YtnkjoihnniiidaaGreatDoor
open Go.RowKit
theorem run_make_rows {P : Program} (t e : TypeId) (z : Value) (size bytes : Nat) (ht : P.underlying t = some (.slice e)) (hinfo : (P.info? e).map (fun i => (i.zero, i.size, i.bytes)) = some (some z, size, bytes))
    (kl kc : IntKind) (n : Nat) (hbytes : bytes * n ≤ 281474976710656) (h63 : n ≤ 9223372036854775807) (w : World) :
    (Instr.makeSlice t (.int kl (n : Int)) (.int kc (n : Int))).run P w = .ok (.slice (some ⟨w.heap.size, 0, none⟩) n n) (w.alloc (.cells (madeCells z.cells (n * size)) e)) := by
  obtain ⟨i, hi, hzz⟩ := Option.map_eq_some_iff.1 hinfo
  simp only [Prod.mk.injEq] at hzz
  obtain ⟨hz, hs, hb⟩ := hzz
  have hb' : (i.bytes : Int) * (n : Int) ≤ 281474976710656 := by
    have h : ((i.bytes * n : Nat) : Int) ≤ 281474976710656 := by rw [hb]; omega
    rwa [Int.natCast_mul] at h
  have hr := run_make (P := P) w t e i z ht hi hz kl kc n n (by omega) (Int.le_refl _) hb' (by omega)
  simp only [Int.toNat_natCast, hs] at hr
  exact hr
theorem made_one (z : Array Value) (n : Nat) (h0 : 0 < z.size) (h : z.toList.all (fun u => u.oneCell') = true) : ∀ u ∈ (madeCells z n).toList, u.oneCell' = true := by
  intro u hu
  unfold madeCells at hu
  simp only [Array.toList_map, Array.toList_range, List.mem_map, List.mem_range] at hu
  obtain ⟨i, _, rfl⟩ := hu
  have hlt : i % z.size < z.size := Nat.mod_lt _ h0
  rw [getElem!_pos z (i % z.size) hlt]
  exact List.all_eq_true.1 h _ (by simp)
theorem one_set {l : List Value} {q : Nat} {u : Value} (h : ∀ x ∈ l, x.oneCell' = true) (hu : u.oneCell' = true) : ∀ x ∈ l.set q u, x.oneCell' = true := by
  intro x hx
  rcases List.mem_or_eq_of_mem_set hx with hx | hx
  · exact h x hx
  · rw [hx]; exact hu
theorem cells_new (w : World) (T : TypeId) (cs : List Value) : ∀ j u, cs[j]? = some u → (w.alloc (.cells cs.toArray T)).cell? ((⟨w.heap.size, 0, none⟩ : Addr).add j) = some u := by
  intro j u hu
  have hadd : (⟨w.heap.size, 0, none⟩ : Addr).add j = ⟨w.heap.size, j, none⟩ := by unfold Addr.add; split <;> simp_all
  rw [hadd, World.cell?_alloc_at _ _ _ _ rfl]
  simpa using hu
end Go.Proofs.YtnkjoihnniiidaaGreatDoor
/- The marks of ropewalkkit/lent.go: numbers, values, entries. Conditions: the places are not too great. -/
namespace Go.Proofs.YtnkjoihnniiidaaGreatDoor
open Go.RowKit
set_option maxRecDepth 20000
def mkI (k i : Nat) : List Value := [.int .i64 (markN k i)]
theorem mkI_len (k i : Nat) : (mkI k i).length = 1 := rfl
def mkV (k i : Nat) : List Value := [.int .u8 0, .int .i64 (markN k i), .string ByteArray.empty]
theorem mkV_len (k i : Nat) : (mkV k i).length = 3 := rfl
def mkE (k i : Nat) : List Value := [.int .i64 (markN k i), .int .u8 0, .int .i64 0, .int .i64 0, .int .u8 0, .string ByteArray.empty, .slice none 0 0, .int .i64 0, .slice none 0 0]
theorem markI_at (a b : Int) (k i : Nat) (ha : a = k) (hb : b = i) (hk : k ≤ 1000000) (hi : i ≤ 2000000000000) (w : World) :
    Calls Tryz.prog 70 #[.int .i64 a, .int .i64 b] w fun e w' => e = .returned (.int .i64 (markN k i)) ∧ Below w.heap.size w w' :=
  (mark_at a b k i ha hb hk hi w).mono fun _ _ ⟨h1, h2⟩ => ⟨h1, h2 ▸ Below.refl _ _⟩
theorem markI_is (a b : Int) (k i : Nat) (m : Int) (hm : markN k i = m) (ha : a = k) (hb : b = i) (hk : k ≤ 1000000) (hi : i ≤ 2000000000000) (w : World) :
    Calls Tryz.prog 70 #[.int .i64 a, .int .i64 b] w fun e w' => e = .returned (.int .i64 m) ∧ Below w.heap.size w w' := hm ▸ markI_at a b k i ha hb hk hi w
end Go.Proofs.YtnkjoihnniiidaaGreatDoor
/- LentValues, KeptValues, OverValues: a row is copied with marks behind its end; as long as nobody writes there it is found as it was; it is written over. Conditions: the row is not too long. -/
namespace Go.Proofs.YtnkjoihnniiidaaGreatDoor
open Go.RowKit
set_option maxRecDepth 20000
/-- Block g holds the row xs and twelve marks behind it. -/
def LentV (w : World) (B g : Nat) (xs : List Va) : Prop :=
  w.ownsRow B 198 3 (.slice (some ⟨g, 0, none⟩) (xs.length + 12) (xs.length + 12)) (xs.length + 12) (xs.flatMap vaCells ++ mks mkV 1 12)
theorem LentV.lt {w : World} {B g : Nat} {xs : List Va} (h : LentV w B g xs) : B ≤ g ∧ g < w.heap.size := World.ownsRow.lt h g rfl
theorem LentV.below {w w' : World} {B g B' : Nat} {xs : List Va} (h : LentV w B g xs) (hb : Below B' w w') (hB : w.heap.size ≤ B') : LentV w' B g xs := own_below h hb hB
theorem LentV.le {w : World} {B B' g : Nat} {xs : List Va} (h : LentV w B g xs) (hB : B' ≤ B) : LentV w B' g xs := Go.Joins.ownsRow_le h hB
theorem LentV.rows {w : World} {B g : Nat} {xs : List Va} (h : LentV w B g xs) : RowsIn 3 vaCells noSub w (g + 1) (some ⟨g, 0, none⟩) xs := by
  refine Or.inr ⟨g, 0, rfl, by omega, fun i x hx => ⟨fun j hj => ?_, trivial⟩⟩
  have hi := (List.getElem?_eq_some_iff.1 hx).1
  have hl := flat_len vaCells_len xs
  rw [Nat.zero_add, World.ownsRow.cellAt h _ (by omega), List.getElem?_append_left (by omega)]
  exact flat_get vaCells_len xs i x hx j hj
theorem LentV.mark {w : World} {B g : Nat} {xs : List Va} (h : LentV w B g xs) {i : Nat} (hi : i < 12) (j : Nat) (hj : j < 3) : w.cell? ⟨g, (xs.length + i) * 3 + j, none⟩ = (mkV 1 i)[j]? := by
  have hl := flat_len vaCells_len xs
  rw [World.ownsRow.cellAt h _ (by omega), List.getElem?_append_right (by omega), hl, show (xs.length + i) * 3 + j - xs.length * 3 = i * 3 + j by omega]
  exact mks_get mkV_len 1 12 i j hi hj
end Go.Proofs.YtnkjoihnniiidaaGreatDoor
/- LentInts, KeptInts, OverInts: a row is copied with marks behind its end; as long as nobody writes there it is found as it was; it is written over. Conditions: the row is not too long. -/
namespace Go.Proofs.YtnkjoihnniiidaaGreatDoor
open Go.RowKit
set_option maxRecDepth 20000
/-- Block g holds the row xs and twelve marks behind it. -/
def LentI (w : World) (B g : Nat) (xs : List Int) : Prop :=
  w.ownsRow B 3 1 (.slice (some ⟨g, 0, none⟩) (xs.length + 12) (xs.length + 12)) (xs.length + 12) (xs.flatMap iCells ++ mks mkI 1 12)
theorem LentI.lt {w : World} {B g : Nat} {xs : List Int} (h : LentI w B g xs) : B ≤ g ∧ g < w.heap.size := World.ownsRow.lt h g rfl
theorem LentI.below {w w' : World} {B g B' : Nat} {xs : List Int} (h : LentI w B g xs) (hb : Below B' w w') (hB : w.heap.size ≤ B') : LentI w' B g xs := own_below h hb hB
theorem LentI.le {w : World} {B B' g : Nat} {xs : List Int} (h : LentI w B g xs) (hB : B' ≤ B) : LentI w B' g xs := Go.Joins.ownsRow_le h hB
theorem LentI.rows {w : World} {B g : Nat} {xs : List Int} (h : LentI w B g xs) : RowsIn 1 iCells noSub w (g + 1) (some ⟨g, 0, none⟩) xs := by
  refine Or.inr ⟨g, 0, rfl, by omega, fun i x hx => ⟨fun j hj => ?_, trivial⟩⟩
  have hi := (List.getElem?_eq_some_iff.1 hx).1
  have hl := flat_len iCells_len xs
  rw [Nat.zero_add, World.ownsRow.cellAt h _ (by omega), List.getElem?_append_left (by omega)]
  exact flat_get iCells_len xs i x hx j hj
theorem LentI.mark {w : World} {B g : Nat} {xs : List Int} (h : LentI w B g xs) {i : Nat} (hi : i < 12) (j : Nat) (hj : j < 1) : w.cell? ⟨g, (xs.length + i) * 1 + j, none⟩ = (mkI 1 i)[j]? := by
  have hl := flat_len iCells_len xs
  rw [World.ownsRow.cellAt h _ (by omega), List.getElem?_append_right (by omega), hl, show (xs.length + i) * 1 + j - xs.length * 1 = i * 1 + j by omega]
  exact mks_get mkI_len 1 12 i j hi hj
end Go.Proofs.YtnkjoihnniiidaaGreatDoor
/- A few blocks laid one behind the other. Any program. Conditions: none. -/
namespace Go.Proofs.YtnkjoihnniiidaaGreatDoor
open Go.RowKit
theorem keep_alloc {w : World} {g : Nat} {x : Obj} (h : w.heap[g]? = some x) (o : Obj) : (w.alloc o).heap[g]? = some x :=
  ((World.grownBy_alloc w o none).block g (Array.getElem?_eq_some_iff.1 h).1 (by simp)).trans h
theorem alloc2_facts (w : World) (A B : Array Value) (T1 T2 : TypeId) : Below w.heap.size w ((w.alloc (.cells A T1)).alloc (.cells B T2)) ∧ ((w.alloc (.cells A T1)).alloc (.cells B T2)).heap[w.heap.size]? = some (.cells A T1 (0, 0)) ∧ ((w.alloc (.cells A T1)).alloc (.cells B T2)).heap[w.heap.size + 1]? = some (.cells B T2 (0, 0)) ∧ ((w.alloc (.cells A T1)).alloc (.cells B T2)).heap.size = w.heap.size + 2 := by
  refine ⟨((Below.refl _ _).alloc (Nat.le_refl _) _).alloc (by simp) _, keep_alloc (heap_alloc_new w _) _, ?_, by simp⟩
  have := heap_alloc_new (w.alloc (.cells A T1)) (.cells B T2)
  simpa using this
theorem alloc3_facts (w : World) (A B C : Array Value) (T1 T2 T3 : TypeId) : Below w.heap.size w (((w.alloc (.cells A T1)).alloc (.cells B T2)).alloc (.cells C T3)) ∧ (((w.alloc (.cells A T1)).alloc (.cells B T2)).alloc (.cells C T3)).heap[w.heap.size]? = some (.cells A T1 (0, 0)) ∧ (((w.alloc (.cells A T1)).alloc (.cells B T2)).alloc (.cells C T3)).heap[w.heap.size + 1]? = some (.cells B T2 (0, 0)) ∧ (((w.alloc (.cells A T1)).alloc (.cells B T2)).alloc (.cells C T3)).heap[w.heap.size + 2]? = some (.cells C T3 (0, 0)) ∧ (((w.alloc (.cells A T1)).alloc (.cells B T2)).alloc (.cells C T3)).heap.size = w.heap.size + 3 := by
  obtain ⟨h1, h2, h3, h4⟩ := alloc2_facts w A B T1 T2
  refine ⟨h1.alloc h1.size _, keep_alloc h2 _, keep_alloc h3 _, ?_, by simp⟩
  have := heap_alloc_new ((w.alloc (.cells A T1)).alloc (.cells B T2)) (.cells C T3)
  rw [h4] at this
  exact this
end Go.Proofs.YtnkjoihnniiidaaGreatDoor
/- LentFact, LentCommand, KeptFact, KeptCommand: a thing whose values are copied with marks behind their end; as long as nobody writes there it is found as it was. Conditions: the values lie as their reading says. -/
namespace Go.Proofs.YtnkjoihnniiidaaGreatDoor
open Go.RowKit
set_option maxRecDepth 20000
end Go.Proofs.YtnkjoihnniiidaaGreatDoor
/- The reader of wire: Fact. Conditions: the reader is one that was made. -/
namespace Go.Proofs.YtnkjoihnniiidaaGreatDoor
open Go.RowKit
set_option maxRecDepth 20000
end Go.Proofs.YtnkjoihnniiidaaGreatDoor
/- Rows of facts that the reader of wire reads. Conditions: the reader is one that was made. -/
namespace Go.Proofs.YtnkjoihnniiidaaGreatDoor
open Go.RowKit
set_option maxRecDepth 20000
end Go.Proofs.YtnkjoihnniiidaaGreatDoor
/- The marks of ropewalkkit/lent.go: facts, replies. Conditions: the places are not too great. -/
namespace Go.Proofs.YtnkjoihnniiidaaGreatDoor
open Go.RowKit
set_option maxRecDepth 20000
def mkFc (k i : Nat) : List Value := [.int .i64 (markN k i), .int .i64 0, .slice none 0 0]
end Go.Proofs.YtnkjoihnniiidaaGreatDoor
/- LentFacts: a row of facts is copied, each fact's values too, with marks behind all ends; KeptFact. Conditions: the facts lie as their reading says. -/
namespace Go.Proofs.YtnkjoihnniiidaaGreatDoor
open Go.RowKit
set_option maxRecDepth 20000
/-- A fact whose values are lent. -/
def FaLent (w : World) (B : Nat) (f : Fa) : Prop := ∃ g, f.ao = some ⟨g, 0, none⟩ ∧ f.cap = f.args.length + 12 ∧ LentV w B g f.args
theorem FaLent.below {w w' : World} {B B' : Nat} {f : Fa} (h : FaLent w B f) (hb : Below B' w w') (hB : w.heap.size ≤ B') : FaLent w' B f := by
  obtain ⟨g, h1, h2, h3⟩ := h
  exact ⟨g, h1, h2, own_below h3 hb hB⟩
theorem FaLent.kept {w w' : World} {B : Nat} {f : Fa} {row : Option Nat} {B2 E2 S2 n2 : Nat} {u : Value} {xs : List Value} (h : FaLent w B f) (hg : w.grownBy w' row) (hu : w.ownsRow B2 E2 S2 u n2 xs) (he : E2 ≠ 198) (hr : row = u.ownBlock) : FaLent w' B f := by
  obtain ⟨g, h1, h2, h3⟩ := h
  exact ⟨g, h1, h2, World.ownsRow.kept h3 hg (by rw [hr]; exact own_apart h3 hu (Ne.symm he))⟩
theorem FaLent.sub {w : World} {B : Nat} {f : Fa} (h : FaLent w B f) : faSub w w.heap.size f := by
  obtain ⟨g, h1, h2, h3⟩ := h
  unfold faSub
  rw [h1]
  exact RowsIn.mono noSub_rising h3.rows h3.lt.2
/-- A row of lent facts, with marks behind its end. -/
structure FasLent (w : World) (B g n : Nat) (frs : List Fa) : Prop where
  row : w.ownsRow B 202 3 (.slice (some ⟨g, 0, none⟩) (n + 12) (n + 12)) (n + 12) (frs.flatMap faCells ++ mks mkFc 1 12)
  lent : ∀ f ∈ frs, FaLent w B f
end Go.Proofs.YtnkjoihnniiidaaGreatDoor
/- A thing of each form among the arguments, with the bounds of what hangs on it. Conditions: it is read as the row reads it, its weights are bounded. -/
namespace Go.Proofs.YtnkjoihnniiidaaGreatDoor
open Go.RowKit Go.ChangeShapes
set_option maxRecDepth 20000
/-- A thing: one of each form. -/
structure Th where
  number : Int
  text : ByteArray
  value : Va
  vo : Option Addr
  values : List Va
  vcap : Nat
  fact : Fa
  command : Cm
  reply : Rp
  entry : En
structure ThIn (W : World) (B : Nat) (t : Th) : Prop where
  values : ValsIn W B t.vo t.values
  fact : faSub W B t.fact
  command : ValsIn W B t.command.ao t.command.args
  reply : rpSub W B t.reply
  entry : enSub W B t.entry
end Go.Proofs.YtnkjoihnniiidaaGreatDoor
/- How much a thing is: plain definitions and laws. No program. Conditions: as each says. -/
namespace Go.Proofs.YtnkjoihnniiidaaGreatDoor
open Go.RowKit
set_option maxRecDepth 20000
end Go.Proofs.YtnkjoihnniiidaaGreatDoor
/- How much values are, and whether they are wholly said: the law's own helpers, walked. Conditions: memory bounds lengths. -/
namespace Go.Proofs.YtnkjoihnniiidaaGreatDoor
open Go.RowKit
set_option maxRecDepth 20000
end Go.Proofs.YtnkjoihnniiidaaGreatDoor
/- How much a thing is: the law's helper great, walked. Conditions: the thing lies in memory as it is read. -/
namespace Go.Proofs.YtnkjoihnniiidaaGreatDoor
open Go.RowKit
set_option maxRecDepth 20000
end Go.Proofs.YtnkjoihnniiidaaGreatDoor
/- A thing's cells, one by one, in every world in which its block stays. Conditions: the block lies as it is read. -/
namespace Go.Proofs.YtnkjoihnniiidaaGreatDoor
open Go.RowKit
set_option maxRecDepth 20000
theorem ThIn.below {t : Th} {g : Nat} {w w' : World} (h : ThIn w g t) (hb : Below g w w') : ThIn w' g t :=
  ⟨h.values.below noSub_kept hb (Nat.le_refl _), h.fact.below noSub_kept hb (Nat.le_refl _), h.command.below noSub_kept hb (Nat.le_refl _), rpSub_kept _ _ _ _ _ h.reply hb (Nat.le_refl _), enSub_kept _ _ _ _ _ h.entry hb (Nat.le_refl _)⟩
theorem ThIn.mono {t : Th} {g g' : Nat} {w : World} (h : ThIn w g t) (hg : g ≤ g') : ThIn w g' t :=
  ⟨h.values.mono noSub_rising hg, h.fact.mono noSub_rising hg, h.command.mono noSub_rising hg, rpSub_rising _ _ _ _ h.reply hg, enSub_rising _ _ _ _ h.entry hg⟩
/-- PartsW that lie anywhere. -/
def PartsW (w : World) (ps : List Pt) : Prop := ∀ p ∈ ps, ptSub w w.heap.size p
theorem PartsW.add {w w' : World} {ps : List Pt} {a : Option Addr} {c : Nat} {L : List Int} (h : PartsW w ps) (ho : w'.ownsRow w.heap.size 5 1 (.slice a L.length c) L.length (L.map bv)) (hb : Below w.heap.size w w') : PartsW w' (ps ++ [⟨a, c, L⟩]) := by
  intro p hp
  rcases List.mem_append.1 hp with hp | hp
  · exact ((h p hp).below hb (Nat.le_refl _)).mono hb.size
  · rw [List.mem_singleton.1 hp]
    exact own_bytes' ho
theorem PartsW.alloc {w : World} {ps : List Pt} (h : PartsW w ps) (o : Obj) : PartsW (w.alloc o) ps := by
  intro p hp
  have hb := (Below.refl w.heap.size w).alloc (Nat.le_refl _) o
  exact ((h p hp).below hb (Nat.le_refl _)).mono hb.size
end Go.Proofs.YtnkjoihnniiidaaGreatDoor
/- KeptFact, KeptCommand, KeptFacts, LentReply, KeptReply, LentEntry, KeptEntry: things that are lent are found as they were, as long as nobody writes behind their ends. Conditions: they lie as their reading says. -/
namespace Go.Proofs.YtnkjoihnniiidaaGreatDoor
open Go.RowKit
set_option maxRecDepth 20000
theorem FasLent.below {w w' : World} {B g n B' : Nat} {frs : List Fa} (h : FasLent w B g n frs) (hb : Below B' w w') (hB : w.heap.size ≤ B') : FasLent w' B g n frs :=
  ⟨own_below h.row hb hB, fun f hf => (h.lent f hf).below hb hB⟩
theorem FasLent.le {w : World} {B B' g n : Nat} {frs : List Fa} (h : FasLent w B g n frs) (hB : B' ≤ B) : FasLent w B' g n frs :=
  ⟨Go.Joins.ownsRow_le h.row hB, fun f hf => by obtain ⟨g, h1, h2, h3⟩ := h.lent f hf; exact ⟨g, h1, h2, h3.le hB⟩⟩
theorem FasLent.lt {w : World} {B g n : Nat} {frs : List Fa} (h : FasLent w B g n frs) : B ≤ g ∧ g < w.heap.size := World.ownsRow.lt h.row g rfl
theorem FasLent.rows {w : World} {B g n : Nat} {frs : List Fa} (h : FasLent w B g n frs) (hn : frs.length = n) : FasIn w w.heap.size (some ⟨g, 0, none⟩) frs := by
  refine Or.inr ⟨g, 0, rfl, h.lt.2, fun i x hx => ⟨fun j hj => ?_, (h.lent x (List.mem_of_getElem? hx)).sub⟩⟩
  have hi := (List.getElem?_eq_some_iff.1 hx).1
  have hl := flat_len faCells_len frs
  rw [Nat.zero_add, World.ownsRow.cellAt h.row _ (by omega), List.getElem?_append_left (by omega)]
  exact flat_get faCells_len frs i x hx j hj
end Go.Proofs.YtnkjoihnniiidaaGreatDoor
/- LentReply, KeptReply, LentEntry, KeptEntry: things that are lent are found as they were, as long as nobody writes behind their ends. Conditions: they lie as their reading says. -/
namespace Go.Proofs.YtnkjoihnniiidaaGreatDoor
open Go.RowKit
set_option maxRecDepth 20000
end Go.Proofs.YtnkjoihnniiidaaGreatDoor
/- LentEntries: a row of entries is copied, each entry's values and voters too, with marks behind all ends. Conditions: the entries lie as their reading says. -/
namespace Go.Proofs.YtnkjoihnniiidaaGreatDoor
open Go.RowKit
set_option maxRecDepth 20000
/-- An entry whose lists are lent. -/
structure EnLent (w : World) (B : Nat) (f : En) : Prop where
  args : ∃ g, f.aao = some ⟨g, 0, none⟩ ∧ f.acap = f.args.length + 12 ∧ LentV w B g f.args
  vs : ∃ g, f.vao = some ⟨g, 0, none⟩ ∧ f.vcap = f.vs.length + 12 ∧ LentI w B g f.vs
theorem EnLent.below {w w' : World} {B B' : Nat} {f : En} (h : EnLent w B f) (hb : Below B' w w') (hB : w.heap.size ≤ B') : EnLent w' B f := by
  obtain ⟨⟨g, h1, h2, h3⟩, ⟨g', h1', h2', h3'⟩⟩ := h
  exact ⟨⟨g, h1, h2, own_below h3 hb hB⟩, ⟨g', h1', h2', own_below h3' hb hB⟩⟩
theorem EnLent.le {w : World} {B B' : Nat} {f : En} (h : EnLent w B f) (hB : B' ≤ B) : EnLent w B' f := by
  obtain ⟨⟨g, h1, h2, h3⟩, ⟨g', h1', h2', h3'⟩⟩ := h
  exact ⟨⟨g, h1, h2, h3.le hB⟩, ⟨g', h1', h2', h3'.le hB⟩⟩
theorem EnLent.kept {w w' : World} {B : Nat} {f : En} {row : Option Nat} {B2 E2 S2 n2 : Nat} {u : Value} {xs : List Value} (h : EnLent w B f) (hg : w.grownBy w' row) (hu : w.ownsRow B2 E2 S2 u n2 xs) (he : E2 ≠ 198) (he2 : E2 ≠ 3) (hr : row = u.ownBlock) : EnLent w' B f := by
  obtain ⟨⟨g, h1, h2, h3⟩, ⟨g', h1', h2', h3'⟩⟩ := h
  exact ⟨⟨g, h1, h2, World.ownsRow.kept h3 hg (by rw [hr]; exact own_apart h3 hu (Ne.symm he))⟩, ⟨g', h1', h2', World.ownsRow.kept h3' hg (by rw [hr]; exact own_apart h3' hu (Ne.symm he2))⟩⟩
theorem EnLent.sub {w : World} {B : Nat} {f : En} (h : EnLent w B f) : enSub w w.heap.size f := by
  obtain ⟨⟨g, h1, h2, h3⟩, ⟨g', h1', h2', h3'⟩⟩ := h
  unfold enSub
  rw [h1, h1']
  exact ⟨RowsIn.mono noSub_rising h3.rows h3.lt.2, RowsIn.mono noSub_rising h3'.rows h3'.lt.2⟩
/-- A row of lent entries, with marks behind its end. -/
structure EnsLent (w : World) (B g n : Nat) (frs : List En) : Prop where
  row : w.ownsRow B 273 9 (.slice (some ⟨g, 0, none⟩) (n + 12) (n + 12)) (n + 12) (frs.flatMap enCells ++ mks mkE 1 12)
  lent : ∀ f ∈ frs, EnLent w B f
theorem EnsLent.below {w w' : World} {B g n B' : Nat} {frs : List En} (h : EnsLent w B g n frs) (hb : Below B' w w') (hB : w.heap.size ≤ B') : EnsLent w' B g n frs :=
  ⟨own_below h.row hb hB, fun f hf => (h.lent f hf).below hb hB⟩
theorem EnsLent.le {w : World} {B B' g n : Nat} {frs : List En} (h : EnsLent w B g n frs) (hB : B' ≤ B) : EnsLent w B' g n frs :=
  ⟨Go.Joins.ownsRow_le h.row hB, fun f hf => (h.lent f hf).le hB⟩
theorem EnsLent.lt {w : World} {B g n : Nat} {frs : List En} (h : EnsLent w B g n frs) : B ≤ g ∧ g < w.heap.size := World.ownsRow.lt h.row g rfl
theorem EnsLent.rows {w : World} {B g n : Nat} {frs : List En} (h : EnsLent w B g n frs) (hn : frs.length = n) : EnsIn w w.heap.size (some ⟨g, 0, none⟩) frs := by
  refine Or.inr ⟨g, 0, rfl, h.lt.2, fun i x hx => ⟨fun j hj => ?_, (h.lent x (List.mem_of_getElem? hx)).sub⟩⟩
  have hi := (List.getElem?_eq_some_iff.1 hx).1
  have hl := flat_len enCells_len frs
  rw [Nat.zero_add, World.ownsRow.cellAt h.row _ (by omega), List.getElem?_append_left (by omega)]
  exact flat_get enCells_len frs i x hx j hj
end Go.Proofs.YtnkjoihnniiidaaGreatDoor
/- OverBytes: a lent row of bytes is written over, the marks behind it, too; nothing else is changed. Conditions: the row is a lent one. -/
namespace Go.Proofs.YtnkjoihnniiidaaGreatDoor
open Go.RowKit
set_option maxRecDepth 20000
end Go.Proofs.YtnkjoihnniiidaaGreatDoor
/- OverInts, OverValues, OverBytes, OverEntries, OverLetter: what was lent is written over; all keeps its shape, and nothing else is changed. Conditions: the rows have twelve places behind their ends. -/
namespace Go.Proofs.YtnkjoihnniiidaaGreatDoor
open Go.RowKit
set_option maxRecDepth 20000
theorem size_oB : ∀ w, (sizeOf (Tryz.prog.elem 23)).run Tryz.prog w = .ok 1 w := fun _ => by kernel_rfl
theorem slice_oB : Tryz.prog.underlying 23 = some (.slice (Tryz.prog.elem 23)) := by kernel_rfl
set_option maxHeartbeats 2000000 in
theorem overB_room (B T : Nat) (a : Option Addr) (n c : Nat) (w : World) (h : Room w B T 5 1 a n c) (hn : n ≤ 1099511627776) :
    Calls Tryz.prog 16 #[.slice a n c] w fun e w' => e = .returned (.tuple #[]) ∧ OverK B T [5] w w' := by
  obtain ⟨g, rfl, hgB, hgT, rfl, hbk⟩ := h
  have hsl : ∀ w', (Instr.sliceAt 23 (.slice (some ⟨g, 0, none⟩) n (n + 12)) none (some (.int .i64 ((n : Int) + 12))) none).run Tryz.prog w' = .ok (.slice (some ⟨g, 0, none⟩) (n + 12) (n + 12)) w' := fun w' => by
    have h1 := run_sub_h slice_oB size_oB (some ⟨g, 0, none⟩) n (n + 12) (n + 12) (Nat.le_refl _) .i64 ((n : Int) + 12) (by omega) w'
    rwa [subA_zero _ _ _ (by intro a ha; cases ha; rfl)] at h1
  have HK := Lib.hid hbk
  clear hbk
  go_enter Tryz.func16, Tryz.ntmps16
  go_wp2_with fail
  clear hsl
  go_loopw [3] (fun i wr => ∃ q : Nat, q ≤ n + 12 ∧ i = .int .i64 q ∧ Blk wr g 5 ((n + 12) * 1) ∧ OverK B T [5] w wr) (fun i _ => n + 12 - (intOf i).toNat)
  case atStart => exact ⟨0, by omega, rfl, HK.out, OverK.refl _ _ _ _⟩
  case round =>
    obtain ⟨q, hq, rfl, hbk, hov⟩ := hrel
    have HOV := Lib.hid hov
    have HBK := Lib.hid hbk
    clear hov hbk
    by_cases hlt : q < n + 12
    · have i1 : (q : Int) < (n : Int) + 12 := by omega
      have i2 : (q : Int) < ((n + 12 : Nat) : Int) := by omega
      go_wp2_with fail
      refine (markBK_at _ _ 2 q (by omega) rfl (by omega) (by omega) wr).mono ?_
      rintro e w3 ⟨rfl, rfl⟩
      have hov := HOV.out
      have hbk3 := HBK.out
      obtain ⟨o0, d0⟩ := hbk3.cell (i := q) (by omega)
      have f0 : wr.frozen? ⟨g, q, none⟩ = false := hbk3.free _
      have s0 := hov.set hbk3 (by simp) hgB hgT (q) (.int .u8 (markBK 2 q))
      have b0 := hbk3.set g (q) (.int .u8 (markBK 2 q))
      have SX := Lib.hid s0
      have BX := Lib.hid b0
      clear s0 b0 hov hbk3
      go_wp2_with fail
      go_roundw
      case rel => exact ⟨q + 1, by omega, by go_num, BX.out, SX.out⟩
      case measure => simp [intOf]; omega
    · obtain rfl : q = n + 12 := by omega
      go_wp2_with fail
      go_end0
      exact ⟨rfl, HOV.out⟩
/-- An entry whose lists may be written over. -/
structure EnRoom (w : World) (B T : Nat) (f : En) : Prop where
  args : Room w B T 198 3 f.aao f.args.length f.acap
  vs : Room w B T 3 1 f.vao f.vs.length f.vcap
theorem EnRoom.below {w w' : World} {B T : Nat} {f : En} (h : EnRoom w B T f) (hb : Below w.heap.size w w') : EnRoom w' B T f := ⟨h.args.below hb, h.vs.below hb⟩
theorem EnLent.room {w : World} {B : Nat} {f : En} (h : EnLent w B f) : EnRoom w B w.heap.size f := by
  obtain ⟨⟨g, h1, h2, h3⟩, ⟨g', h1', h2', h3'⟩⟩ := h
  exact ⟨⟨g, h1, h3.lt.1, h3.lt.2, h2, Blk.of_own h3⟩, ⟨g', h1', h3'.lt.1, h3'.lt.2, h2', Blk.of_own h3'⟩⟩
theorem EnsLent.room {w : World} {B g n : Nat} {frs : List En} (h : EnsLent w B g n frs) : Room w B w.heap.size 273 9 (some ⟨g, 0, none⟩) n (n + 12) := ⟨g, rfl, h.lt.1, h.lt.2, rfl, Blk.of_own h.row⟩
end Go.Proofs.YtnkjoihnniiidaaGreatDoor
/- LentSnap, KeptSnap, OverSnap. Conditions: the snaps lie as their readings say. -/
namespace Go.Proofs.YtnkjoihnniiidaaGreatDoor
open Go.RowKit
set_option maxRecDepth 20000
/-- A snap whose lists are lent. -/
structure SnLent (w : World) (B : Nat) (x : Sn) : Prop where
  vs : ∃ g, x.va = some ⟨g, 0, none⟩ ∧ x.vc = x.vs.length + 12 ∧ LentI w B g x.vs
  im : ∃ g, x.ia = some ⟨g, 0, none⟩ ∧ x.ic = x.im.length + 12 ∧ LentB w B g x.im
theorem slentB_rows {w : World} {B g : Nat} {xs : List Int} (h : LentB w B g xs) : BytesIn w w.heap.size (some ⟨g, 0, none⟩) xs := by
  refine Or.inr ⟨g, 0, rfl, ownsRow_ltB h, fun i hi => ?_⟩
  rw [Nat.zero_add, World.ownsRow.cellAt h i (by omega), List.getElem?_map, List.getElem?_append_left hi, List.getElem?_eq_getElem hi]
  simp [bv, List.getD, hi]
theorem own_blocks4 {w w' : World} {base e size n : Nat} {v : Value} {xs : List Value} (h : w.ownsRow base e size v n xs) (hs : ∀ g, base ≤ g → g < w.heap.size → w'.heap[g]? = w.heap[g]?) : w'.ownsRow base e size v n xs := by
  refine ⟨h.1, h.2.imp id ?_⟩
  rintro ⟨g, cap, cur, h1, h2, h3, h4, h5, h6, h7⟩
  exact ⟨g, cap, cur, h1, h2, (hs g h2 (Array.getElem?_eq_some_iff.1 h3).1).trans h3, h4, h5, h6, h7⟩
theorem SnLent.below {w w' : World} {B B' : Nat} {x : Sn} (h : SnLent w B x) (hb : Below B' w w') (hB : w.heap.size ≤ B') : SnLent w' B x := by
  obtain ⟨⟨g', h1', h2', h3'⟩, ⟨g'', h1'', h2'', h3''⟩⟩ := h
  exact ⟨⟨g', h1', h2', own_below h3' hb hB⟩, ⟨g'', h1'', h2'', own_below h3'' hb hB⟩⟩
theorem SnLent.sub {w : World} {B : Nat} {x : Sn} (h : SnLent w B x) : snSub w w.heap.size x := by
  obtain ⟨⟨g', h1', h2', h3'⟩, ⟨g'', h1'', h2'', h3''⟩⟩ := h
  refine ⟨?_, ?_⟩
  · rw [h1']; exact RowsIn.mono noSub_rising h3'.rows h3'.lt.2
  · rw [h1'']; exact slentB_rows h3''
/-- A snap whose lists may be written over. -/
structure SnRoom (w : World) (B T : Nat) (x : Sn) : Prop where
  vs : Room w B T 3 1 x.va x.vs.length x.vc
  im : Room w B T 5 1 x.ia x.im.length x.ic
theorem SnLent.room {w w' : World} {B : Nat} {x : Sn} (h : SnLent w B x) (hb : Below w.heap.size w w') : SnRoom w' B w.heap.size x := by
  obtain ⟨⟨g', h1', h2', h3'⟩, ⟨g'', h1'', h2'', h3''⟩⟩ := h
  refine ⟨?_, ?_⟩
  · rw [h1', h2']; exact Room.below ⟨g', rfl, h3'.lt.1, h3'.lt.2, rfl, Blk.of_own h3'⟩ hb
  · rw [h1'', h2'']; exact Room.below ⟨g'', rfl, (World.ownsRow.lt h3'' g'' rfl).1, (World.ownsRow.lt h3'' g'' rfl).2, rfl, Blk.of_own h3''⟩ hb
end Go.Proofs.YtnkjoihnniiidaaGreatDoor
