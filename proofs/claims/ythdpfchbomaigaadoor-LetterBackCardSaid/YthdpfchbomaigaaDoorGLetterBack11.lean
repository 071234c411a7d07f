/- The parts that Put of letter joins: a region that draws its order. Conditions: as each says. -/
import Derived.Test.YthdpfchbomaigaaDoorGLetterBack10
import Derived.Test.YthdpfchbomaigaaDoorGLetterBack1
set_option linter.unusedVariables false
set_option linter.unusedSimpArgs false
namespace Go.Proofs.YthdpfchbomaigaaDoor
open Go.RowKit
set_option maxRecDepth 20000
/-- What stays in the slots of Put while its parts are made. -/
structure Pf where
  A : Nat
  u0 : Value
  u11 : Value
  u12 : Value
  u13 : Value
  u14 : Value
  u15 : Value
  u45 : Value
  u46 : Value
  kb : Int
  kd : Int
  f : Int
  t : Int
  tm : Int
  ix : Int
  ws : Int
  cm : Int
  rd : Int
  eo : Option Addr
  en : Nat
  ec : Nat
  rest : List Value
def frP (p : Pf) (v24 v31 v32 v34 v39 v40 v44 : Value) : Act := { tmps := (p.u0 :: .pointer (some ⟨p.A, 0, none⟩) :: .slice none 0 0 :: .int .i64 0 :: .int .u8 p.kb :: undef :: undef :: undef :: undef :: undef :: undef :: p.u11 :: p.u12 :: p.u13 :: p.u14 :: p.u15 :: .pointer (some ⟨p.A, 0, none⟩) :: .int .u8 p.kd :: .pointer (some ⟨p.A, 1, none⟩) :: .int .i64 p.f :: .int .u8 (IntKind.u8.wrap p.f) :: .pointer (some ⟨p.A, 2, none⟩) :: .int .i64 p.t :: .int .u8 (IntKind.u8.wrap p.t) :: v24 :: .pointer (some ⟨p.A, 3, none⟩) :: .int .i64 p.tm :: .pointer (some ⟨p.A, 4, none⟩) :: .int .i64 p.ix :: .pointer (some ⟨p.A, 5, none⟩) :: .int .i64 p.ws :: v31 :: v32 :: .int .u8 p.kb :: v34 :: .pointer (some ⟨p.A, 7, none⟩) :: .int .i64 p.cm :: .pointer (some ⟨p.A, 8, none⟩) :: .int .i64 p.rd :: v39 :: v40 :: .pointer (some ⟨p.A, 9, none⟩) :: .slice p.eo p.en p.ec :: .int .i64 (p.en : Int) :: v44 :: p.u45 :: p.u46 :: p.rest).toArray, defers := [] }
def lstP (c : Nat) (y8 y15 y18 y23 : Bool) : Array Bool := #[true, true, true, true, true, true, true, true, y8, true, true, true, true, true, true, y15, decide (1 ≤ c), true, y18, true, true, true, true, y23, decide (2 ≤ c), true, true, true, decide (3 ≤ c), false, false]
def PtAt (w : World) (v : Value) (L : List Int) : Prop := ∃ a c, v = .slice a L.length c ∧ BytesIn w w.heap.size a L ∧ (a = none → c = 0) ∧ L.length ≤ c
theorem PtAt.grow {w w' : World} {v : Value} {L : List Int} (h : PtAt w v L) (hb : Below w.heap.size w w') : PtAt w' v L := by
  obtain ⟨a, c, h1, h2, h3⟩ := h
  exact ⟨a, c, h1, (h2.below hb (Nat.le_refl _)).mono hb.size, h3⟩
def NsAt (w : World) (v : Value) (xs : List Int) : Prop := ∃ g, v = .slice (some ⟨g, 0, none⟩) xs.length xs.length ∧ NumsIn w w.heap.size (some ⟨g, 0, none⟩) xs
theorem NsAt.grow {w w' : World} {v : Value} {xs : List Int} (h : NsAt w v xs) (hb : Below w.heap.size w w') : NsAt w' v xs := by
  obtain ⟨g, h1, h2⟩ := h
  exact ⟨g, h1, (h2.below noSub_kept hb (Nat.le_refl _)).mono noSub_rising hb.size⟩
def noP : Bool → Nat
  | true => 0
  | false => 1
theorem noP_zero {c : Nat} {a b d e : Bool} (hc : c ≤ 3) (h : 0 = 3 - c + noP a + noP b + noP d + noP e) : c = 3 ∧ a = true ∧ b = true ∧ d = true ∧ e = true := by
  cases a <;> cases b <;> cases d <;> cases e <;> simp only [noP] at h <;> first | omega | exact ⟨by omega, rfl, rfl, rfl, rfl⟩
structure PI (p : Pf) (w0 : World) (c : Nat) (y8 y15 y18 y23 : Bool) (v24 v31 v32 v34 v39 v40 v44 : Value) (w : World) : Prop where
  below : Below (p.A + 1) w0 w
  size : p.A + 1 ≤ w.heap.size
  h15 : 1 ≤ c → y15 = true
  h23 : 2 ≤ c → y23 = true
  a8 : y8 = true → PtAt w v24 [p.kd, IntKind.u8.wrap p.f, IntKind.u8.wrap p.t]
  a15 : y15 = true → NsAt w v31 [p.tm, p.ix, p.ws]
  a18 : y18 = true → PtAt w v34 [p.kb]
  a23 : y23 = true → NsAt w v39 [p.cm, p.rd]
  c1 : 1 ≤ c → PtAt w v32 ([p.tm, p.ix, p.ws].flatMap (numB 8))
  c2 : 2 ≤ c → PtAt w v40 ([p.cm, p.rd].flatMap (numB 8))
  c3 : 3 ≤ c → PtAt w v44 (numB 4 (p.en : Int))
theorem PI.grow {p : Pf} {w0 : World} {c : Nat} {y8 y15 y18 y23 : Bool} {v24 v31 v32 v34 v39 v40 v44 : Value} {w w' : World} (h : PI p w0 c y8 y15 y18 y23 v24 v31 v32 v34 v39 v40 v44 w) (hb : Below w.heap.size w w') : PI p w0 c y8 y15 y18 y23 v24 v31 v32 v34 v39 v40 v44 w' :=
  ⟨h.below.trans (hb.mono h.size), Nat.le_trans h.size hb.size, h.h15, h.h23, fun e => (h.a8 e).grow hb, fun e => (h.a15 e).grow hb, fun e => (h.a18 e).grow hb, fun e => (h.a23 e).grow hb, fun e => (h.c1 e).grow hb, fun e => (h.c2 e).grow hb, fun e => (h.c3 e).grow hb⟩
def StP (p : Pf) (w0 : World) (n : Nat) (listed : Array Bool) (a : Act) (w : World) : Prop :=
  ∃ c y8 y15 y18 y23 v24 v31 v32 v34 v39 v40 v44, listed = lstP c y8 y15 y18 y23 ∧ a = frP p v24 v31 v32 v34 v39 v40 v44 ∧ c ≤ 3 ∧ n = 3 - c + noP y8 + noP y15 + noP y18 + noP y23 ∧ PI p w0 c y8 y15 y18 y23 v24 v31 v32 v34 v39 v40 v44 w
theorem pt_new (w : World) (xs : List Int) (cs : Array Value) (hcs : cs = (xs.map bv).toArray) : PtAt (w.alloc (.cells cs 5)) (.slice (some ⟨w.heap.size, 0, none⟩) xs.length xs.length) xs :=
  ⟨some ⟨w.heap.size, 0, none⟩, xs.length, rfl, (bytes_new w _ xs cs _ _ (w.heap.size + 1) hcs rfl (by omega)).mono (by simp), fun h => (by cases h), Nat.le_refl _⟩
theorem ns_new (w : World) (xs : List Int) (cs : Array Value) (hcs : cs = (xs.map (Value.int .i64)).toArray) : NsAt (w.alloc (.cells cs 3)) (.slice (some ⟨w.heap.size, 0, none⟩) xs.length xs.length) xs :=
  ⟨w.heap.size, rfl, (nums_new w xs cs hcs).mono noSub_rising (by simp)⟩
theorem rnew_pt {L : List Int} {w w' : World} {e : Ending} (h : RNew L w e w') : ∃ v, e = .returned v ∧ PtAt w' v L ∧ Below w.heap.size w w' := by
  obtain ⟨a, n, c, h1, h2, h3⟩ := h
  refine ⟨_, h1, ⟨a, c, by rw [h2.len], h2.in, h2.nil, ?_⟩, h3⟩
  rw [h2.len]
  exact own_capG h2.row
set_option maxHeartbeats 1000000 in
theorem pw_op8 {p : Pf} {w0 w : World} {c : Nat} {y15 y18 y23 : Bool} {v24 v31 v32 v34 v39 v40 v44 : Value} {Q : Exit → Act → World → Prop} {K : Act → World → Prop} {ty : TypeId} {ps : String} {af : Array Edge} (h : PI p w0 c false y15 y18 y23 v24 v31 v32 v34 v39 v40 v44 w)
    (hK : ∀ x w', PI p w0 c true y15 y18 y23 x v31 v32 v34 v39 v40 v44 w' → K (frP p x v31 v32 v34 v39 v40 v44) w') : Oper.wp Tryd.prog { dst := some 24, op := .buildSlice 25 3 #[(0, .tmp 17), (1, .tmp 20), (2, .tmp 23)], type := ty, pos := ps, after := af, guard := none } (frP p v24 v31 v32 v34 v39 v40 v44) w K Q := by
  have hb := (Below.refl w.heap.size w).alloc (Nat.le_refl _) (.cells #[.int .u8 p.kd, .int .u8 (IntKind.u8.wrap p.f), .int .u8 (IntKind.u8.wrap p.t)] 5)
  have hn := pt_new w [p.kd, IntKind.u8.wrap p.f, IntKind.u8.wrap p.t] _ rfl
  have HK := Lib.hid hK
  have H := Lib.hid h
  have HB := Lib.hid hb
  have HN := Lib.hid hn
  clear hK h hb hn
  unfold frP
  go_simp
  have h2 := H.out.grow HB.out
  refine HK.out _ _ ⟨h2.below, h2.size, h2.h15, h2.h23, fun _ => HN.out, h2.a15, h2.a18, h2.a23, h2.c1, h2.c2, h2.c3⟩
set_option maxHeartbeats 1000000 in
theorem pw_op15 {p : Pf} {w0 w : World} {c : Nat} {y8 y18 y23 : Bool} {v24 v31 v32 v34 v39 v40 v44 : Value} {Q : Exit → Act → World → Prop} {K : Act → World → Prop} {ty : TypeId} {ps : String} {af : Array Edge} (h : PI p w0 c y8 false y18 y23 v24 v31 v32 v34 v39 v40 v44 w)
    (hK : ∀ x w', PI p w0 c y8 true y18 y23 v24 x v32 v34 v39 v40 v44 w' → K (frP p v24 x v32 v34 v39 v40 v44) w') : Oper.wp Tryd.prog { dst := some 31, op := .buildSlice 24 3 #[(0, .tmp 26), (1, .tmp 28), (2, .tmp 30)], type := ty, pos := ps, after := af, guard := none } (frP p v24 v31 v32 v34 v39 v40 v44) w K Q := by
  have hb := (Below.refl w.heap.size w).alloc (Nat.le_refl _) (.cells #[.int .i64 p.tm, .int .i64 p.ix, .int .i64 p.ws] 3)
  have hn := ns_new w [p.tm, p.ix, p.ws] _ rfl
  have HK := Lib.hid hK
  have H := Lib.hid h
  have HB := Lib.hid hb
  have HN := Lib.hid hn
  clear hK h hb hn
  unfold frP
  go_simp
  have h2 := H.out.grow HB.out
  refine HK.out _ _ ⟨h2.below, h2.size, fun _ => rfl, h2.h23, h2.a8, fun _ => HN.out, h2.a18, h2.a23, h2.c1, h2.c2, h2.c3⟩
set_option maxHeartbeats 1000000 in
theorem pw_op18 {p : Pf} {w0 w : World} {c : Nat} {y8 y15 y23 : Bool} {v24 v31 v32 v34 v39 v40 v44 : Value} {Q : Exit → Act → World → Prop} {K : Act → World → Prop} {ty : TypeId} {ps : String} {af : Array Edge} (h : PI p w0 c y8 y15 false y23 v24 v31 v32 v34 v39 v40 v44 w)
    (hK : ∀ x w', PI p w0 c y8 y15 true y23 v24 v31 v32 x v39 v40 v44 w' → K (frP p v24 v31 v32 x v39 v40 v44) w') : Oper.wp Tryd.prog { dst := some 34, op := .buildSlice 25 1 #[(0, .tmp 33)], type := ty, pos := ps, after := af, guard := none } (frP p v24 v31 v32 v34 v39 v40 v44) w K Q := by
  have hb := (Below.refl w.heap.size w).alloc (Nat.le_refl _) (.cells #[.int .u8 p.kb] 5)
  have hn := pt_new w [p.kb] _ rfl
  have HK := Lib.hid hK
  have H := Lib.hid h
  have HB := Lib.hid hb
  have HN := Lib.hid hn
  clear hK h hb hn
  unfold frP
  go_simp
  have h2 := H.out.grow HB.out
  refine HK.out _ _ ⟨h2.below, h2.size, h2.h15, h2.h23, h2.a8, h2.a15, fun _ => HN.out, h2.a23, h2.c1, h2.c2, h2.c3⟩
set_option maxHeartbeats 1000000 in
theorem pw_op23 {p : Pf} {w0 w : World} {c : Nat} {y8 y15 y18 : Bool} {v24 v31 v32 v34 v39 v40 v44 : Value} {Q : Exit → Act → World → Prop} {K : Act → World → Prop} {ty : TypeId} {ps : String} {af : Array Edge} (h : PI p w0 c y8 y15 y18 false v24 v31 v32 v34 v39 v40 v44 w)
    (hK : ∀ x w', PI p w0 c y8 y15 y18 true v24 v31 v32 v34 x v40 v44 w' → K (frP p v24 v31 v32 v34 x v40 v44) w') : Oper.wp Tryd.prog { dst := some 39, op := .buildSlice 24 2 #[(0, .tmp 36), (1, .tmp 38)], type := ty, pos := ps, after := af, guard := none } (frP p v24 v31 v32 v34 v39 v40 v44) w K Q := by
  have hb := (Below.refl w.heap.size w).alloc (Nat.le_refl _) (.cells #[.int .i64 p.cm, .int .i64 p.rd] 3)
  have hn := ns_new w [p.cm, p.rd] _ rfl
  have HK := Lib.hid hK
  have H := Lib.hid h
  have HB := Lib.hid hb
  have HN := Lib.hid hn
  clear hK h hb hn
  unfold frP
  go_simp
  have h2 := H.out.grow HB.out
  refine HK.out _ _ ⟨h2.below, h2.size, h2.h15, fun _ => rfl, h2.a8, h2.a15, h2.a18, fun _ => HN.out, h2.c1, h2.c2, h2.c3⟩
set_option maxHeartbeats 1000000 in
theorem pw_op16 {p : Pf} {w0 w : World} {y8 y18 y23 : Bool} {v24 v31 v32 v34 v39 v40 v44 : Value} {Q : Exit → Act → World → Prop} {K : Act → World → Prop} {ty : TypeId} {ps : String} {af : Array Edge} (h : PI p w0 0 y8 true y18 y23 v24 v31 v32 v34 v39 v40 v44 w)
    (hK : ∀ x w', PI p w0 1 y8 true y18 y23 v24 v31 x v34 v39 v40 v44 w' → K (frP p v24 v31 x v34 v39 v40 v44) w') : Oper.wp Tryd.prog { dst := some 32, op := .call { callee := .value (.func 14), args := #[.tmp 31], argTypes := #[24] }, type := ty, pos := ps, after := af, guard := none } (frP p v24 v31 v32 v34 v39 v40 v44) w K Q := by
  obtain ⟨g, rfl, hg⟩ := h.a15 rfl
  have hcon := lnumbers_any (some ⟨g, 0, none⟩) 3 3 [p.tm, p.ix, p.ws] _ w w.heap.size rfl rfl hg (Nat.le_refl _) (by decide)
  have HK := Lib.hid hK
  have H := Lib.hid h
  have HCON := Lib.hid hcon
  clear hK h hcon
  unfold frP
  go_simp
  refine HCON.out.mono ?_
  intro e w' hr
  obtain ⟨x, rfl, hx, hb⟩ := rnew_pt hr
  have h2 := H.out.grow hb
  refine HK.out x w' ⟨h2.below, h2.size, fun _ => rfl, fun h => absurd h (by omega), h2.a8, h2.a15, h2.a18, h2.a23, fun _ => hx, fun h => absurd h (by omega), fun h => absurd h (by omega)⟩
set_option maxHeartbeats 1000000 in
theorem pw_op24 {p : Pf} {w0 w : World} {y8 y18 : Bool} {v24 v31 v32 v34 v39 v40 v44 : Value} {Q : Exit → Act → World → Prop} {K : Act → World → Prop} {ty : TypeId} {ps : String} {af : Array Edge} (h : PI p w0 1 y8 true y18 true v24 v31 v32 v34 v39 v40 v44 w)
    (hK : ∀ x w', PI p w0 2 y8 true y18 true v24 v31 v32 v34 v39 x v44 w' → K (frP p v24 v31 v32 v34 v39 x v44) w') : Oper.wp Tryd.prog { dst := some 40, op := .call { callee := .value (.func 14), args := #[.tmp 39], argTypes := #[24] }, type := ty, pos := ps, after := af, guard := none } (frP p v24 v31 v32 v34 v39 v40 v44) w K Q := by
  obtain ⟨g, rfl, hg⟩ := h.a23 rfl
  have hcon := lnumbers_any (some ⟨g, 0, none⟩) 2 2 [p.cm, p.rd] _ w w.heap.size rfl rfl hg (Nat.le_refl _) (by decide)
  have HK := Lib.hid hK
  have H := Lib.hid h
  have HCON := Lib.hid hcon
  clear hK h hcon
  unfold frP
  go_simp
  refine HCON.out.mono ?_
  intro e w' hr
  obtain ⟨x, rfl, hx, hb⟩ := rnew_pt hr
  have h2 := H.out.grow hb
  refine HK.out x w' ⟨h2.below, h2.size, fun _ => rfl, fun _ => rfl, h2.a8, h2.a15, h2.a18, h2.a23, fun _ => h2.c1 (by omega), fun _ => hx, fun h => absurd h (by omega)⟩
set_option maxHeartbeats 1000000 in
theorem pw_op28 {p : Pf} {w0 w : World} {y8 y18 : Bool} {v24 v31 v32 v34 v39 v40 v44 : Value} {Q : Exit → Act → World → Prop} {K : Act → World → Prop} {ty : TypeId} {ps : String} {af : Array Edge} (hen : p.en ≤ 2000000000) (h : PI p w0 2 y8 true y18 true v24 v31 v32 v34 v39 v40 v44 w)
    (hK : ∀ x w', PI p w0 3 y8 true y18 true v24 v31 v32 v34 v39 v40 x w' → K (frP p v24 v31 v32 v34 v39 v40 x) w') : Oper.wp Tryd.prog { dst := some 44, op := .call { callee := .value (.func 15), args := #[.tmp 43], argTypes := #[3] }, type := ty, pos := ps, after := af, guard := none } (frP p v24 v31 v32 v34 v39 v40 v44) w K Q := by
  have hcon := lcount_any p.en _ w rfl hen
  have HK := Lib.hid hK
  have H := Lib.hid h
  have HCON := Lib.hid hcon
  clear hK h hcon
  unfold frP
  go_simp
  refine HCON.out.mono ?_
  intro e w' hr
  obtain ⟨x, rfl, hx, hb⟩ := rnew_pt hr
  have h2 := H.out.grow hb
  refine HK.out x w' ⟨h2.below, h2.size, fun _ => rfl, fun _ => rfl, h2.a8, h2.a15, h2.a18, h2.a23, fun _ => h2.c1 (by omega), fun _ => h2.c2 (by omega), fun _ => hx⟩
end Go.Proofs.YthdpfchbomaigaaDoor
/- Parts of bytes in a row of a call's own. Conditions: as each says. -/
namespace Go.Proofs.YthdpfchbomaigaaDoor
open Go.RowKit
set_option maxRecDepth 20000
/-- A part may be written. -/
def PtOk (p : Pt) : Prop := BytesWf p.data ∧ (p.ao = none → p.cap = 0) ∧ p.data.length ≤ p.cap
structure Parts (w : World) (base : Nat) (a : Option Addr) (n c : Nat) (ps : List Pt) : Prop where
  len : ps.length = n
  row : w.ownsRow base 25 1 (.slice a n c) n (ps.flatMap ptCells)
  sub : ∀ p ∈ ps, BytesIn w w.heap.size p.ao p.data
  far : ∀ p ∈ ps, p.data ≠ [] → ∀ ad, p.ao = some ad → (Value.slice a n c).ownBlock ≠ some ad.block
  ok : ∀ p ∈ ps, PtOk p
theorem Parts.below {w w' : World} {base n c : Nat} {a : Option Addr} {ps : List Pt} (h : Parts w base a n c ps) (hb : Below w.heap.size w w') : Parts w' base a n c ps :=
  ⟨h.len, own_below h.row hb (Nat.le_refl _), fun p hp => ((h.sub p hp).below hb (Nat.le_refl _)).mono hb.size, h.far, h.ok⟩
theorem bytes_block {w : World} {B : Nat} {ao : Option Addr} {xs : List Int} (h : BytesIn w B ao xs) (hx : xs ≠ []) {ad : Addr} (ha : ao = some ad) : ad.block < B := by
  rcases h with h | ⟨b, off, h1, h2, _⟩
  · exact absurd h hx
  · rw [h1] at ha
    cases ha
    exact h2
theorem Parts.grow {w w' : World} {base n c m : Nat} {a : Option Addr} {ps qs : List Pt} {v' : Value} (h : Parts w base a n c ps) (hm : qs.length = m) (hq : ∀ q ∈ qs, BytesIn w w.heap.size q.ao q.data ∧ (q.data ≠ [] → ∀ ad, q.ao = some ad → (Value.slice a n c).ownBlock ≠ some ad.block) ∧ PtOk q)
    (hown : w'.ownsRow base 25 1 v' (n + m) (ps.flatMap ptCells ++ qs.flatMap ptCells)) (hg : w.grownBy w' (Value.slice a n c).ownBlock) (hor : v'.ownBlock = (Value.slice a n c).ownBlock ∨ v'.ownBlock = some w.heap.size) :
    ∃ a' c', v' = .slice a' (n + m) c' ∧ Parts w' base a' (n + m) c' (ps ++ qs) := by
  obtain ⟨a', c', rfl⟩ := row_slice hown
  have hall : ∀ p ∈ ps ++ qs, BytesIn w w.heap.size p.ao p.data ∧ (p.data ≠ [] → ∀ ad, p.ao = some ad → (Value.slice a n c).ownBlock ≠ some ad.block) ∧ PtOk p := fun p hp => by
    rcases List.mem_append.1 hp with hp | hp
    · exact ⟨h.sub p hp, h.far p hp, h.ok p hp⟩
    · exact hq p hp
  refine ⟨a', c', rfl, by rw [List.length_append, h.len, hm], by rw [List.flatMap_append]; exact hown, fun p hp => ?_, fun p hp hne ad had => ?_, fun p hp => (hall p hp).2.2⟩
  · obtain ⟨h1, h2, _⟩ := hall p hp
    by_cases hne : p.data = []
    · exact Or.inl hne
    · rcases h1 with h0 | ⟨b, off, e1, e2, e3⟩
      · exact absurd h0 hne
      · refine Or.inr ⟨b, off, e1, Nat.lt_of_lt_of_le e2 hg.size, fun i hi => ?_⟩
        exact (cell_block (hg.block b e2 (fun e => h2 hne _ e1 e.symm))).trans (e3 i hi)
  · obtain ⟨h1, h2, _⟩ := hall p hp
    rcases hor with e | e
    · rw [e]; exact h2 hne ad had
    · rw [e]
      intro e2
      have := bytes_block h1 hne had
      injection e2 with e2
      omega
theorem Parts.in {w : World} {base n c : Nat} {a : Option Addr} {ps : List Pt} (h : Parts w base a n c ps) : RowsIn 1 ptCells ptSub w w.heap.size a ps := own_rowsIn ptCells_len h.len h.row (fun p hp => h.sub p hp)
theorem Parts.cap {w : World} {base n c : Nat} {a : Option Addr} {ps : List Pt} (h : Parts w base a n c ps) : n ≤ c := own_capG h.row
theorem Parts.lt {w : World} {base n c : Nat} {a : Option Addr} {ps : List Pt} (h : Parts w base a n c ps) : ∀ g, (Value.slice a n c).ownBlock = some g → base ≤ g ∧ g < w.heap.size := fun g hg => World.ownsRow.lt h.row g hg
/-- A part of bytes that lie in memory. -/
theorem pt_of {w : World} {v : Value} {L : List Int} (m : Nat) (h : PtAt w v L) (hw : BytesWf L) (hm : L.length = m) : ∃ a c, v = .slice a m c ∧ BytesIn w w.heap.size a L ∧ PtOk ⟨a, c, L⟩ := by
  obtain ⟨a, c, rfl, h1, h2, h3⟩ := h
  exact ⟨a, c, by rw [hm], h1, hw, h2, h3⟩
theorem headL_kb (l : LtP) (kb : Int) (h : (if l.ok = true then (1 : Int) else 0) = kb) : headL l = [l.kind, l.fr, l.tov] ++ ((numB 8 l.term ++ (numB 8 l.index ++ numB 8 l.was)) ++ (kb :: (numB 8 l.commit ++ numB 8 l.round))) := by
  subst h
  rfl
/-- The parts of a literal. -/
theorem parts_lit {w : World} {cs : Array Value} {ps : List Pt} (hcs : cs.toList = ps.flatMap ptCells) (hb : ∀ p ∈ ps, BytesIn w w.heap.size p.ao p.data ∧ PtOk p) (hl : ps.length ≤ 1000) :
    Parts (w.alloc (.cells cs 25)) w.heap.size (some ⟨w.heap.size, 0, none⟩) ps.length ps.length ps := by
  have hsz : cs.size = ps.length := by rw [← Array.length_toList, hcs, flat_len ptCells_len, Nat.mul_one]
  have hba := (Below.refl w.heap.size w).alloc (Nat.le_refl _) (.cells cs 25)
  have h2 : ps.length ≤ maxLen := by unfold maxLen; omega
  refine ⟨rfl, ?_, fun p hp => ((hb p hp).1.below hba (Nat.le_refl _)).mono hba.size, fun p hp hne ad had => ?_, fun p hp => (hb p hp).2⟩
  · have := World.ownsRow_lit w (base := w.heap.size) (e := 25) (size := 1) cs ps.length (Nat.le_refl _) h2 (by rw [hsz, Nat.mul_one])
    rw [hcs] at this
    exact this
  · intro e
    have := bytes_block (hb p hp).1 hne had
    injection e with e
    have e : w.heap.size = ad.block := e
    omega
theorem infoPt : (Tryd.prog.info? 25).map (fun i => (i.zero, i.size, i.bytes)) = some (some (.slice none 0 0), 1, 24) := by kernel_rfl
theorem ptCells_one1 (x : Pt) : ∀ u ∈ ptCells x, u.oneCell' = true := by intro u hu; simp [ptCells] at hu; rw [hu]; rfl
/-- Parts of a literal put behind others. -/
theorem wpList_append_parts {w : World} {ops : Array Oper} {rest : List Oper} {o : Oper} {a : Act} {Q : Exit → Act → World → Prop} (hgd : o.guard = none) (s x : Operand)
    (ho : o.op = .call { callee := .builtin .append, args := #[s, x], argTypes := #[53, 53] })
    (base : Nat) {a1 : Option Addr} {n1 c1 : Nat} {ps : List Pt} (hs : a.eval s = .slice a1 n1 c1) (hown : Parts w base a1 n1 c1 ps)
    (g m : Nat) (cs : Array Value) (qs : List Pt) (hm : qs.length = m) (hk : w.heap[g]? = some (.cells cs 25 (0, 0))) (hcs : cs.toList = qs.flatMap ptCells) (hx : a.eval x = .slice (some ⟨g, 0, none⟩) m m)
    (hq : ∀ q ∈ qs, BytesIn w w.heap.size q.ao q.data ∧ (q.data ≠ [] → ∀ ad, q.ao = some ad → (Value.slice a1 n1 c1).ownBlock ≠ some ad.block) ∧ PtOk q) (hlim : n1 + m ≤ 100000000) (hbase : base ≤ w.heap.size)
    (h : ∀ a2 c2 w', Parts w' base a2 (n1 + m) c2 (ps ++ qs) → w.grownBy w' (Value.slice a1 n1 c1).ownBlock → wpList Tryd.prog ops Q rest (a.put o.dst (.slice a2 (n1 + m) c2)) w') : wpList Tryd.prog ops Q (o :: rest) a w := by
  have hg : g < w.heap.size := (Array.getElem?_eq_some_iff.1 hk).1
  refine wpList_append_rows Tryd.underlying53 infoPt rfl (by decide) ptCells_len ptCells_one1 hgd s x ho base _ n1 (ps.flatMap ptCells) hs hown.row (some ⟨g, 0, none⟩) m m qs hm hx w.heap.size (rowsIn_block (sub := ptSub) ptCells_len qs cs hk hcs hg (fun q hq' => (hq q hq').1)) (fun h => by cases h) (by unfold maxLen; omega) (by omega) hbase ?_
  intro v' w' h1 h2 h3
  obtain ⟨a2, c2, rfl, hp⟩ := hown.grow hm hq h1 h2 h3
  exact h a2 c2 w' hp h2
theorem oper_append_parts {w : World} {o : Oper} {a : Act} {K : Act → World → Prop} {Q : Exit → Act → World → Prop} (s x : Operand)
    (ho : o.op = .call { callee := .builtin .append, args := #[s, x], argTypes := #[53, 53] })
    (base : Nat) {a1 : Option Addr} {n1 c1 : Nat} {ps : List Pt} (hs : a.eval s = .slice a1 n1 c1) (hown : Parts w base a1 n1 c1 ps)
    (g m : Nat) (cs : Array Value) (qs : List Pt) (hm : qs.length = m) (hk : w.heap[g]? = some (.cells cs 25 (0, 0))) (hcs : cs.toList = qs.flatMap ptCells) (hx : a.eval x = .slice (some ⟨g, 0, none⟩) m m)
    (hq : ∀ q ∈ qs, BytesIn w w.heap.size q.ao q.data ∧ (q.data ≠ [] → ∀ ad, q.ao = some ad → (Value.slice a1 n1 c1).ownBlock ≠ some ad.block) ∧ PtOk q) (hlim : n1 + m ≤ 100000000) (hbase : base ≤ w.heap.size)
    (h : ∀ a2 c2 w', Parts w' base a2 (n1 + m) c2 (ps ++ qs) → w.grownBy w' (Value.slice a1 n1 c1).ownBlock → K (a.put o.dst (.slice a2 (n1 + m) c2)) w') : Oper.wp Tryd.prog o a w K Q := by
  have hg : g < w.heap.size := (Array.getElem?_eq_some_iff.1 hk).1
  obtain ⟨i0, hi, hz0, hz1, hz2⟩ := info_parts infoPt
  have hin := rowsIn_block (sub := ptSub) (B := w.heap.size) ptCells_len qs cs hk hcs hg (fun q hq' => (hq q hq').1)
  obtain ⟨v', w', hr, h2, h3, _, h5⟩ := run_append_own_at (P := Tryd.prog) w base 53 o.type 25 i0 (.slice none 0 0) 1 24 Tryd.underlying53 hi hz0 hz1 hz2 rfl (by decide) _ n1 (ps.flatMap ptCells) hown.row ⟨g, 0, none⟩ m m (qs.flatMap ptCells) (by rw [flat_len ptCells_len, hm]) (fun j u hu => cells_of_rows ptCells_len (by decide) hin (Below.refl _ _) rfl hu) (fun u hu => by obtain ⟨y, _, hy⟩ := List.mem_flatMap.1 hu; exact ptCells_one1 y u hy) (by unfold maxLen; omega) (by omega) hbase
  unfold Oper.wp execOp
  simp only [ho, resolve, invoke, builtin, Sem.run_bind, Sem.run_pure, Result.andThen_ok, List.map_toArray, List.map_cons, List.map_nil, hs, hx, hr]
  obtain ⟨a2, c2, rfl, hp⟩ := hown.grow hm hq h2 h3 h5
  exact h a2 c2 w' hp h3
theorem arg_two {w : World} {p q : Pt} {v : Value} (h1 : BytesIn w w.heap.size p.ao p.data) (h2 : BytesIn w w.heap.size q.ao q.data) (hf1 : ∀ ad, p.ao = some ad → v.ownBlock ≠ some ad.block) (hf2 : q.data ≠ [] → ∀ ad, q.ao = some ad → v.ownBlock ≠ some ad.block) (ho1 : PtOk p) (ho2 : PtOk q) :
    ∀ x ∈ [p, q], BytesIn w w.heap.size x.ao x.data ∧ (x.data ≠ [] → ∀ ad, x.ao = some ad → v.ownBlock ≠ some ad.block) ∧ PtOk x := by
  intro x hx
  simp only [List.mem_cons, List.not_mem_nil, or_false] at hx
  rcases hx with rfl | rfl
  · exact ⟨h1, fun _ => hf1, ho1⟩
  · exact ⟨h2, hf2, ho2⟩
theorem pt_own {w' : World} {B c : Nat} {a1 : Option Addr} {L : List Int} (ho : w'.ownsRow B 5 1 (.slice a1 L.length c) L.length (L.map bv)) (hw : BytesWf L) : PtOk ⟨a1, c, L⟩ ∧ BytesIn w' w'.heap.size a1 L :=
  ⟨⟨hw, own_none ho, own_capG ho⟩, own_bytes' ho⟩
theorem far_own {w w' : World} {base n c B m c1 : Nat} {a a1 : Option Addr} {ps : List Pt} {xs : List Value} (hP : Parts w base a n c ps) (ho : w'.ownsRow B 5 1 (.slice a1 m c1) m xs) (hB : w.heap.size ≤ B) : ∀ ad, a1 = some ad → (Value.slice a n c).ownBlock ≠ some ad.block := by
  intro ad had e
  have h1 := (hP.lt _ e).2
  have h2 := (World.ownsRow.lt ho ad.block (by rw [had]; rfl)).1
  omega
theorem nums8_len (xs : List Int) : (xs.flatMap (numB 8)).length = 8 * xs.length := by
  induction xs with
  | nil => rfl
  | cons x xs ih => rw [List.flatMap_cons, List.length_append, numB_len, ih, List.length_cons]; omega
theorem entryB_len (e : EnP) : (entryB e).length = 42 + e.text.size + (valuesB e.args).length + 8 * e.vs.length := by
  have h8 := nums8_len e.vs
  simp only [entryB, List.length_append, List.length_cons, numB_len, commandB_len, h8]
  omega
theorem flat_bound {es : List En} {M : Nat} (h : ∀ e ∈ es, (entryB e.plain).length ≤ M) : ((es.map En.plain).flatMap entryB).length ≤ es.length * M := by
  induction es with
  | nil => simp
  | cons e es ih =>
    rw [List.map_cons, List.flatMap_cons, List.length_append, List.length_cons, Nat.succ_mul]
    have h1 := h e (by simp)
    have h2 := ih (fun x hx => h x (List.mem_cons_of_mem _ hx))
    omega
theorem u8_same {x : Int} (h : 0 ≤ x ∧ x < 256) : IntKind.u8.wrap x = x := by
  unfold IntKind.wrap
  simp [IntKind.signed, IntKind.bits]
  omega
end Go.Proofs.YthdpfchbomaigaaDoor
