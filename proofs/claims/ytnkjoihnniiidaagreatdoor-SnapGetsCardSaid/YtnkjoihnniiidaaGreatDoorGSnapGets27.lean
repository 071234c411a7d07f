/- ApartSnaps: two snaps that calls have made, all their lists in blocks of their own, are found to lie apart. Conditions: the lists are the caller's own. -/
import Derived.Test.YtnkjoihnniiidaaGreatDoorGSnapGets26
import Derived.Test.YtnkjoihnniiidaaGreatDoorGSnapGets12
import Derived.Test.YtnkjoihnniiidaaGreatDoorGSnapGets3
set_option linter.unusedVariables false
set_option linter.unusedSimpArgs false
namespace Go.Proofs.YtnkjoihnniiidaaGreatDoor
open Go.RowKit
set_option maxRecDepth 20000
theorem bagE_not (T : TypeId) (h2 : T ≠ 22) (h5 : T ≠ 23) (h22 : T ≠ 42) (h0 : T ≠ 0) (i : Nat) : T ≠ bagE i := by
  unfold bagE
  split
  · exact h2
  · split
    · exact h5
    · split
      · exact h22
      · exact h0
theorem bagE_sn (i : Nat) : 25 ≠ bagE i := bagE_not _ (by decide) (by decide) (by decide) (by decide) i
/-- Lists of snaps, bytes, numbers. -/
def rws3 (A D E : List Value) : Nat → List Value := upd (upd (upd (fun _ => []) 22 A) 5 D) 2 E
theorem rws3_nil : rws3 [] [] [] = fun _ => [] := by funext j; simp [rws3, upd]
theorem rws3_22 (A D E : List Value) : rws3 A D E 22 = A := rfl
theorem rws3_5 (A D E : List Value) : rws3 A D E 5 = D := rfl
theorem rws3_2 (A D E : List Value) : rws3 A D E 2 = E := rfl
theorem rws3_is (A D E : List Value) (j : Nat) : rws3 A D E j = if j = 2 then E else if j = 5 then D else if j = 22 then A else [] := by
  unfold rws3 upd; rfl
theorem rws3_u22 (A D E X : List Value) : upd (rws3 A D E) 22 X = rws3 X D E := by
  funext j; rw [rws3_is]; unfold upd; rw [rws3_is]; by_cases h : j = 22 <;> simp [h]
theorem rws3_u5 (A D E X : List Value) : upd (rws3 A D E) 5 X = rws3 A X E := by
  funext j; rw [rws3_is]; unfold upd; rw [rws3_is]; by_cases h : j = 5 <;> simp [h]
theorem rws3_u2 (A D E X : List Value) : upd (rws3 A D E) 2 X = rws3 A D X := by
  funext j; rw [rws3_is]; unfold upd; rw [rws3_is]; by_cases h : j = 2 <;> simp [h]
def snvV (x : Sn) : Value := .slice x.va x.vs.length x.vc
def sniV (x : Sn) : Value := .slice x.ia x.im.length x.ic
theorem oneS_bag (B bb : Nat) (f : Nat → Value) (XA XD XE : List Value) (x : Sn) (w : World) (hb : Bag w B bb f (rws3 XA XD XE)) (hB : B ≤ w.heap.size) (h2 : XE.length ≤ 1000000) (h5 : XD.length ≤ 1000000) :
    Calls Tryz.prog 112 #[.pointer (some ⟨bb, 0, none⟩), snVal x] w fun e w' => e = .returned (.tuple #[]) ∧ (∃ f', Bag w' B bb f' (rws3 XA (XD ++ [sniV x]) (XE ++ [snvV x]))) ∧ Below B w w' ∧ BagKeeps w w' := by
  obtain ⟨si, st, va, vs, vc, ia, ims, ic⟩ := x
  simp only [snVal, snvV, sniV]
  obtain ⟨vn, hvn⟩ : ∃ vn, vs.length = vn := ⟨_, rfl⟩
  obtain ⟨im, him⟩ : ∃ im, ims.length = im := ⟨_, rfl⟩
  rw [hvn, him]
  have HB := Lib.hid hb
  have HM := Lib.hid (And.intro h2 h5)
  clear hb h2 h5 hvn him
  go_enter Tryz.func112, Tryz.ntmps112
  go_wp2_with fail
  have hal : Below B w (w.alloc (.cells #[.int .i64 si, .int .i64 st, .slice va vn vc, .slice ia im ic] 25)) := (Below.refl B w).alloc hB _
  have hbA := HB.out.below ((Below.refl w.heap.size w).alloc (Nat.le_refl _) (.cells #[.int .i64 si, .int .i64 st, .slice va vn vc, .slice ia im ic] 25)) (Nat.le_refl _)
  refine (putInts_bag B bb f (rws3 XA XD XE) va vn vc _ hbA (by simp; omega) (by rw [rws3_2]; exact HM.out.1)).mono ?_
  rintro e w2 ⟨rfl, ⟨f2, hf⟩, hb2, hk2⟩
  rw [rws3_2, rws3_u2] at hf
  have HF := Lib.hid hf
  have hb3 := hal.trans hb2
  have hblk := hk2 w.heap.size _ 25 _ (heap_alloc_new w (.cells #[.int .i64 si, .int .i64 st, .slice va vn vc, .slice ia im ic] 25)) (by decide) bagE_sn
  have d3 : w2.cell? ⟨w.heap.size, 3, none⟩ = some (.slice ia im ic) := Go.Joins.cell_of_block hblk 3
  have HK := Lib.hid ((BagKeeps.alloc w (.cells #[.int .i64 si, .int .i64 st, .slice va vn vc, .slice ia im ic] 25)).trans hk2)
  clear hf hbA hk2 hblk hal
  go_wp2_with fail
  refine (putBytes_bag B bb f2 _ ia im ic w2 HF.out (by have := hb3.size; omega) (by rw [rws3_5]; exact HM.out.2)).mono ?_
  rintro e w6 ⟨rfl, ⟨f6, hf6⟩, hb6, hk6⟩
  rw [rws3_5, rws3_u5] at hf6
  have HF6 := Lib.hid hf6
  have hb7 := hb3.trans hb6
  have HK6 := Lib.hid (HK.out.trans hk6)
  clear hf6 hk6 d3
  go_wp2_with fail
  go_end0
  exact ⟨rfl, ⟨_, HF6.out⟩, hb7, HK6.out⟩
set_option maxHeartbeats 2000000 in
theorem putS_bag (B bb g c : Nat) (f : Nat → Value) (XA XD XE : List Value) (x : Sn) (w : World) (hg : w.heap[g]? = some (.cells (snArr x) 25 (0, 0))) (hgB : g < B) (hb : Bag w B bb f (rws3 XA XD XE)) (hB : B ≤ w.heap.size) (h22 : XA.length ≤ 1000000) (h2 : XE.length ≤ 1000000) (h5 : XD.length ≤ 1000000) :
    Calls Tryz.prog 52 #[.pointer (some ⟨bb, 0, none⟩), .slice (some ⟨g, 0, none⟩) 1 c] w fun e w' => e = .returned (.tuple #[]) ∧ (∃ f', Bag w' B bb f' (rws3 (XA ++ [.slice (some ⟨g, 0, none⟩) 1 c]) (XD ++ [sniV x]) (XE ++ [snvV x]))) ∧ Below B w w' := by
  obtain ⟨i0, hi, hz0, hz1, hz2⟩ := info24 (show (Tryz.prog.info? 42).map (fun i => (i.zero, i.size, i.bytes)) = some (some (.slice none 0 0), 1, 24) by kernel_rfl)
  have c5 : w.cell? ⟨bb, 22, none⟩ = some (f 22) := hb.cell 22 (by decide)
  have HB := Lib.hid hb
  have HG := Lib.hid hg
  have HM := Lib.hid (And.intro h2 h5)
  have hbl := hb.lt
  clear hb hg h2 h5
  obtain ⟨v, hv⟩ : ∃ v, v = f 22 := ⟨_, rfl⟩
  obtain ⟨R, hR⟩ : ∃ R, R = XA := ⟨_, rfl⟩
  rw [← hv] at c5
  rw [← hR] at h22
  have HO := Lib.hid (show w.ownsRow B 42 1 v R.length R by rw [hv, hR]; exact HB.out.own 22)
  have HV := Lib.hid hv
  have HR := Lib.hid hR
  clear hv hR
  go_enter Tryz.func52, Tryz.ntmps52
  go_wp2_with (at_builtin; refine wpList_append_own _ rfl (.tmp 9) (.tmp 11) 43 rfl B 42 i0 (.slice none 0 0) 1 24 Tryz.underlying43 hi hz0 hz1 hz2 rfl (by decide) v R.length R rfl (HO.out.alloc _) ⟨w.heap.size, 0, none⟩ 1 1 [.slice (some ⟨g, 0, none⟩) 1 c] rfl rfl (cell_one_new _ _ _) (by simp [Value.oneCell']) (by unfold maxLen; omega) (by omega) (by simp; omega) ?_)
  intro v' w3 hown3 hg3 _
  obtain ⟨a3, c3, hv3, _, _, _⟩ := row_form hown3
  subst hv3
  have hga : w.grownBy w3 (f 22).ownBlock := by
    rw [← HV.out]
    exact (World.grownBy_alloc w _ _).trans hg3
  have hB2 := HB.out.put 22 (by decide) (by decide) (v := .slice a3 (R.length + 1) c3) (x := .slice (some ⟨g, 0, none⟩) 1 c) (by rw [rws3_22, ← HR.out]; exact hown3) hga
  rw [rws3_22, rws3_u22] at hB2
  have hb3 : w3.heap[bb]? = some (.cells ((List.range 29).map f).toArray 96 (0, 0)) := (hga.block bb hbl (fun e => HB.out.apart 22 e.symm)).trans HB.out.is
  have d5 : w3.cell? ⟨bb, 22, none⟩ = some v := by
    rw [Go.Joins.cell_of_block hb3 22, List.getElem?_toArray, List.getElem?_map, List.getElem?_range (by decide), HV.out]; rfl
  have f5 : w3.frozen? ⟨bb, 22, none⟩ = false := Go.Joins.unfrozen_of_block hb3 22
  have hbw : Below B w (w3.setCell ⟨bb, 22, none⟩ (.slice a3 (R.length + 1) c3)) := (((Below.refl B w).grown hga hB (fun k hk => ((HB.out.own 22).lt k hk).1)).setCell (p := ⟨bb, 22, none⟩) HB.out.base _)
  have H1 := Lib.hid hB2
  have H3 := Lib.hid hbw
  clear hB2 hbw hown3 hg3 hb3 hga
  go_wp2_with fail
  have h1 := H1.out
  have h3 := H3.out
  clear d5 f5 H1 H3
  generalize w3.setCell ⟨bb, 22, none⟩ (.slice a3 (R.length + 1) c3) = w4 at h1 h3 ⊢
  have HB4 := Lib.hid h1
  clear h1 HB
  go_loopw [4] (fun i wr => ((i = .int .i64 0 ∧ ∃ f', Bag wr B bb f' (rws3 (XA ++ [.slice (some ⟨g, 0, none⟩) 1 c]) XD XE)) ∨ (i = .int .i64 1 ∧ ∃ f', Bag wr B bb f' (rws3 (XA ++ [.slice (some ⟨g, 0, none⟩) 1 c]) (XD ++ [sniV x]) (XE ++ [snvV x])))) ∧ Below B w wr) (fun i _ => 1 - (intOf i).toNat)
  case atStart => exact ⟨Or.inl ⟨rfl, _, HB4.out⟩, h3⟩
  case round =>
    clear HB4 h3
    obtain ⟨hrel, hbel⟩ := hrel
    have hs := hbel.size
    rcases hrel with ⟨rfl, hbag⟩ | ⟨rfl, hbag⟩
    · have HBG := Lib.hid hbag
      have hblk := (hbel.block g hgB).trans HG.out
      have d0 : wr.cell? ⟨g, 0, none⟩ = some (.int .i64 x.index) := Go.Joins.cell_of_block hblk 0
      have d1 : wr.cell? ⟨g, 1, none⟩ = some (.int .i64 x.term) := Go.Joins.cell_of_block hblk 1
      have d2 : wr.cell? ⟨g, 2, none⟩ = some (.slice x.va x.vs.length x.vc) := Go.Joins.cell_of_block hblk 2
      have d3 : wr.cell? ⟨g, 3, none⟩ = some (.slice x.ia x.im.length x.ic) := Go.Joins.cell_of_block hblk 3
      clear hbag hblk
      go_wp2_with fail
      obtain ⟨f', hf'⟩ := HBG.out
      refine (oneS_bag B bb f' _ XD XE x wr hf' (by omega) HM.out.1 HM.out.2).mono ?_
      rintro e w5 ⟨rfl, hf5, hb5, _⟩
      have H5 := Lib.hid hf5
      clear hf5 hf' d0 d1 d2 d3
      go_wp2_with fail
      go_roundw
      case rel => exact ⟨Or.inr ⟨rfl, H5.out⟩, hbel.trans hb5⟩
      case measure => simp [intOf]
    · have HBG := Lib.hid hbag
      clear hbag
      go_wp2_with fail
      go_end0
      exact ⟨rfl, HBG.out, hbel⟩
theorem sep_list {α : Type} (d : α) (V : α → Value) {D : List α} (h : D.Pairwise fun x y => (V x).ownBlock = none ∨ (V x).ownBlock ≠ (V y).ownBlock) : SepAll D.length fun j => V (D.getD j d) := by
  have key : ∀ i j, i < j → j < D.length → Sep (V (D.getD i d)) (V (D.getD j d)) := by
    intro i j hij hj b h1 h2
    have := List.pairwise_iff_getElem.1 h i j (by omega) hj hij
    have e1 : D.getD i d = D[i]'(by omega) := by simp [List.getD, List.getElem?_eq_getElem (show i < D.length by omega)]
    have e2 : D.getD j d = D[j] := by simp [List.getD, List.getElem?_eq_getElem hj]
    rw [e1] at h1
    rw [e2] at h2
    rcases this with h3 | h3
    · rw [h3] at h1; cases h1
    · exact h3 (h1.trans h2.symm)
  intro i j hi hj hne
  rcases Nat.lt_or_gt_of_ne hne with h1 | h1
  · exact key i j h1 hj
  · exact (key j i h1 hi).symm
theorem map_getD {α β : Type} (g : α → β) (d : α) (l : List α) : l.map g = (List.range l.length).map fun j => g (l.getD j d) := by
  apply List.ext_getElem?
  intro i
  rw [List.getElem?_map, List.getElem?_map]
  by_cases hi : i < l.length
  · rw [List.getElem?_range hi, List.getElem?_eq_getElem hi]
    simp [List.getD, List.getElem?_eq_getElem hi]
  · rw [List.getElem?_eq_none (by omega), List.getElem?_eq_none (by simpa using hi)]; rfl
/-- A row as it lies: its value, how many, its cells. -/
structure Rw where
  v : Value
  n : Nat
  c : List Value
def rw0 : Rw := ⟨.slice none 0 0, 0, []⟩
def snInts (x : Sn) : Rw := ⟨snvV x, x.vs.length, x.vs.flatMap iCells⟩
def snImg (x : Sn) : Rw := ⟨sniV x, x.im.length, x.im.map bv⟩
/-- A row of the call's own. -/
def RwOwn (w : World) (B : Nat) (T : TypeId) (sz : Nat) (r : Rw) : Prop := w.ownsRow B T sz r.v r.n r.c
def sepR (p q : Rw) : Prop := p.v.ownBlock = none ∨ p.v.ownBlock ≠ q.v.ownBlock
theorem sep_low {w w0 : World} {B M : Nat} {T T2 : TypeId} {sz sz2 : Nat} {p q : Rw} (h : RwOwn w0 B T sz p) (h2 : RwOwn w M T2 sz2 q) (hM : w0.heap.size ≤ M) : sepR p q := by
  cases hg : p.v.ownBlock with
  | none => exact Or.inl hg
  | some g => exact Or.inr fun e => absurd (World.ownsRow.lt h2 g (by rw [← e]; exact hg)).1 (by have h3 := (World.ownsRow.lt h g hg).2; omega)
def rwd (D : List Rw) (j : Nat) : Rw := D.getD j rw0
theorem rwd_mem (D : List Rw) (j : Nat) (h : j < D.length) : rwd D j ∈ D := by
  unfold rwd
  simp [List.getD, List.getElem?_eq_getElem h]
theorem rows_at {w : World} {B : Nat} {T : TypeId} {sz : Nat} {D : List Rw} (h : ∀ r ∈ D, RwOwn w B T sz r) : RowsAt B T sz D.length (fun j => (rwd D j).v) (fun j => (rwd D j).n) (fun j => (rwd D j).c) w :=
  fun j hj => h _ (rwd_mem D j hj)
theorem rows_below {w w' : World} {B B' : Nat} {T : TypeId} {sz : Nat} {D : List Rw} (h : ∀ r ∈ D, RwOwn w B T sz r) (hb : Below B' w w') (hB : w.heap.size ≤ B') : ∀ r ∈ D, RwOwn w' B T sz r := fun r hr => own_below (h r hr) hb hB
theorem snr_own {w : World} {B g : Nat} {x : Sn} (h : w.heap[g]? = some (.cells (snArr x) 25 (0, 0))) (hg : B ≤ g) : w.ownsRow B 25 4 (.slice (some ⟨g, 0, none⟩) 1 1) 1 (snArr x).toList :=
  ⟨rfl, Or.inr ⟨g, 1, snArr x, rfl, hg, h, Nat.le_refl _, by unfold maxLen; omega, rfl, rfl⟩⟩
/-- Rows of three kinds, each apart from the others. -/
structure Fin3 (w : World) (B : Nat) (I Y L : List Rw) : Prop where
  oI : ∀ r ∈ I, RwOwn w B 3 1 r
  sI : I.Pairwise sepR
  lI : I.length ≤ 100000
  nI : ∀ r ∈ I, r.n ≤ 1099511627776
  oY : ∀ r ∈ Y, RwOwn w B 5 1 r
  sY : Y.Pairwise sepR
  lY : Y.length ≤ 100000
  nY : ∀ r ∈ Y, r.n ≤ 1099511627776
  oL : ∀ r ∈ L, RwOwn w B 25 4 r
  sL : L.Pairwise sepR
  lL : L.length ≤ 100000
  nL : ∀ r ∈ L, r.n ≤ 1099511627776
theorem Fin3.below {w w' : World} {B : Nat} {I Y L : List Rw} (h : Fin3 w B I Y L) (hb : Below w.heap.size w w') : Fin3 w' B I Y L :=
  { h with oI := rows_below h.oI hb (Nat.le_refl _), oY := rows_below h.oY hb (Nat.le_refl _), oL := rows_below h.oL hb (Nat.le_refl _) }
theorem apart3 {B Bb bb : Nat} {f : Nat → Value} {XA XD XE : List Value} {w : World} {I Y L : List Rw} (hb : Bag w Bb bb f (rws3 XA XD XE)) (h : Fin3 w B I Y L) (hB : B ≤ w.heap.size) (hBb : B ≤ Bb) (hI : I.map Rw.v = XE := by rfl) (hY : Y.map Rw.v = XD := by rfl) (hL : L.map Rw.v = XA := by rfl) :
    Calls Tryz.prog 40 #[.pointer (some ⟨bb, 0, none⟩)] w fun e w' => e = .returned (.bool true) ∧ Below B w w' ∧ ∀ b, b < w.heap.size → (∀ q ∈ I, q.v.ownBlock ≠ some b) → (∀ q ∈ Y, q.v.ownBlock ≠ some b) → (∀ q ∈ L, q.v.ownBlock ≠ some b) → w'.heap[b]? = w.heap[b]? := by
  refine (apartS_bag B Bb bb f _ w hb hB hBb
    I.length (fun j => (rwd I j).v) (fun j => (rwd I j).n) (fun j => (rwd I j).c) (by rw [rws3_2, ← hI]; exact map_getD Rw.v rw0 I) (rows_at h.oI) (sep_list rw0 Rw.v h.sI) h.lI (fun j hj => h.nI _ (rwd_mem I j hj))
    Y.length (fun j => (rwd Y j).v) (fun j => (rwd Y j).n) (fun j => (rwd Y j).c) (by rw [rws3_5, ← hY]; exact map_getD Rw.v rw0 Y) (rows_at h.oY) (sep_list rw0 Rw.v h.sY) h.lY (fun j hj => h.nY _ (rwd_mem Y j hj))
    L.length (fun j => (rwd L j).v) (fun j => (rwd L j).n) (fun j => (rwd L j).c) (by rw [rws3_22, ← hL]; exact map_getD Rw.v rw0 L) (rows_at h.oL) (sep_list rw0 Rw.v h.sL) h.lL (fun j hj => h.nL _ (rwd_mem L j hj))).mono ?_
  rintro e w' ⟨h1, h2, h3⟩
  exact ⟨h1, h2, fun b hb q1 q2 q3 => h3 b hb (fun ⟨j, hj, e⟩ => q1 _ (rwd_mem I j hj) e) (fun ⟨j, hj, e⟩ => q2 _ (rwd_mem Y j hj) e) (fun ⟨j, hj, e⟩ => q3 _ (rwd_mem L j hj) e)⟩
/-- How far the snaps have been put in. -/
def SsK (v1 v2 : Value) (x y : Sn) (B bb : Nat) (i : Value) (w : World) : Prop :=
  (i = .int .i64 0 ∧ ∃ f', Bag w B bb f' (rws3 [] [] [])) ∨ (i = .int .i64 1 ∧ ∃ f', Bag w B bb f' (rws3 [v1] [sniV x] [snvV x])) ∨ (i = .int .i64 2 ∧ ∃ f', Bag w B bb f' (rws3 [v1, v2] [sniV x, sniV y] [snvV x, snvV y]))
set_option maxHeartbeats 4000000 in
theorem apartSs_any (B M lb lc g1 g2 k1 k2 : Nat) (x y : Sn) (w0 w : World) (hc0 : w.cell? ⟨lb, 0, none⟩ = some (.slice (some ⟨g1, 0, none⟩) 1 k1)) (hc1 : w.cell? ⟨lb, 1, none⟩ = some (.slice (some ⟨g2, 0, none⟩) 1 k2)) (hlb : lb < w.heap.size)
    (hb1 : w.heap[g1]? = some (.cells (snArr x) 25 (0, 0))) (hb2 : w.heap[g2]? = some (.cells (snArr y) 25 (0, 0))) (hg1 : B ≤ g1) (hg2 : B ≤ g2) (hne : g1 ≠ g2) (hk1 : k1 = 1) (hk2 : k2 = 1)
    (h0 : OwnSn w0 B x) (h1 : OwnSn w B x) (h2 : OwnSn w M y) (hM : w0.heap.size ≤ M) (hBM : B ≤ M) (hB : B ≤ w.heap.size) (hx : SnFine x) (hy : SnFine y) :
    Calls Tryz.prog 19 #[.slice (some ⟨lb, 0, none⟩) 2 lc] w fun e w' => e = .returned (.bool true) ∧ Below B w w' ∧ ∀ b, b < w.heap.size → (∀ q ∈ [snInts x, snInts y], q.v.ownBlock ≠ some b) → (∀ q ∈ [snImg x, snImg y], q.v.ownBlock ≠ some b) → b ≠ g1 → b ≠ g2 → w'.heap[b]? = w.heap[b]? := by
  subst hk1 hk2
  have hsI : [snInts x, snInts y].Pairwise sepR := by
    refine List.pairwise_cons.2 ⟨fun q hq => ?_, List.pairwise_singleton _ _⟩
    rw [List.mem_singleton.1 hq]
    exact sep_low (show RwOwn w0 B 3 1 (snInts x) from h0.1) (show RwOwn w M 3 1 (snInts y) from h2.1) hM
  have hsB : [snImg x, snImg y].Pairwise sepR := by
    refine List.pairwise_cons.2 ⟨fun q hq => ?_, List.pairwise_singleton _ _⟩
    rw [List.mem_singleton.1 hq]
    exact sep_low (show RwOwn w0 B 5 1 (snImg x) from h0.2.row) (show RwOwn w M 5 1 (snImg y) from h2.2.row) hM
  have hoI : ∀ r ∈ [snInts x, snInts y], RwOwn w B 3 1 r := fun r hr => by
    rcases List.mem_cons.1 hr with rfl | h
    · exact h1.1
    · rw [List.mem_singleton.1 h]; exact Go.Joins.ownsRow_le h2.1 hBM
  have hoB : ∀ r ∈ [snImg x, snImg y], RwOwn w B 5 1 r := fun r hr => by
    rcases List.mem_cons.1 hr with rfl | h
    · exact h1.2.row
    · rw [List.mem_singleton.1 h]; exact Go.Joins.ownsRow_le h2.2.row hBM
  have hoL : ∀ r ∈ [(⟨.slice (some ⟨g1, 0, none⟩) 1 1, 1, (snArr x).toList⟩ : Rw), ⟨.slice (some ⟨g2, 0, none⟩) 1 1, 1, (snArr y).toList⟩], RwOwn w B 25 4 r := fun r hr => by
    rcases List.mem_cons.1 hr with rfl | h
    · exact snr_own hb1 hg1
    · rw [List.mem_singleton.1 h]; exact snr_own hb2 hg2
  have hsL : [(⟨.slice (some ⟨g1, 0, none⟩) 1 1, 1, (snArr x).toList⟩ : Rw), ⟨.slice (some ⟨g2, 0, none⟩) 1 1, 1, (snArr y).toList⟩].Pairwise sepR := by
    refine List.pairwise_cons.2 ⟨fun q hq => ?_, List.pairwise_singleton _ _⟩
    rw [List.mem_singleton.1 hq]
    exact Or.inr (by simp [Value.ownBlock, hne])
  have hnv : x.vs.length ≤ 1099511627776 ∧ y.vs.length ≤ 1099511627776 := by have := hx.vn; have := hy.vn; omega
  have hni : x.im.length ≤ 1099511627776 ∧ y.im.length ≤ 1099511627776 := by have := hx.ln; have := hy.ln; omega
  have HF := Lib.hid (show Fin3 w B [snInts x, snInts y] [snImg x, snImg y] [⟨.slice (some ⟨g1, 0, none⟩) 1 1, 1, (snArr x).toList⟩, ⟨.slice (some ⟨g2, 0, none⟩) 1 1, 1, (snArr y).toList⟩] from
    ⟨hoI, hsI, (by simp), (by simpa [snInts] using hnv), hoB, hsB, (by simp), (by simpa [snImg] using hni), hoL, hsL, (by simp), (by simp)⟩)
  have HC0 := Lib.hid hc0
  have HC1 := Lib.hid hc1
  have HB1 := Lib.hid hb1
  have HB2 := Lib.hid hb2
  have hlt1 : g1 < w.heap.size := (Array.getElem?_eq_some_iff.1 hb1).1
  have hlt2 : g2 < w.heap.size := (Array.getElem?_eq_some_iff.1 hb2).1
  clear hsI hsB hoI hoB hoL hsL hnv hni hc0 hc1 hb1 hb2 h0 h1 h2 hx hy hg1 hg2 hM hBM
  go_enter Tryz.func19, Tryz.ntmps19
  go_wp2_with fail
  have hb0 : Bag (w.alloc _) w.heap.size w.heap.size (fun _ => .slice none 0 0) (fun _ => []) := Bag.made w
  have hbe : Below w.heap.size w (w.alloc (.cells ((List.range 29).map fun _ => Value.slice none 0 0).toArray 96)) := (Below.refl _ _).alloc (Nat.le_refl _) _
  have hlit : ((List.range 29).map fun _ => Value.slice none 0 0).toArray = #[.slice none 0 0, .slice none 0 0, .slice none 0 0, .slice none 0 0, .slice none 0 0, .slice none 0 0, .slice none 0 0, .slice none 0 0, .slice none 0 0, .slice none 0 0, .slice none 0 0, .slice none 0 0, .slice none 0 0, .slice none 0 0, .slice none 0 0, .slice none 0 0, .slice none 0 0, .slice none 0 0, .slice none 0 0, .slice none 0 0, .slice none 0 0, .slice none 0 0, .slice none 0 0, .slice none 0 0, .slice none 0 0, .slice none 0 0, .slice none 0 0, .slice none 0 0, .slice none 0 0] := rfl
  rw [hlit] at hb0 hbe
  have HBE := Lib.hid hbe
  clear hbe hlit
  generalize w.alloc _ = w1 at hb0 HBE ⊢
  have hbe := HBE.out
  have HB0 := Lib.hid hb0
  clear HBE hb0
  go_loopw [4] (fun i wr => SsK (.slice (some ⟨g1, 0, none⟩) 1 1) (.slice (some ⟨g2, 0, none⟩) 1 1) x y w.heap.size w.heap.size i wr ∧ Below w.heap.size w wr) (fun i _ => 2 - (intOf i).toNat)
  case atStart => exact ⟨Or.inl ⟨rfl, _, by rw [rws3_nil]; exact HB0.out⟩, hbe⟩
  case round =>
    clear hbe HB0
    obtain ⟨hrel, hbel⟩ := hrel
    have hs := hbel.size
    have c0 : wr.cell? ⟨lb, 0, none⟩ = some (.slice (some ⟨g1, 0, none⟩) 1 1) := (hbel.cell (p := ⟨lb, 0, none⟩) hlb).trans HC0.out
    have c1' : wr.cell? ⟨lb, 1, none⟩ = some (.slice (some ⟨g2, 0, none⟩) 1 1) := (hbel.cell (p := ⟨lb, 1, none⟩) hlb).trans HC1.out
    rcases hrel with ⟨rfl, hbag⟩ | ⟨rfl, hbag⟩ | ⟨rfl, hbag⟩
    · have HBG := Lib.hid hbag
      clear hbag
      go_wp2_with fail
      obtain ⟨f', hf'⟩ := HBG.out
      refine (putS_bag w.heap.size w.heap.size g1 1 f' [] [] [] x wr ((hbel.block g1 hlt1).trans HB1.out) hlt1 hf' hs (by simp) (by simp) (by simp)).mono ?_
      rintro e w5 ⟨rfl, hf5, hb5⟩
      have H5 := Lib.hid hf5
      clear hf5 hf' c0 c1'
      go_wp2_with fail
      go_roundw
      case rel => exact ⟨Or.inr (Or.inl ⟨rfl, by simpa using H5.out⟩), hbel.trans hb5⟩
      case measure => simp [intOf]
    · have HBG := Lib.hid hbag
      clear hbag
      go_wp2_with fail
      obtain ⟨f', hf'⟩ := HBG.out
      refine (putS_bag w.heap.size w.heap.size g2 1 f' _ _ _ y wr ((hbel.block g2 hlt2).trans HB2.out) hlt2 hf' hs (by simp) (by simp) (by simp)).mono ?_
      rintro e w5 ⟨rfl, hf5, hb5⟩
      have H5 := Lib.hid hf5
      clear hf5 hf' c0 c1'
      go_wp2_with fail
      go_roundw
      case rel => exact ⟨Or.inr (Or.inr ⟨rfl, H5.out⟩), hbel.trans hb5⟩
      case measure => simp [intOf]
    · have HBG := Lib.hid hbag
      clear hbag c0 c1'
      go_wp2_with fail
      obtain ⟨f', hf'⟩ := HBG.out
      refine (apart3 hf' (HF.out.below hbel) (by omega) (by omega)).mono ?_
      rintro e w6 ⟨rfl, hb6, hk6⟩
      have HK6 := Lib.hid hk6
      have HBEL := Lib.hid hbel
      clear hk6
      go_wp2_with fail
      go_ret
      refine ⟨rfl, (HBEL.out.mono (by omega)).trans hb6, fun b hb q1 q2 q3 q4 => (HK6.out b (by have := HBEL.out.size; omega) q1 q2 (fun q hq => ?_)).trans (HBEL.out.block b hb)⟩
      rcases List.mem_cons.1 hq with rfl | hq
      · intro e; injection e with e; exact q3 e.symm
      · rw [List.mem_singleton.1 hq]; intro e; injection e with e; exact q4 e.symm
end Go.Proofs.YtnkjoihnniiidaaGreatDoor
