/- ApartSnaps: two snaps that calls have made, all their lists in blocks of their own, are found to lie apart. Conditions: the lists are the caller's own. -/
import Derived.Test.YtejgebpdipnhmaaGreatDoorGSnapNumbers28
import Derived.Test.YtejgebpdipnhmaaGreatDoorGSnapNumbers12
import Derived.Test.YtejgebpdipnhmaaGreatDoorGSnapNumbers3
import Derived.Test.YtejgebpdipnhmaaGreatDoorGSnapNumbers21
import Derived.Test.YtejgebpdipnhmaaGreatDoorGSnapNumbers23
set_option linter.unusedVariables false
set_option linter.unusedSimpArgs false
namespace Go.Proofs.YtejgebpdipnhmaaGreatDoor
open Go.RowKit
set_option maxRecDepth 20000
theorem bagE_not (T : TypeId) (h2 : T ≠ 22) (h5 : T ≠ 24) (h22 : T ≠ 49) (h0 : T ≠ 0) (i : Nat) : T ≠ bagE i := by
  unfold bagE
  split
  · exact h2
  · split
    · exact h5
    · split
      · exact h22
      · exact h0
theorem bagE_sn (i : Nat) : 26 ≠ bagE i := bagE_not _ (by decide) (by decide) (by decide) (by decide) i
/-- Lists of snaps, bytes, numbers. -/
def rws3 (A D E : List Value) : Nat → List Value := upd (upd (upd (fun _ => []) 22 A) 5 D) 2 E
theorem rws3_nil : rws3 [] [] [] = fun _ => [] := by funext j; simp [rws3, upd]
theorem rws3_22 (A D E : List Value) : rws3 A D E 22 = A := rfl
theorem rws3_5 (A D E : List Value) : rws3 A D E 5 = D := rfl
theorem rws3_2 (A D E : List Value) : rws3 A D E 2 = E := rfl
theorem rws3_is (A D E : List Value) (j : Nat) : rws3 A D E j = if j = 2 then E else if j = 5 then D else if j = 22 then A else [] := by
  unfold rws3 upd; rfl
theorem rws3_u22 (A D E X : List Value) : upd (rws3 A D E) 22 X = rws3 X D E := by
  funext j; rw [rws3_is]; unfold upd; rw [rws3_is]; by_cases h : j = 22 <;> simp [h]
theorem rws3_u5 (A D E X : List Value) : upd (rws3 A D E) 5 X = rws3 A X E := by
  funext j; rw [rws3_is]; unfold upd; rw [rws3_is]; by_cases h : j = 5 <;> simp [h]
theorem rws3_u2 (A D E X : List Value) : upd (rws3 A D E) 2 X = rws3 A D X := by
  funext j; rw [rws3_is]; unfold upd; rw [rws3_is]; by_cases h : j = 2 <;> simp [h]
def snvV (x : Sn) : Value := .slice x.va x.vs.length x.vc
def sniV (x : Sn) : Value := .slice x.ia x.im.length x.ic
theorem oneS_bag (B bb : Nat) (f : Nat → Value) (XA XD XE : List Value) (x : Sn) (w : World) (hb : Bag w B bb f (rws3 XA XD XE)) (hB : B ≤ w.heap.size) (h2 : XE.length ≤ 1000000) (h5 : XD.length ≤ 1000000) :
    Calls Tryz.prog 120 #[.pointer (some ⟨bb, 0, none⟩), snVal x] w fun e w' => e = .returned (.tuple #[]) ∧ (∃ f', Bag w' B bb f' (rws3 XA (XD ++ [sniV x]) (XE ++ [snvV x]))) ∧ Below B w w' ∧ BagKeeps w w' := by
  obtain ⟨si, st, va, vs, vc, ia, ims, ic⟩ := x
  simp only [snVal, snvV, sniV]
  obtain ⟨vn, hvn⟩ : ∃ vn, vs.length = vn := ⟨_, rfl⟩
  obtain ⟨im, him⟩ : ∃ im, ims.length = im := ⟨_, rfl⟩
  rw [hvn, him]
  have HB := Lib.hid hb
  have HM := Lib.hid (And.intro h2 h5)
  clear hb h2 h5 hvn him
  go_enter Tryz.func120, Tryz.ntmps120
  go_wp2_with fail
  have hal : Below B w (w.alloc (.cells #[.int .i64 si, .int .i64 st, .slice va vn vc, .slice ia im ic] 26)) := (Below.refl B w).alloc hB _
  have hbA := HB.out.below ((Below.refl w.heap.size w).alloc (Nat.le_refl _) (.cells #[.int .i64 si, .int .i64 st, .slice va vn vc, .slice ia im ic] 26)) (Nat.le_refl _)
  refine (putInts_bag B bb f (rws3 XA XD XE) va vn vc _ hbA (by simp; omega) (by rw [rws3_2]; exact HM.out.1)).mono ?_
  rintro e w2 ⟨rfl, ⟨f2, hf⟩, hb2, hk2⟩
  rw [rws3_2, rws3_u2] at hf
  have HF := Lib.hid hf
  have hb3 := hal.trans hb2
  have hblk := hk2 w.heap.size _ 26 _ (heap_alloc_new w (.cells #[.int .i64 si, .int .i64 st, .slice va vn vc, .slice ia im ic] 26)) (by decide) bagE_sn
  have d3 : w2.cell? ⟨w.heap.size, 3, none⟩ = some (.slice ia im ic) := Go.Joins.cell_of_block hblk 3
  have HK := Lib.hid ((BagKeeps.alloc w (.cells #[.int .i64 si, .int .i64 st, .slice va vn vc, .slice ia im ic] 26)).trans hk2)
  clear hf hbA hk2 hblk hal
  go_wp2_with fail
  refine (putBytes_bag B bb f2 _ ia im ic w2 HF.out (by have := hb3.size; omega) (by rw [rws3_5]; exact HM.out.2)).mono ?_
  rintro e w6 ⟨rfl, ⟨f6, hf6⟩, hb6, hk6⟩
  rw [rws3_5, rws3_u5] at hf6
  have HF6 := Lib.hid hf6
  have hb7 := hb3.trans hb6
  have HK6 := Lib.hid (HK.out.trans hk6)
  clear hf6 hk6 d3
  go_wp2_with fail
  go_end0
  exact ⟨rfl, ⟨_, HF6.out⟩, hb7, HK6.out⟩
set_option maxHeartbeats 2000000 in
theorem putS_bag (B bb g c : Nat) (f : Nat → Value) (XA XD XE : List Value) (x : Sn) (w : World) (hg : w.heap[g]? = some (.cells (snArr x) 26 (0, 0))) (hgB : g < B) (hb : Bag w B bb f (rws3 XA XD XE)) (hB : B ≤ w.heap.size) (h22 : XA.length ≤ 1000000) (h2 : XE.length ≤ 1000000) (h5 : XD.length ≤ 1000000) :
    Calls Tryz.prog 58 #[.pointer (some ⟨bb, 0, none⟩), .slice (some ⟨g, 0, none⟩) 1 c] w fun e w' => e = .returned (.tuple #[]) ∧ (∃ f', Bag w' B bb f' (rws3 (XA ++ [.slice (some ⟨g, 0, none⟩) 1 c]) (XD ++ [sniV x]) (XE ++ [snvV x]))) ∧ Below B w w' := by
  obtain ⟨i0, hi, hz0, hz1, hz2⟩ := info24 (show (Tryz.prog.info? 49).map (fun i => (i.zero, i.size, i.bytes)) = some (some (.slice none 0 0), 1, 24) by kernel_rfl)
  have c5 : w.cell? ⟨bb, 22, none⟩ = some (f 22) := hb.cell 22 (by decide)
  have HB := Lib.hid hb
  have HG := Lib.hid hg
  have HM := Lib.hid (And.intro h2 h5)
  have hbl := hb.lt
  clear hb hg h2 h5
  obtain ⟨v, hv⟩ : ∃ v, v = f 22 := ⟨_, rfl⟩
  obtain ⟨R, hR⟩ : ∃ R, R = XA := ⟨_, rfl⟩
  rw [← hv] at c5
  rw [← hR] at h22
  have HO := Lib.hid (show w.ownsRow B 49 1 v R.length R by rw [hv, hR]; exact HB.out.own 22)
  have HV := Lib.hid hv
  have HR := Lib.hid hR
  clear hv hR
  go_enter Tryz.func58, Tryz.ntmps58
  go_wp2_with (at_builtin; refine wpList_append_own _ rfl (.tmp 9) (.tmp 11) 50 rfl B 49 i0 (.slice none 0 0) 1 24 Tryz.underlying50 hi hz0 hz1 hz2 rfl (by decide) v R.length R rfl (HO.out.alloc _) ⟨w.heap.size, 0, none⟩ 1 1 [.slice (some ⟨g, 0, none⟩) 1 c] rfl rfl (cell_one_new _ _ _) (by simp [Value.oneCell']) (by unfold maxLen; omega) (by omega) (by simp; omega) ?_)
  intro v' w3 hown3 hg3 _
  obtain ⟨a3, c3, hv3, _, _, _⟩ := row_form hown3
  subst hv3
  have hga : w.grownBy w3 (f 22).ownBlock := by
    rw [← HV.out]
    exact (World.grownBy_alloc w _ _).trans hg3
  have hB2 := HB.out.put 22 (by decide) (by decide) (v := .slice a3 (R.length + 1) c3) (x := .slice (some ⟨g, 0, none⟩) 1 c) (by rw [rws3_22, ← HR.out]; exact hown3) hga
  rw [rws3_22, rws3_u22] at hB2
  have hb3 : w3.heap[bb]? = some (.cells ((List.range 29).map f).toArray 103 (0, 0)) := (hga.block bb hbl (fun e => HB.out.apart 22 e.symm)).trans HB.out.is
  have d5 : w3.cell? ⟨bb, 22, none⟩ = some v := by
    rw [Go.Joins.cell_of_block hb3 22, List.getElem?_toArray, List.getElem?_map, List.getElem?_range (by decide), HV.out]; rfl
  have f5 : w3.frozen? ⟨bb, 22, none⟩ = false := Go.Joins.unfrozen_of_block hb3 22
  have hbw : Below B w (w3.setCell ⟨bb, 22, none⟩ (.slice a3 (R.length + 1) c3)) := (((Below.refl B w).grown hga hB (fun k hk => ((HB.out.own 22).lt k hk).1)).setCell (p := ⟨bb, 22, none⟩) HB.out.base _)
  have H1 := Lib.hid hB2
  have H3 := Lib.hid hbw
  clear hB2 hbw hown3 hg3 hb3 hga
  go_wp2_with fail
  have h1 := H1.out
  have h3 := H3.out
  clear d5 f5 H1 H3
  generalize w3.setCell ⟨bb, 22, none⟩ (.slice a3 (R.length + 1) c3) = w4 at h1 h3 ⊢
  have HB4 := Lib.hid h1
  clear h1 HB
  go_loopw [4] (fun i wr => ((i = .int .i64 0 ∧ ∃ f', Bag wr B bb f' (rws3 (XA ++ [.slice (some ⟨g, 0, none⟩) 1 c]) XD XE)) ∨ (i = .int .i64 1 ∧ ∃ f', Bag wr B bb f' (rws3 (XA ++ [.slice (some ⟨g, 0, none⟩) 1 c]) (XD ++ [sniV x]) (XE ++ [snvV x])))) ∧ Below B w wr) (fun i _ => 1 - (intOf i).toNat)
  case atStart => exact ⟨Or.inl ⟨rfl, _, HB4.out⟩, h3⟩
  case round =>
    clear HB4 h3
    obtain ⟨hrel, hbel⟩ := hrel
    have hs := hbel.size
    rcases hrel with ⟨rfl, hbag⟩ | ⟨rfl, hbag⟩
    · have HBG := Lib.hid hbag
      have hblk := (hbel.block g hgB).trans HG.out
      have d0 : wr.cell? ⟨g, 0, none⟩ = some (.int .i64 x.index) := Go.Joins.cell_of_block hblk 0
      have d1 : wr.cell? ⟨g, 1, none⟩ = some (.int .i64 x.term) := Go.Joins.cell_of_block hblk 1
      have d2 : wr.cell? ⟨g, 2, none⟩ = some (.slice x.va x.vs.length x.vc) := Go.Joins.cell_of_block hblk 2
      have d3 : wr.cell? ⟨g, 3, none⟩ = some (.slice x.ia x.im.length x.ic) := Go.Joins.cell_of_block hblk 3
      clear hbag hblk
      go_wp2_with fail
      obtain ⟨f', hf'⟩ := HBG.out
      refine (oneS_bag B bb f' _ XD XE x wr hf' (by omega) HM.out.1 HM.out.2).mono ?_
      rintro e w5 ⟨rfl, hf5, hb5, _⟩
      have H5 := Lib.hid hf5
      clear hf5 hf' d0 d1 d2 d3
      go_wp2_with fail
      go_roundw
      case rel => exact ⟨Or.inr ⟨rfl, H5.out⟩, hbel.trans hb5⟩
      case measure => simp [intOf]
    · have HBG := Lib.hid hbag
      clear hbag
      go_wp2_with fail
      go_end0
      exact ⟨rfl, HBG.out, hbel⟩
theorem sep_list {α : Type} (d : α) (V : α → Value) {D : List α} (h : D.Pairwise fun x y => (V x).ownBlock = none ∨ (V x).ownBlock ≠ (V y).ownBlock) : SepAll D.length fun j => V (D.getD j d) := by
  have key : ∀ i j, i < j → j < D.length → Sep (V (D.getD i d)) (V (D.getD j d)) := by
    intro i j hij hj b h1 h2
    have := List.pairwise_iff_getElem.1 h i j (by omega) hj hij
    have e1 : D.getD i d = D[i]'(by omega) := by simp [List.getD, List.getElem?_eq_getElem (show i < D.length by omega)]
    have e2 : D.getD j d = D[j] := by simp [List.getD, List.getElem?_eq_getElem hj]
    rw [e1] at h1
    rw [e2] at h2
    rcases this with h3 | h3
    · rw [h3] at h1; cases h1
    · exact h3 (h1.trans h2.symm)
  intro i j hi hj hne
  rcases Nat.lt_or_gt_of_ne hne with h1 | h1
  · exact key i j h1 hj
  · exact (key j i h1 hi).symm
theorem map_getD {α β : Type} (g : α → β) (d : α) (l : List α) : l.map g = (List.range l.length).map fun j => g (l.getD j d) := by
  apply List.ext_getElem?
  intro i
  rw [List.getElem?_map, List.getElem?_map]
  by_cases hi : i < l.length
  · rw [List.getElem?_range hi, List.getElem?_eq_getElem hi]
    simp [List.getD, List.getElem?_eq_getElem hi]
  · rw [List.getElem?_eq_none (by omega), List.getElem?_eq_none (by simpa using hi)]; rfl
/-- A row as it lies: its value, how many, its cells. -/
structure Rw where
  v : Value
  n : Nat
  c : List Value
def rw0 : Rw := ⟨.slice none 0 0, 0, []⟩
def snInts (x : Sn) : Rw := ⟨snvV x, x.vs.length, x.vs.flatMap iCells⟩
def snImg (x : Sn) : Rw := ⟨sniV x, x.im.length, x.im.map bv⟩
/-- A row of the call's own. -/
def RwOwn (w : World) (B : Nat) (T : TypeId) (sz : Nat) (r : Rw) : Prop := w.ownsRow B T sz r.v r.n r.c
def sepR (p q : Rw) : Prop := p.v.ownBlock = none ∨ p.v.ownBlock ≠ q.v.ownBlock
theorem sep_low {w w0 : World} {B M : Nat} {T T2 : TypeId} {sz sz2 : Nat} {p q : Rw} (h : RwOwn w0 B T sz p) (h2 : RwOwn w M T2 sz2 q) (hM : w0.heap.size ≤ M) : sepR p q := by
  cases hg : p.v.ownBlock with
  | none => exact Or.inl hg
  | some g => exact Or.inr fun e => absurd (World.ownsRow.lt h2 g (by rw [← e]; exact hg)).1 (by have h3 := (World.ownsRow.lt h g hg).2; omega)
def rwd (D : List Rw) (j : Nat) : Rw := D.getD j rw0
theorem rwd_mem (D : List Rw) (j : Nat) (h : j < D.length) : rwd D j ∈ D := by
  unfold rwd
  simp [List.getD, List.getElem?_eq_getElem h]
theorem rows_at {w : World} {B : Nat} {T : TypeId} {sz : Nat} {D : List Rw} (h : ∀ r ∈ D, RwOwn w B T sz r) : RowsAt B T sz D.length (fun j => (rwd D j).v) (fun j => (rwd D j).n) (fun j => (rwd D j).c) w :=
  fun j hj => h _ (rwd_mem D j hj)
theorem rows_below {w w' : World} {B B' : Nat} {T : TypeId} {sz : Nat} {D : List Rw} (h : ∀ r ∈ D, RwOwn w B T sz r) (hb : Below B' w w') (hB : w.heap.size ≤ B') : ∀ r ∈ D, RwOwn w' B T sz r := fun r hr => own_below (h r hr) hb hB
theorem snr_own {w : World} {B g : Nat} {x : Sn} (h : w.heap[g]? = some (.cells (snArr x) 26 (0, 0))) (hg : B ≤ g) : w.ownsRow B 26 4 (.slice (some ⟨g, 0, none⟩) 1 1) 1 (snArr x).toList :=
  ⟨rfl, Or.inr ⟨g, 1, snArr x, rfl, hg, h, Nat.le_refl _, by unfold maxLen; omega, rfl, rfl⟩⟩
/-- Rows of three kinds, each apart from the others. -/
structure Fin3 (w : World) (B : Nat) (I Y L : List Rw) : Prop where
  oI : ∀ r ∈ I, RwOwn w B 3 1 r
  sI : I.Pairwise sepR
  lI : I.length ≤ 100000
  nI : ∀ r ∈ I, r.n ≤ 1099511627776
  oY : ∀ r ∈ Y, RwOwn w B 5 1 r
  sY : Y.Pairwise sepR
  lY : Y.length ≤ 100000
  nY : ∀ r ∈ Y, r.n ≤ 1099511627776
  oL : ∀ r ∈ L, RwOwn w B 26 4 r
  sL : L.Pairwise sepR
  lL : L.length ≤ 100000
  nL : ∀ r ∈ L, r.n ≤ 1099511627776
theorem Fin3.below {w w' : World} {B : Nat} {I Y L : List Rw} (h : Fin3 w B I Y L) (hb : Below w.heap.size w w') : Fin3 w' B I Y L :=
  { h with oI := rows_below h.oI hb (Nat.le_refl _), oY := rows_below h.oY hb (Nat.le_refl _), oL := rows_below h.oL hb (Nat.le_refl _) }
theorem apart3 {B Bb bb : Nat} {f : Nat → Value} {XA XD XE : List Value} {w : World} {I Y L : List Rw} (hb : Bag w Bb bb f (rws3 XA XD XE)) (h : Fin3 w B I Y L) (hB : B ≤ w.heap.size) (hBb : B ≤ Bb) (hI : I.map Rw.v = XE := by rfl) (hY : Y.map Rw.v = XD := by rfl) (hL : L.map Rw.v = XA := by rfl) :
    Calls Tryz.prog 48 #[.pointer (some ⟨bb, 0, none⟩)] w fun e w' => e = .returned (.bool true) ∧ Below B w w' ∧ ∀ b, b < w.heap.size → (∀ q ∈ I, q.v.ownBlock ≠ some b) → (∀ q ∈ Y, q.v.ownBlock ≠ some b) → (∀ q ∈ L, q.v.ownBlock ≠ some b) → w'.heap[b]? = w.heap[b]? := by
  refine (apartS_bag B Bb bb f _ w hb hB hBb
    I.length (fun j => (rwd I j).v) (fun j => (rwd I j).n) (fun j => (rwd I j).c) (by rw [rws3_2, ← hI]; exact map_getD Rw.v rw0 I) (rows_at h.oI) (sep_list rw0 Rw.v h.sI) h.lI (fun j hj => h.nI _ (rwd_mem I j hj))
    Y.length (fun j => (rwd Y j).v) (fun j => (rwd Y j).n) (fun j => (rwd Y j).c) (by rw [rws3_5, ← hY]; exact map_getD Rw.v rw0 Y) (rows_at h.oY) (sep_list rw0 Rw.v h.sY) h.lY (fun j hj => h.nY _ (rwd_mem Y j hj))
    L.length (fun j => (rwd L j).v) (fun j => (rwd L j).n) (fun j => (rwd L j).c) (by rw [rws3_22, ← hL]; exact map_getD Rw.v rw0 L) (rows_at h.oL) (sep_list rw0 Rw.v h.sL) h.lL (fun j hj => h.nL _ (rwd_mem L j hj))).mono ?_
  rintro e w' ⟨h1, h2, h3⟩
  exact ⟨h1, h2, fun b hb q1 q2 q3 => h3 b hb (fun ⟨j, hj, e⟩ => q1 _ (rwd_mem I j hj) e) (fun ⟨j, hj, e⟩ => q2 _ (rwd_mem Y j hj) e) (fun ⟨j, hj, e⟩ => q3 _ (rwd_mem L j hj) e)⟩
/-- How far the snaps have been put in. -/
def SsK (v1 v2 : Value) (x y : Sn) (B bb : Nat) (i : Value) (w : World) : Prop :=
  (i = .int .i64 0 ∧ ∃ f', Bag w B bb f' (rws3 [] [] [])) ∨ (i = .int .i64 1 ∧ ∃ f', Bag w B bb f' (rws3 [v1] [sniV x] [snvV x])) ∨ (i = .int .i64 2 ∧ ∃ f', Bag w B bb f' (rws3 [v1, v2] [sniV x, sniV y] [snvV x, snvV y]))
set_option maxHeartbeats 4000000 in
theorem apartSs_any (B M lb lc g1 g2 k1 k2 : Nat) (x y : Sn) (w0 w : World) (hc0 : w.cell? ⟨lb, 0, none⟩ = some (.slice (some ⟨g1, 0, none⟩) 1 k1)) (hc1 : w.cell? ⟨lb, 1, none⟩ = some (.slice (some ⟨g2, 0, none⟩) 1 k2)) (hlb : lb < w.heap.size)
    (hb1 : w.heap[g1]? = some (.cells (snArr x) 26 (0, 0))) (hb2 : w.heap[g2]? = some (.cells (snArr y) 26 (0, 0))) (hg1 : B ≤ g1) (hg2 : B ≤ g2) (hne : g1 ≠ g2) (hk1 : k1 = 1) (hk2 : k2 = 1)
    (h0 : OwnSn w0 B x) (h1 : OwnSn w B x) (h2 : OwnSn w M y) (hM : w0.heap.size ≤ M) (hBM : B ≤ M) (hB : B ≤ w.heap.size) (hx : SnFine x) (hy : SnFine y) :
    Calls Tryz.prog 26 #[.slice (some ⟨lb, 0, none⟩) 2 lc] w fun e w' => e = .returned (.bool true) ∧ Below B w w' ∧ ∀ b, b < w.heap.size → (∀ q ∈ [snInts x, snInts y], q.v.ownBlock ≠ some b) → (∀ q ∈ [snImg x, snImg y], q.v.ownBlock ≠ some b) → b ≠ g1 → b ≠ g2 → w'.heap[b]? = w.heap[b]? := by
  subst hk1 hk2
  have hsI : [snInts x, snInts y].Pairwise sepR := by
    refine List.pairwise_cons.2 ⟨fun q hq => ?_, List.pairwise_singleton _ _⟩
    rw [List.mem_singleton.1 hq]
    exact sep_low (show RwOwn w0 B 3 1 (snInts x) from h0.1) (show RwOwn w M 3 1 (snInts y) from h2.1) hM
  have hsB : [snImg x, snImg y].Pairwise sepR := by
    refine List.pairwise_cons.2 ⟨fun q hq => ?_, List.pairwise_singleton _ _⟩
    rw [List.mem_singleton.1 hq]
    exact sep_low (show RwOwn w0 B 5 1 (snImg x) from h0.2.row) (show RwOwn w M 5 1 (snImg y) from h2.2.row) hM
  have hoI : ∀ r ∈ [snInts x, snInts y], RwOwn w B 3 1 r := fun r hr => by
    rcases List.mem_cons.1 hr with rfl | h
    · exact h1.1
    · rw [List.mem_singleton.1 h]; exact Go.Joins.ownsRow_le h2.1 hBM
  have hoB : ∀ r ∈ [snImg x, snImg y], RwOwn w B 5 1 r := fun r hr => by
    rcases List.mem_cons.1 hr with rfl | h
    · exact h1.2.row
    · rw [List.mem_singleton.1 h]; exact Go.Joins.ownsRow_le h2.2.row hBM
  have hoL : ∀ r ∈ [(⟨.slice (some ⟨g1, 0, none⟩) 1 1, 1, (snArr x).toList⟩ : Rw), ⟨.slice (some ⟨g2, 0, none⟩) 1 1, 1, (snArr y).toList⟩], RwOwn w B 26 4 r := fun r hr => by
    rcases List.mem_cons.1 hr with rfl | h
    · exact snr_own hb1 hg1
    · rw [List.mem_singleton.1 h]; exact snr_own hb2 hg2
  have hsL : [(⟨.slice (some ⟨g1, 0, none⟩) 1 1, 1, (snArr x).toList⟩ : Rw), ⟨.slice (some ⟨g2, 0, none⟩) 1 1, 1, (snArr y).toList⟩].Pairwise sepR := by
    refine List.pairwise_cons.2 ⟨fun q hq => ?_, List.pairwise_singleton _ _⟩
    rw [List.mem_singleton.1 hq]
    exact Or.inr (by simp [Value.ownBlock, hne])
  have hnv : x.vs.length ≤ 1099511627776 ∧ y.vs.length ≤ 1099511627776 := by have := hx.vn; have := hy.vn; omega
  have hni : x.im.length ≤ 1099511627776 ∧ y.im.length ≤ 1099511627776 := by have := hx.ln; have := hy.ln; omega
  have HF := Lib.hid (show Fin3 w B [snInts x, snInts y] [snImg x, snImg y] [⟨.slice (some ⟨g1, 0, none⟩) 1 1, 1, (snArr x).toList⟩, ⟨.slice (some ⟨g2, 0, none⟩) 1 1, 1, (snArr y).toList⟩] from
    ⟨hoI, hsI, (by simp), (by simpa [snInts] using hnv), hoB, hsB, (by simp), (by simpa [snImg] using hni), hoL, hsL, (by simp), (by simp)⟩)
  have HC0 := Lib.hid hc0
  have HC1 := Lib.hid hc1
  have HB1 := Lib.hid hb1
  have HB2 := Lib.hid hb2
  have hlt1 : g1 < w.heap.size := (Array.getElem?_eq_some_iff.1 hb1).1
  have hlt2 : g2 < w.heap.size := (Array.getElem?_eq_some_iff.1 hb2).1
  clear hsI hsB hoI hoB hoL hsL hnv hni hc0 hc1 hb1 hb2 h0 h1 h2 hx hy hg1 hg2 hM hBM
  go_enter Tryz.func26, Tryz.ntmps26
  go_wp2_with fail
  have hb0 : Bag (w.alloc _) w.heap.size w.heap.size (fun _ => .slice none 0 0) (fun _ => []) := Bag.made w
  have hbe : Below w.heap.size w (w.alloc (.cells ((List.range 29).map fun _ => Value.slice none 0 0).toArray 103)) := (Below.refl _ _).alloc (Nat.le_refl _) _
  have hlit : ((List.range 29).map fun _ => Value.slice none 0 0).toArray = #[.slice none 0 0, .slice none 0 0, .slice none 0 0, .slice none 0 0, .slice none 0 0, .slice none 0 0, .slice none 0 0, .slice none 0 0, .slice none 0 0, .slice none 0 0, .slice none 0 0, .slice none 0 0, .slice none 0 0, .slice none 0 0, .slice none 0 0, .slice none 0 0, .slice none 0 0, .slice none 0 0, .slice none 0 0, .slice none 0 0, .slice none 0 0, .slice none 0 0, .slice none 0 0, .slice none 0 0, .slice none 0 0, .slice none 0 0, .slice none 0 0, .slice none 0 0, .slice none 0 0] := rfl
  rw [hlit] at hb0 hbe
  have HBE := Lib.hid hbe
  clear hbe hlit
  generalize w.alloc _ = w1 at hb0 HBE ⊢
  have hbe := HBE.out
  have HB0 := Lib.hid hb0
  clear HBE hb0
  go_loopw [4] (fun i wr => SsK (.slice (some ⟨g1, 0, none⟩) 1 1) (.slice (some ⟨g2, 0, none⟩) 1 1) x y w.heap.size w.heap.size i wr ∧ Below w.heap.size w wr) (fun i _ => 2 - (intOf i).toNat)
  case atStart => exact ⟨Or.inl ⟨rfl, _, by rw [rws3_nil]; exact HB0.out⟩, hbe⟩
  case round =>
    clear hbe HB0
    obtain ⟨hrel, hbel⟩ := hrel
    have hs := hbel.size
    have c0 : wr.cell? ⟨lb, 0, none⟩ = some (.slice (some ⟨g1, 0, none⟩) 1 1) := (hbel.cell (p := ⟨lb, 0, none⟩) hlb).trans HC0.out
    have c1' : wr.cell? ⟨lb, 1, none⟩ = some (.slice (some ⟨g2, 0, none⟩) 1 1) := (hbel.cell (p := ⟨lb, 1, none⟩) hlb).trans HC1.out
    rcases hrel with ⟨rfl, hbag⟩ | ⟨rfl, hbag⟩ | ⟨rfl, hbag⟩
    · have HBG := Lib.hid hbag
      clear hbag
      go_wp2_with fail
      obtain ⟨f', hf'⟩ := HBG.out
      refine (putS_bag w.heap.size w.heap.size g1 1 f' [] [] [] x wr ((hbel.block g1 hlt1).trans HB1.out) hlt1 hf' hs (by simp) (by simp) (by simp)).mono ?_
      rintro e w5 ⟨rfl, hf5, hb5⟩
      have H5 := Lib.hid hf5
      clear hf5 hf' c0 c1'
      go_wp2_with fail
      go_roundw
      case rel => exact ⟨Or.inr (Or.inl ⟨rfl, by simpa using H5.out⟩), hbel.trans hb5⟩
      case measure => simp [intOf]
    · have HBG := Lib.hid hbag
      clear hbag
      go_wp2_with fail
      obtain ⟨f', hf'⟩ := HBG.out
      refine (putS_bag w.heap.size w.heap.size g2 1 f' _ _ _ y wr ((hbel.block g2 hlt2).trans HB2.out) hlt2 hf' hs (by simp) (by simp) (by simp)).mono ?_
      rintro e w5 ⟨rfl, hf5, hb5⟩
      have H5 := Lib.hid hf5
      clear hf5 hf' c0 c1'
      go_wp2_with fail
      go_roundw
      case rel => exact ⟨Or.inr (Or.inr ⟨rfl, H5.out⟩), hbel.trans hb5⟩
      case measure => simp [intOf]
    · have HBG := Lib.hid hbag
      clear hbag c0 c1'
      go_wp2_with fail
      obtain ⟨f', hf'⟩ := HBG.out
      refine (apart3 hf' (HF.out.below hbel) (by omega) (by omega)).mono ?_
      rintro e w6 ⟨rfl, hb6, hk6⟩
      have HK6 := Lib.hid hk6
      have HBEL := Lib.hid hbel
      clear hk6
      go_wp2_with fail
      go_ret
      refine ⟨rfl, (HBEL.out.mono (by omega)).trans hb6, fun b hb q1 q2 q3 q4 => (HK6.out b (by have := HBEL.out.size; omega) q1 q2 (fun q hq => ?_)).trans (HBEL.out.block b hb)⟩
      rcases List.mem_cons.1 hq with rfl | hq
      · intro e; injection e with e; exact q3 e.symm
      · rw [List.mem_singleton.1 hq]; intro e; injection e with e; exact q4 e.symm
end Go.Proofs.YtejgebpdipnhmaaGreatDoor
/- SnapGets: the law's walk. Conditions: the bytes lie as they read. -/
namespace Go.Proofs.YtejgebpdipnhmaaGreatDoor
open Go.RowKit
set_option maxRecDepth 20000
theorem gets_append {b : List Int} (hl : b.length ≤ 30000) : dAppend 1048576 [] snapN b = ([(snapN, ⟨[], b⟩)], 0) := by
  unfold dAppend
  dsimp only
  rw [snap_good, if_neg (by simp), if_neg (by simp [dGet, Fi.none, Fi.all]; omega), if_neg (by simp [dUsed]; omega)]
  rfl
theorem gets_append2 {b : List Int} (hl : b.length ≤ 30000) : ∃ L : Dk, dAppend 1048576 [(snapN, ⟨[], b⟩)] newN [1] = (L, 0) ∧ dGet L snapN = some ⟨[], b⟩ := by
  have h1 : dGet [(snapN, (⟨[], b⟩ : Fi))] newN = none := by simp [dGet]; decide
  have h2 : dUsed [(snapN, (⟨[], b⟩ : Fi))] = b.length := by simp [dUsed, Fi.all]
  refine ⟨dPut [(snapN, ⟨[], b⟩)] newN ⟨[], [1]⟩, ?_, ?_⟩
  · unfold dAppend
    dsimp only
    rw [new_good, h1, h2, if_neg (by simp), if_neg (by simp [Fi.none, Fi.all]), if_neg (by simp; omega)]
    (try rfl)
  · rw [dGet_put, if_neg snap_ne]
    simp [dGet]
theorem gets_load {L : Dk} {b : List Int} (h : dGet L snapN = some ⟨[], b⟩) : dLoad L = if (snGet b).2 = 0 then ((snGet b).1, true, 0) else (zeroSn, false, 10) := by
  unfold dLoad
  rw [h]
  dsimp only
  have e : (⟨[], b⟩ : Fi).all = b := by simp [Fi.all]
  rw [e]
theorem sameSnap_two (si st : Int) (xs im : List Int) (va ia va2 ia2 : Option Addr) (vc ic vc2 ic2 n m : Nat) (hn : xs.length = n) (hm : im.length = m) (w : World) (hx : snSub w w.heap.size ⟨si, st, va, xs, vc, ia, im, ic⟩) (hy : snSub w w.heap.size ⟨si, st, va2, xs, vc2, ia2, im, ic2⟩) (hl : n ≤ 1000000) (hl2 : m ≤ 4000000) :
    Calls Tryz.prog 25 #[.agg #[.int .i64 si, .int .i64 st, .slice va n vc, .slice ia m ic], .agg #[.int .i64 si, .int .i64 st, .slice va2 n vc2, .slice ia2 m ic2]] w fun e w' => e = .returned (.bool true) ∧ Below w.heap.size w w' := by
  subst hn hm
  exact sameSnap_any ⟨si, st, va, xs, vc, ia, im, ic⟩ ⟨si, st, va2, xs, vc2, ia2, im, ic2⟩ w hx hy rfl hl hl2
theorem own_snB {w w' : World} {base : Nat} {x : Sn} (h : OwnSn w base x) (hs : ∀ g, base ≤ g → g < w.heap.size → w'.heap[g]? = w.heap[g]?) : OwnSn w' base x :=
  ⟨own_blocks4 h.1 hs, ⟨h.2.len, own_blocks4 h.2.row hs⟩⟩
theorem OwnSn.below {w w' : World} {base B : Nat} {x : Sn} (h : OwnSn w base x) (hb : Below B w w') (hB : w.heap.size ≤ B) : OwnSn w' base x := ⟨h.1.below hb hB, h.2.below hb hB⟩
set_option maxHeartbeats 8000000 in
theorem snapGets_any (ao : Option Addr) (n cap : Nat) (b : List Int) (w : World) (hn : b.length = n) (hx : BytesIn w w.heap.size ao b) (hw : BytesWf b) (hao : ao = none → cap = 0) (hcap : n ≤ cap) :
    Calls Tryz.prog 7 #[.slice ao n cap] w fun e w' => e = .returned (.bool true) ∧ Below w.heap.size w w' := by
  have HN := Lib.hid hn
  have HX := Lib.hid hx
  have HW := Lib.hid hw
  clear hn hx hw
  go_enter Tryz.func7, Tryz.ntmps7
  by_cases hn1 : 30000 < n
  · have i1 : (30000 : Int) < n := by omega
    go_wp2_with fail
    refine (awake19_any w).mono ?_
    rintro e w1 ⟨rfl, hb1⟩
    go_wp2_with fail
    go_ret
    exact ⟨rfl, hb1⟩
  have i1 : ¬ (30000 : Int) < n := by omega
  obtain ⟨⟨⟨gi, gt, gxs, gim⟩, ge⟩, hgr⟩ : ∃ q, snGet b = q := ⟨_, rfl⟩
  have HGR := Lib.hid hgr
  have hrg : rsnGet b = (⟨gi, gt, gxs, gim⟩, ge) := by rw [rsnGet_eq HW.out]; exact hgr
  have HRG := Lib.hid hrg
  obtain ⟨K, hK⟩ : ∃ K, gxs.length = K := ⟨_, rfl⟩
  obtain ⟨M, hM⟩ : ∃ M, gim.length = M := ⟨_, rfl⟩
  have HK := Lib.hid hK
  have HM := Lib.hid hM
  clear hgr hrg hK hM
  go_wp2_with fail
  have hcall := lentB_any ao cap b w HX.out hao (by rw [HN.out]; omega)
  unfold LentBPost at hcall
  rw [HN.out] at hcall
  refine hcall.mono ?_
  clear hcall
  rintro e w2 ⟨g, rfl, hg1, hg2, hL, b2⟩
  have hs2 := b2.size
  have HL2 := Lib.hid hL
  have HB2 := Lib.hid b2
  clear hL b2
  go_wp2_with fail
  refine (sget_as (some ⟨g, 0, none⟩) n (n + 12) b w2 HN.out (slentB_rows HL2.out) HW.out (fun h => by cases h) (by omega) (by omega) _ HGR.out).mono ?_
  rintro e w3 ⟨yi, yt, ava, yxs, avc, aia, yim, aic, rfl, hyp, hyf, hyo, b3⟩
  simp only [SnP.mk.injEq] at hyp
  obtain ⟨rfl, rfl, rfl, rfl⟩ := hyp
  have hs3 := b3.size
  rw [HK.out, HM.out]
  have b34 := (Below.refl w3.heap.size w3).alloc (Nat.le_refl _) (.cells #[.int .i64 yi, .int .i64 yt, .slice ava K avc, .slice aia M aic] 26)
  have k4 := heap_alloc_new w3 (.cells #[.int .i64 yi, .int .i64 yt, .slice ava K avc, .slice aia M aic] 26)
  have HF1 := Lib.hid hyf
  have HO3 := Lib.hid hyo
  have HK4 := Lib.hid k4
  have HB34 := Lib.hid b34
  have HBB3 := Lib.hid b3
  clear hyf hyo k4 b34 b3
  dsimp only
  go_upto_region 5 with fail
  generalize w3.alloc (.cells #[.int .i64 yi, .int .i64 yt, .slice ava K avc, .slice aia M aic] 26) = w4 at HK4 HB34 ⊢
  have hs4 := HB34.out.size
  have hg4 := (Array.getElem?_eq_some_iff.1 HK4.out).1
  have BB4 := Lib.hid (HBB3.out.trans (HB34.out.mono hs3))
  have HL4 := Lib.hid (show LentB w4 w.heap.size g b from own_below HL2.out BB4.out (Nat.le_refl _))
  have HO4 := Lib.hid (HO3.out.below HB34.out (Nat.le_refl _))
  have HB4 := Lib.hid (HB2.out.trans (BB4.out.mono hs2))
  clear HB34 HBB3
  go_wp2_with fail
  refine (sget_as (some ⟨g, 0, none⟩) n (n + 12) b w4 HN.out (slentB_rows HL4.out) HW.out (fun h => by cases h) (by omega) (by omega) _ HGR.out).mono ?_
  rintro e w5 ⟨zi, zt, cva, zxs, cvc, cia, zim, cic, rfl, hzp, hzf, hzo, b5⟩
  simp only [SnP.mk.injEq] at hzp
  obtain ⟨rfl, rfl, rfl, rfl⟩ := hzp
  have hs5 := b5.size
  rw [HK.out, HM.out]
  have b56 := (Below.refl w5.heap.size w5).alloc (Nat.le_refl _) (.cells #[.int .i64 zi, .int .i64 zt, .slice cva K cvc, .slice cia M cic] 26)
  have k6 := heap_alloc_new w5 (.cells #[.int .i64 zi, .int .i64 zt, .slice cva K cvc, .slice cia M cic] 26)
  have HF2 := Lib.hid hzf
  have HO5 := Lib.hid hzo
  have HK6 := Lib.hid k6
  have HB56 := Lib.hid b56
  have HBB5 := Lib.hid b5
  clear hzf hzo k6 b56 b5
  dsimp only
  go_upto_region 6 with fail
  generalize w5.alloc (.cells #[.int .i64 zi, .int .i64 zt, .slice cva K cvc, .slice cia M cic] 26) = w6 at HK6 HB56 ⊢
  have hs6 := HB56.out.size
  have hg6 := (Array.getElem?_eq_some_iff.1 HK6.out).1
  have B46 := Lib.hid (HBB5.out.trans (HB56.out.mono hs5))
  have HL6 := Lib.hid (show LentB w6 w.heap.size g b from own_below HL4.out B46.out (Nat.le_refl _))
  have HB6 := Lib.hid (HB4.out.trans (B46.out.mono HB4.out.size))
  have BB6 := Lib.hid (BB4.out.trans (B46.out.mono (by omega)))
  have HA6 := Lib.hid (HO4.out.below B46.out (Nat.le_refl _))
  have HC6 := Lib.hid (HO5.out.below HB56.out (Nat.le_refl _))
  have HKA6 := Lib.hid ((B46.out.block w3.heap.size hg4).trans HK4.out)
  clear HB56 HBB5 HO4 HK4
  go_wp2_with fail
  have hcall := keptB_any ao cap g w.heap.size b w6 ((HX.out.below HB6.out (Nat.le_refl _)).mono HB6.out.size) HL6.out (by rw [HN.out]; omega)
  rw [HN.out] at hcall
  refine hcall.mono ?_
  clear hcall
  rintro e w7 ⟨rfl, b7⟩
  have hs7 := b7.size
  have HB7 := Lib.hid (HB6.out.trans (b7.mono HB6.out.size))
  have HR7 := Lib.hid (Room.below (B := w.heap.size) (T := w2.heap.size) ⟨g, rfl, hg1, hg2, rfl, Blk.of_own HL2.out⟩ (BB6.out.trans (b7.mono (by omega))))
  rw [HN.out] at HR7
  have HA7 := Lib.hid (HA6.out.below b7 (Nat.le_refl _))
  have HC7 := Lib.hid (HC6.out.below b7 (Nat.le_refl _))
  have HKA7 := Lib.hid ((b7.block w3.heap.size (by omega)).trans HKA6.out)
  have HKC7 := Lib.hid ((b7.block w5.heap.size hg6).trans HK6.out)
  clear b7 HA6 HC6 HKA6 HK6 HL6 HL4
  go_wp2_with fail
  refine (overB_room w.heap.size w2.heap.size (some ⟨g, 0, none⟩) n (n + 12) w7 HR7.out (by omega)).mono ?_
  rintro e w8 ⟨rfl, ho⟩
  have hs8 : w7.heap.size ≤ w8.heap.size := ho.size
  have HB8 := Lib.hid (HB7.out.trans (ho.mid.below.mono (by omega)))
  have HA8 := Lib.hid (own_snB HA7.out (fun q h1 h2 => ho.mid.far q (by omega) h2))
  have HC8 := Lib.hid (own_snB HC7.out (fun q h1 h2 => ho.mid.far q (by omega) h2))
  have HKA8 := Lib.hid ((ho.mid.far w3.heap.size (by omega) (by omega)).trans HKA7.out)
  have HKC8 := Lib.hid ((ho.mid.far w5.heap.size (by omega) (by omega)).trans HKC7.out)
  clear ho HA7 HC7 HKA7 HKC7 HR7
  go_wp2_with fail
  refine (rsget_any ao n cap b w8 HN.out ((HX.out.below HB8.out (Nat.le_refl _)).mono HB8.out.size) HW.out hao hcap (by omega) _ HRG.out).mono ?_
  rintro e w9 ⟨⟨xi, xt, xva, xxs, xvc, xia, xim, xic⟩, rfl, hxp, hxf, hxo, b9⟩
  simp only [Sn.plain, SnP.mk.injEq] at hxp
  obtain ⟨rfl, rfl, rfl, rfl⟩ := hxp
  have hs9 := b9.size
  dsimp only [snVal]
  rw [HK.out, HM.out]
  have b910 := (Below.refl w9.heap.size w9).alloc (Nat.le_refl _) (.cells #[.int .i64 xi, .int .i64 xt, .slice xva K xvc, .slice xia M xic] 26)
  have k10 := heap_alloc_new w9 (.cells #[.int .i64 xi, .int .i64 xt, .slice xva K xvc, .slice xia M xic] 26)
  have HF3 := Lib.hid hxf
  have HO9 := Lib.hid hxo
  have HK10 := Lib.hid k10
  have HB910 := Lib.hid b910
  have HBB9 := Lib.hid b9
  clear hxf hxo k10 b910 b9
  go_upto_region 10 with fail
  generalize w9.alloc (.cells #[.int .i64 xi, .int .i64 xt, .slice xva K xvc, .slice xia M xic] 26) = w10 at HK10 HB910 ⊢
  have hs10 := HB910.out.size
  have hg10 := (Array.getElem?_eq_some_iff.1 HK10.out).1
  have B810 := Lib.hid (HBB9.out.trans (HB910.out.mono hs9))
  have HB10 := Lib.hid (HB8.out.trans (B810.out.mono HB8.out.size))
  have HA10 := Lib.hid (HA8.out.below B810.out (Nat.le_refl _))
  have HC10 := Lib.hid (HC8.out.below B810.out (Nat.le_refl _))
  have HX10 := Lib.hid (HO9.out.below HB910.out (Nat.le_refl _))
  have HKA10 := Lib.hid ((B810.out.block w3.heap.size (by omega)).trans HKA8.out)
  have HKC10 := Lib.hid ((B810.out.block w5.heap.size (by omega)).trans HKC8.out)
  clear HB910 HBB9 HA8 HC8 HKA8 HKC8 HO9 B810
  have a0 := Go.Joins.cell_of_block HKA10.out 0
  have a1 := Go.Joins.cell_of_block HKA10.out 1
  have a2 := Go.Joins.cell_of_block HKA10.out 2
  have a3 := Go.Joins.cell_of_block HKA10.out 3
  have x0 := Go.Joins.cell_of_block HK10.out 0
  have x1 := Go.Joins.cell_of_block HK10.out 1
  have x2 := Go.Joins.cell_of_block HK10.out 2
  have x3 := Go.Joins.cell_of_block HK10.out 3
  have lK : K ≤ 1000000 := by rw [← HK.out]; exact HF1.out.vn
  have lM : M ≤ 4000000 := by rw [← HM.out]; exact HF1.out.ln
  go_wp2_with fail
  refine (sameSnap_two xi xt xxs xim ava aia xva xia avc aic xvc xic K M HK.out HM.out w10 (own_sub HA10.out) (own_sub HX10.out) lK lM).mono ?_
  rintro e w11 ⟨rfl, b11⟩
  have hs11 := b11.size
  have HB11 := Lib.hid (HB10.out.trans (b11.mono HB10.out.size))
  have HA11 := Lib.hid (HA10.out.below b11 (Nat.le_refl _))
  have HC11 := Lib.hid (HC10.out.below b11 (Nat.le_refl _))
  have HX11 := Lib.hid (HX10.out.below b11 (Nat.le_refl _))
  have HKA11 := Lib.hid ((b11.block w3.heap.size (by omega)).trans HKA10.out)
  have HKC11 := Lib.hid ((b11.block w5.heap.size (by omega)).trans HKC10.out)
  have HKX11 := Lib.hid ((b11.block w9.heap.size hg10).trans HK10.out)
  clear a0 a1 a2 a3 x0 x1 x2 x3 b11 HA10 HC10 HX10 HKA10 HKC10 HK10
  have c0 := Go.Joins.cell_of_block HKC11.out 0
  have c1 := Go.Joins.cell_of_block HKC11.out 1
  have c2 := Go.Joins.cell_of_block HKC11.out 2
  have c3 := Go.Joins.cell_of_block HKC11.out 3
  have x0 := Go.Joins.cell_of_block HKX11.out 0
  have x1 := Go.Joins.cell_of_block HKX11.out 1
  have x2 := Go.Joins.cell_of_block HKX11.out 2
  have x3 := Go.Joins.cell_of_block HKX11.out 3
  go_wp2_with fail
  refine (sameSnap_two xi xt xxs xim cva cia xva xia cvc cic xvc xic K M HK.out HM.out w11 (own_sub HC11.out) (own_sub HX11.out) lK lM).mono ?_
  rintro e w12 ⟨rfl, b12⟩
  have hs12 := b12.size
  have HB12 := Lib.hid (HB11.out.trans (b12.mono HB11.out.size))
  have HA12 := Lib.hid (HA11.out.below b12 (Nat.le_refl _))
  have HC12 := Lib.hid (HC11.out.below b12 (Nat.le_refl _))
  have HX12 := Lib.hid (HX11.out.below b12 (Nat.le_refl _))
  have HKA12 := Lib.hid ((b12.block w3.heap.size (by omega)).trans HKA11.out)
  have HKC12 := Lib.hid ((b12.block w5.heap.size (by omega)).trans HKC11.out)
  have HKX12 := Lib.hid ((b12.block w9.heap.size (by omega)).trans HKX11.out)
  clear c0 c1 c2 c3 x0 x1 x2 x3 b12 HA11 HC11 HX11 HKA11 HKC11 HKX11
  have a0 := Go.Joins.cell_of_block HKA12.out 0
  have a1 := Go.Joins.cell_of_block HKA12.out 1
  have a2 := Go.Joins.cell_of_block HKA12.out 2
  have a3 := Go.Joins.cell_of_block HKA12.out 3
  have c0 : ∀ o, (w12.alloc o).cell? ⟨w5.heap.size, 0, none⟩ = some (.int .i64 xi) := fun o => Go.Joins.cell_of_block (keep_alloc HKC12.out o) 0
  have c1 : ∀ o, (w12.alloc o).cell? ⟨w5.heap.size, 1, none⟩ = some (.int .i64 xt) := fun o => Go.Joins.cell_of_block (keep_alloc HKC12.out o) 1
  have c2 : ∀ o, (w12.alloc o).cell? ⟨w5.heap.size, 2, none⟩ = some (.slice cva K cvc) := fun o => Go.Joins.cell_of_block (keep_alloc HKC12.out o) 2
  have c3 : ∀ o, (w12.alloc o).cell? ⟨w5.heap.size, 3, none⟩ = some (.slice cia M cic) := fun o => Go.Joins.cell_of_block (keep_alloc HKC12.out o) 3
  go_wp2_with fail
  have hall := alloc3_facts w12 #[.int .i64 xi, .int .i64 xt, .slice ava K avc, .slice aia M aic] #[.int .i64 xi, .int .i64 xt, .slice cva K cvc, .slice cia M cic] #[.slice (some ⟨w12.heap.size, 0, none⟩) 1 1, .slice (some ⟨w12.heap.size + 1, 0, none⟩) 1 1] 26 26 49
  obtain ⟨b13, q1, q2, q3, s13⟩ := hall
  clear a0 a1 a2 a3 c0 c1 c2 c3
  generalize ((w12.alloc (.cells #[.int .i64 xi, .int .i64 xt, .slice ava K avc, .slice aia M aic] 26)).alloc (.cells #[.int .i64 xi, .int .i64 xt, .slice cva K cvc, .slice cia M cic] 26)).alloc (.cells #[.slice (some ⟨w12.heap.size, 0, none⟩) 1 1, .slice (some ⟨w12.heap.size + 1, 0, none⟩) 1 1] 49) = w13 at b13 q1 q2 q3 s13 ⊢
  have q1' : w13.heap[w12.heap.size]? = some (.cells (snArr ⟨xi, xt, ava, xxs, avc, aia, xim, aic⟩) 26 (0, 0)) := by unfold snArr; dsimp only; rw [HK.out, HM.out]; exact q1
  have q2' : w13.heap[w12.heap.size + 1]? = some (.cells (snArr ⟨xi, xt, cva, xxs, cvc, cia, xim, cic⟩) 26 (0, 0)) := by unfold snArr; dsimp only; rw [HK.out, HM.out]; exact q2
  refine (apartSs_any w2.heap.size w4.heap.size (w12.heap.size + 2) 2 w12.heap.size (w12.heap.size + 1) 1 1 ⟨xi, xt, ava, xxs, avc, aia, xim, aic⟩ ⟨xi, xt, cva, xxs, cvc, cia, xim, cic⟩ w3 w13 (Go.Joins.cell_of_block q3 0) (Go.Joins.cell_of_block q3 1) (by omega) q1' q2' (by omega) (by omega) (by omega) rfl rfl HO3.out ((HA12.out.below b13 (Nat.le_refl _))) (HC12.out.below b13 (Nat.le_refl _)) hs4 (by omega) (by omega) HF1.out HF2.out).mono ?_
  rintro e w14 ⟨rfl, b14, hk14⟩
  have hs14 := b14.size
  have hkeep : ∀ q, w8.heap.size ≤ q → q < w12.heap.size → w14.heap[q]? = w12.heap[q]? := fun q h1 h2 => by
    refine (hk14 q (by omega) (fun z hz => ?_) (fun z hz => ?_) (by omega) (by omega)).trans (b13.block q h2)
    · rcases List.mem_cons.1 hz with rfl | hz
      · intro e; have := (World.ownsRow.lt HO3.out.1 q e).2; omega
      · rw [List.mem_singleton.1 hz]; intro e; have := (World.ownsRow.lt HO5.out.1 q e).2; omega
    · rcases List.mem_cons.1 hz with rfl | hz
      · intro e; have := (World.ownsRow.lt HO3.out.2.row q e).2; omega
      · rw [List.mem_singleton.1 hz]; intro e; have := (World.ownsRow.lt HO5.out.2.row q e).2; omega
  have HX14 := Lib.hid (own_snB HX12.out hkeep)
  have HKX14 := Lib.hid ((hkeep w9.heap.size (by omega) (by omega)).trans HKX12.out)
  have HB14 := Lib.hid ((HB12.out.trans (b13.mono HB12.out.size)).trans (b14.mono hs2))
  have hg14 := (Array.getElem?_eq_some_iff.1 HKX14.out).1
  clear hkeep hk14 b14 b13 q1 q2 q3 q1' q2' s13 HX12 HKX12 HA12 HC12 HKA12 HKC12 HO3 HO5 HF1 HF2
  obtain ⟨L2, hL2, hL2g⟩ := gets_append2 (b := b) (by rw [HN.out]; omega)
  have HL2' := Lib.hid hL2
  have HL2G := Lib.hid hL2g
  have HL1 := Lib.hid (gets_append (b := b) (by rw [HN.out]; omega))
  have hld := gets_load hL2g
  rw [HGR.out] at hld
  dsimp only at hld
  have HLD := Lib.hid hld
  clear hL2 hL2g hld
  go_wp2_with fail
  refine (dnew_any 1048576 w14 1048576 (by decide) (by decide)).mono ?_
  rintro e w15 ⟨rfl, hd15, b15⟩
  have HD15 := Lib.hid hd15
  have C15 := Lib.hid b15
  have hz15 := b15.size
  clear hd15 b15
  go_wp2_with fail
  refine (append_any HD15.out (by omega) snapS snap_named ao n cap b HN.out ((HX.out.below (HB14.out.trans (C15.out.mono HB14.out.size)) (Nat.le_refl _)).mono (Nat.le_trans HB14.out.size hz15)) HW.out hao (by omega) _ HL1.out).mono ?_
  rintro e w16 ⟨rfl, hd16, hg16⟩
  have HD16 := Lib.hid hd16
  have C16 := Lib.hid (C15.out.grown hg16 C15.out.size (fun k hk => by cases hk; exact Nat.le_refl _))
  have hz16 := C16.out.size
  clear hd16 hg16
  have b17 := (Below.refl w16.heap.size w16).alloc (Nat.le_refl _) (.cells #[.int .u8 1] 5)
  have h17 := rbytes_new w16 5 [1] #[.int .u8 1] (0, 0) w16.heap.size (w16.alloc (.cells #[.int .u8 1] 5)).heap.size rfl rfl (by simp)
  have HD17 := Lib.hid ((HD16.out.below b17 (Nat.le_refl _)).top)
  have C17 := Lib.hid (C16.out.trans (b17.mono C16.out.size))
  have H17 := Lib.hid h17
  clear b17 h17
  go_wp2_with fail
  generalize w16.alloc (.cells #[.int .u8 1] 5) = w17 at HD17 C17 H17 ⊢
  refine (append_any HD17.out (by omega) newS new_named (some ⟨w16.heap.size, 0, none⟩) 1 1 [1] rfl H17.out (fun v hv => by rw [List.mem_singleton.1 hv]; omega) (fun h => by cases h) (by omega) (L2, 0) HL2'.out).mono ?_
  rintro e w18 ⟨rfl, hd18, hg18⟩
  have HD18 := Lib.hid hd18
  have C18 := Lib.hid (C17.out.grown hg18 C17.out.size (fun k hk => by cases hk; exact Nat.le_refl _))
  have hz18 := C18.out.size
  clear hd18 hg18 HD15 HD16 HD17 C15 C16 C17 H17
  have hszz : ∀ f, dGet L2 snapN = some f → f.all.length ≤ 3000000 := fun f h => by
    rw [HL2G.out] at h
    cases h
    have := HN.out
    simp [Fi.all]; omega
  have HSZ := Lib.hid hszz
  clear hszz
  have hone := snGet_one b
  rw [HGR.out] at hone
  by_cases hge : ge = 0
  · subst hge
    have hld := HLD.out
    rw [if_pos rfl] at hld
    have HLD2 := Lib.hid hld
    clear hld hone
    go_wp2_with fail
    refine (sload_any HD18.out (by omega) HSZ.out _ HLD2.out).mono ?_
    rintro e w19 ⟨⟨vi, vt, vva, vxs, vvc, via, vim, vic⟩, rfl, hvp, hvf, hvo, _, hg19⟩
    simp only [Sn.plain, SnP.mk.injEq] at hvp
    obtain ⟨rfl, rfl, rfl, rfl⟩ := hvp
    have C19 := Lib.hid (C18.out.grown hg19 C18.out.size (fun k hk => by cases hk; exact Nat.le_refl _))
    have hz19 := C19.out.size
    dsimp only [snVal]
    rw [HK.out, HM.out]
    have b20 := (Below.refl w19.heap.size w19).alloc (Nat.le_refl _) (.cells #[.int .i64 vi, .int .i64 vt, .slice vva K vvc, .slice via M vic] 26)
    have k20 := heap_alloc_new w19 (.cells #[.int .i64 vi, .int .i64 vt, .slice vva K vvc, .slice via M vic] 26)
    have C20 := Lib.hid (C19.out.trans (b20.mono C19.out.size))
    have HV20 := Lib.hid (hvo.below b20 (Nat.le_refl _))
    have HK20 := Lib.hid k20
    have HX20 := Lib.hid (HX14.out.below C20.out (Nat.le_refl _))
    have HKX20 := Lib.hid ((C20.out.block w9.heap.size hg14).trans HKX14.out)
    clear b20 k20 hvo hg19 hvf
    go_upto_region 16 with fail
    generalize w19.alloc (.cells #[.int .i64 vi, .int .i64 vt, .slice vva K vvc, .slice via M vic] 26) = w20 at C20 HV20 HK20 HX20 HKX20 ⊢
    have v0 := Go.Joins.cell_of_block HK20.out 0
    have v1 := Go.Joins.cell_of_block HK20.out 1
    have v2 := Go.Joins.cell_of_block HK20.out 2
    have v3 := Go.Joins.cell_of_block HK20.out 3
    have x0 := Go.Joins.cell_of_block HKX20.out 0
    have x1 := Go.Joins.cell_of_block HKX20.out 1
    have x2 := Go.Joins.cell_of_block HKX20.out 2
    have x3 := Go.Joins.cell_of_block HKX20.out 3
    go_wp2_with fail
    refine (sameSnap_two vi vt vxs vim vva via xva xia vvc vic xvc xic K M HK.out HM.out w20 (own_sub HV20.out) (own_sub HX20.out) lK lM).mono ?_
    rintro e w21 ⟨rfl, b21⟩
    have HB21 := Lib.hid ((HB14.out.trans (C20.out.mono HB14.out.size)).trans (b21.mono (Nat.le_trans HB14.out.size C20.out.size)))
    clear b21 v0 v1 v2 v3 x0 x1 x2 x3
    go_wp2_with fail
    refine (awake19_any w21).mono ?_
    rintro e w22 ⟨rfl, b22⟩
    have hb := HB21.out.trans (b22.mono HB21.out.size)
    clear b22
    go_wp2_with fail
    go_ret
    exact ⟨rfl, hb⟩
  · obtain ⟨hz, rfl⟩ : (⟨xi, xt, xxs, xim⟩ : SnP) = zeroSn ∧ ge = 4 := by
      rcases hone with ⟨h, _⟩ | h
      · exact absurd h hge
      · exact ⟨congrArg Prod.fst h, congrArg Prod.snd h⟩
    have hld := HLD.out
    rw [if_neg hge, ← hz] at hld
    have HLD2 := Lib.hid hld
    clear hld hone hz hge
    go_wp2_with fail
    refine (sload_any HD18.out (by omega) HSZ.out _ HLD2.out).mono ?_
    rintro e w19 ⟨⟨vi, vt, vva, vxs, vvc, via, vim, vic⟩, rfl, hvp, hvf, hvo, _, hg19⟩
    simp only [Sn.plain, SnP.mk.injEq] at hvp
    obtain ⟨rfl, rfl, rfl, rfl⟩ := hvp
    have C19 := Lib.hid (C18.out.grown hg19 C18.out.size (fun k hk => by cases hk; exact Nat.le_refl _))
    have hz19 := C19.out.size
    dsimp only [snVal]
    rw [HK.out, HM.out]
    have b20 := (Below.refl w19.heap.size w19).alloc (Nat.le_refl _) (.cells #[.int .i64 vi, .int .i64 vt, .slice vva K vvc, .slice via M vic] 26)
    have k20 := heap_alloc_new w19 (.cells #[.int .i64 vi, .int .i64 vt, .slice vva K vvc, .slice via M vic] 26)
    have C20 := Lib.hid (C19.out.trans (b20.mono C19.out.size))
    have HV20 := Lib.hid (hvo.below b20 (Nat.le_refl _))
    have HK20 := Lib.hid k20
    have HX20 := Lib.hid (HX14.out.below C20.out (Nat.le_refl _))
    have HKX20 := Lib.hid ((C20.out.block w9.heap.size hg14).trans HKX14.out)
    clear b20 k20 hvo hg19 hvf
    go_upto_region 16 with fail
    generalize w19.alloc (.cells #[.int .i64 vi, .int .i64 vt, .slice vva K vvc, .slice via M vic] 26) = w20 at C20 HV20 HK20 HX20 HKX20 ⊢
    have v0 := Go.Joins.cell_of_block HK20.out 0
    have v1 := Go.Joins.cell_of_block HK20.out 1
    have v2 := Go.Joins.cell_of_block HK20.out 2
    have v3 := Go.Joins.cell_of_block HK20.out 3
    have x0 := Go.Joins.cell_of_block HKX20.out 0
    have x1 := Go.Joins.cell_of_block HKX20.out 1
    have x2 := Go.Joins.cell_of_block HKX20.out 2
    have x3 := Go.Joins.cell_of_block HKX20.out 3
    go_wp2_with fail
    refine (sameSnap_two vi vt vxs vim vva via xva xia vvc vic xvc xic K M HK.out HM.out w20 (own_sub HV20.out) (own_sub HX20.out) lK lM).mono ?_
    rintro e w21 ⟨rfl, b21⟩
    have HB21 := Lib.hid ((HB14.out.trans (C20.out.mono HB14.out.size)).trans (b21.mono (Nat.le_trans HB14.out.size C20.out.size)))
    clear b21 v0 v1 v2 v3 x0 x1 x2 x3
    go_wp2_with fail
    refine (awake19_any w21).mono ?_
    rintro e w22 ⟨rfl, b22⟩
    have hb := HB21.out.trans (b22.mono HB21.out.size)
    clear b22
    go_wp2_with fail
    go_ret
    exact ⟨rfl, hb⟩
end Go.Proofs.YtejgebpdipnhmaaGreatDoor
