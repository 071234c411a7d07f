/- The writer's row of values; Values of wire. Conditions: what is written is not too long. -/
import Derived.Test.YtnhnabcpkaeaaaaGreatDoorGWalReads1
import Derived.Test.YtnhnabcpkaeaaaaGreatDoorGWalReads0
set_option linter.unusedVariables false
set_option linter.unusedSimpArgs false
namespace Go.Proofs.YtnhnabcpkaeaaaaGreatDoor
open Go.RowKit
set_option maxRecDepth 20000
theorem flatMap_take_le {α : Type} (f : α → List Int) (xs : List α) (k : Nat) : ((xs.take k).flatMap f).length ≤ (xs.flatMap f).length := by
  conv => rhs; rw [← List.take_append_drop k xs, List.flatMap_append, List.length_append]
  omega
theorem flatMap_at_le {α : Type} (f : α → List Int) (xs : List α) (k : Nat) (x : α) (h : xs[k]? = some x) : ((xs.take k).flatMap f).length + (f x).length ≤ (xs.flatMap f).length := by
  have hk := (List.getElem?_eq_some_iff.1 h).1
  have e : (xs.take (k + 1)).flatMap f = (xs.take k).flatMap f ++ f x := by
    rw [List.take_succ_eq_append_getElem hk, List.flatMap_append]
    obtain ⟨_, h2⟩ := List.getElem?_eq_some_iff.1 h
    rw [h2]; simp
  have := flatMap_take_le f xs (k + 1)
  rw [e, List.length_append] at this
  exact this
set_option maxHeartbeats 1000000 in
theorem values_any (B b : Nat) (bs : List Int) (ao : Option Addr) (n cap : Nat) (xs : List Va) (w : World) (hn : xs.length = n) (hx : RowsIn 3 vaCells noSub w B ao xs) (htx : ∀ v ∈ xs, v.text.size ≤ 1099511627776) (h : BufIs w B b bs) (hBw : B ≤ w.heap.size) (hlim : bs.length + (valuesB xs).length + 9200 ≤ 140737488355328) (hnl : n ≤ 1099511627776) (hlim2 : bs.length + (valuesB xs).length ≤ 100000000000) :
    Calls Tryz.prog 140 #[.pointer (some ⟨b, 0, none⟩), .slice ao n cap] w fun e w' => e = .returned (.tuple #[]) ∧ Wrote B b (bs ++ valuesB xs) w w' := by
  have hlv : (valuesB xs).length = 4 + (xs.flatMap valueB).length := by rw [valuesB, List.length_append, numB_len]
  rw [hlv] at hlim hlim2
  have HX := Lib.hid hx
  have HN := Lib.hid hn
  have HTX := Lib.hid htx
  have H := Lib.hid h
  clear hx hn htx h hlv
  go_enter Tryz.func140, Tryz.ntmps140
  go_wp2_with fail
  refine (count_any B b bs n w H.out hBw (by omega)).mono ?_
  rintro e w1 ⟨rfl, hw⟩
  have HW1 := Lib.hid hw
  clear hw
  go_wp2_with fail
  go_loopw [12] (fun i wr => ∃ k : Nat, k ≤ n ∧ i = .int .i64 k ∧ Wrote B b (bs ++ (numB 4 n ++ (xs.take k).flatMap valueB)) w wr) (fun i _ => n - (intOf i).toNat)
  case atStart => exact ⟨0, by omega, rfl, by simpa using HW1.out⟩
  case round =>
    clear HW1
    obtain ⟨k, hk, rfl, hw⟩ := hrel
    have HW := Lib.hid hw
    clear hw
    by_cases hlt : k < n
    · have hkx : xs[k]? = some (xs[k]'(by rw [HN.out]; exact hlt)) := List.getElem?_eq_getElem _
      obtain ⟨rb, off, hao, hb, hc, _⟩ := HX.out.at hkx
      have htk : (xs.take (k + 1)).flatMap valueB = (xs.take k).flatMap valueB ++ valueB (xs[k]'(by rw [HN.out]; exact hlt)) := by
        rw [List.take_succ_eq_append_getElem (by rw [HN.out]; exact hlt), List.flatMap_append]; simp
      have hle := flatMap_at_le valueB xs k _ hkx
      have htx := HTX.out _ (List.getElem_mem (l := xs) (n := k) (by rw [HN.out]; exact hlt))
      generalize xs[k]'(by rw [HN.out]; exact hlt) = x at hc htk hle htx hkx
      have hcall : ∀ w', Wrote B b (bs ++ (numB 4 n ++ (xs.take k).flatMap valueB)) w w' → Calls Tryz.prog 149 #[.pointer (some ⟨b, 0, none⟩), .agg #[.int .u8 x.kind, .int .i64 x.num, .string x.text]] w' fun e w'' => e = .returned (.tuple #[]) ∧ Wrote B b (bs ++ (numB 4 n ++ (xs.take k).flatMap valueB) ++ valueB x) w' w'' := fun w' hw' =>
        value_any B b _ x w' hw'.1 (Nat.le_trans hBw hw'.2.1.size) (by simp only [List.length_append, numB_len]; omega)
      obtain ⟨kd, num, text⟩ := x
      dsimp only at hcall
      have hbel := HW.out.2.1
      have c0 : wr.cell? ⟨rb, off + k * 3, none⟩ = some (.int .u8 kd) := (hbel.cell (p := ⟨rb, _, none⟩) hb).trans (hc 0 (by decide))
      have c1 : wr.cell? ⟨rb, off + k * 3 + 1, none⟩ = some (.int .i64 num) := (hbel.cell (p := ⟨rb, _, none⟩) hb).trans (hc 1 (by decide))
      have c2 : wr.cell? ⟨rb, off + k * 3 + 1 + 1, none⟩ = some (.string text) := (hbel.cell (p := ⟨rb, _, none⟩) hb).trans (hc 2 (by decide))
      have c3 : wr.cell? ⟨rb, off + k * 3 + 2, none⟩ = some (.string text) := c2
      have HT := Lib.hid htk
      have HC := Lib.hid hcall
      have i1 : (k : Int) < n := by omega
      subst hao
      clear hc htk hle htx hkx hcall hbel
      go_wp2_with fail
      refine (HC.out _ (HW.out.alloc hBw _)).mono ?_
      rintro e w3 ⟨rfl, hw3⟩
      have hw4 := (HW.out.alloc hBw _).trans hw3
      rw [List.append_assoc, List.append_assoc, ← HT.out] at hw4
      have HW4 := Lib.hid hw4
      clear hw3 hw4 c0 c1 c2 c3
      go_wp2_with fail
      go_roundw
      case rel => exact ⟨k + 1, by omega, by go_num, HW4.out⟩
      case measure => simp [intOf]; omega
    · obtain rfl : k = n := by omega
      have hw5 := HW.out
      rw [List.take_of_length_le (l := xs) (by rw [HN.out]; exact Nat.le_refl _)] at hw5
      have HW5 := Lib.hid (show Wrote B b (bs ++ valuesB xs) w wr by unfold valuesB; rw [HN.out]; exact hw5)
      clear hw5
      go_wp2_with fail
      go_end0
      exact ⟨rfl, HW5.out⟩
end Go.Proofs.YtnhnabcpkaeaaaaGreatDoor
/- Values of wire: the bytes of a row of values. Conditions: what is written is not too long. -/
namespace Go.Proofs.YtnhnabcpkaeaaaaGreatDoor
open Go.RowKit
set_option maxRecDepth 20000
end Go.Proofs.YtnhnabcpkaeaaaaGreatDoor
/- Join of wire: parts, one behind the other. Conditions: the parts' cells lie as their readings say. -/
namespace Go.Proofs.YtnhnabcpkaeaaaaGreatDoor
open Go.RowKit
set_option maxRecDepth 20000
/-- A part: its slice, its bytes. -/
structure Pt where
  ao : Option Addr
  cap : Nat
  data : List Int
def ptCells (p : Pt) : List Value := [.slice p.ao p.data.length p.cap]
def ptSub (w : World) (B : Nat) (p : Pt) : Prop := BytesIn w B p.ao p.data
def bytesU (l : List Int) : List UInt8 := l.map fun x => UInt8.ofNat x.toNat
theorem bytesU_len (l : List Int) : (bytesU l).length = l.length := by simp [bytesU]
theorem bytesU_back {l : List Int} (h : BytesWf l) : (bytesU l).map (fun x => (x.toNat : Int)) = l := by
  unfold bytesU
  rw [List.map_map]
  conv => rhs; rw [← List.map_id l]
  apply List.map_congr_left
  intro x hx
  have := h x hx
  simp
  omega
theorem holds_bytes {w : World} {B : Nat} {p : Pt} (h : ptSub w B p) (hw : BytesWf p.data) : Lib.HoldsBytes w (.slice p.ao p.data.length p.cap) (bytesU p.data) := by
  refine ⟨p.ao, p.cap, by rw [bytesU_len], fun e => ?_, fun a ha i x hx => ?_⟩
  · rcases h with h | ⟨b, off, h1, _⟩
    · rw [h]; rfl
    · rw [e] at h1; cases h1
  · have hx2 : (p.data.map bv)[i]? = some (.int .u8 (x.toNat : Int)) := by
      have : ((bytesU p.data).map fun x => (x.toNat : Int))[i]? = some (x.toNat : Int) := by rw [List.getElem?_map, hx]; rfl
      rw [bytesU_back hw] at this
      rw [List.getElem?_map, this]; rfl
    exact cells_of_bytes h (Below.refl B w) ha hx2
/-- What Join tells. -/
def JoinedAt (L : List Int) (w : World) (e : Ending) (w' : World) : Prop :=
  ∃ a c, e = .returned (.slice a L.length c) ∧ BytesIn w' w'.heap.size a L ∧ (a = none → c = 0) ∧ L.length ≤ c ∧ (∀ ad, a = some ad → w.heap.size ≤ ad.block) ∧ Below w.heap.size w w'
/-- .. whose block's first cells, as many as there is room for, may be written. -/
def FreeRow (w : World) (B : Nat) (a : Option Addr) (n c : Nat) (xs : List Int) : Prop :=
  (a = none ∧ n = 0 ∧ c = 0) ∨ ∃ g, a = some ⟨g, 0, none⟩ ∧ B ≤ g ∧ n ≤ c ∧ c ≤ maxLen ∧ (∀ i, i < c → (w.cell? ⟨g, i, none⟩).isSome = true ∧ w.frozen? ⟨g, i, none⟩ = false) ∧ ∀ i, i < n → w.cell? ⟨g, i, none⟩ = (xs.map bv)[i]?
def JoinedX (L : List Int) (w : World) (e : Ending) (w' : World) : Prop :=
  ∃ a c, e = .returned (.slice a L.length c) ∧ BytesIn w' w'.heap.size a L ∧ (a = none → c = 0) ∧ L.length ≤ c ∧ (∀ ad, a = some ad → w.heap.size ≤ ad.block) ∧ FreeRow w' w.heap.size a L.length c L ∧ Below w.heap.size w w'
theorem JoinedX.drop {L : List Int} {w w' : World} {e : Ending} (h : JoinedX L w e w') : JoinedAt L w e w' := by
  obtain ⟨a, c, h1, h2, h3, h4, h5, _, h7⟩ := h
  exact ⟨a, c, h1, h2, h3, h4, h5, h7⟩
theorem FreeRow.nil {w : World} {B : Nat} : FreeRow w B none 0 0 [] := Or.inl ⟨rfl, rfl, rfl⟩
theorem FreeRow.none {w : World} {B g : Nat} (h : B ≤ g) : FreeRow w B (some ⟨g, 0, none⟩) 0 0 [] := Or.inr ⟨g, rfl, h, Nat.le_refl _, Nat.zero_le _, fun i hi => by omega, fun i hi => by omega⟩
theorem fresh_bytes {B : Nat} {w' : World} {v : Value} {L : List Int} (hw : BytesWf L) (h : Lib.FreshBytes B w' v (bytesU L)) : ∃ a c, v = .slice a L.length c ∧ BytesIn w' w'.heap.size a L ∧ (a = none → c = 0) ∧ L.length ≤ c ∧ (∀ ad, a = some ad → B ≤ ad.block) ∧ FreeRow w' B a L.length c L := by
  obtain ⟨g, cap, zs, rfl, h1, h2, h3, h4, h5, h6, h7, h8⟩ := h
  rw [bytesU_len] at h2 h6 ⊢
  have hz : zs.take L.length = L := by
    have e1 : (Lib.bytesOf (zs.take L.length)).map (fun x => (x.toNat : Int)) = zs.take L.length := bytesU_back (fun x hx => h5 x (List.mem_of_mem_take hx))
    have e2 := bytesU_back hw
    rw [h6] at e1
    rw [← e1, e2]
  refine ⟨_, cap, rfl, ?_, by simp, h2, (fun ad e => by cases e; exact h1), Or.inr ⟨g, rfl, h1, h2, h3, fun i hi => ⟨by rw [h7 i hi]; rfl, h8 i hi⟩, fun i hi => ?_⟩⟩
  rotate_left
  · rw [h7 i (by omega)]
    have e : (L.map bv)[i]? = some (bv (L[i]'hi)) := by rw [List.getElem?_map, List.getElem?_eq_getElem hi]; rfl
    rw [e]
    have e3 : zs.getD i 0 = L[i]'hi := by
      have : L[i]'hi = (zs.take L.length)[i]'(by rw [hz]; exact hi) := by simp only [hz]
      rw [this]
      simp [List.getD, List.getElem?_eq_getElem (show i < zs.length by omega)]
    rw [e3]; rfl
  by_cases h0 : L = []
  · exact Or.inl h0
  · have hlen : 0 < L.length := by cases L with | nil => exact absurd rfl h0 | cons _ _ => simp
    refine Or.inr ⟨g, 0, rfl, ?_, fun i hi => ?_⟩
    · have := h7 0 (by omega)
      simp only [World.cell?] at this
      rcases Nat.lt_or_ge g w'.heap.size with h | h
      · exact h
      · simp [Array.getElem?_eq_none h] at this
    · rw [Nat.zero_add, h7 i (by omega)]
      conv => rhs; rw [← hz]
      simp [List.getD, List.getElem?_take, hi]
theorem join_nil (xs : List (List UInt8)) : Lib.join xs [] = xs.flatten := by
  unfold Lib.join
  induction xs with
  | nil => rfl
  | cons x xs ih =>
    cases xs with
    | nil => simp [List.intercalate]
    | cons y ys => simp [List.intercalate] at ih ⊢; exact ih
theorem flat_bytesU (ps : List Pt) : (ps.map fun p => bytesU p.data).flatten = bytesU (ps.flatMap Pt.data) := by
  induction ps with
  | nil => rfl
  | cons p ps ih => rw [List.map_cons, List.flatten_cons, ih, List.flatMap_cons]; simp [bytesU]
theorem lens_eq (xs : List (List UInt8)) : Lib.lens xs = xs.flatten.length := by
  unfold Lib.lens; rw [List.length_flatten]
theorem join_x (ao : Option Addr) (n cap : Nat) (ps : List Pt) (w : World) (B : Nat) (hn : ps.length = n) (hx : RowsIn 1 ptCells ptSub w B ao ps) (hB : B ≤ w.heap.size) (hw : ∀ p ∈ ps, BytesWf p.data) (hc : n ≤ cap) (hl : (ps.flatMap Pt.data).length ≤ 140737488351232) (hnl : n ≤ 1099511627776) :
    Calls Tryz.prog 114 #[.slice ao n cap, .slice none 0 0] w (JoinedX (ps.flatMap Pt.data) w) := by
  subst hn
  have hwf : BytesWf (ps.flatMap Pt.data) := fun x hx => by
    obtain ⟨p, hp, hx⟩ := List.mem_flatMap.1 hx
    exact hw p hp x hx
  rcases hx with rfl | ⟨b, off, rfl, hb, hc2⟩
  · refine (Tryz.bytes_Join_none ao cap (.slice none 0 0) w).mono ?_
    rintro e w' ⟨rfl, rfl⟩
    exact ⟨_, 0, rfl, Or.inl rfl, by simp, by simp, (fun ad e => by cases e; exact Nat.le_refl _), FreeRow.none (Nat.le_refl _), (Below.refl _ _).alloc (Nat.le_refl _) _⟩
  · have hs : Lib.HoldsBytes w (.slice none 0 0) [] := ⟨none, 0, rfl, fun _ => rfl, fun a h => by cases h⟩
    have hcell : ∀ (i : Nat) (p : Pt), ps[i]? = some p → w.cell? ⟨b, off + i, none⟩ = some (.slice p.ao p.data.length p.cap) := fun i p hp => by
      have := (hc2 i p hp).1 0 (by decide)
      simpa [ptCells] using this
    match ps, hcell, hc2, hw, hc, hl, hnl, hwf with
    | [], _, _, _, _, _, _, _ =>
      refine (Tryz.bytes_Join_none (some ⟨b, off, none⟩) cap (.slice none 0 0) w).mono ?_
      rintro e w' ⟨rfl, rfl⟩
      exact ⟨_, 0, rfl, Or.inl rfl, by simp, by simp, (fun ad e => by cases e; exact Nat.le_refl _), FreeRow.none (Nat.le_refl _), (Below.refl _ _).alloc (Nat.le_refl _) _⟩
    | [p], hcell, hc2, hw, hc, hl, hnl, hwf =>
      have e : [p].flatMap Pt.data = p.data := by simp
      rw [e] at hl hwf ⊢
      by_cases h0 : p.data = []
      · have h1 := hcell 0 p rfl
        rw [h0] at h1
        refine (Tryz.bytes_Join_one_empty b off cap p.ao p.cap (.slice none 0 0) w h1).mono ?_
        rintro e w' ⟨rfl, rfl⟩
        rw [h0]
        exact ⟨none, 0, rfl, Or.inl rfl, fun _ => rfl, by simp, (fun ad e => by cases e), FreeRow.nil, Below.refl _ _⟩
      · have hsub := (hc2 0 p rfl).2
        rcases hsub with h | ⟨b2, off2, ha, hb2, hcc⟩
        · exact absurd h h0
        have h1 := hcell 0 p rfl
        rw [ha, ← bytesU_len] at h1
        obtain ⟨q, c, e1, hq, hqq⟩ := holds_bytes (p := p) (B := B) (Or.inr ⟨b2, off2, ha, hb2, hcc⟩) (hw p (by simp))
        injection e1 with e2 _ _
        refine (Tryz.bytes_Join_one b off cap ⟨b2, off2, none⟩ p.cap (bytesU p.data) (.slice none 0 0) w h1 (hqq _ (by rw [← e2, ha])) (by rw [bytesU_len]; cases hd : p.data with | nil => exact absurd hd h0 | cons _ _ => simp) (by rw [bytesU_len]; omega)).mono ?_
        rintro e w' ⟨v', rfl, hf, hbl⟩
        obtain ⟨a, c, rfl, g1, g2, g3, g4, g5⟩ := fresh_bytes hwf hf
        exact ⟨a, c, rfl, g1, g2, g3, g4, g5, hbl⟩
    | p :: q :: r, hcell, hc2, hw, hc, hl, hnl, hwf =>
      have hP : Lib.PartsAt w ⟨b, off, none⟩ ((p :: q :: r).map fun x => .slice x.ao x.data.length x.cap) ((p :: q :: r).map fun x => bytesU x.data) := by
        refine ⟨by simp, fun i v hv => ?_, fun i v l hv hl => ?_⟩
        · rw [List.getElem?_map] at hv
          obtain ⟨x, hx, rfl⟩ := Option.map_eq_some_iff.1 hv
          rw [Go.WideShapes.add_plain]
          exact hcell i x hx
        · rw [List.getElem?_map] at hv hl
          obtain ⟨x, hx, rfl⟩ := Option.map_eq_some_iff.1 hv
          rw [hx] at hl
          obtain rfl := Option.some.inj hl
          exact holds_bytes (hc2 i x hx).2 (hw x (List.mem_of_getElem? hx))
      have hlen : Lib.lens ((p :: q :: r).map fun x => bytesU x.data) = ((p :: q :: r).flatMap Pt.data).length := by rw [lens_eq, flat_bytesU, bytesU_len]
      refine (Tryz.bytes_Join_many b off (p :: q :: r).length cap _ _ (.slice none 0 0) [] w (by simp) (by simp) hP hc hs (by omega) (by rw [hlen]; simp only [List.length_nil, Nat.zero_mul]; omega)).mono ?_
      rintro e w' ⟨v', rfl, hf, hbl⟩
      rw [join_nil, flat_bytesU] at hf
      obtain ⟨a, c, rfl, g1, g2, g3, g4, g5⟩ := fresh_bytes hwf hf
      exact ⟨a, c, rfl, g1, g2, g3, g4, g5, hbl⟩
end Go.Proofs.YtnhnabcpkaeaaaaGreatDoor
/- A slice of a slice: one equation, its address under one name. Conditions: the bounds fit. -/
namespace Go.Proofs.YtnhnabcpkaeaaaaGreatDoor
open Go.RowKit
/-- The address of a slice from its l-th element on. -/
def subA (ao : Option Addr) (cap l k : Nat) : Option Addr := if cap = l then ao else ao.map (·.add (l * k))
theorem subA_eq_none {ao : Option Addr} {cap l k : Nat} (h : subA ao cap l k = none) : ao = none := by
  unfold subA at h
  split at h
  · exact h
  · cases ao with
    | none => rfl
    | some a => cases h
theorem run_sub_lh {P : Program} {t : TypeId} {k : Nat} (ht : P.underlying t = some (.slice (P.elem t))) (hk : ∀ w, (sizeOf (P.elem t)).run P w = .ok k w) (ao : Option Addr) (n cap l h : Nat) (hl : l ≤ h) (hh : h ≤ cap) (kl kh : IntKind) (lo hi : Int) (el : lo = l) (eh : hi = h) (w : World) :
    (Instr.sliceAt t (.slice ao n cap) (some (.int kl lo)) (some (.int kh hi)) none).run P w = .ok (.slice (subA ao cap l k) (h - l) (cap - l)) w := by
  subst el eh
  rw [run_sliceAt_slice _ _ _ _ _ _ ht, run_slice_lh _ _ _ _ _ ht _ _ _ _ (by omega) (by omega) (by omega), hk]
  simp [Result.andThen, sliced, subA]
theorem run_sub_l {P : Program} {t : TypeId} {k : Nat} (ht : P.underlying t = some (.slice (P.elem t))) (hk : ∀ w, (sizeOf (P.elem t)).run P w = .ok k w) (ao : Option Addr) (n cap l : Nat) (hl : l ≤ n) (kl : IntKind) (lo : Int) (el : lo = l) (w : World) :
    (Instr.sliceAt t (.slice ao n cap) (some (.int kl lo)) none none).run P w = .ok (.slice (subA ao cap l k) (n - l) (cap - l)) w := by
  subst el
  rw [run_sliceAt_slice _ _ _ _ _ _ ht, run_slice_l _ _ _ _ _ ht _ _ (by omega) (by omega), hk]
  simp [Result.andThen, sliced, subA]
theorem run_sub_h {P : Program} {t : TypeId} {k : Nat} (ht : P.underlying t = some (.slice (P.elem t))) (hk : ∀ w, (sizeOf (P.elem t)).run P w = .ok k w) (ao : Option Addr) (n cap h : Nat) (hh : h ≤ cap) (kh : IntKind) (hi : Int) (eh : hi = h) (w : World) :
    (Instr.sliceAt t (.slice ao n cap) none (some (.int kh hi)) none).run P w = .ok (.slice (subA ao cap 0 k) h cap) w := by
  subst eh
  rw [run_sliceAt_slice _ _ _ _ _ _ ht, run_slice_h _ _ _ _ _ ht _ _ (by omega) (by omega), hk]
  simp [Result.andThen, sliced, subA]
theorem subA_zero (ao : Option Addr) (cap k : Nat) (h : ∀ a, ao = some a → a.spot = none) : subA ao cap 0 k = ao := by
  unfold subA
  split
  · rfl
  · cases ao with
    | none => rfl
    | some a =>
      obtain ⟨b, o, s⟩ := a
      have := h _ rfl
      simp only at this
      subst this
      simp [Addr.add]
theorem sizeByte : ∀ w, (sizeOf (Tryz.prog.elem 22)).run Tryz.prog w = .ok 1 w := fun _ => by kernel_rfl
theorem sliceByte : Tryz.prog.underlying 22 = some (.slice (Tryz.prog.elem 22)) := by kernel_rfl
theorem BytesIn.sub {w : World} {B : Nat} {ao : Option Addr} {xs : List Int} {cap : Nat} (l h : Nat) (hx : BytesIn w B ao xs) (hc : xs.length ≤ cap) : BytesIn w B (subA ao cap l 1) ((xs.drop l).take h) := by
  by_cases hz : xs.length ≤ l
  · exact Or.inl (by rw [List.drop_of_length_le hz, List.take_nil])
  · rcases hx with rfl | ⟨b, off, rfl, h1, h2⟩
    · simp at hz
    · unfold subA
      rw [if_neg (by omega), Option.map_some, Go.WideShapes.add_plain, Nat.mul_one]
      refine Or.inr ⟨b, off + l, rfl, h1, fun i hi => ?_⟩
      have hi1 : i < h ∧ l + i < xs.length := by simp at hi; omega
      rw [Nat.add_assoc, h2 _ hi1.2]
      simp [List.getD, hi1.1, List.getElem?_drop]
theorem BytesIn.drop {w : World} {B : Nat} {ao : Option Addr} {xs : List Int} {cap : Nat} (l : Nat) (hx : BytesIn w B ao xs) (hc : xs.length ≤ cap) : BytesIn w B (subA ao cap l 1) (xs.drop l) := by
  have := hx.sub l (xs.length) hc
  rwa [List.take_of_length_le (by simp)] at this
theorem BytesIn.take {w : World} {B : Nat} {ao : Option Addr} {xs : List Int} (h : Nat) (hx : BytesIn w B ao xs) : BytesIn w B ao (xs.take h) := by
  rcases hx with rfl | ⟨b, off, rfl, h1, h2⟩
  · exact Or.inl (by simp)
  · refine Or.inr ⟨b, off, rfl, h1, fun i hi => ?_⟩
    have hi1 : i < h ∧ i < xs.length := by simp at hi; omega
    rw [h2 _ hi1.2]
    simp [List.getD, hi1.1]
theorem BytesWf.drop {xs : List Int} (h : BytesWf xs) (n : Nat) : BytesWf (xs.drop n) := fun x hx => h x (List.mem_of_mem_drop hx)
theorem BytesWf.take {xs : List Int} (h : BytesWf xs) (n : Nat) : BytesWf (xs.take n) := fun x hx => h x (List.mem_of_mem_take hx)
end Go.Proofs.YtnhnabcpkaeaaaaGreatDoor
/- The reader of wire: take, said, kind, count. Conditions: the reader is one that was made. -/
namespace Go.Proofs.YtnhnabcpkaeaaaaGreatDoor
open Go.RowKit
set_option maxRecDepth 20000
/-- Nothing but block rb is written. -/
structure Only (rb : Nat) (w w' : World) : Prop where
  size : w.heap.size ≤ w'.heap.size
  block : ∀ b, b < w.heap.size → b ≠ rb → w'.heap[b]? = w.heap[b]?
  rest : w'.os = w.os ∧ w'.tape = w.tape ∧ w'.output = w.output
theorem Only.refl (rb : Nat) (w : World) : Only rb w w := ⟨Nat.le_refl _, fun _ _ _ => rfl, rfl, rfl, rfl⟩
theorem Only.trans {rb : Nat} {w w' w'' : World} (h : Only rb w w') (h2 : Only rb w' w'') : Only rb w w'' := ⟨Nat.le_trans h.1 h2.1, fun b hb hn => (h2.2 b (Nat.lt_of_lt_of_le hb h.1) hn).trans (h.2 b hb hn), h2.3.1.trans h.3.1, h2.3.2.1.trans h.3.2.1, h2.3.2.2.trans h.3.2.2⟩
theorem Only.set (rb : Nat) (w : World) (i : Nat) (v : Value) : Only rb w (w.setCell ⟨rb, i, none⟩ v) := ⟨by simp, fun b _ hn => heap_setCell_other _ _ _ _ hn, rfl, rfl, rfl⟩
theorem Only.of_below {rb : Nat} {w w' : World} (h : Below w.heap.size w w') : Only rb w w' := ⟨h.size, fun b hb _ => h.block b hb, h.os, h.tape, h.output⟩
/-- What writes a block of its own alone, changes nothing that was there. -/
theorem Only.toBelow {rb B : Nat} {w w' : World} (h : Only rb w w') (hB : B ≤ w.heap.size) (hr : B ≤ rb) : Below B w w' := ⟨h.3.1, h.3.2.1, h.3.2.2, h.1, fun k hk => h.2 k (by omega) (by omega)⟩
theorem cell_block {w w' : World} {b o : Nat} (h : w'.heap[b]? = w.heap[b]?) : w'.cell? ⟨b, o, none⟩ = w.cell? ⟨b, o, none⟩ := by simp [World.cell?, h]
/-- Bytes that lie in a block that is not rb. -/
def BytesOff (w : World) (M rb : Nat) (ao : Option Addr) (xs : List Int) : Prop :=
  xs = [] ∨ ∃ b off, ao = some ⟨b, off, none⟩ ∧ b < M ∧ b ≠ rb ∧ ∀ i, i < xs.length → w.cell? ⟨b, off + i, none⟩ = some (.int .u8 (xs.getD i 0))
theorem BytesOff.in {w : World} {M rb : Nat} {ao : Option Addr} {xs : List Int} (h : BytesOff w M rb ao xs) : BytesIn w M ao xs := by
  rcases h with h | ⟨b, off, h1, h2, _, h3⟩
  · exact Or.inl h
  · exact Or.inr ⟨b, off, h1, h2, h3⟩
theorem BytesOff.only {w w' : World} {M rb : Nat} {ao : Option Addr} {xs : List Int} (h : BytesOff w M rb ao xs) (hM : M ≤ w.heap.size) (ho : Only rb w w') : BytesOff w' M rb ao xs := by
  rcases h with h | ⟨b, off, h1, h2, h4, h3⟩
  · exact Or.inl h
  · exact Or.inr ⟨b, off, h1, h2, h4, fun i hi => (cell_block (ho.2 b (by omega) h4)).trans (h3 i hi)⟩
theorem BytesOff.take {w : World} {M rb : Nat} {ao : Option Addr} {xs : List Int} (n : Nat) (h : BytesOff w M rb ao xs) : BytesOff w M rb ao (xs.take n) := by
  rcases h with h | ⟨b, off, h1, h2, h4, h3⟩
  · exact Or.inl (by rw [h]; simp)
  · refine Or.inr ⟨b, off, h1, h2, h4, fun i hi => ?_⟩
    rw [List.length_take] at hi
    rw [h3 i (by omega)]
    simp [List.getD, List.getElem?_take, show i < n by omega]
theorem BytesOff.drop {w : World} {M rb cap : Nat} {ao : Option Addr} {xs : List Int} (n : Nat) (hc : xs.length ≤ cap) (h : BytesOff w M rb ao xs) : BytesOff w M rb (subA ao cap n 1) (xs.drop n) := by
  by_cases hn : xs.length ≤ n
  · exact Or.inl (List.drop_of_length_le hn)
  · rcases h with h | ⟨b, off, h1, h2, h4, h3⟩
    · exact Or.inl (by rw [h]; simp)
    · subst h1
      have e : subA (some ⟨b, off, none⟩) cap n 1 = some ⟨b, off + n, none⟩ := by
        unfold subA; rw [if_neg (by omega)]; show some (Addr.add ⟨b, off, none⟩ (n * 1)) = _; rw [Go.WideShapes.add_plain, Nat.mul_one]
      rw [e]
      refine Or.inr ⟨b, off + n, rfl, h2, h4, fun i hi => ?_⟩
      rw [List.length_drop] at hi
      rw [Nat.add_assoc, h3 _ (by omega)]
      simp [List.getD]
/-- Block rb is a reader: whether something was not there, and what is left. -/
structure RdrIs (w : World) (M rb : Nat) (bad : Bool) (left : List Int) (a : Option Addr) (c : Nat) : Prop where
  blk : w.heap[rb]? = some (.cells #[.bool true, .bool bad, .slice a left.length c] 148 (0, 0))
  off : BytesOff w M rb a left
  cap : left.length ≤ c
  nil : a = none → c = 0
  le : M ≤ w.heap.size
theorem RdrIs.lt {w : World} {M rb : Nat} {bad : Bool} {left : List Int} {a : Option Addr} {c : Nat} (h : RdrIs w M rb bad left a c) : rb < w.heap.size := (Array.getElem?_eq_some_iff.1 h.blk).1
def Rdr (w : World) (M rb : Nat) (bad : Bool) (left : List Int) : Prop := ∃ a c, RdrIs w M rb bad left a c
theorem Rdr.below {w w' : World} {M rb : Nat} {bad : Bool} {left : List Int} (h : Rdr w M rb bad left) (hb : Below w.heap.size w w') : Rdr w' M rb bad left := by
  obtain ⟨a, c, h⟩ := h
  exact ⟨a, c, (hb.block rb h.lt).trans h.blk, h.off.only h.le (Only.of_below hb), h.cap, h.nil, Nat.le_trans h.le hb.size⟩
theorem RdrIs.setBad {w : World} {M rb : Nat} {bad : Bool} {left : List Int} {a : Option Addr} {c : Nat} (h : RdrIs w M rb bad left a c) (x : Bool) : RdrIs (w.setCell ⟨rb, 1, none⟩ (.bool x)) M rb x left a c :=
  ⟨Go.Joins.block_setCell (i := 1) h.blk (.bool x), h.off.only h.le (Only.set _ _ _ _), h.cap, h.nil, by simpa using h.le⟩
/-- A store into a block that is not the reader's, nor its bytes'. -/
theorem Rdr.other {w : World} {M rb g i : Nat} {bad : Bool} {left : List Int} (h : Rdr w M rb bad left) (hg : M ≤ g) (hr : g ≠ rb) (v : Value) : Rdr (w.setCell ⟨g, i, none⟩ v) M rb bad left := by
  obtain ⟨a, c, h⟩ := h
  refine ⟨a, c, (heap_setCell_other _ _ _ _ (Ne.symm hr)).trans h.blk, ?_, h.cap, h.nil, by simpa using h.le⟩
  rcases h.off with h0 | ⟨b, off, h1, h2, h4, h3⟩
  · exact Or.inl h0
  · exact Or.inr ⟨b, off, h1, h2, h4, fun j hj => (cell_block (heap_setCell_other _ _ _ _ (show b ≠ g by omega))).trans (h3 j hj)⟩
/-- What take does. -/
def takeS (n : Nat) (bad : Bool) (left : List Int) : List Int × Bool × List Int := if bad = true ∨ left.length < n then ([], true, left) else (left.take n, false, left.drop n)
def TookAt (M rb : Nat) (r : List Int × Bool × List Int) (w : World) (e : Ending) (w' : World) : Prop :=
  ∃ a c, e = .returned (.slice a r.1.length c) ∧ BytesOff w' M rb a r.1 ∧ (a = none → c = 0) ∧ r.1.length ≤ c ∧ Rdr w' M rb r.2.1 r.2.2 ∧ Only rb w w'
set_option maxHeartbeats 1000000 in
theorem take_any (M rb n : Nat) (bad : Bool) (left : List Int) (w : World) (h : Rdr w M rb bad left) (hl : left.length ≤ 140737488351232) (hn : n ≤ 1099511627776) :
    Calls Tryz.prog 123 #[.pointer (some ⟨rb, 0, none⟩), .int .i64 n] w (TookAt M rb (takeS n bad left) w) := by
  obtain ⟨a, c, h⟩ := h
  obtain ⟨m, hm⟩ : ∃ m, left.length = m := ⟨_, rfl⟩
  have hblk := h.blk
  rw [hm] at hblk hl
  have d1 : w.cell? ⟨rb, 1, none⟩ = some (.bool bad) := Go.Joins.cell_of_block hblk 1
  have d2 : w.cell? ⟨rb, 2, none⟩ = some (.slice a m c) := Go.Joins.cell_of_block hblk 2
  have f1 : w.frozen? ⟨rb, 1, none⟩ = false := Go.Joins.unfrozen_of_block hblk 1
  have f2 : w.frozen? ⟨rb, 2, none⟩ = false := Go.Joins.unfrozen_of_block hblk 2
  have H := Lib.hid h
  have HM := Lib.hid hm
  cases bad with
  | true =>
    have hs : takeS n true left = ([], true, left) := if_pos (Or.inl rfl)
    rw [hs]
    clear h hm hblk hs
    go_enter Tryz.func123, Tryz.ntmps123
    go_wp2_with fail
    go_ret
    exact ⟨none, 0, rfl, Or.inl rfl, fun _ => rfl, by simp, ⟨a, c, H.out.setBad true⟩, Only.set _ _ _ _⟩
  | false =>
    by_cases hlt : m < n
    · have hs : takeS n false left = ([], true, left) := if_pos (Or.inr (by rw [hm]; exact hlt))
      rw [hs]
      have i1 : (m : Int) < n := by omega
      clear h hm hblk hs
      go_enter Tryz.func123, Tryz.ntmps123
      go_wp2_with fail
      go_ret
      exact ⟨none, 0, rfl, Or.inl rfl, fun _ => rfl, by simp, ⟨a, c, H.out.setBad true⟩, Only.set _ _ _ _⟩
    · have hs : takeS n false left = (left.take n, false, left.drop n) := if_neg (by rw [hm]; simp; omega)
      rw [hs]
      have i1 : ¬ (m : Int) < n := by omega
      have i2 : (n : Int) ≤ m := by omega
      have hcap := H.out.cap
      rw [HM.out] at hcap
      have hsl1 : ∀ w', (Instr.sliceAt 22 (.slice a m c) none (some (.int .i64 (n : Int))) none).run Tryz.prog w' = .ok (.slice (subA a c 0 1) n c) w' := fun w' => run_sub_h sliceByte sizeByte a m c n (by omega) .i64 n rfl w'
      have hsl2 : ∀ w', (Instr.sliceAt 22 (.slice a m c) (some (.int .i64 (n : Int))) none none).run Tryz.prog w' = .ok (.slice (subA a c n 1) (m - n) (c - n)) w' := fun w' => run_sub_l sliceByte sizeByte a m c n (by omega) .i64 n rfl w'
      clear h hm hblk hs
      go_enter Tryz.func123, Tryz.ntmps123
      go_wp2_with fail
      go_ret
      have hlt1 : (left.take n).length = n := by rw [List.length_take, HM.out]; omega
      have hld : (left.drop n).length = m - n := by rw [List.length_drop, HM.out]
      have h1 := H.out.setBad false
      have ho : Only rb w ((w.setCell ⟨rb, 1, none⟩ (.bool false)).setCell ⟨rb, 2, none⟩ (.slice (subA a c n 1) (m - n) (c - n))) := (Only.set _ _ _ _).trans (Only.set _ _ _ _)
      have hoff := H.out.off.only H.out.le ho
      have hc2 : left.length ≤ c := H.out.cap
      refine ⟨subA a c 0 1, c, by rw [hlt1]; rfl, ?_, fun e => H.out.nil (subA_eq_none e), by rw [hlt1]; omega, ⟨subA a c n 1, c - n, ?_, ?_, ?_, ?_, ?_⟩, ho⟩
      · have := (hoff.drop 0 hc2).take n
        rwa [List.drop_zero] at this
      · rw [hld]
        exact Go.Joins.block_setCell (i := 2) h1.blk (.slice (subA a c n 1) (m - n) (c - n))
      · exact hoff.drop n hc2
      · rw [hld]; omega
      · intro e
        have := H.out.nil (subA_eq_none e)
        omega
      · have := H.out.le
        simpa using this
end Go.Proofs.YtnhnabcpkaeaaaaGreatDoor
/- The reader of wire: said, kind, count. Conditions: the reader is one that was made. -/
namespace Go.Proofs.YtnhnabcpkaeaaaaGreatDoor
open Go.RowKit
set_option maxRecDepth 20000
theorem or_byte (V x : Int) (h0 : 0 ≤ x) (h1 : x < 256) : bits .or .i64 (wrap64 (V * 256)) x = IntKind.i64.wrap (V * 256 + x) := by
  obtain ⟨y, rfl⟩ : ∃ y : Nat, x = y := ⟨x.toNat, by omega⟩
  have e1 : wrap64 (V * 256) = IntKind.i64.wrap (V * 256) := by simp only [wrap64, IntKind.wrap_i64]
  rw [e1]
  obtain ⟨m, hm⟩ : ∃ m : Nat, (m : Int) = (V * 256) % 18446744073709551616 := ⟨((V * 256) % 18446744073709551616).toNat, by omega⟩
  have h256 : m % 256 = 0 := by omega
  have hml : m < 18446744073709551616 := by omega
  have g1 : (BitVec.ofInt 64 (IntKind.i64.wrap (V * 256))).toNat = m := by
    rw [BitVec.toNat_ofInt, IntKind.wrap_i64]
    omega
  have g2 : (BitVec.ofInt 64 (y : Int)).toNat = y := by
    rw [BitVec.ofInt_natCast, BitVec.toNat_ofNat]; exact Nat.mod_eq_of_lt (by omega)
  show IntKind.i64.wrap ((BitVec.ofInt 64 (IntKind.i64.wrap (V * 256)) ||| BitVec.ofInt 64 (y : Int)).toNat : Int) = _
  rw [BitVec.toNat_or, g1, g2]
  have h := Nat.two_pow_add_eq_or_of_lt (i := 8) (b := y) (by omega) (m / 256)
  have e : 2 ^ 8 * (m / 256) = m := by omega
  rw [e] at h
  rw [← h, IntKind.wrap_i64, IntKind.wrap_i64]
  omega
def SaidAt (M rb : Nat) (v : Int) (bad : Bool) (left : List Int) (w : World) (e : Ending) (w' : World) : Prop :=
  e = .returned (.int .i64 v) ∧ Rdr w' M rb bad left ∧ Only rb w w'
set_option maxHeartbeats 1000000 in
theorem said_any (M rb n : Nat) (bad : Bool) (left : List Int) (w : World) (h : Rdr w M rb bad left) (hw : BytesWf left) (hl : left.length ≤ 140737488351232) (hn : n ≤ 8) :
    Calls Tryz.prog 98 #[.pointer (some ⟨rb, 0, none⟩), .int .i64 n] w (SaidAt M rb (IntKind.i64.wrap (getN (takeS n bad left).1)) (takeS n bad left).2.1 (takeS n bad left).2.2 w) := by
  have H := Lib.hid h
  obtain ⟨got, bad2, left2, hts⟩ : ∃ got bad2 left2, takeS n bad left = (got, bad2, left2) := ⟨_, _, _, rfl⟩
  have hgw : BytesWf got := by
    intro x hx
    unfold takeS at hts
    split at hts
    · obtain ⟨rfl, _⟩ := Prod.mk.injEq .. ▸ hts
      cases hx
    · obtain ⟨rfl, _⟩ := Prod.mk.injEq .. ▸ hts
      exact hw x (List.mem_of_mem_take hx)
  have hgl : got.length ≤ n := by
    unfold takeS at hts
    split at hts
    · obtain ⟨rfl, _⟩ := Prod.mk.injEq .. ▸ hts
      simp
    · obtain ⟨rfl, _⟩ := Prod.mk.injEq .. ▸ hts
      exact List.length_take_le _ _
  rw [hts]
  dsimp only
  have HT := Lib.hid hts
  have HGW := Lib.hid hgw
  clear h hts hgw hw
  go_enter Tryz.func98, Tryz.ntmps98
  go_wp2_with fail
  refine (take_any M rb n bad left w H.out hl (by omega)).mono ?_
  rintro e w1 ht
  rw [HT.out] at ht
  obtain ⟨a, c, rfl, ho, hnil, hc, hr, hon⟩ := ht
  dsimp only at ho hr hc ⊢
  obtain ⟨g, hg⟩ : ∃ g, got.length = g := ⟨_, rfl⟩
  rw [hg] at hc hgl ⊢
  have HG := Lib.hid hg
  have HO := Lib.hid ho
  have HR := Lib.hid hr
  have HON := Lib.hid hon
  clear hg ho hr hon hnil
  go_wp2_with fail
  go_loopw [5, 12] (fun v i wr => ∃ k : Nat, k ≤ g ∧ i = .int .i64 k ∧ v = .int .i64 (IntKind.i64.wrap (getN (got.take k))) ∧ wr = w1) (fun _ i _ => g - (intOf i).toNat)
  case atStart => exact ⟨0, by omega, rfl, by rfl, rfl⟩
  case round =>
    obtain ⟨k, hk, rfl, rfl, rfl⟩ := hrel
    by_cases hlt : k < g
    · rcases HO.out with h0 | ⟨b, off, hao, hb, _, hcell⟩
      · have := HG.out; rw [h0] at this; simp at this; omega
      have hkx : k < got.length := by rw [HG.out]; exact hlt
      have c0 := hcell k hkx
      have hx := HGW.out (got.getD k 0) (by simp [List.getD, List.getElem?_eq_getElem hkx])
      have hsn : getN (got.take (k + 1)) = getN (got.take k) * 256 + got.getD k 0 := by
        rw [List.take_succ_eq_append_getElem hkx, getN_snoc]
        simp [List.getD, List.getElem?_eq_getElem hkx]
      generalize got.getD k 0 = x at c0 hx hsn
      obtain ⟨N, hN⟩ : ∃ N, getN (got.take k) = N := ⟨_, rfl⟩
      rw [hN] at hsn ⊢
      obtain ⟨V, hV⟩ : ∃ V, IntKind.i64.wrap N = V := ⟨_, rfl⟩
      rw [hV]
      have HSN := Lib.hid hsn
      have HN := Lib.hid hN
      have HV := Lib.hid hV
      have i1 : (k : Int) < g := by omega
      subst hao
      obtain ⟨hx0, hx1⟩ := hx
      clear hcell hsn hN hV
      go_wp2_with fail
      go_roundw
      case rel =>
        refine ⟨k + 1, by omega, by go_num, ?_, by trivial⟩
        rw [HSN.out, or_byte V x hx0 hx1, ← HV.out]
        congr 1
        rw [IntKind.wrap_i64, IntKind.wrap_i64, IntKind.wrap_i64]
        omega
      case measure => simp [intOf]; omega
    · obtain rfl : k = g := by omega
      have hf : got.take k = got := List.take_of_length_le (by rw [HG.out]; exact Nat.le_refl _)
      rw [hf]
      clear hf
      go_wp2_with fail
      go_ret
      exact ⟨rfl, HR.out, HON.out⟩
end Go.Proofs.YtnhnabcpkaeaaaaGreatDoor
/- The reader of wire: kind, count, known, Number, whole. Conditions: the reader is one that was made. -/
namespace Go.Proofs.YtnhnabcpkaeaaaaGreatDoor
open Go.RowKit
set_option maxRecDepth 20000
theorem Rdr.cells {w : World} {M rb : Nat} {bad : Bool} {left : List Int} (h : Rdr w M rb bad left) : ∃ a c, w.cell? ⟨rb, 0, none⟩ = some (.bool true) ∧ w.cell? ⟨rb, 1, none⟩ = some (.bool bad) ∧ w.cell? ⟨rb, 2, none⟩ = some (.slice a left.length c) ∧ w.frozen? ⟨rb, 1, none⟩ = false := by
  obtain ⟨a, c, h⟩ := h
  exact ⟨a, c, Go.Joins.cell_of_block h.blk 0, Go.Joins.cell_of_block h.blk 1, Go.Joins.cell_of_block h.blk 2, Go.Joins.unfrozen_of_block h.blk 1⟩
theorem Rdr.setBad {w : World} {M rb : Nat} {bad : Bool} {left : List Int} (h : Rdr w M rb bad left) (x : Bool) : Rdr (w.setCell ⟨rb, 1, none⟩ (.bool x)) M rb x left := by
  obtain ⟨a, c, h⟩ := h
  exact ⟨a, c, h.setBad x⟩
theorem Rdr.lt {w : World} {M rb : Nat} {bad : Bool} {left : List Int} (h : Rdr w M rb bad left) : rb < w.heap.size := by obtain ⟨a, c, h⟩ := h; exact h.lt
theorem known_any (M rb : Nat) (bad : Bool) (left : List Int) (w : World) (h : Rdr w M rb bad left) :
    Calls Tryz.prog 97 #[.pointer (some ⟨rb, 0, none⟩)] w fun e w' => e = .returned (.bool true) ∧ w = w' := by
  obtain ⟨a, c, d0, _, _, _⟩ := h.cells
  clear h
  go_enter Tryz.func97, Tryz.ntmps97
  go_wp2_with fail
  go_ret
  exact ⟨rfl, rfl⟩
theorem takeS_wf {n : Nat} {bad : Bool} {left : List Int} (h : BytesWf left) : BytesWf (takeS n bad left).1 ∧ BytesWf (takeS n bad left).2.2 ∧ (takeS n bad left).1.length ≤ n ∧ (takeS n bad left).2.2.length ≤ left.length := by
  unfold takeS
  split
  · exact ⟨(fun x hx => by cases hx), h, by simp, Nat.le_refl _⟩
  · exact ⟨h.take n, h.drop n, List.length_take_le _ _, by simp⟩
theorem getN_small {l : List Int} (h : BytesWf l) {n : Nat} (hl : l.length ≤ n) : 0 ≤ getN l ∧ getN l < 256 ^ n := by
  have h1 := getN_bound l h
  refine ⟨h1.1, Int.lt_of_lt_of_le h1.2 ?_⟩
  have : (256 : Nat) ^ l.length ≤ 256 ^ n := Nat.pow_le_pow_right (by decide) hl
  exact_mod_cast this
theorem kind_any (M rb : Nat) (bad : Bool) (left : List Int) (w : World) (h : Rdr w M rb bad left) (hw : BytesWf left) (hl : left.length ≤ 140737488351232) :
    Calls Tryz.prog 100 #[.pointer (some ⟨rb, 0, none⟩)] w fun e w' => e = .returned (.int .u8 (getN (takeS 1 bad left).1)) ∧ Rdr w' M rb (takeS 1 bad left).2.1 (takeS 1 bad left).2.2 ∧ Only rb w w' := by
  have H := Lib.hid h
  have hs := said_any M rb 1 bad left w h hw hl (by omega)
  have hb := getN_small (takeS_wf (n := 1) (bad := bad) hw).1 (takeS_wf (n := 1) (bad := bad) hw).2.2.1
  generalize (takeS 1 bad left) = r at hs hb ⊢
  obtain ⟨got, bad2, left2⟩ := r
  dsimp only at hs hb ⊢
  obtain ⟨N, hN⟩ : ∃ N, getN got = N := ⟨_, rfl⟩
  rw [hN] at hs hb ⊢
  have hN2 : IntKind.i64.wrap N = N := IntWalk.i64_in _ (by omega)
  rw [hN2] at hs
  have HS := Lib.hid hs
  have hb1 : 0 ≤ N := hb.1
  have hb2 : N ≤ 255 := by have := hb.2; omega
  clear hs hb hN hN2 h
  go_enter Tryz.func100, Tryz.ntmps100
  go_wp2_with fail
  refine HS.out.mono ?_
  rintro e w1 ⟨rfl, hr, ho⟩
  have HR := Lib.hid hr
  clear hr
  go_wp2_with fail
  go_ret
  exact ⟨rfl, HR.out, ho⟩
/-- What count tells. -/
def countS (bad : Bool) (left : List Int) : Int × Bool × List Int := if (takeS 4 bad left).2.1 = true ∨ 65536 < getN (takeS 4 bad left).1 then (0, true, (takeS 4 bad left).2.2) else (getN (takeS 4 bad left).1, false, (takeS 4 bad left).2.2)
theorem count_rd (M rb : Nat) (bad : Bool) (left : List Int) (w : World) (h : Rdr w M rb bad left) (hw : BytesWf left) (hl : left.length ≤ 140737488351232) :
    Calls Tryz.prog 127 #[.pointer (some ⟨rb, 0, none⟩)] w (SaidAt M rb (countS bad left).1 (countS bad left).2.1 (countS bad left).2.2 w) := by
  have hs := said_any M rb 4 bad left w h hw hl (by omega)
  have hb := getN_small (takeS_wf (n := 4) (bad := bad) hw).1 (takeS_wf (n := 4) (bad := bad) hw).2.2.1
  unfold countS
  generalize (takeS 4 bad left) = r at hs hb ⊢
  obtain ⟨got, bad2, left2⟩ := r
  dsimp only at hs hb ⊢
  obtain ⟨N, hN⟩ : ∃ N, getN got = N := ⟨_, rfl⟩
  rw [hN] at hs hb ⊢
  have hN2 : IntKind.i64.wrap N = N := IntWalk.i64_in _ (by omega)
  rw [hN2] at hs
  have HS := Lib.hid hs
  have hb1 : 0 ≤ N := hb.1
  have hb2 : N ≤ 4294967295 := by have := hb.2; omega
  clear hs hb hN hN2 h
  cases bad2 with
  | true =>
    rw [if_pos (Or.inl rfl)]
    dsimp only
    go_enter Tryz.func127, Tryz.ntmps127
    go_wp2_with fail
    refine HS.out.mono ?_
    rintro e w1 ⟨rfl, hr, ho⟩
    obtain ⟨a, c, _, d1, _, f1⟩ := hr.cells
    have HR := Lib.hid hr
    have HO := Lib.hid ho
    clear hr ho
    go_wp2_with fail
    go_ret
    exact ⟨rfl, HR.out.setBad true, HO.out.trans (Only.set _ _ _ _)⟩
  | false =>
    by_cases hgt : 65536 < N
    · rw [if_pos (Or.inr hgt)]
      dsimp only
      go_enter Tryz.func127, Tryz.ntmps127
      go_wp2_with fail
      refine HS.out.mono ?_
      rintro e w1 ⟨rfl, hr, ho⟩
      obtain ⟨a, c, _, d1, _, f1⟩ := hr.cells
      have HR := Lib.hid hr
      have HO := Lib.hid ho
      clear hr ho
      go_wp2_with fail
      go_ret
      exact ⟨rfl, HR.out.setBad true, HO.out.trans (Only.set _ _ _ _)⟩
    · rw [if_neg (by simp; omega)]
      dsimp only
      have hle : N ≤ 65536 := by omega
      have hd : decide ((65536 : Int) < N) = false := by simpa using hle
      go_enter Tryz.func127, Tryz.ntmps127
      go_wp2_with fail
      refine HS.out.mono ?_
      rintro e w1 ⟨rfl, hr, ho⟩
      obtain ⟨a, c, _, d1, _, f1⟩ := hr.cells
      have HR := Lib.hid hr
      have HO := Lib.hid ho
      clear hr ho
      go_wp2_with fail
      go_ret
      exact ⟨rfl, HR.out.setBad false, HO.out.trans (Only.set _ _ _ _)⟩
theorem number_rd (M rb : Nat) (bad : Bool) (left : List Int) (w : World) (h : Rdr w M rb bad left) (hw : BytesWf left) (hl : left.length ≤ 140737488351232) :
    Calls Tryz.prog 68 #[.pointer (some ⟨rb, 0, none⟩)] w (SaidAt M rb (IntKind.i64.wrap (getN (takeS 8 bad left).1)) (takeS 8 bad left).2.1 (takeS 8 bad left).2.2 w) := by
  have HK := Lib.hid (known_any M rb bad left w h)
  have HS := Lib.hid (said_any M rb 8 bad left w h hw hl (by omega))
  clear h
  generalize IntKind.i64.wrap (getN (takeS 8 bad left).1) = V at HS ⊢
  go_enter Tryz.func68, Tryz.ntmps68
  go_wp2_with fail
  refine HK.out.mono ?_
  rintro e w1 ⟨rfl, rfl⟩
  go_wp2_with fail
  refine HS.out.mono ?_
  rintro e w1 ⟨rfl, hr, ho⟩
  have HR := Lib.hid hr
  clear hr
  go_wp2_with fail
  go_ret
  exact ⟨rfl, HR.out, ho⟩
end Go.Proofs.YtnhnabcpkaeaaaaGreatDoor
/- The reader of wire: NewReader, Bad, Done. Conditions: as each says. -/
namespace Go.Proofs.YtnhnabcpkaeaaaaGreatDoor
open Go.RowKit
set_option maxRecDepth 20000
theorem done_rd (M rb : Nat) (bad : Bool) (left : List Int) (w : World) (h : Rdr w M rb bad left) :
    Calls Tryz.prog 69 #[.pointer (some ⟨rb, 0, none⟩)] w fun e w' => e = .returned (.bool (!bad && left.isEmpty)) ∧ w = w' := by
  have HK := Lib.hid (known_any M rb bad left w h)
  obtain ⟨a, c, _, d1, d2, _⟩ := h.cells
  clear h
  cases bad with
  | true =>
    go_enter Tryz.func69, Tryz.ntmps69
    go_wp2_with fail
    refine HK.out.mono ?_
    rintro e w1 ⟨rfl, rfl⟩
    go_wp2_with fail
    go_ret
    exact ⟨rfl, rfl⟩
  | false =>
    obtain ⟨n, hn⟩ : ∃ n, left.length = n := ⟨_, rfl⟩
    rw [hn] at d2
    have he : left.isEmpty = decide (n = 0) := by rw [← hn]; cases left <;> simp
    rw [he]
    clear hn he
    by_cases h0 : n = 0
    · subst h0
      go_enter Tryz.func69, Tryz.ntmps69
      go_wp2_with fail
      refine HK.out.mono ?_
      rintro e w1 ⟨rfl, rfl⟩
      go_wp2_with fail
      go_ret
      exact ⟨rfl, rfl⟩
    · have d3 : decide (n = 0) = false := by simpa using h0
      have d4 : ¬ (n : Int) = 0 := by omega
      have d5 : decide ((n : Int) = 0) = false := by simpa using h0
      have d6 : ((n : Int) == 0) = false := by simpa using h0
      rw [d3]
      go_enter Tryz.func69, Tryz.ntmps69
      go_wp2_with fail
      refine HK.out.mono ?_
      rintro e w1 ⟨rfl, rfl⟩
      go_wp2_with fail
      go_ret
      exact ⟨rfl, rfl⟩
theorem newReader_any (ao : Option Addr) (n cap : Nat) (xs : List Int) (w : World) (B : Nat) (hn : xs.length = n) (hx : BytesIn w B ao xs) (hB : B ≤ w.heap.size) (hao : ao = none → cap = 0) (hl : n ≤ 140737488351232) :
    Calls Tryz.prog 66 #[.slice ao n cap] w fun e w' => ∃ rb, e = .returned (.pointer (some ⟨rb, 0, none⟩)) ∧ w.heap.size ≤ rb ∧ Rdr w' rb rb false xs ∧ Below w.heap.size w w' := by
  subst hn
  have HX := Lib.hid hx
  have HA := Lib.hid hao
  clear hx hao
  go_enter Tryz.func66, Tryz.ntmps66
  go_wp2_with fail
  refine (clone_any ao cap xs w B HX.out hB HA.out hl).mono ?_
  rintro e w1 ⟨v, rfl, ho, hb⟩
  obtain ⟨a, c, hv⟩ := row_slice ho
  subst hv
  have HO := Lib.hid ho
  clear ho
  go_wp2_with fail
  go_ret
  have hA : Below w1.heap.size w1 (w1.alloc (.cells #[.bool true, .bool false, .slice a xs.length c] 148)) := (Below.refl _ _).alloc (Nat.le_refl _) _
  refine ⟨w1.heap.size, rfl, hb.size, ⟨a, c, heap_alloc_new w1 _, ?_, own_capG HO.out, own_none HO.out, by simp⟩, hb.alloc hb.size _⟩
  rcases (own_bytes' HO.out) with h | ⟨b, off, h1, h2, h3⟩
  · exact Or.inl h
  · refine Or.inr ⟨b, off, h1, h2, by omega, fun i hi => ?_⟩
    rw [hA.cell (p := ⟨b, _, none⟩) h2]
    exact h3 i hi
end Go.Proofs.YtnhnabcpkaeaaaaGreatDoor
