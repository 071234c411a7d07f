/- Join of wire: parts, one behind the other. Conditions: the parts' cells lie as their readings say. -/
import Derived.Test.YtnfldkebjeigiaaDoorWForms2
namespace Go.Proofs.YtnfldkebjeigiaaDoor
open Go.RowKit
set_option maxRecDepth 20000

/-- A part: its slice, its bytes. -/
structure Pt where
  ao : Option Addr
  cap : Nat
  data : List Int
def ptCells (p : Pt) : List Value := [.slice p.ao p.data.length p.cap]
theorem ptCells_len (p : Pt) : (ptCells p).length = 1 := rfl
def ptSub (w : World) (B : Nat) (p : Pt) : Prop := BytesIn w B p.ao p.data
theorem ptSub_kept : Kept ptSub := fun _ _ _ _ _ h hb hB => h.below hb hB
theorem ptSub_rising : Rising ptSub := fun _ _ _ _ h hB => h.mono hB
def bytesU (l : List Int) : List UInt8 := l.map fun x => UInt8.ofNat x.toNat
theorem bytesU_len (l : List Int) : (bytesU l).length = l.length := by simp [bytesU]
theorem bytesU_back {l : List Int} (h : BytesWf l) : (bytesU l).map (fun x => (x.toNat : Int)) = l := by
  unfold bytesU
  rw [List.map_map]
  conv => rhs; rw [← List.map_id l]
  apply List.map_congr_left
  intro x hx
  have := h x hx
  simp
  omega
theorem holds_bytes {w : World} {B : Nat} {p : Pt} (h : ptSub w B p) (hw : BytesWf p.data) : Lib.HoldsBytes w (.slice p.ao p.data.length p.cap) (bytesU p.data) := by
  refine ⟨p.ao, p.cap, by rw [bytesU_len], fun e => ?_, fun a ha i x hx => ?_⟩
  · rcases h with h | ⟨b, off, h1, _⟩
    · rw [h]; rfl
    · rw [e] at h1; cases h1
  · have hx2 : (p.data.map bv)[i]? = some (.int .u8 (x.toNat : Int)) := by
      have : ((bytesU p.data).map fun x => (x.toNat : Int))[i]? = some (x.toNat : Int) := by rw [List.getElem?_map, hx]; rfl
      rw [bytesU_back hw] at this
      rw [List.getElem?_map, this]; rfl
    exact cells_of_bytes h (Below.refl B w) ha hx2
/-- What Join tells. -/
def JoinedAt (L : List Int) (w : World) (e : Ending) (w' : World) : Prop :=
  ∃ a c, e = .returned (.slice a L.length c) ∧ BytesIn w' w'.heap.size a L ∧ (a = none → c = 0) ∧ L.length ≤ c ∧ (∀ ad, a = some ad → w.heap.size ≤ ad.block) ∧ Below w.heap.size w w'
theorem fresh_bytes {B : Nat} {w' : World} {v : Value} {L : List Int} (hw : BytesWf L) (h : Lib.FreshBytes B w' v (bytesU L)) : ∃ a c, v = .slice a L.length c ∧ BytesIn w' w'.heap.size a L ∧ (a = none → c = 0) ∧ L.length ≤ c ∧ (∀ ad, a = some ad → B ≤ ad.block) := by
  obtain ⟨g, cap, zs, rfl, h1, h2, h3, h4, h5, h6, h7, _⟩ := h
  rw [bytesU_len] at h2 h6 ⊢
  refine ⟨_, cap, rfl, ?_, by simp, h2, fun ad e => by cases e; exact h1⟩
  have hz : zs.take L.length = L := by
    have e1 : (Lib.bytesOf (zs.take L.length)).map (fun x => (x.toNat : Int)) = zs.take L.length := bytesU_back (fun x hx => h5 x (List.mem_of_mem_take hx))
    have e2 := bytesU_back hw
    rw [h6] at e1
    rw [← e1, e2]
  by_cases h0 : L = []
  · exact Or.inl h0
  · have hlen : 0 < L.length := by cases L with | nil => exact absurd rfl h0 | cons _ _ => simp
    refine Or.inr ⟨g, 0, rfl, ?_, fun i hi => ?_⟩
    · have := h7 0 (by omega)
      simp only [World.cell?] at this
      rcases Nat.lt_or_ge g w'.heap.size with h | h
      · exact h
      · simp [Array.getElem?_eq_none h] at this
    · rw [Nat.zero_add, h7 i (by omega)]
      conv => rhs; rw [← hz]
      simp [List.getD, List.getElem?_take, hi]
theorem join_nil (xs : List (List UInt8)) : Lib.join xs [] = xs.flatten := by
  unfold Lib.join
  induction xs with
  | nil => rfl
  | cons x xs ih =>
    cases xs with
    | nil => simp [List.intercalate]
    | cons y ys => simp [List.intercalate] at ih ⊢; exact ih
theorem flat_bytesU (ps : List Pt) : (ps.map fun p => bytesU p.data).flatten = bytesU (ps.flatMap Pt.data) := by
  induction ps with
  | nil => rfl
  | cons p ps ih => rw [List.map_cons, List.flatten_cons, ih, List.flatMap_cons]; simp [bytesU]
theorem lens_eq (xs : List (List UInt8)) : Lib.lens xs = xs.flatten.length := by
  unfold Lib.lens; rw [List.length_flatten]
theorem join_any (ao : Option Addr) (n cap : Nat) (ps : List Pt) (w : World) (B : Nat) (hn : ps.length = n) (hx : RowsIn 1 ptCells ptSub w B ao ps) (hB : B ≤ w.heap.size) (hw : ∀ p ∈ ps, BytesWf p.data) (hc : n ≤ cap) (hl : (ps.flatMap Pt.data).length ≤ 140737488351232) (hnl : n ≤ 1099511627776) :
    Calls Tryd.prog 37 #[.slice ao n cap, .slice none 0 0] w (JoinedAt (ps.flatMap Pt.data) w) := by
  subst hn
  have hwf : BytesWf (ps.flatMap Pt.data) := fun x hx => by
    obtain ⟨p, hp, hx⟩ := List.mem_flatMap.1 hx
    exact hw p hp x hx
  rcases hx with rfl | ⟨b, off, rfl, hb, hc2⟩
  · refine (Tryd.bytes_Join_none ao cap (.slice none 0 0) w).mono ?_
    rintro e w' ⟨rfl, rfl⟩
    exact ⟨_, 0, rfl, Or.inl rfl, by simp, by simp, fun ad e => by cases e; exact Nat.le_refl _, (Below.refl _ _).alloc (Nat.le_refl _) _⟩
  · have hs : Lib.HoldsBytes w (.slice none 0 0) [] := ⟨none, 0, rfl, fun _ => rfl, fun a h => by cases h⟩
    have hcell : ∀ (i : Nat) (p : Pt), ps[i]? = some p → w.cell? ⟨b, off + i, none⟩ = some (.slice p.ao p.data.length p.cap) := fun i p hp => by
      have := (hc2 i p hp).1 0 (by decide)
      simpa [ptCells] using this
    match ps, hcell, hc2, hw, hc, hl, hnl, hwf with
    | [], _, _, _, _, _, _, _ =>
      refine (Tryd.bytes_Join_none (some ⟨b, off, none⟩) cap (.slice none 0 0) w).mono ?_
      rintro e w' ⟨rfl, rfl⟩
      exact ⟨_, 0, rfl, Or.inl rfl, by simp, by simp, fun ad e => by cases e; exact Nat.le_refl _, (Below.refl _ _).alloc (Nat.le_refl _) _⟩
    | [p], hcell, hc2, hw, hc, hl, hnl, hwf =>
      have e : [p].flatMap Pt.data = p.data := by simp
      rw [e] at hl hwf ⊢
      by_cases h0 : p.data = []
      · have h1 := hcell 0 p rfl
        rw [h0] at h1
        refine (Tryd.bytes_Join_one_empty b off cap p.ao p.cap (.slice none 0 0) w h1).mono ?_
        rintro e w' ⟨rfl, rfl⟩
        rw [h0]
        exact ⟨none, 0, rfl, Or.inl rfl, fun _ => rfl, by simp, (fun ad e => by cases e), Below.refl _ _⟩
      · have hsub := (hc2 0 p rfl).2
        rcases hsub with h | ⟨b2, off2, ha, hb2, hcc⟩
        · exact absurd h h0
        have h1 := hcell 0 p rfl
        rw [ha, ← bytesU_len] at h1
        obtain ⟨q, c, e1, hq, hqq⟩ := holds_bytes (p := p) (B := B) (Or.inr ⟨b2, off2, ha, hb2, hcc⟩) (hw p (by simp))
        injection e1 with e2 _ _
        refine (Tryd.bytes_Join_one b off cap ⟨b2, off2, none⟩ p.cap (bytesU p.data) (.slice none 0 0) w h1 (hqq _ (by rw [← e2, ha])) (by rw [bytesU_len]; cases hd : p.data with | nil => exact absurd hd h0 | cons _ _ => simp) (by rw [bytesU_len]; omega)).mono ?_
        rintro e w' ⟨v', rfl, hf, hbl⟩
        obtain ⟨a, c, rfl, g1, g2, g3, g4⟩ := fresh_bytes hwf hf
        exact ⟨a, c, rfl, g1, g2, g3, g4, hbl⟩
    | p :: q :: r, hcell, hc2, hw, hc, hl, hnl, hwf =>
      have hP : Lib.PartsAt w ⟨b, off, none⟩ ((p :: q :: r).map fun x => .slice x.ao x.data.length x.cap) ((p :: q :: r).map fun x => bytesU x.data) := by
        refine ⟨by simp, fun i v hv => ?_, fun i v l hv hl => ?_⟩
        · rw [List.getElem?_map] at hv
          obtain ⟨x, hx, rfl⟩ := Option.map_eq_some_iff.1 hv
          rw [Go.WideShapes.add_plain]
          exact hcell i x hx
        · rw [List.getElem?_map] at hv hl
          obtain ⟨x, hx, rfl⟩ := Option.map_eq_some_iff.1 hv
          rw [hx] at hl
          obtain rfl := Option.some.inj hl
          exact holds_bytes (hc2 i x hx).2 (hw x (List.mem_of_getElem? hx))
      have hlen : Lib.lens ((p :: q :: r).map fun x => bytesU x.data) = ((p :: q :: r).flatMap Pt.data).length := by rw [lens_eq, flat_bytesU, bytesU_len]
      refine (Tryd.bytes_Join_many b off (p :: q :: r).length cap _ _ (.slice none 0 0) [] w (by simp) (by simp) hP hc hs (by omega) (by rw [hlen]; simp only [List.length_nil, Nat.zero_mul]; omega)).mono ?_
      rintro e w' ⟨v', rfl, hf, hbl⟩
      rw [join_nil, flat_bytesU] at hf
      obtain ⟨a, c, rfl, g1, g2, g3, g4⟩ := fresh_bytes hwf hf
      exact ⟨a, c, rfl, g1, g2, g3, g4, hbl⟩
end Go.Proofs.YtnfldkebjeigiaaDoor
