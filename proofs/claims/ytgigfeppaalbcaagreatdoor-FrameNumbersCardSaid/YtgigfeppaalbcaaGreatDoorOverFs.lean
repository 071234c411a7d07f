/- OverFrames: lent frames are written over, the marks behind them, too; nothing below them is changed, nor what was made after them. Conditions: the frames are lent ones. -/
import Derived.Test.YtgigfeppaalbcaaGreatDoorOverB
import Derived.Test.YtgigfeppaalbcaaGreatDoorLentFs
namespace Go.Proofs.YtgigfeppaalbcaaGreatDoor
open Go.RowKit
set_option maxRecDepth 20000

/-- Neither below B anything is changed, nor of what is from T on. -/
structure Mid (B T : Nat) (w w' : World) : Prop where
  below : Below B w w'
  far : ∀ b, T ≤ b → b < w.heap.size → w'.heap[b]? = w.heap[b]?
theorem Mid.refl (B T : Nat) (w : World) : Mid B T w w := ⟨Below.refl _ _, fun _ _ _ => rfl⟩
theorem Mid.trans_below {B T : Nat} {w w' w'' : World} (h : Mid B T w w') (hb : Below w'.heap.size w' w'') (hB : B ≤ w'.heap.size) : Mid B T w w'' :=
  ⟨h.below.trans (hb.mono hB), fun b h1 h2 => (hb.block b (Nat.lt_of_lt_of_le h2 h.below.size)).trans (h.far b h1 h2)⟩
theorem Mid.grown {B T g : Nat} {w w' w'' : World} (h : Mid B T w w') (hg : w'.grownBy w'' (some g)) (hB : B ≤ w'.heap.size) (h1 : B ≤ g) (h2 : g < T) : Mid B T w w'' :=
  ⟨h.below.grown hg hB (fun b hb => by cases hb; exact h1), fun b h3 h4 => (hg.block b (Nat.lt_of_lt_of_le h4 h.below.size) (by intro he; cases he; omega)).trans (h.far b h3 h4)⟩
theorem Mid.own {B T base E SZ n : Nat} {v : Value} {xs : List Value} {w w' : World} (h : Mid B T w w') (ho : w.ownsRow base E SZ v n xs) (hT : T ≤ base) : w'.ownsRow base E SZ v n xs := by
  refine ⟨ho.1, ?_⟩
  rcases ho.2 with hn | ⟨g, cap, cur, hv, h1, h2, h3⟩
  · exact Or.inl hn
  · have hg := (Array.getElem?_eq_some_iff.1 h2).1
    exact Or.inr ⟨g, cap, cur, hv, h1, by rw [h.far g (by omega) hg]; exact h2, h3⟩
def FrRoom (w : World) (B T : Nat) (f : Fr) : Prop := ∃ g, f.ao = some ⟨g, 0, none⟩ ∧ g < T ∧ f.cap = f.data.length + 12 ∧ ∃ ys : List Int, w.ownsRow B 5 1 (.slice (some ⟨g, 0, none⟩) (f.data.length + 12) (f.data.length + 12)) (f.data.length + 12) (ys.map bv)
theorem FrLent.room {w w' : World} {B : Nat} {f : Fr} (h : FrLent w B f) (hb : Below w.heap.size w w') : FrRoom w' B w.heap.size f := by
  obtain ⟨g, h1, h2, h3⟩ := h
  exact ⟨g, h1, ownsRow_ltB h3, h2, _, own_below h3 hb (Nat.le_refl _)⟩
theorem room_step {w w' : World} {B T g n : Nat} {f : Fr} {ys zs : List Int} (h : FrRoom w B T f) (h0 : w.ownsRow B 5 1 (.slice (some ⟨g, 0, none⟩) (n + 12) (n + 12)) (n + 12) (ys.map bv)) (hg : w.grownBy w' (some g)) (hz : w'.ownsRow B 5 1 (.slice (some ⟨g, 0, none⟩) (n + 12) (n + 12)) (n + 12) (zs.map bv)) : FrRoom w' B T f := by
  obtain ⟨g2, h1, hT, h2, xs, h3⟩ := h
  by_cases e : g2 = g
  · subst e
    have := own_same h0 h3 (by decide)
    refine ⟨g2, h1, hT, h2, zs, ?_⟩
    rw [← this]
    exact hz
  · exact ⟨g2, h1, hT, h2, xs, World.ownsRow.kept h3 hg (Or.inr (by simp [Value.ownBlock, e]))⟩

set_option maxHeartbeats 2000000 in
theorem overFs_any (g B T : Nat) (frs : List Fr) (n : Nat) (w : World) (hn : frs.length = n) (hB : B ≤ w.heap.size) (hgT : g < T) (hrow : w.ownsRow B 44 2 (.slice (some ⟨g, 0, none⟩) (n + 12) (n + 12)) (n + 12) (frs.flatMap frCells ++ mks mkF 1 12)) (hlent : ∀ f ∈ frs, FrRoom w B T f) (hd : ∀ f ∈ frs, f.data.length ≤ 1099511627776) (hl : n ≤ 1099511627776) :
    Calls Tryz.prog 11 #[.slice (some ⟨g, 0, none⟩) n (n + 12 : Nat)] w fun e w' => e = .returned (.tuple #[]) ∧ Mid B T w w' := by
  have hsl : ∀ w', (Instr.sliceAt 22 (.slice (some ⟨g, 0, none⟩) n (n + 12)) none (some (.int .i64 ((n : Int) + 12))) none).run Tryz.prog w' = .ok (.slice (some ⟨g, 0, none⟩) (n + 12) (n + 12)) w' := fun w' => by
    have h1 := run_sub_h sliceFrame' sizeFrame' (some ⟨g, 0, none⟩) n (n + 12) (n + 12) (Nat.le_refl _) .i64 ((n : Int) + 12) (by omega) w'
    rwa [subA_zero _ _ _ (by intro a ha; cases ha; rfl)] at h1
  have HN := Lib.hid hn
  have HR := Lib.hid hrow
  have HL := Lib.hid hlent
  have HD := Lib.hid hd
  have HS := Lib.hid hsl
  clear hn hrow hlent hd hsl
  go_enter Tryz.func11, Tryz.ntmps11
  go_wp2_with fail
  go_loopw [2] (fun i wr => ∃ k : Nat, k ≤ n ∧ i = .int .i64 k ∧ (∀ f ∈ frs, FrRoom wr B T f) ∧ wr.ownsRow B 44 2 (.slice (some ⟨g, 0, none⟩) (n + 12) (n + 12)) (n + 12) (frs.flatMap frCells ++ mks mkF 1 12) ∧ Mid B T w wr) (fun i _ => n - (intOf i).toNat)
  case atStart => exact ⟨0, by omega, rfl, HL.out, HR.out, Mid.refl _ _ _⟩
  case round =>
    clear HL HR
    obtain ⟨k, hk, rfl, hroom, hrow, hbel⟩ := hrel
    have HO := Lib.hid hroom
    have HR := Lib.hid hrow
    clear hroom hrow
    have hs := hbel.below.size
    by_cases hlt : k < n
    · have hkf : k < frs.length := by rw [HN.out]; exact hlt
      have hx0 : frs[k]? = some frs[k] := List.getElem?_eq_getElem hkf
      have f0 := flat_get (k := 2) frCells_len frs k _ hx0 0 (by decide)
      have f1 := flat_get (k := 2) frCells_len frs k _ hx0 1 (by decide)
      have hfl2 := flat_len (k := 2) frCells_len frs
      have a0 : wr.cell? ⟨g, k * 2, none⟩ = (frCells frs[k])[0]? := by
        rw [World.ownsRow.cellAt HR.out (k * 2) (by omega), List.getElem?_append_left (by omega)]; exact f0
      have a1 : wr.cell? ⟨g, k * 2 + 1, none⟩ = (frCells frs[k])[1]? := by
        rw [World.ownsRow.cellAt HR.out (k * 2 + 1) (by omega), List.getElem?_append_left (by omega)]; exact f1
      have hro := HO.out frs[k] (List.getElem_mem hkf)
      have hdl := HD.out frs[k] (List.getElem_mem hkf)
      generalize frs[k] = x at a0 a1 hro hdl f0 f1 hx0
      obtain ⟨xk, xa, xc, xd⟩ := x
      obtain ⟨fg, hfg, hfT, hfc, ys, hfo⟩ := hro
      dsimp only at hfg hfc hfo hdl hfT
      have c0 : wr.cell? ⟨g, k * 2, none⟩ = some (.int .i64 xk) := a0
      have c1 : wr.cell? ⟨g, k * 2 + 1, none⟩ = some (.slice xa xd.length xc) := a1
      have HFG := Lib.hid hfg
      have HFC := Lib.hid hfc
      have HFO := Lib.hid hfo
      have i1 : (k : Int) < n := by omega
      clear a0 a1 f0 f1 hx0 hfg hfc hfo hfl2
      go_wp2_with fail
      refine (overF_any B fg xc xd.length xk xa ys wr HFG.out HFC.out HFO.out hdl).mono ?_
      rintro e w3 ⟨rfl, hg3, zs, hz3⟩
      have hro3 : ∀ f ∈ frs, FrRoom w3 B T f := fun f hf => room_step (HO.out f hf) HFO.out hg3 hz3
      have hr3 := World.ownsRow.kept HR.out hg3 (own_apart HR.out HFO.out (by decide))
      have hb3 : Mid B T w w3 := hbel.grown hg3 (by omega) (HFO.out.lt fg rfl).1 hfT
      have H1 := Lib.hid hro3
      have H2 := Lib.hid hr3
      clear hro3 hr3 hz3 hg3 c0 c1
      go_wp2_with fail
      go_roundw
      case rel => exact ⟨k + 1, by omega, by go_num, H1.out, H2.out, hb3⟩
      case measure => simp [intOf]; omega
    · obtain rfl : k = n := by omega
      have hsl := HS.out
      go_wp2_with fail
      clear hsl
      go_loopw [4] (fun i wr => ∃ (q : Nat) (xs : List Value), q ≤ k + 12 ∧ i = .int .i64 q ∧ wr.ownsRow B 44 2 (.slice (some ⟨g, 0, none⟩) (k + 12) (k + 12)) (k + 12) xs ∧ Mid B T w wr) (fun i _ => k + 12 - (intOf i).toNat)
      case atStart => exact ⟨0, _, by omega, rfl, HR.out, hbel⟩
      case round =>
        clear hbel HO HR hs
        obtain ⟨q, xs, hq, rfl, hrow, hbel⟩ := hrel
        have HR := Lib.hid hrow
        clear hrow
        have hs := hbel.below.size
        by_cases hltq : q < k + 12
        · have i1 : (q : Int) < (k : Int) + 12 := by omega
          have i2 : (q : Int) < ((k + 12 : Nat) : Int) := by omega
          go_wp2_with fail
          refine (markF_at 2 _ 2 q (by omega) rfl (by omega) (by omega) wr).mono ?_
          rintro e w3 ⟨rfl, hb3⟩
          have hr3 := own_below HR.out hb3 (Nat.le_refl _)
          have hxl := hr3.1
          have d0 : w3.cell? ⟨g, q * 2, none⟩ = some (xs[q * 2]'(by omega)) := by
            rw [World.ownsRow.cellAt hr3 _ (by omega), List.getElem?_eq_getElem (by omega)]
          have d1 : w3.cell? ⟨g, q * 2 + 1, none⟩ = some (xs[q * 2 + 1]'(by omega)) := by
            rw [World.ownsRow.cellAt hr3 _ (by omega), List.getElem?_eq_getElem (by omega)]
          have f0 : w3.frozen? ⟨g, q * 2, none⟩ = false := World.ownsRow.frozenAt hr3 _
          have f1 : w3.frozen? ⟨g, q * 2 + 1, none⟩ = false := World.ownsRow.frozenAt hr3 _
          have s1 := World.ownsRow.stored hr3 (q * 2) (.int .i64 (markN 2 q))
          have s2 := World.ownsRow.stored s1.1 (q * 2 + 1) (.slice none 0 0)
          have hgB : B ≤ g := (hr3.lt g rfl).1
          have hb4 : Mid B T w ((w3.setCell ⟨g, q * 2, none⟩ (.int .i64 (markN 2 q))).setCell ⟨g, q * 2 + 1, none⟩ (.slice none 0 0)) := ((hbel.trans_below hb3 (by omega)).grown s1.2 (by have := hb3.size; omega) hgB hgT).grown s2.2 (by have := hb3.size; simp; omega) hgB hgT
          have S2 := Lib.hid s2
          generalize (xs[q * 2]'(by omega)) = o0 at d0
          generalize (xs[q * 2 + 1]'(by omega)) = o1 at d1
          clear s1 s2 hr3 hxl
          go_wp2_with fail
          go_roundw
          case rel => exact ⟨q + 1, _, by omega, by go_num, S2.out.1, hb4⟩
          case measure => simp [intOf]; omega
        · go_wp2_with fail
          go_end0
          exact ⟨rfl, hbel⟩
end Go.Proofs.YtgigfeppaalbcaaGreatDoor
