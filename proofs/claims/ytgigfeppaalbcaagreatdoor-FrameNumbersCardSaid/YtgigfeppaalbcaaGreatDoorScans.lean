/- The law FrameScans, walked: it returns true, and nothing that was there is changed. Conditions: the argument is read as the row reads it. -/
import Derived.Test.YtgigfeppaalbcaaGreatDoorAwake03
import Derived.Test.YtgigfeppaalbcaaGreatDoorGreat
import Derived.Test.YtgigfeppaalbcaaGreatDoorSame
import Derived.Test.YtgigfeppaalbcaaGreatDoorOverB
import Derived.Test.YtgigfeppaalbcaaGreatDoorRScan
import Derived.Test.YtgigfeppaalbcaaGreatDoorApartFs
namespace Go.Proofs.YtgigfeppaalbcaaGreatDoor
open Go.RowKit
set_option maxRecDepth 20000

theorem own_far {w w' : World} {base e size n g : Nat} {v : Value} {xs : List Value} (h : w.ownsRow base e size v n xs) (hg : w.grownBy w' (some g)) (hlt : g < base) : w'.ownsRow base e size v n xs :=
  World.ownsRow.kept h hg (by
    cases hb : v.ownBlock with
    | none => exact Or.inl rfl
    | some b => exact Or.inr fun he => by have := (h.lt b hb).1; cases he; omega)
theorem FramesOwn.far {w w' : World} {base g : Nat} {v : Value} {frs : List Fr} (h : FramesOwn w base v frs) (hg : w.grownBy w' (some g)) (hlt : g < base) : FramesOwn w' base v frs :=
  ⟨own_far h.1 hg hlt, fun f hf => own_far (h.2.1 f hf) hg hlt, h.2.2⟩
theorem rscan_at (ao : Option Addr) (n cap : Nat) (xs : List Int) (r : List (Int × List Int)) (used : Nat) (s : Bool) (w : World) (B : Nat) (hn : xs.length = n) (hr : scanS xs = (r, used, s)) (hx : BytesIn w B ao xs) (hB : B ≤ w.heap.size) (hw : BytesWf xs) (hao : ao = none → cap = 0) (hcap : n ≤ cap) (hl : n ≤ 1099511627776) :
    Calls Tryz.prog 19 #[.slice ao n cap] w fun e w' => ∃ v frs, e = .returned (.tuple #[v, .int .i64 used, .bool s]) ∧ frs.map Fr.pair = r ∧ FramesOwn w' w.heap.size v frs ∧ Below w.heap.size w w' := by
  subst hn
  refine (rscan_any ao cap xs w (hx.mono hB) hw hao hcap hl).mono ?_
  rintro e w' ⟨v, frs, he, h1, h2, h3⟩
  rw [hr] at he h1
  exact ⟨v, frs, he, h1, h2, h3⟩
/-- How many frames are scanned, and how long they are. -/
theorem scan_lens {xs : List Int} {r : List (Int × List Int)} {used : Nat} {s : Bool} {frs : List Fr} (hw : BytesWf xs) (hr : scanS xs = (r, used, s)) (hm : frs.map Fr.pair = r) : 9 * frs.length ≤ xs.length ∧ ∀ f ∈ frs, f.data.length ≤ 1048576 := by
  obtain ⟨h1, h2, h3⟩ := scanS_put hw
  rw [hr] at h1 h2 h3
  dsimp only at h1 h2 h3
  rw [← hm] at h2 h3
  rw [putB_pairs] at h2
  refine ⟨?_, fun f hf => (h3 _ (List.mem_map_of_mem hf)).2.2.1⟩
  have := putB_count frs
  rw [h2, List.length_take] at this
  omega

set_option maxHeartbeats 4000000 in
theorem scans_any (W : World) (ao : Option Addr) (n cap : Nat) (xs : List Int) (B0 : Nat) (hn : xs.length = n) (hx : BytesIn W B0 ao xs) (hB0 : B0 ≤ W.heap.size) (hw : BytesWf xs) (hao : ao = none → cap = 0) (hcap : n ≤ cap) :
    Calls Tryz.prog 4 #[.slice ao n cap] W fun e w' => e = .returned (.bool true) ∧ Below W.heap.size W w' := by
  subst hn
  have HX := Lib.hid (hx.mono hB0)
  have HA := Lib.hid hao
  have HC := Lib.hid hcap
  clear hx hao hcap
  by_cases hg : 20000 < xs.length
  · have i1 : (20000 : Int) < xs.length := by omega
    go_enter Tryz.func4, Tryz.ntmps4
    go_wp2_with fail
    refine (awake03_any _).mono ?_
    rintro e w' ⟨rfl, hb⟩
    go_wp2_with fail
    go_ret
    exact ⟨rfl, hb⟩
  · have i1 : ¬ (20000 : Int) < xs.length := by omega
    obtain ⟨r, used, s, hr⟩ : ∃ r used s, scanS xs = (r, used, s) := ⟨_, _, _, rfl⟩
    have HR := Lib.hid hr
    clear hr
    go_enter Tryz.func4, Tryz.ntmps4
    go_wp2_with fail
    refine (lentB_any ao cap xs _ HX.out HA.out (by omega)).mono ?_
    rintro e w1 ⟨g, rfl, hg1, hg2, hL, hb1⟩
    have hs1 := hb1.size
    have HL := Lib.hid hL
    clear hL
    go_wp2_with fail
    refine (scan_at _ _ _ xs r used s w1 _ rfl HR.out HL.out.bytes (by omega) hw (by simp) (by omega) (by omega)).mono ?_
    rintro e w2 ⟨v2, frs2, rfl, hm2, hf2, hb2⟩
    have hs2 := hb2.size
    obtain ⟨a2, c2, hv2, hc2, hn2, _⟩ := hf2.lie
    subst hv2
    have HM2 := Lib.hid hm2
    have HF2 := Lib.hid hf2
    have HL2 := Lib.hid (HL.out.below hb2 hg2)
    clear hm2 hf2 HL hn2
    go_wp2_with fail
    refine (scan_at _ _ _ xs r used s w2 _ rfl HR.out HL2.out.bytes (by omega) hw (by simp) (by omega) (by omega)).mono ?_
    rintro e w3 ⟨v3, frs3, rfl, hm3, hf3, hb3⟩
    have hs3 := hb3.size
    obtain ⟨a3, c3, hv3, hc3, hn3, _⟩ := hf3.lie
    subst hv3
    have HM3 := Lib.hid hm3
    have HF3 := Lib.hid hf3
    have HL3 := Lib.hid (HL2.out.below hb3 (by omega))
    have hbW3 : Below W.heap.size W w3 := (hb1.trans (hb2.mono hs1)).trans (hb3.mono (by omega))
    clear hm3 hf3 HL2 hn3
    go_wp2_with fail
    refine (keptB_any ao cap g _ xs w3 ((HX.out.below hbW3 (Nat.le_refl _)).mono hbW3.size) HL3.out (by omega)).mono ?_
    rintro e w4 ⟨rfl, hb4⟩
    have hs4 := hb4.size
    have HL4 := Lib.hid (HL3.out.below hb4 (by omega))
    clear HL3
    go_wp2_with fail
    refine (overB_any W.heap.size g xs.length (xs ++ marksB 12) w4 HL4.out (by omega)).mono ?_
    rintro e w5 ⟨rfl, hgr, _⟩
    have hs5 := hgr.size
    have hbW5 : Below W.heap.size W w5 := (hbW3.trans (hb4.mono (by omega))).grown hgr (by omega) (fun b hb => by cases hb; exact hg1)
    have HF2' := Lib.hid (((HF2.out.below hb3 (Nat.le_refl _)).below hb4 (Nat.le_refl _)).far hgr hg2)
    have HF3' := Lib.hid ((HF3.out.below hb4 (Nat.le_refl _)).far hgr (by omega))
    clear hgr HL4
    go_wp2_with fail
    refine (rscan_at _ _ _ xs r used s w5 _ rfl HR.out (HX.out.below hbW5 (Nat.le_refl _)) hbW5.size hw HA.out HC.out (by omega)).mono ?_
    rintro e w6 ⟨v6, frs6, rfl, hm6, hf6, hb6⟩
    have hs6 := hb6.size
    obtain ⟨a6, c6, hv6, hc6, hn6, _⟩ := hf6.lie
    subst hv6
    have HM6 := Lib.hid hm6
    have HF6 := Lib.hid hf6
    have hbW6 : Below W.heap.size W w6 := hbW5.trans (hb6.mono hbW5.size)
    have HF26 := Lib.hid (HF2'.out.below hb6 (Nat.le_refl _))
    have HF36 := Lib.hid (HF3'.out.below hb6 (Nat.le_refl _))
    have hL2 := scan_lens hw HR.out HM2.out
    have hL3 := scan_lens hw HR.out HM3.out
    have hl2 := hL2.1
    have hl3 := hL3.1
    have HD2 := Lib.hid hL2.2
    have HD3 := Lib.hid hL3.2
    clear hm6 hf6 hn6 hL2 hL3
    go_wp2_with fail
    refine (sameFs_any _ _ _ _ _ _ frs2 frs6 w6 rfl rfl (HM2.out.trans HM6.out.symm) ?_ ?_ (by omega) (fun f hf => by have := HD2.out f hf; omega)).mono ?_
    · obtain ⟨a', c', hv, _, _, hin⟩ := HF26.out.lie
      cases hv
      exact hin
    · obtain ⟨a', c', hv, _, _, hin⟩ := HF6.out.lie
      cases hv
      exact hin
    rintro e w7 ⟨rfl, hb7⟩
    have hs7 := hb7.size
    have HF37 := Lib.hid (HF36.out.below hb7 (Nat.le_refl _))
    have HF67 := Lib.hid (HF6.out.below hb7 (Nat.le_refl _))
    have HF27 := Lib.hid (HF26.out.below hb7 (Nat.le_refl _))
    have hbW7 : Below W.heap.size W w7 := hbW6.trans (hb7.mono hbW6.size)
    clear HF36 HF6 HF26
    go_wp2_with fail
    refine (sameFs_any _ _ _ _ _ _ frs3 frs6 w7 rfl rfl (HM3.out.trans HM6.out.symm) ?_ ?_ (by omega) (fun f hf => by have := HD3.out f hf; omega)).mono ?_
    · obtain ⟨a', c', hv, _, _, hin⟩ := HF37.out.lie
      cases hv
      exact hin
    · obtain ⟨a', c', hv, _, _, hin⟩ := HF67.out.lie
      cases hv
      exact hin
    rintro e w8 ⟨rfl, hb8⟩
    have hs8 := hb8.size
    have HF38 := Lib.hid (HF37.out.below hb8 (Nat.le_refl _))
    have HF28 := Lib.hid (HF27.out.below hb8 (Nat.le_refl _))
    have hbW8 : Below W.heap.size W w8 := hbW7.trans (hb8.mono hbW7.size)
    clear HF37 HF27 HF67
    go_wp2_with fail
    refine (apartFs_any w1.heap.size w2.heap.size w8.heap.size 2 _ _ frs2 frs3 _ (Go.Joins.cell_of_block (heap_alloc_new w8 _) 0) (Go.Joins.cell_of_block (heap_alloc_new w8 _) 1) (by simp) (HF28.out.below ((Below.refl w8.heap.size w8).alloc (Nat.le_refl _) _) (Nat.le_refl _)) (HF38.out.below ((Below.refl w8.heap.size w8).alloc (Nat.le_refl _) _) (Nat.le_refl _))
      (fun b hb => (HF2.out.1.lt b hb).2) (fun f hf b hb => ((HF2.out.2.1 f hf).lt b hb).2) hs2 (by simp; omega) (by omega) (by omega) (fun f hf => by
        rcases List.mem_append.1 hf with h | h
        · have := HD2.out f h; omega
        · have := HD3.out f h; omega)).mono ?_
    rintro e w9 ⟨rfl, hb9⟩
    have hbW9 : Below W.heap.size W w9 := (hbW8.alloc (by omega) _).trans (hb9.mono hs1)
    go_wp2_with fail
    refine (awake03_any _).mono ?_
    rintro e w10 ⟨rfl, hb10⟩
    have hbW10 : Below W.heap.size W w10 := hbW9.trans (hb10.mono hbW9.size)
    go_wp2_with fail
    go_ret
    exact ⟨rfl, hbW10⟩
theorem walk_FrameScans (W : World) (ao : Option Addr) (n cap : Nat) (xs : List Int) (hn : xs.length = n) (hx : BytesIn W W.heap.size ao xs) (hw : BytesWf xs) (hao : ao = none → cap = 0) (hcap : n ≤ cap) (_ : cap ≤ maxLen) (hz : n * Tryz.prog.bytesOf 5 ≤ 140737488351232) :
    Calls Tryz.prog 4 #[.slice ao n cap] W fun e w' => e = .returned (.bool true) ∧ Below W.heap.size W w' := by
  exact scans_any W ao n cap xs _ hn hx (Nat.le_refl _) hw hao hcap
end Go.Proofs.YtgigfeppaalbcaaGreatDoor
