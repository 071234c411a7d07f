/- The law FramePuts, walked: it returns true, and nothing that was there is changed. Conditions: the argument is read as the row reads it. -/
import Derived.Test.YtgigfeppaalbcaaGreatDoorAwake03
import Derived.Test.YtgigfeppaalbcaaGreatDoorGreat
import Derived.Test.YtgigfeppaalbcaaGreatDoorSame
import Derived.Test.YtgigfeppaalbcaaGreatDoorKeptF
import Derived.Test.YtgigfeppaalbcaaGreatDoorOverFs
import Derived.Test.YtgigfeppaalbcaaGreatDoorRPut
import Derived.Test.YtgigfeppaalbcaaGreatDoorApartB
namespace Go.Proofs.YtgigfeppaalbcaaGreatDoor
open Go.RowKit
set_option maxRecDepth 20000

theorem FramesIn.mono {w : World} {B B' : Nat} {ao : Option Addr} {fs : List Fr} (h : FramesIn w B ao fs) (hB : B ≤ B') : FramesIn w B' ao fs := by
  rcases h with h | ⟨b, off, h1, h2, h3⟩
  · exact Or.inl h
  · exact Or.inr ⟨b, off, h1, by omega, fun i hi => ⟨(h3 i hi).1, (h3 i hi).2.1, (h3 i hi).2.2.mono hB⟩⟩
theorem FrArg.wf {f : Fr} (h : FrArg f) (hl : f.data.length ≤ 140737488351232) : FrWf f := ⟨h.1, h.2.1, h.2.2.1, hl⟩
theorem great_at (ao : Option Addr) (n cap : Nat) (fs : List Fr) (r : Bool) (w : World) (B : Nat) (hn : fs.length = n) (hr : decide (20000 < (putB fs).length) = r) (hx : FramesIn w B ao fs) (hB : B ≤ w.heap.size) (hq : ∀ f ∈ fs, FrArg f) (hl : n ≤ 1099511627776000) :
    Calls Tryz.prog 6 #[.slice ao n cap] w fun e w' => e = .returned (.bool r) ∧ w = w' := by
  subst hr
  exact great_any ao n cap fs w hn (hx.mono hB) hq hl
/-- The bytes that Put tells. -/
def putL (fs : List Fr) : List Int := if putE fs = 0 then putB fs else []
theorem putL_len (fs : List Fr) : (putL fs).length ≤ (putB fs).length := by
  unfold putL; split <;> simp
theorem putE_pairs : ∀ {fs gs : List Fr}, fs.map Fr.pair = gs.map Fr.pair → putE fs = putE gs := by
  intro fs
  induction fs with
  | nil => intro gs h; cases gs with
    | nil => rfl
    | cons g gs => cases h
  | cons f fs ih => intro gs h; cases gs with
    | nil => cases h
    | cons g gs =>
      simp only [List.map_cons, List.cons.injEq, Fr.pair, Prod.mk.injEq] at h
      obtain ⟨⟨h1, h2⟩, h3⟩ := h
      unfold putE
      rw [h1, h2, ih h3]
def PutAt (L : List Int) (z : Int) (w : World) (e : Ending) (w' : World) : Prop :=
  ∃ ao cap, e = .returned (.tuple #[.slice ao L.length cap, .int .i64 z]) ∧ w'.ownsRow w.heap.size 5 1 (.slice ao L.length cap) L.length (L.map bv) ∧ Below w.heap.size w w'
theorem putAt_of {fs : List Fr} {L : List Int} {z : Int} {w w' : World} {e : Ending} (hL : putL fs = L) (hz : putE fs = z) (h : PutPost fs w e w') : PutAt L z w e w' := by
  obtain ⟨v, rfl, h1, h2, h3⟩ := h
  subst hL hz
  by_cases h0 : putE fs = 0
  · have e : putL fs = putB fs := if_pos h0
    have h4 := h1 h0
    obtain ⟨ao, cap, hv, _⟩ := own_bytes h4
    subst hv
    rw [e]
    exact ⟨ao, cap, rfl, h4, h3⟩
  · have e : putL fs = [] := if_neg h0
    have := h2 h0
    subst this
    rw [e]
    exact ⟨none, 0, rfl, World.ownsRow_nil _ _ _ _, h3⟩
theorem put_at (ao : Option Addr) (n cap : Nat) (fs : List Fr) (L : List Int) (z : Int) (w : World) (B : Nat) (hn : fs.length = n) (hL : putL fs = L) (hz : putE fs = z) (hx : FramesIn w B ao fs) (hB : B ≤ w.heap.size) (hw : ∀ f ∈ fs, FrWf f) (hl : (putB fs).length ≤ 140737488351232) (hn2 : n ≤ 1099511627776) :
    Calls Tryz.prog 9 #[.slice ao n cap] w (PutAt L z w) := by
  subst hn
  exact (put_any ao cap fs w (hx.mono hB) hw hl hn2).mono fun _ _ h => putAt_of hL hz h
theorem rput_at (ao : Option Addr) (n cap : Nat) (fs : List Fr) (L : List Int) (z : Int) (w : World) (B : Nat) (hn : fs.length = n) (hL : putL fs = L) (hz : putE fs = z) (hx : FramesIn w B ao fs) (hB : B ≤ w.heap.size) (hw : ∀ f ∈ fs, FrWf f) (hl : (putB fs).length ≤ 140737488351232) (hn2 : n ≤ 1099511627776) :
    Calls Tryz.prog 12 #[.slice ao n cap] w (PutAt L z w) := by
  subst hn
  exact (rput_any ao cap fs w (hx.mono hB) hw hl hn2).mono fun _ _ h => putAt_of hL hz h
/-- Lent frames, as frames that lie. -/
theorem lent_in {w : World} {B g n : Nat} {frs : List Fr} (hn : frs.length = n) (hrow : w.ownsRow B 44 2 (.slice (some ⟨g, 0, none⟩) (n + 12) (n + 12)) (n + 12) (frs.flatMap frCells ++ mks mkF 1 12)) (hl : ∀ f ∈ frs, FrLent w B f) : FramesIn w w.heap.size (some ⟨g, 0, none⟩) frs := by
  refine Or.inr ⟨g, 0, rfl, (hrow.lt g rfl).2, fun i hi => ?_⟩
  have e : frs.getD i Fr.zero = frs[i] := by simp [List.getD, List.getElem?_eq_getElem hi]
  have hx0 : frs[i]? = some frs[i] := List.getElem?_eq_getElem hi
  have f0 := flat_get (k := 2) frCells_len frs i _ hx0 0 (by decide)
  have f1 := flat_get (k := 2) frCells_len frs i _ hx0 1 (by decide)
  have hfl2 := flat_len (k := 2) frCells_len frs
  obtain ⟨g2, h1, _, h3⟩ := hl frs[i] (List.getElem_mem hi)
  rw [e, Nat.zero_add, World.ownsRow.cellAt hrow _ (by omega), World.ownsRow.cellAt hrow _ (by omega), List.getElem?_append_left (by omega), List.getElem?_append_left (by omega)]
  refine ⟨f0, f1, ?_⟩
  rw [h1]
  exact h3.bytes.mono h3.lt
theorem pair_mem {fs gs : List Fr} (h : fs.map Fr.pair = gs.map Fr.pair) {f : Fr} (hf : f ∈ fs) : ∃ g ∈ gs, g.kind = f.kind ∧ g.data = f.data := by
  have h1 : f.pair ∈ gs.map Fr.pair := h ▸ List.mem_map_of_mem hf
  obtain ⟨g, hg, he⟩ := List.mem_map.1 h1
  simp only [Fr.pair, Prod.mk.injEq] at he
  exact ⟨g, hg, he.1, he.2⟩

theorem own_at {w : World} {base n c : Nat} {ao : Option Addr} {l : List Int} (hn : l.length = n) (h : w.ownsRow base 5 1 (.slice ao n c) n (l.map bv)) : BytesIn w w.heap.size ao l := by
  subst hn
  obtain ⟨a', c', hv, hB⟩ := own_bytes h
  cases hv
  exact hB
def two (u v : Value) (j : Nat) : Value := if j = 0 then u else v
theorem two_sep {u v : Value} (h : ∀ b, u.ownBlock = some b → v.ownBlock ≠ some b) : SepAll 2 (two u v) := by
  intro i j hi hj hne
  have hi' : i = 0 ∨ i = 1 := by omega
  have hj' : j = 0 ∨ j = 1 := by omega
  rcases hi' with rfl | rfl <;> rcases hj' with rfl | rfl
  · exact absurd rfl hne
  · exact h
  · exact Sep.symm h
  · exact absurd rfl hne
set_option maxHeartbeats 4000000 in
theorem puts_any (W : World) (ao : Option Addr) (n cap : Nat) (fs : List Fr) (hn : fs.length = n) (hx : FramesIn W W.heap.size ao fs) (hq : ∀ f ∈ fs, FrArg f) (hz : n ≤ 1099511627776000) :
    Calls Tryz.prog 3 #[.slice ao n cap] W fun e w' => e = .returned (.bool true) ∧ Below W.heap.size W w' := by
  have HX := Lib.hid hx
  have HQ := Lib.hid hq
  have HN := Lib.hid hn
  clear hx hq hn
  go_enter Tryz.func3, Tryz.ntmps3
  go_wp2_with fail
  by_cases hg : 20000 < (putB fs).length
  · refine (great_at ao n cap fs true W _ HN.out (by simpa using hg) HX.out (Nat.le_refl _) HQ.out hz).mono ?_
    rintro e w' ⟨rfl, rfl⟩
    go_wp2_with fail
    refine (awake03_any _).mono ?_
    rintro e w' ⟨rfl, hb⟩
    go_wp2_with fail
    go_ret
    exact ⟨rfl, hb⟩
  refine (great_at ao n cap fs false W _ HN.out (by simpa using hg) HX.out (Nat.le_refl _) HQ.out hz).mono ?_
  rintro e w' ⟨rfl, rfl⟩
  have hcount := putB_count fs
  have hn9 : n ≤ 20000 := by have := HN.out; omega
  have HL20 := Lib.hid (show ∀ f ∈ fs, f.data.length ≤ 20000 from fun f hf => by have := putB_mem hf; omega)
  have HF := Lib.hid (show ∀ f ∈ fs, FrWf f from fun f hf => (HQ.out f hf).wf (by have := HL20.out f hf; omega))
  have HG := Lib.hid hg
  clear hcount hg
  go_wp2_with fail
  obtain rfl := HN.out
  refine (lentFs_any ao cap fs W HX.out (fun f hf => ⟨(HF.out f hf).2.1, by have := HL20.out f hf; omega⟩) (by omega)).mono ?_
  rintro e w1 ⟨frs, rfl, hmap, hlent, hrow, hb1⟩
  have hfl : frs.length = fs.length := by have := congrArg List.length hmap; simpa using this
  have hEE := putE_pairs hmap
  have hBB : putB frs = putB fs := by rw [← putB_pairs, ← putB_pairs, hmap]
  have hLL : putL frs = putL fs := by unfold putL; rw [hEE, hBB]
  have hfw : ∀ f ∈ frs, FrWf f := by
    intro f hf
    obtain ⟨x, hxm, hk, hd⟩ := pair_mem hmap hf
    obtain ⟨q1, q2, q3, q4⟩ := HF.out x hxm
    obtain ⟨g2, e1, _⟩ := hlent f hf
    exact ⟨hk ▸ q1, by rw [e1]; simp, hd ▸ q3, hd ▸ q4⟩
  have hfd : ∀ f ∈ frs, f.data.length ≤ 1099511627776 := by
    intro f hf
    obtain ⟨x, hxm, hk, hd⟩ := pair_mem hmap hf
    have := HL20.out x hxm
    rw [← hd]; omega
  have hin := lent_in hfl hrow hlent
  have hgl := (hrow.lt W.heap.size rfl).2
  have hs1 := hb1.size
  have HMAP := Lib.hid hmap
  have HLE := Lib.hid hlent
  have HROW := Lib.hid hrow
  have HFW := Lib.hid hfw
  have HFD := Lib.hid hfd
  have HIN := Lib.hid hin
  have HFL := Lib.hid hfl
  have HEE := Lib.hid hEE
  have HBB := Lib.hid hBB
  have HLL := Lib.hid hLL
  clear hmap hlent hrow hfw hfd hin hfl hEE hBB hLL
  obtain ⟨L, hL⟩ : ∃ L, putL fs = L := ⟨_, rfl⟩
  obtain ⟨z, hzE⟩ : ∃ z, putE fs = z := ⟨_, rfl⟩
  have hLs : L.length ≤ 20000 := by have := putL_len fs; have := HG.out; rw [← hL]; omega
  have HL := Lib.hid hL
  have HZ := Lib.hid hzE
  clear hL hzE
  go_wp2_with fail
  refine (put_at _ _ _ frs L z w1 _ HFL.out (HLL.out.trans HL.out) (HEE.out.trans HZ.out) HIN.out (Nat.le_refl _) HFW.out (by rw [HBB.out]; have := HG.out; omega) (by omega)).mono ?_
  rintro e w2 ⟨a2, c2, rfl, hown2, hb2⟩
  have hs2 := hb2.size
  have HO2 := Lib.hid hown2
  clear hown2
  go_wp2_with fail
  refine (put_at _ _ _ frs L z w2 _ HFL.out (HLL.out.trans HL.out) (HEE.out.trans HZ.out) (HIN.out.below hb2 (Nat.le_refl _)) hs2 HFW.out (by rw [HBB.out]; have := HG.out; omega) (by omega)).mono ?_
  rintro e w3 ⟨a3, c3, rfl, hown3, hb3⟩
  have hs3 := hb3.size
  have HO3 := Lib.hid hown3
  clear hown3
  have hb13 : Below w1.heap.size w1 w3 := hb2.trans (hb3.mono hs2)
  have hbW3 : Below W.heap.size W w3 := hb1.trans (hb13.mono hs1)
  go_wp2_with fail
  refine (keptFs_any ao cap W.heap.size W.heap.size fs frs w3 ((HX.out.below hbW3 (Nat.le_refl _)).mono hbW3.size) (own_below HROW.out hb13 (Nat.le_refl _)) (fun f hf => (HLE.out f hf).below hb13 (Nat.le_refl _)) HMAP.out (fun f hf => by have := HL20.out f hf; omega) (by omega)).mono ?_
  rintro e w4 ⟨rfl, hb4⟩
  have hs4 := hb4.size
  have hb14 : Below w1.heap.size w1 w4 := hb13.trans (hb4.mono (by omega))
  have hbW4 : Below W.heap.size W w4 := hb1.trans (hb14.mono hs1)
  go_wp2_with fail
  refine (overFs_any W.heap.size W.heap.size w1.heap.size frs fs.length w4 HFL.out (by omega) hgl (own_below HROW.out hb14 (Nat.le_refl _)) (fun f hf => (HLE.out f hf).room hb14) HFD.out (by omega)).mono ?_
  rintro e w5 ⟨rfl, hmid⟩
  have hs5 := hmid.below.size
  have hbW5 := hbW4.trans hmid.below
  have hr2 := hmid.own (own_below (own_below HO2.out hb3 (Nat.le_refl _)) hb4 (Nat.le_refl _)) (Nat.le_refl _)
  have hr3 := hmid.own (own_below HO3.out hb4 (Nat.le_refl _)) hs2
  have hsep : ∀ b, (Value.slice a2 L.length c2).ownBlock = some b → (Value.slice a3 L.length c3).ownBlock ≠ some b := by
    intro b h1 h2
    have := (HO2.out.lt b h1).2
    have := (HO3.out.lt b h2).1
    omega
  have HR2 := Lib.hid hr2
  have HR3 := Lib.hid hr3
  have HSEP := Lib.hid hsep
  clear hr2 hr3 hsep
  go_wp2_with fail
  refine (rput_at _ _ _ fs L z w5 _ rfl HL.out HZ.out (HX.out.below hbW5 (Nat.le_refl _)) hbW5.size HF.out (by have := HG.out; omega) (by omega)).mono ?_
  rintro e w6 ⟨a6, c6, rfl, hown6, hb6⟩
  have hs6 := hb6.size
  have hbW6 : Below W.heap.size W w6 := hbW5.trans (hb6.mono hbW5.size)
  have HR2' := Lib.hid (own_below HR2.out hb6 (Nat.le_refl _))
  have HR3' := Lib.hid (own_below HR3.out hb6 (Nat.le_refl _))
  have HO6 := Lib.hid hown6
  clear hown6
  go_wp2_with fail
  refine (sameB_any _ _ _ _ _ _ L w6 rfl rfl (own_at rfl HR2'.out) (own_at rfl HO6.out) (by omega)).mono ?_
  rintro e w7 ⟨rfl, hb7⟩
  have hs7 := hb7.size
  have hbW7 : Below W.heap.size W w7 := hbW6.trans (hb7.mono (by omega))
  have HR27 := Lib.hid (own_below HR2'.out hb7 (Nat.le_refl _))
  have HR37 := Lib.hid (own_below HR3'.out hb7 (Nat.le_refl _))
  go_wp2_with fail
  refine (apartBytes_any W.heap.size w7.heap.size 2 2 (two (.slice a2 L.length c2) (.slice a3 L.length c3)) (fun _ => L.length) (fun _ => L.map bv) _ ?_ (by simp) ?_ (two_sep HSEP.out) (by decide) (fun _ _ => by omega) (by simp; omega)).mono ?_
  · intro j hj
    have hj' : j = 0 ∨ j = 1 := by omega
    rcases hj' with rfl | rfl <;> exact Go.Joins.cell_of_block (heap_alloc_new w7 _) _
  · intro j hj
    have hj' : j = 0 ∨ j = 1 := by omega
    rcases hj' with rfl | rfl
    · exact Go.Joins.ownsRow_le (HR27.out.alloc _) (by omega)
    · exact Go.Joins.ownsRow_le (HR37.out.alloc _) (by omega)
  rintro e w8 ⟨rfl, hb8⟩
  have hbW8 : Below W.heap.size W w8 := (hbW7.alloc (by omega) _).trans hb8
  go_wp2_with fail
  refine (awake03_any _).mono ?_
  rintro e w9 ⟨rfl, hb9⟩
  have hbW9 : Below W.heap.size W w9 := hbW8.trans (hb9.mono hbW8.size)
  go_wp2_with fail
  go_ret
  exact ⟨rfl, hbW9⟩
theorem bytes_frame : Tryz.prog.bytesOf 44 = 32 := by kernel_rfl
theorem walk_FramePuts {H : Type} {enc : TypeId × Value → H} {d : DataW H} {p : List MemPlace} (W : World) (ao : Option Addr) (n cap : Nat) (h : DataW.Trod enc Tryz.prog W 0 (fun _ => true) true 22 (.slice ao n cap) d p) (hz : n * Tryz.prog.bytesOf 44 ≤ 140737488351232) :
    Calls Tryz.prog 3 #[.slice ao n cap] W fun e w' => e = .returned (.bool true) ∧ Below W.heap.size W w' := by
  obtain ⟨fs, hl, hx, hq, hao, hc, hm⟩ := open_frames h
  rw [bytes_frame] at hz
  exact puts_any W ao n cap fs hl hx hq (by omega)
end Go.Proofs.YtgigfeppaalbcaaGreatDoor
