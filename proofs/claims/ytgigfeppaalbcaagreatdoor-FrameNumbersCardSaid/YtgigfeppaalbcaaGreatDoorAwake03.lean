/- The example of the laws of layer 3: it is as it must be, and nothing that was there is changed. No condition. -/
import Derived.Test.YtgigfeppaalbcaaGreatDoorScan
import Derived.Test.YtgigfeppaalbcaaGreatDoorPut2
import Derived.Lib.SlBytesConst
namespace Go.Proofs.YtgigfeppaalbcaaGreatDoor
open Go.RowKit
set_option maxRecDepth 20000

theorem bytes_new (w : World) (T : TypeId) (xs : List Int) (cs : Array Value) (fr : Nat × Nat) (g B : Nat) (hcs : cs = (xs.map bv).toArray) (hg : g = w.heap.size) (hB : g < B) : BytesIn (w.alloc (.cells cs T fr)) B (some ⟨g, 0, none⟩) xs := by
  subst hcs hg
  refine Or.inr ⟨w.heap.size, 0, rfl, hB, fun i hi => ?_⟩
  rw [Go.Joins.cell_alloc_mark_at _ _ _ _ _ _ rfl]
  simp [bv, List.getD, List.getElem?_eq_getElem hi]
theorem put_ok (ao : Option Addr) (n cap : Nat) (fs : List Fr) (l : List Int) (w : World) (hn : fs.length = n) (hx : FramesIn w w.heap.size ao fs) (hw : ∀ f ∈ fs, FrWf f) (hok : ∀ f ∈ fs, okF f) (hb : putB fs = l) (hl : l.length ≤ 140737488351232) (hn2 : n ≤ 1099511627776) :
    Calls Tryz.prog 9 #[.slice ao n cap] w fun e w' => ∃ v, e = .returned (.tuple #[v, .int .i64 0]) ∧ w'.ownsRow w.heap.size 5 1 v l.length (l.map bv) ∧ Below w.heap.size w w' := by
  subst hn hb
  refine (put_any ao cap fs w hx hw hl hn2).mono ?_
  rintro e w' ⟨v, he, h1, _, h3⟩
  exact ⟨v, by rw [he, putE_ok hok], h1 (putE_ok hok), h3⟩
theorem own_cap {w : World} {base e size n m cap : Nat} {ao : Option Addr} {xs : List Value} (h : w.ownsRow base e size (.slice ao m cap) n xs) : m ≤ cap := by
  rcases h.2 with ⟨h', _⟩ | ⟨g, cap', cur, h', _, _, h3, _⟩
  · cases h'; omega
  · cases h'; exact h3
theorem scan_at (ao : Option Addr) (n cap : Nat) (xs : List Int) (r : List (Int × List Int)) (used : Nat) (s : Bool) (w : World) (B : Nat) (hn : xs.length = n) (hr : scanS xs = (r, used, s)) (hx : BytesIn w B ao xs) (hB : B ≤ w.heap.size) (hw : BytesWf xs) (hao : ao = none → cap = 0) (hcap : n ≤ cap) (hl : n ≤ 1099511627776) :
    Calls Tryz.prog 16 #[.slice ao n cap] w fun e w' => ∃ v frs, e = .returned (.tuple #[v, .int .i64 used, .bool s]) ∧ frs.map Fr.pair = r ∧ FramesOwn w' w.heap.size v frs ∧ Below w.heap.size w w' := by
  subst hn
  refine (scan_any ao cap xs w (hx.mono hB) hw hao hcap hl).mono ?_
  rintro e w' ⟨v, frs, he, h1, h2, h3⟩
  rw [hr] at he h1
  exact ⟨v, frs, he, h1, h2, h3⟩
theorem sum_nil (w : World) : Calls Tryz.prog 23 #[.slice none 0 0] w fun e w' => e = .returned (.int .u32 0) ∧ w = w' :=
  sum_at none 0 0 [] 0 w 0 rfl (by decide) (Or.inl rfl) (by intro x hx; cases hx) (by decide)

theorem pair_one {frs : List Fr} {k : Int} {d : List Int} (h : frs.map Fr.pair = [(k, d)]) : ∃ a c, frs = [⟨k, a, c, d⟩] := by
  match frs, h with
  | [⟨fk, fa, fc, fd⟩], h =>
    simp only [Fr.pair, List.map_cons, List.map_nil, List.cons.injEq, Prod.mk.injEq, and_true] at h
    obtain ⟨rfl, rfl⟩ := h
    exact ⟨_, _, rfl⟩

set_option maxHeartbeats 2000000 in
theorem awake03_any (w : World) : Calls Tryz.prog 7 #[] w fun e w' => e = .returned (.bool true) ∧ Below w.heap.size w w' := by
  have HB := Lib.hid (show frameB 7 [97, 98] ++ [] = [0, 0, 0, 2, 7, 37, 84, 149, 5, 97, 98] by decide +kernel)
  have HSC := Lib.hid (show scanS [0, 0, 0, 2, 7, 37, 84, 149, 5, 97, 98, 0, 0, 0] = ([(7, [97, 98])], 11, false) by decide +kernel)
  have HSU := Lib.hid (show sumS [49, 50, 51, 52, 53, 54, 55, 56, 57] = 3421780262 by decide +kernel)
  have kc := fun (w : World) (C : Array Value) (n c : Nat) => Lib.run_convert_bytes_const (P := Tryz.prog) w 26 5 C n c Tryz.underlying26 Tryz.underlying5
  go_enter Tryz.func7, Tryz.ntmps7
  go_wp2_with fail
  have hF : FramesIn ((w.alloc (.cells #[.int .u8 97, .int .u8 98] 5 (2, 3))).alloc (.cells #[.int .i64 7, .slice (some ⟨w.heap.size, 0, none⟩) 2 2] 44)) (w.heap.size + 2) (some ⟨w.heap.size + 1, 0, none⟩) [⟨7, some ⟨w.heap.size, 0, none⟩, 2, [97, 98]⟩] := by
    refine Or.inr ⟨w.heap.size + 1, 0, rfl, by omega, fun i hi => ?_⟩
    obtain rfl : i = 0 := by simpa using hi
    refine ⟨by rw [World.cell?_alloc_at _ _ _ _ (by simp)]; rfl, by rw [World.cell?_alloc_at _ _ _ _ (by simp)]; rfl, ?_⟩
    have h1 := bytes_new w 5 [97, 98] #[.int .u8 97, .int .u8 98] (2, 3) w.heap.size (w.heap.size + 1) rfl rfl (by omega)
    exact (h1.below (B' := w.heap.size + 1) ((Below.refl _ _).alloc (by simp) _) (Nat.le_refl _)).mono (by omega)
  have hb2 : Below w.heap.size w ((w.alloc (.cells #[.int .u8 97, .int .u8 98] 5 (2, 3))).alloc (.cells #[.int .i64 7, .slice (some ⟨w.heap.size, 0, none⟩) 2 2] 44)) := ((Below.refl _ _).alloc (Nat.le_refl _) _).alloc (by simp) _
  have hz2 : ((w.alloc (.cells #[.int .u8 97, .int .u8 98] 5 (2, 3))).alloc (.cells #[.int .i64 7, .slice (some ⟨w.heap.size, 0, none⟩) 2 2] 44)).heap.size = w.heap.size + 2 := by simp
  generalize ((w.alloc (.cells #[.int .u8 97, .int .u8 98] 5 (2, 3))).alloc (.cells #[.int .i64 7, .slice (some ⟨w.heap.size, 0, none⟩) 2 2] 44)) = w2 at hF hb2 hz2 ⊢
  refine (put_ok _ 1 1 [⟨7, some ⟨w.heap.size, 0, none⟩, 2, [97, 98]⟩] _ w2 rfl (by rw [hz2]; exact hF) (by simp [FrWf, BytesWf, Lit.wf, IntKind.min, IntKind.max, IntKind.signed, IntKind.bits]) (by simp [okF]) HB.out (by decide) (by decide)).mono ?_
  rintro e w3 ⟨v, rfl, hown, hb3⟩
  have hown3 : w3.ownsRow w2.heap.size 5 1 v 11 ([0, 0, 0, 2, 7, 37, 84, 149, 5, 97, 98].map bv) := hown
  obtain ⟨g, cap, rfl⟩ := Go.Joins.ownsRow_form hown3 (by decide)
  have c3 : w3.cell? ⟨g, 3, none⟩ = some (.int .u8 2) := World.ownsRow.cellAt hown3 3 (by decide)
  have c4 : w3.cell? ⟨g, 4, none⟩ = some (.int .u8 7) := World.ownsRow.cellAt hown3 4 (by decide)
  have c9 : w3.cell? ⟨g, 9, none⟩ = some (.int .u8 97) := World.ownsRow.cellAt hown3 9 (by decide)
  have hbel3 := hb2.trans (hb3.mono (by omega))
  have hs3 := hbel3.size
  have hs23 := hb3.size
  have HO3 := Lib.hid hown3
  clear hown hown3 hF
  go_wp2_with (at_builtin; refine wpList_append_bytes rfl (.tmp 40) (.tmp 41) rfl w2.heap.size _ [0, 0, 0, 2, 7, 37, 84, 149, 5, 97, 98] rfl (World.ownsRow.alloc HO3.out _) (some ⟨w3.heap.size, 0, none⟩) 3 [0, 0, 0] rfl (w3.heap.size + 1) (bytes_new w3 _ [0, 0, 0] _ _ _ _ rfl rfl (by omega)) (by simp) (by simp) (by simp; omega) ?_)
  intro v4 w4 hown4 hg4
  have hbel4 : Below w.heap.size w w4 := (hbel3.alloc hs3 _).grown hg4 (by simp; omega) (fun k hk => by have := (HO3.out.lt k hk).1; omega)
  have hcap := fun ao m c (h : v4 = .slice ao m c) => own_cap (h ▸ hown4)
  have hnil := fun ao m c (h : v4 = .slice ao m c) => own_none (h ▸ hown4)
  obtain ⟨a4, cap4, hv4, hD4⟩ := own_bytes (l := [0, 0, 0, 2, 7, 37, 84, 149, 5, 97, 98, 0, 0, 0]) hown4
  have hcap4 := hcap _ _ _ hv4
  have hnil4 := hnil _ _ _ hv4
  subst hv4
  have hs4 := hbel4.size
  clear hown4 hg4 hcap hnil c3 c4 c9 HO3
  go_wp2_with fail
  refine (scan_at a4 14 cap4 _ _ _ _ w4 _ rfl HSC.out hD4 (Nat.le_refl _) (by simp [BytesWf]) hnil4 hcap4 (by decide)).mono ?_
  rintro e w5 ⟨v5, frs, rfl, hmap, hfo, hb5⟩
  have hbel5 := hbel4.trans (hb5.mono hs4)
  have hs5 := hbel5.size
  obtain ⟨a5, cap5, rfl, hlc, hn5, hin⟩ := hfo.lie
  obtain ⟨fa, fc, rfl⟩ := pair_one hmap
  rcases hin with h0 | ⟨b5, o5, rfl, hb55, hc5⟩
  · cases h0
  obtain ⟨d0, d1, d2⟩ := hc5 0 (by simp)
  clear hc5 hfo
  go_wp2_with fail
  have hN := bytes_new w5 5 [49, 50, 51, 52, 53, 54, 55, 56, 57] #[.int .u8 49, .int .u8 50, .int .u8 51, .int .u8 52, .int .u8 53, .int .u8 54, .int .u8 55, .int .u8 56, .int .u8 57] (9, 10) w5.heap.size (w5.heap.size + 1) rfl rfl (by omega)
  have hb6 := (Below.refl w5.heap.size w5).alloc (Nat.le_refl _) (.cells #[.int .u8 49, .int .u8 50, .int .u8 51, .int .u8 52, .int .u8 53, .int .u8 54, .int .u8 55, .int .u8 56, .int .u8 57] 5 (9, 10))
  generalize w5.alloc (.cells #[.int .u8 49, .int .u8 50, .int .u8 51, .int .u8 52, .int .u8 53, .int .u8 54, .int .u8 55, .int .u8 56, .int .u8 57] 5 (9, 10)) = w6 at hN hb6 ⊢
  refine (sum_at _ 9 _ _ _ w6 _ rfl HSU.out hN (by simp [BytesWf]) (by decide)).mono ?_
  rintro e w' ⟨rfl, rfl⟩
  rw [← hb6.cell (p := ⟨b5, _, none⟩) hb55] at d0 d1
  have d3 := d2.below hb6 (Nat.le_refl _)
  have hbel6 := hbel5.trans (hb6.mono hs5)
  clear hN
  go_wp2_with fail
  refine (sum_nil w6).mono ?_
  rintro e w' ⟨rfl, rfl⟩
  rcases d3 with h0 | ⟨b7, o7, hfa, _, hc7⟩
  · cases h0
  simp only [List.getD_cons_zero] at hfa hc7 d0 d1
  subst hfa
  have hcv := run_convert_bytes_arg (P := Tryz.prog) w6 26 5 Tryz.underlying26 (by kernel_rfl) b7 o7 2 fc [97, 98] rfl hc7 9 (by kernel_rfl)
  have hst : strOfNums [97, 98] = ⟨#[97, 98]⟩ := by rfl
  rw [hst] at hcv
  simp only [Nat.zero_mul, Nat.add_zero] at d0 d1
  clear hc7 d2
  go_wp2_with fail
  go_ret
  exact ⟨rfl, hbel6⟩
end Go.Proofs.YtgigfeppaalbcaaGreatDoor
