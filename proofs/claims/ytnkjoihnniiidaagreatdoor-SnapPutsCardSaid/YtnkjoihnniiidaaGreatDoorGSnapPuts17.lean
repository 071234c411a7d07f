/- LentSnap, KeptSnap, OverSnap. Conditions: the snaps lie as their readings say. -/
import Derived.Test.YtnkjoihnniiidaaGreatDoorGSnapPuts14
import Derived.Test.YtnkjoihnniiidaaGreatDoorGSnapPuts16
import Derived.Test.YtnkjoihnniiidaaGreatDoorGSnapPuts1
import Derived.Test.YtnkjoihnniiidaaGreatDoorGSnapPuts2
import Derived.Test.YtnkjoihnniiidaaGreatDoorGSnapPuts5
import Derived.Maps.AppendAt
import Derived.Test.YtnkjoihnniiidaaGreatDoorGSnapPuts0
import Derived.Test.YtnkjoihnniiidaaGreatDoorGSnapPuts3
import Derived.Lib.AppendStr
set_option linter.unusedVariables false
set_option linter.unusedSimpArgs false
namespace Go.Proofs.YtnkjoihnniiidaaGreatDoor
open Go.RowKit
set_option maxRecDepth 20000
/-- A snap whose lists are lent. -/
structure SnLent (w : World) (B : Nat) (x : Sn) : Prop where
  vs : ∃ g, x.va = some ⟨g, 0, none⟩ ∧ x.vc = x.vs.length + 12 ∧ LentI w B g x.vs
  im : ∃ g, x.ia = some ⟨g, 0, none⟩ ∧ x.ic = x.im.length + 12 ∧ LentB w B g x.im
theorem slentB_rows {w : World} {B g : Nat} {xs : List Int} (h : LentB w B g xs) : BytesIn w w.heap.size (some ⟨g, 0, none⟩) xs := by
  refine Or.inr ⟨g, 0, rfl, ownsRow_ltB h, fun i hi => ?_⟩
  rw [Nat.zero_add, World.ownsRow.cellAt h i (by omega), List.getElem?_map, List.getElem?_append_left hi, List.getElem?_eq_getElem hi]
  simp [bv, List.getD, hi]
theorem own_blocks4 {w w' : World} {base e size n : Nat} {v : Value} {xs : List Value} (h : w.ownsRow base e size v n xs) (hs : ∀ g, base ≤ g → g < w.heap.size → w'.heap[g]? = w.heap[g]?) : w'.ownsRow base e size v n xs := by
  refine ⟨h.1, h.2.imp id ?_⟩
  rintro ⟨g, cap, cur, h1, h2, h3, h4, h5, h6, h7⟩
  exact ⟨g, cap, cur, h1, h2, (hs g h2 (Array.getElem?_eq_some_iff.1 h3).1).trans h3, h4, h5, h6, h7⟩
theorem SnLent.below {w w' : World} {B B' : Nat} {x : Sn} (h : SnLent w B x) (hb : Below B' w w') (hB : w.heap.size ≤ B') : SnLent w' B x := by
  obtain ⟨⟨g', h1', h2', h3'⟩, ⟨g'', h1'', h2'', h3''⟩⟩ := h
  exact ⟨⟨g', h1', h2', own_below h3' hb hB⟩, ⟨g'', h1'', h2'', own_below h3'' hb hB⟩⟩
theorem SnLent.sub {w : World} {B : Nat} {x : Sn} (h : SnLent w B x) : snSub w w.heap.size x := by
  obtain ⟨⟨g', h1', h2', h3'⟩, ⟨g'', h1'', h2'', h3''⟩⟩ := h
  refine ⟨?_, ?_⟩
  · rw [h1']; exact RowsIn.mono noSub_rising h3'.rows h3'.lt.2
  · rw [h1'']; exact slentB_rows h3''
theorem SnLent.fine {w : World} {B : Nat} {x l : Sn} (h : SnLent w B x) (hp : x.plain = l.plain) (hf : SnFine l) : SnFine x := by
  obtain ⟨⟨g', h1', h2', h3'⟩, ⟨g'', h1'', h2'', h3''⟩⟩ := h
  obtain ⟨si, st, va, vs, vc, ia, im, ic⟩ := x
  obtain ⟨si2, st2, va2, vs2, vc2, ia2, im2, ic2⟩ := l
  simp only [Sn.plain, SnP.mk.injEq] at hp
  obtain ⟨rfl, rfl, rfl, rfl⟩ := hp
  dsimp only at h1' h2' h1'' h2''
  refine ⟨hf.index, hf.term, hf.vs, hf.vn, hf.im, hf.ln, ?_, ?_, by dsimp only; omega, by dsimp only; omega⟩
  · intro h; dsimp only at h; rw [h1'] at h; cases h
  · intro h; dsimp only at h; rw [h1''] at h; cases h
def LentSnPost (l : Sn) (w : World) (e : Ending) (w' : World) : Prop := ∃ x : Sn, e = .returned (snVal x) ∧ x.plain = l.plain ∧ SnLent w' w.heap.size x ∧ Below w.heap.size w w'
set_option maxHeartbeats 4000000 in
theorem lentSn_any (x : Sn) (w : World) (hx : snSub w w.heap.size x) (hf : SnFine x) :
    Calls Tryz.prog 6 #[snVal x] w (LentSnPost x w) := by
  obtain ⟨si, st, va, xs, vc, ia, im, ic⟩ := x
  dsimp only [snVal] at hx ⊢
  obtain ⟨f1, f2, f3, f4, f5, f6, f7, f8, f9, f10⟩ := hf
  dsimp only at f1 f2 f3 f4 f5 f6 f7 f8 f9 f10
  obtain ⟨n, hn⟩ : ∃ n, xs.length = n := ⟨_, rfl⟩
  obtain ⟨m, hm⟩ : ∃ m, im.length = m := ⟨_, rfl⟩
  rw [hn] at f4 ⊢
  rw [hm] at f6 ⊢
  have hb1 := (Below.refl w.heap.size w).alloc (Nat.le_refl _) (.cells #[.int .i64 si, .int .i64 st, .slice va n vc, .slice ia m ic] 25)
  have hk1 := heap_alloc_new w (.cells #[.int .i64 si, .int .i64 st, .slice va n vc, .slice ia m ic] 25)
  have hs1 : (w.alloc (.cells #[.int .i64 si, .int .i64 st, .slice va n vc, .slice ia m ic] 25)).heap.size = w.heap.size + 1 := by simp
  have hb12 := (Below.refl _ (w.alloc (.cells #[.int .i64 si, .int .i64 st, .slice va n vc, .slice ia m ic] 25))).alloc (Nat.le_refl _) (.cells #[.int .i64 0, .int .i64 0, .slice none 0 0, .slice none 0 0] 25)
  have hk2 := heap_alloc_new (w.alloc (.cells #[.int .i64 si, .int .i64 st, .slice va n vc, .slice ia m ic] 25)) (.cells #[.int .i64 0, .int .i64 0, .slice none 0 0, .slice none 0 0] 25)
  have hk12 := (hb12.block w.heap.size (by omega)).trans hk1
  have hs2 : w.heap.size + 2 ≤ ((w.alloc (.cells #[.int .i64 si, .int .i64 st, .slice va n vc, .slice ia m ic] 25)).alloc (.cells #[.int .i64 0, .int .i64 0, .slice none 0 0, .slice none 0 0] 25)).heap.size := by simp
  rw [hs1] at hk2
  have HB2 := Lib.hid (hb1.trans (hb12.mono hb1.size))
  have HK1 := Lib.hid hk12
  have HK2 := Lib.hid hk2
  have HX1 := Lib.hid hx.1
  have HX2 := Lib.hid hx.2
  have HN := Lib.hid hn
  have HM := Lib.hid hm
  have HV := Lib.hid f7
  have HI := Lib.hid f8
  clear hb1 hk1 hs1 hb12 hk2 hk12 hx hn hm f1 f2 f3 f5 f7 f8 f9 f10
  go_enter Tryz.func6, Tryz.ntmps6
  go_upto_region 1 with fail
  generalize (w.alloc (.cells #[.int .i64 si, .int .i64 st, .slice va n vc, .slice ia m ic] 25)).alloc (.cells #[.int .i64 0, .int .i64 0, .slice none 0 0, .slice none 0 0] 25) = w2 at HB2 HK1 HK2 hs2 ⊢
  have c2 := Go.Joins.cell_of_block HK1.out 2
  go_wp2_with fail
  refine (lentI_any va n vc xs w2 HN.out ((HX1.out.below noSub_kept HB2.out (Nat.le_refl _)).mono noSub_rising HB2.out.size) HV.out (by omega)).mono ?_
  rintro e w3 ⟨gv, rfl, hgv1, hgv2, ho3, hb3⟩
  have hz3 := hb3.size
  have hk3 := (hb3.block w.heap.size (by omega)).trans HK1.out
  have HK3 := Lib.hid hk3
  have HR3 := Lib.hid ((hb3.block (w.heap.size + 1) (by omega)).trans HK2.out)
  have HB3 := Lib.hid (HB2.out.trans (hb3.mono HB2.out.size))
  have HO3 := Lib.hid ho3
  have u2 := Go.Joins.unfrozen_of_block hk3 2
  have c2' := Go.Joins.cell_of_block hk3 2
  clear c2 hb3 hk3 ho3
  go_upto_region 2 with fail
  have hk4 : (w3.setCell ⟨w.heap.size, 2, none⟩ (.slice (some ⟨gv, 0, none⟩) n (n + 12))).heap[w.heap.size]? = some (.cells #[.int .i64 si, .int .i64 st, .slice (some ⟨gv, 0, none⟩) n (n + 12), .slice ia m ic] 25 (0, 0)) := by
    have h := Go.Joins.block_setCell (i := 2) HK3.out (.slice (some ⟨gv, 0, none⟩) n (n + 12))
    simpa using h
  have hg4 : w3.grownBy _ (some w.heap.size) := grown_set w3 ⟨w.heap.size, 2, none⟩ (.slice (some ⟨gv, 0, none⟩) n (n + 12))
  clear u2 c2'
  generalize w3.setCell ⟨w.heap.size, 2, none⟩ (.slice (some ⟨gv, 0, none⟩) n (n + 12)) = w4 at hk4 hg4 ⊢
  have hz4 := hg4.size
  have HK4 := Lib.hid hk4
  have HR4 := Lib.hid ((hg4.block (w.heap.size + 1) (by omega) (by simp)).trans HR3.out)
  have HB4 := Lib.hid (HB3.out.grown hg4 HB3.out.size (fun k hk => by cases hk; exact Nat.le_refl _))
  have HO4 := Lib.hid (show LentI w4 w2.heap.size gv xs from own_blocks4 HO3.out (fun g h1 h2 => hg4.block g h2 (by simp; omega)))
  have c3 := Go.Joins.cell_of_block hk4 3
  clear hk4 hg4
  go_wp2_with fail
  have hcall := lentB_any ia ic im w4 ((HX2.out.below HB4.out (Nat.le_refl _)).mono HB4.out.size) HI.out (by rw [HM.out]; omega)
  unfold LentBPost at hcall
  rw [HM.out] at hcall
  refine hcall.mono ?_
  clear hcall
  rintro e w5 ⟨gi, rfl, hgi1, hgi2, ho5, hb5⟩
  have hz5 := hb5.size
  have hk5 := (hb5.block w.heap.size (by omega)).trans HK4.out
  have HK5 := Lib.hid hk5
  have HR5 := Lib.hid ((hb5.block (w.heap.size + 1) (by omega)).trans HR4.out)
  have HB5 := Lib.hid (HB4.out.trans (hb5.mono HB4.out.size))
  have HO5 := Lib.hid ho5
  have HV5 := Lib.hid (HO4.out.below hb5 (Nat.le_refl _))
  have u3 := Go.Joins.unfrozen_of_block hk5 3
  have c3' := Go.Joins.cell_of_block hk5 3
  clear c3 hb5 hk5 ho5
  go_upto_region 3 with fail
  have hk6 : (w5.setCell ⟨w.heap.size, 3, none⟩ (.slice (some ⟨gi, 0, none⟩) m (m + 12))).heap[w.heap.size]? = some (.cells #[.int .i64 si, .int .i64 st, .slice (some ⟨gv, 0, none⟩) n (n + 12), .slice (some ⟨gi, 0, none⟩) m (m + 12)] 25 (0, 0)) := by
    have h := Go.Joins.block_setCell (i := 3) HK5.out (.slice (some ⟨gi, 0, none⟩) m (m + 12))
    simpa using h
  have hg6 : w5.grownBy _ (some w.heap.size) := grown_set w5 ⟨w.heap.size, 3, none⟩ (.slice (some ⟨gi, 0, none⟩) m (m + 12))
  clear u3 c3'
  generalize w5.setCell ⟨w.heap.size, 3, none⟩ (.slice (some ⟨gi, 0, none⟩) m (m + 12)) = w6 at hk6 hg6 ⊢
  have hz6 := hg6.size
  have hr6 := (hg6.block (w.heap.size + 1) (by omega) (by simp)).trans HR5.out
  have HR6 := Lib.hid hr6
  have HB6 := Lib.hid (HB5.out.grown hg6 HB5.out.size (fun k hk => by cases hk; exact Nat.le_refl _))
  have HV6 := Lib.hid (show LentI w6 w2.heap.size gv xs from own_blocks4 HV5.out (fun g h1 h2 => hg6.block g h2 (by simp; omega)))
  have HO6 := Lib.hid (show LentB w6 w4.heap.size gi im from own_blocks4 HO5.out (fun g h1 h2 => hg6.block g h2 (by simp; omega)))
  have g0 := Go.Joins.cell_of_block hk6 0
  have g1 := Go.Joins.cell_of_block hk6 1
  have g2 := Go.Joins.cell_of_block hk6 2
  have g3 := Go.Joins.cell_of_block hk6 3
  have u0 := Go.Joins.unfrozen_of_block hr6 0
  have u1 := Go.Joins.unfrozen_of_block hr6 1
  have u2 := Go.Joins.unfrozen_of_block hr6 2
  have u3 := Go.Joins.unfrozen_of_block hr6 3
  have e0 := Go.Joins.cell_of_block hr6 0
  have e1 := Go.Joins.cell_of_block hr6 1
  have e2 := Go.Joins.cell_of_block hr6 2
  have e3 := Go.Joins.cell_of_block hr6 3
  clear hk6 hg6 hr6
  go_wp2_with fail
  have hk7 := block_four (a := .int .i64 si) (b := .int .i64 st) (c := .slice (some ⟨gv, 0, none⟩) n (n + 12)) (d := .slice (some ⟨gi, 0, none⟩) m (m + 12)) HR6.out
  have hg7 := grown_four (w := w6) (g := w.heap.size + 1) (a := .int .i64 si) (b := .int .i64 st) (c := .slice (some ⟨gv, 0, none⟩) n (n + 12)) (d := .slice (some ⟨gi, 0, none⟩) m (m + 12))
  generalize (((w6.setCell ⟨w.heap.size + 1, 0, none⟩ (.int .i64 si)).setCell ⟨w.heap.size + 1, 1, none⟩ (.int .i64 st)).setCell ⟨w.heap.size + 1, 2, none⟩ (.slice (some ⟨gv, 0, none⟩) n (n + 12))).setCell ⟨w.heap.size + 1, 3, none⟩ (.slice (some ⟨gi, 0, none⟩) m (m + 12)) = w7 at hk7 hg7 ⊢
  have hv7 : LentI w7 w2.heap.size gv xs := own_blocks4 HV6.out (fun g h1 h2 => hg7.block g h2 (by simp; omega))
  have ho7 : LentB w7 w4.heap.size gi im := own_blocks4 HO6.out (fun g h1 h2 => hg7.block g h2 (by simp; omega))
  refine bodyPost_ret (results_cell_row rfl _ _ (w.heap.size + 1) 25 _ _ _ rfl hk7 Tryz.underlying25 rfl (info_sn _ _ _ _)) rfl ⟨⟨si, st, some ⟨gv, 0, none⟩, xs, n + 12, some ⟨gi, 0, none⟩, im, m + 12⟩, ?_, rfl, ⟨⟨gv, rfl, ?_, hv7.le (by omega)⟩, ⟨gi, rfl, ?_, Go.Joins.ownsRow_le ho7 (by omega)⟩⟩, HB6.out.grown hg7 HB6.out.size (fun k hk => by cases hk; exact Nat.le_succ _)⟩
  · dsimp only [snVal]; rw [HN.out, HM.out]
  · dsimp only; rw [HN.out]
  · dsimp only; rw [HM.out]
set_option maxHeartbeats 4000000 in
theorem keptSn_any (x l : Sn) (w : World) (B : Nat) (hp : x.plain = l.plain) (hL : SnLent w B x) (hx : snSub w w.heap.size l) (hf : SnFine l) :
    Calls Tryz.prog 8 #[snVal x, snVal l] w fun e w' => e = .returned (.bool true) ∧ Below w.heap.size w w' := by
  have hss : ∀ w', Below w.heap.size w w' → Calls Tryz.prog 18 #[snVal x, snVal l] w' fun e w'' => e = .returned (.bool true) ∧ Below w'.heap.size w' w'' := fun w' hb => by
    have hfx := hL.fine hp hf
    exact sameSnap_any x l w' (snSub_mono (snSub_below hL.sub hb (Nat.le_refl _)) hb.size) (snSub_mono (snSub_below hx hb (Nat.le_refl _)) hb.size) hp hfx.vn hfx.ln
  obtain ⟨⟨g', h1', h2', h3'⟩, ⟨g'', h1'', h2'', h3''⟩⟩ := hL
  have l2 := hf.vn
  have l3 := hf.ln
  obtain ⟨si, st, va, xs, vc, ia, im, ic⟩ := x
  obtain ⟨si2, st2, va2, xs2, vc2, ia2, im2, ic2⟩ := l
  simp only [Sn.plain, SnP.mk.injEq] at hp
  obtain ⟨rfl, rfl, rfl, rfl⟩ := hp
  dsimp only at h1' h2' h3' h1'' h2'' h3'' l2 l3 hx
  subst h1' h2' h1'' h2''
  dsimp only [snVal] at hss ⊢
  obtain ⟨n, hn⟩ : ∃ n, xs.length = n := ⟨_, rfl⟩
  obtain ⟨m, hm⟩ : ∃ m, im.length = m := ⟨_, rfl⟩
  rw [hn] at l2 hss ⊢
  rw [hm] at l3 hss ⊢
  have HS := Lib.hid hss
  have HKI := Lib.hid (show ∀ w', Below w.heap.size w w' → Calls Tryz.prog 34 #[.slice (some ⟨g', 0, none⟩) n (n + 12), .slice va2 n vc2] w' fun e w'' => e = .returned (.bool true) ∧ Below w'.heap.size w' w'' from fun w' hb => by
    have h := keptI_any va2 n vc2 g' B xs w' hn ((hx.1.below noSub_kept hb (Nat.le_refl _)).mono noSub_rising hb.size) (h3'.below hb (Nat.le_refl _)) (by omega)
    exact h)
  have HKB := Lib.hid (show ∀ w', Below w.heap.size w w' → Calls Tryz.prog 15 #[.slice (some ⟨g'', 0, none⟩) m (m + 12), .slice ia2 m ic2] w' fun e w'' => e = .returned (.bool true) ∧ Below w'.heap.size w' w'' from fun w' hb => by
    have h := keptB_any ia2 ic2 g'' B im w' ((hx.2.below hb (Nat.le_refl _)).mono hb.size) (own_below h3'' hb (Nat.le_refl _)) (by omega)
    rw [hm] at h
    exact h)
  obtain ⟨hb2, h1, h2, hz2⟩ := alloc2_facts w #[.int .i64 si, .int .i64 st, .slice (some ⟨g', 0, none⟩) n (n + 12), .slice (some ⟨g'', 0, none⟩) m (m + 12)] #[.int .i64 si, .int .i64 st, .slice va2 n vc2, .slice ia2 m ic2] 25 25
  have HB2 := Lib.hid hb2
  have H1 := Lib.hid h1
  have H2 := Lib.hid h2
  have HZ := Lib.hid (Nat.le_of_eq hz2.symm)
  clear hb2 h1 h2 hz2 hss hx hn hm h3' h3'' hf
  go_enter Tryz.func8, Tryz.ntmps8
  go_upto_region 1 with fail
  have hb2 := HB2.out
  have h1 := H1.out
  have h2 := H2.out
  have hz2 := HZ.out
  clear HB2 H1 H2 HZ
  generalize (w.alloc (.cells #[.int .i64 si, .int .i64 st, .slice (some ⟨g', 0, none⟩) n (n + 12), .slice (some ⟨g'', 0, none⟩) m (m + 12)] 25)).alloc (.cells #[.int .i64 si, .int .i64 st, .slice va2 n vc2, .slice ia2 m ic2] 25) = w2 at hb2 h1 h2 hz2 ⊢
  have HB2 := Lib.hid hb2
  have H1 := Lib.hid h1
  have H2 := Lib.hid h2
  have hs2 := hb2.size
  have g0 := Go.Joins.cell_of_block h1 0
  have g1 := Go.Joins.cell_of_block h1 1
  have g2 := Go.Joins.cell_of_block h1 2
  have g3 := Go.Joins.cell_of_block h1 3
  have e0 := Go.Joins.cell_of_block h2 0
  have e1 := Go.Joins.cell_of_block h2 1
  have e2 := Go.Joins.cell_of_block h2 2
  have e3 := Go.Joins.cell_of_block h2 3
  clear hb2 h1 h2
  go_wp2_with fail
  refine (HS.out w2 HB2.out).mono ?_
  rintro e w3 ⟨rfl, b3⟩
  have hs3 := b3.size
  have k1 := (b3.block w.heap.size (by omega)).trans H1.out
  have k2 := (b3.block (w.heap.size + 1) (by omega)).trans H2.out
  have HB3 := Lib.hid (HB2.out.trans (b3.mono hs2))
  have K1 := Lib.hid k1
  have K2 := Lib.hid k2
  clear g0 g1 g2 g3 e0 e1 e2 e3 b3 H1 H2 HB2
  have g2 := Go.Joins.cell_of_block k1 2
  have e2 := Go.Joins.cell_of_block k2 2
  clear k1 k2
  go_wp2_with fail
  refine (HKI.out w3 HB3.out).mono ?_
  rintro e w4 ⟨rfl, b4⟩
  have hs4 := b4.size
  have k1 := (b4.block w.heap.size (by omega)).trans K1.out
  have k2 := (b4.block (w.heap.size + 1) (by omega)).trans K2.out
  have HB4 := Lib.hid (HB3.out.trans (b4.mono (by omega)))
  clear g2 e2 b4 K1 K2 HB3
  have g3 := Go.Joins.cell_of_block k1 3
  have e3 := Go.Joins.cell_of_block k2 3
  clear k1 k2
  go_wp2_with fail
  refine (HKB.out w4 HB4.out).mono ?_
  rintro e w5 ⟨rfl, b5⟩
  clear g3 e3
  go_wp2_with fail
  go_ret
  exact ⟨rfl, HB4.out.trans (b5.mono HB4.out.size)⟩
/-- A snap whose lists may be written over. -/
structure SnRoom (w : World) (B T : Nat) (x : Sn) : Prop where
  vs : Room w B T 3 1 x.va x.vs.length x.vc
  im : Room w B T 5 1 x.ia x.im.length x.ic
theorem SnLent.room {w w' : World} {B : Nat} {x : Sn} (h : SnLent w B x) (hb : Below w.heap.size w w') : SnRoom w' B w.heap.size x := by
  obtain ⟨⟨g', h1', h2', h3'⟩, ⟨g'', h1'', h2'', h3''⟩⟩ := h
  refine ⟨?_, ?_⟩
  · rw [h1', h2']; exact Room.below ⟨g', rfl, h3'.lt.1, h3'.lt.2, rfl, Blk.of_own h3'⟩ hb
  · rw [h1'', h2'']; exact Room.below ⟨g'', rfl, (World.ownsRow.lt h3'' g'' rfl).1, (World.ownsRow.lt h3'' g'' rfl).2, rfl, Blk.of_own h3''⟩ hb
def overSnTs : List TypeId := [3, 5]
set_option maxHeartbeats 4000000 in
theorem overSn_any (x : Sn) (w : World) (B T : Nat) (h : SnRoom w B T x) (hf : SnFine x) (hB : B ≤ w.heap.size) (hT : T ≤ w.heap.size) :
    Calls Tryz.prog 9 #[snVal x] w fun e w' => e = .returned (.tuple #[]) ∧ OverK B T overSnTs w w' := by
  obtain ⟨r4, r5⟩ := h
  have l2 := hf.vn
  have l3 := hf.ln
  obtain ⟨si, st, va, xs, vc, ia, im, ic⟩ := x
  dsimp only at r4 r5 l2 l3
  obtain ⟨n, hn⟩ : ∃ n, xs.length = n := ⟨_, rfl⟩
  obtain ⟨m, hm⟩ : ∃ m, im.length = m := ⟨_, rfl⟩
  dsimp only [snVal]
  rw [hn] at r4 l2 ⊢
  rw [hm] at r5 l3 ⊢
  have hb1 := (Below.refl w.heap.size w).alloc (Nat.le_refl _) (.cells #[.int .i64 si, .int .i64 st, .slice va n vc, .slice ia m ic] 25)
  have hk1 := heap_alloc_new w (.cells #[.int .i64 si, .int .i64 st, .slice va n vc, .slice ia m ic] 25)
  have HB1 := Lib.hid hb1
  have HK1 := Lib.hid hk1
  have R4 := Lib.hid (r4.below hb1)
  have R5 := Lib.hid (r5.below hb1)
  clear hb1 hk1 r4 r5 hf hn hm
  go_enter Tryz.func9, Tryz.ntmps9
  go_upto_region 1 with fail
  have hk1 := HK1.out
  have hb1 := HB1.out
  have r4 := R4.out
  have r5 := R5.out
  clear HK1 HB1 R4 R5
  generalize w.alloc (.cells #[.int .i64 si, .int .i64 st, .slice va n vc, .slice ia m ic] 25) = w1 at hk1 hb1 r4 r5 ⊢
  have hs1 := hb1.size
  have c2 := Go.Joins.cell_of_block hk1 2
  have HK1 := Lib.hid hk1
  have R4 := Lib.hid r4
  have R5 := Lib.hid r5
  have HO := Lib.hid ((OverK.refl B T overSnTs w).then_below hb1 hB)
  have hlt := (Array.getElem?_eq_some_iff.1 hk1).1
  clear hk1 hb1 r4 r5
  go_wp2_with fail
  refine (overI_room B T va n vc w1 R4.out (by omega)).mono ?_
  rintro e w2 ⟨rfl, ho⟩
  have hk2 : w2.heap[w.heap.size]? = some (.cells #[.int .i64 si, .int .i64 st, .slice va n vc, .slice ia m ic] 25 (0, 0)) := (ho.mid.far _ hT hlt).trans HK1.out
  have c3 := Go.Joins.cell_of_block hk2 3
  have HR5 := Lib.hid (R5.out.over ho)
  have HO2 := Lib.hid (HO.out.trans ho (by decide))
  clear hk2 ho c2
  go_wp2_with fail
  refine (overB_room B T ia m ic w2 HR5.out (by omega)).mono ?_
  rintro e w3 ⟨rfl, ho⟩
  clear c3
  go_wp2_with fail
  go_end0
  exact ⟨rfl, HO2.out.trans ho (by decide)⟩
end Go.Proofs.YtnkjoihnniiidaaGreatDoor
/- The reader of the document's answer: bytes. Conditions: its bytes lie as their reading says. -/
namespace Go.Proofs.YtnkjoihnniiidaaGreatDoor
open Go.RowKit
set_option maxRecDepth 20000
/-- Which bytes a reader reads. -/
structure RefZ where
  ao : Option Addr
  m : Nat
  cap : Nat
  xs : List Int
variable {Z : RefZ}
/-- Block db is a reader of the document's: its bytes, how many were read, whether it is bad. -/
structure RefIs (Z : RefZ) (w : World) (M db : Nat) (bad : Bool) (k : Nat) (ao : Option Addr) (m cap : Nat) (xs : List Int) : Prop where
  blk : w.heap[db]? = some (.cells #[.slice ao m cap, .int .i64 k, .bool bad] 109 (0, 0))
  off : BytesOff w M db ao xs
  len : xs.length = m
  room : m ≤ cap
  nil : ao = none → cap = 0
  at_ : k ≤ m
  le : M ≤ w.heap.size
  lim : m ≤ 140737488351232
  z : Z = ⟨ao, m, cap, xs⟩
theorem RefIs.lt {w : World} {M db k m cap : Nat} {bad : Bool} {ao : Option Addr} {xs : List Int} (h : RefIs Z w M db bad k ao m cap xs) : db < w.heap.size := (Array.getElem?_eq_some_iff.1 h.blk).1
/-- The document's reader, with what is left. -/
def Ref (Z : RefZ) (w : World) (M db : Nat) (bad : Bool) (left : List Int) : Prop := ∃ k ao m cap xs, RefIs Z w M db bad k ao m cap xs ∧ left = xs.drop k
theorem Ref.lt {w : World} {M db : Nat} {bad : Bool} {left : List Int} (h : Ref Z w M db bad left) : db < w.heap.size := by obtain ⟨_, _, _, _, _, h, _⟩ := h; exact h.lt
theorem Ref.le {w : World} {M db : Nat} {bad : Bool} {left : List Int} (h : Ref Z w M db bad left) : M ≤ w.heap.size := by obtain ⟨_, _, _, _, _, h, _⟩ := h; exact h.le
theorem RefIs.below {w w' : World} {M db k m cap B : Nat} {bad : Bool} {ao : Option Addr} {xs : List Int} (h : RefIs Z w M db bad k ao m cap xs) (hb : Below B w w') (hB : w.heap.size ≤ B) : RefIs Z w' M db bad k ao m cap xs :=
  ⟨(hb.block db (Nat.lt_of_lt_of_le h.lt hB)).trans h.blk, h.off.only h.le (Only.of_below (hb.mono hB)), h.len, h.room, h.nil, h.at_, Nat.le_trans h.le hb.size, h.lim, h.z⟩
theorem Ref.below {w w' : World} {M db : Nat} {bad : Bool} {left : List Int} (h : Ref Z w M db bad left) (hb : Below w.heap.size w w') : Ref Z w' M db bad left := by
  obtain ⟨k, ao, m, cap, xs, h, hl⟩ := h
  exact ⟨k, ao, m, cap, xs, h.below hb (Nat.le_refl _), hl⟩
theorem RefIs.setBad {w : World} {M db k m cap : Nat} {bad : Bool} {ao : Option Addr} {xs : List Int} (h : RefIs Z w M db bad k ao m cap xs) (x : Bool) : RefIs Z (w.setCell ⟨db, 2, none⟩ (.bool x)) M db x k ao m cap xs :=
  ⟨Go.Joins.block_setCell (i := 2) h.blk (.bool x), h.off.only h.le (Only.set _ _ _ _), h.len, h.room, h.nil, h.at_, by simpa using h.le, h.lim, h.z⟩
theorem Ref.setBad {w : World} {M db : Nat} {bad : Bool} {left : List Int} (h : Ref Z w M db bad left) (x : Bool) : Ref Z (w.setCell ⟨db, 2, none⟩ (.bool x)) M db x left := by
  obtain ⟨k, ao, m, cap, xs, h, hl⟩ := h
  exact ⟨k, ao, m, cap, xs, h.setBad x, hl⟩
theorem BytesOff.other {w : World} {M rb g i : Nat} {ao : Option Addr} {xs : List Int} (h : BytesOff w M rb ao xs) (hg : M ≤ g) (v : Value) : BytesOff (w.setCell ⟨g, i, none⟩ v) M rb ao xs := by
  rcases h with h0 | ⟨b, off, h1, h2, h4, h3⟩
  · exact Or.inl h0
  · exact Or.inr ⟨b, off, h1, h2, h4, fun j hj => (cell_block (heap_setCell_other _ _ _ _ (show b ≠ g by omega))).trans (h3 j hj)⟩
theorem Ref.other {w : World} {M db g i : Nat} {bad : Bool} {left : List Int} (h : Ref Z w M db bad left) (hg : M ≤ g) (hr : g ≠ db) (v : Value) : Ref Z (w.setCell ⟨g, i, none⟩ v) M db bad left := by
  obtain ⟨k, ao, m, cap, xs, h, hl⟩ := h
  exact ⟨k, ao, m, cap, xs, ⟨(heap_setCell_other _ _ _ _ (Ne.symm hr)).trans h.blk, h.off.other hg v, h.len, h.room, h.nil, h.at_, by simpa using h.le, h.lim, h.z⟩, hl⟩
theorem Ref.grown {w w' : World} {M db : Nat} {bad : Bool} {left : List Int} {row : Option Nat} (h : Ref Z w M db bad left) (hg : w.grownBy w' row) (hr : ∀ g, row = some g → M ≤ g ∧ g ≠ db) : Ref Z w' M db bad left := by
  obtain ⟨k, ao, m, cap, xs, h, hl⟩ := h
  refine ⟨k, ao, m, cap, xs, ⟨(hg.block db h.lt (fun e => (hr db e.symm).2 rfl)).trans h.blk, ?_, h.len, h.room, h.nil, h.at_, Nat.le_trans h.le hg.size, h.lim, h.z⟩, hl⟩
  rcases h.off with h0 | ⟨b, off, h1, h2, h4, h3⟩
  · exact Or.inl h0
  · exact Or.inr ⟨b, off, h1, h2, h4, fun j hj => (cell_block (hg.block b (by have := h.le; omega) (fun e => by have := (hr b e.symm).1; omega))).trans (h3 j hj)⟩
theorem BytesOff.sub {w : World} {M db : Nat} {ao : Option Addr} {xs : List Int} {cap : Nat} (l h : Nat) (hx : BytesOff w M db ao xs) (hc : xs.length ≤ cap) : BytesIn w M (subA ao cap l 1) ((xs.drop l).take h) := BytesIn.sub l h hx.in hc
/- The reader of the document's answer: said, count, Number, Text. Conditions: its bytes lie as their reading says. -/
/- The reader of the document's answer: Value. Conditions: its bytes lie as their reading says. -/
/- The reader of the document's answer: Values. Conditions: its bytes lie as their reading says. -/
end Go.Proofs.YtnkjoihnniiidaaGreatDoor
/- Numbers that are brought into a kind have the same bytes. No program. Conditions: as each says. -/
namespace Go.Proofs.YtnkjoihnniiidaaGreatDoor
theorem numB_mod (n k : Int) : numB 8 (n + 18446744073709551616 * k) = numB 8 n := by
  unfold numB
  have e : List.range 8 = [0, 1, 2, 3, 4, 5, 6, 7] := rfl
  rw [e]
  simp only [List.map_cons, List.map_nil, Nat.reduceSub, Nat.reduceMul, Int.reducePow, List.cons.injEq, and_true]
  refine ⟨by omega, by omega, by omega, by omega, by omega, by omega, by omega, by omega⟩
theorem wrapU_eq (n : Int) : IntKind.u64.wrap n = n % 18446744073709551616 := by
  show (if (false && decide (n % 2 ^ 64 ≥ (2 ^ 63 : Int))) = true then n % 2 ^ 64 - 2 ^ 64 else n % 2 ^ 64) = _
  have e2 : (2 : Int) ^ 64 = 18446744073709551616 := by decide
  rw [e2]
  rfl
theorem wrapU_range (n : Int) : 0 ≤ IntKind.u64.wrap n ∧ IntKind.u64.wrap n < 18446744073709551616 := by
  rw [wrapU_eq]; omega
theorem numB_wrapU (n : Int) : numB 8 (IntKind.u64.wrap n) = numB 8 n := by
  have h : IntKind.u64.wrap n = n + 18446744073709551616 * (-(n / 18446744073709551616)) := by rw [wrapU_eq]; omega
  rw [h, numB_mod]
end Go.Proofs.YtnkjoihnniiidaaGreatDoor
/- The document's writers: the bytes of a number, a text, a value, a row of values. Conditions: what is written is not too long. -/
namespace Go.Proofs.YtnkjoihnniiidaaGreatDoor
open Go.RowKit
set_option maxRecDepth 20000
theorem rnumber_any (n : Int) (size : Nat) (w : World) (hs : size ≤ 8) (hn : 0 ≤ n) (hn2 : n < 18446744073709551616) :
    Calls Tryz.prog 75 #[.int .u64 n, .int .i64 size] w (RNew (numB size n) w) := by
  have w0 : IntKind.i64.wrap ((size : Int) - 1) = (size : Int) - 1 := IntWalk.i64_in _ (by omega)
  go_enter Tryz.func75, Tryz.ntmps75
  go_wp2_with fail
  go_loopw [5, 6] (fun v i wr => ∃ (q : Nat) (a : Option Addr) (c : Nat), q ≤ size ∧ i = .int .i64 ((size : Int) - 1 - q) ∧ v = .slice a q c ∧ BOwn wr w.heap.size a q c ((numB size n).take q) ∧ Below w.heap.size w wr) (fun _ i _ => (intOf i + 1).toNat)
  case atStart => exact ⟨0, none, 0, by omega, by simp, rfl, ⟨rfl, World.ownsRow_nil _ _ _ _⟩, Below.refl _ _⟩
  case round =>
    clear w0
    obtain ⟨q, a, c, hq, rfl, rfl, hown, hbel⟩ := hrel
    have HO := Lib.hid hown
    clear hown
    by_cases hltq : q < size
    · obtain ⟨p, hp⟩ : ∃ p : Nat, p = size - 1 - q := ⟨_, rfl⟩
      have hpe : (size : Int) - 1 - q = p := by omega
      have hnt := numB_take size n q hltq
      rw [← hp] at hnt
      have HNT := Lib.hid hnt
      have hp8 : p ≤ 7 := by omega
      have w3 : IntKind.i64.wrap (8 * (p : Int)) = 8 * p := IntWalk.i64_in _ (by omega)
      have w4 : IntKind.u64.wrap (8 * (p : Int)) = 8 * p := IntWalk.u64_in _ (by omega)
      have n3 : ((8 : Int) * p).toNat = 8 * p := by omega
      have g3 : (0 : Int) ≤ 8 * p := by omega
      have HPE := Lib.hid hpe
      have hs2 := hbel.size
      rw [hpe]
      clear hnt hp hpe
      go_wp2_with (at_builtin; refine wpList_append_bo rfl (.tmp 13) (.tmp 20) rfl w.heap.size rfl (HO.out.below ((Below.refl wr.heap.size wr).alloc (Nat.le_refl _) _) (Nat.le_refl _)) rfl rfl _ (BOwn.lit wr [n / 2 ^ (8 * p) % 256] (by simp)).in (fun h => by cases h) (by omega) (by simp; omega) ?_)
      intro a2 n2 c2 w5 hown5 hg5 hn5
      have hb5 : Below w.heap.size w w5 := (hbel.alloc hs2 _).grown hg5 (by simp; omega) (fun k hk => (HO.out.lt k hk).1)
      rw [← HNT.out] at hown5
      have HO5 := Lib.hid hown5
      have HN5 := Lib.hid hn5
      clear hown5 hg5 hn5
      go_wp2_with fail
      go_roundw
      case rel => exact ⟨q + 1, a2, c2, by omega, by have := HPE.out; congr 1; push_cast; omega, by rw [HN5.out], by have := HO5.out; rw [HN5.out] at this; exact this, hb5⟩
      case measure => first | (simp [intOf]; done) | (have := HPE.out; simp [intOf]; omega)
    · have hqe : q = size := by omega
      have hown5 := HO.out
      rw [hqe, List.take_of_length_le (l := numB size n) (by rw [numB_len]; exact Nat.le_refl _)] at hown5
      have HO5 := Lib.hid hown5
      have g5 : (size : Int) - 1 - q < 0 := by omega
      subst hqe
      clear hown5
      go_wp2_with fail
      go_ret
      exact ⟨a, _, c, rfl, HO5.out, hbel⟩
theorem rNumber_any (n : Int) (L : List Int) (w : World) (hL : numB 8 n = L) :
    Calls Tryz.prog 37 #[.int .i64 n] w (RNew L w) := by
  have hw : numB 8 (IntKind.u64.wrap n) = L := by rw [← hL, numB_wrapU]
  have h0 : 0 ≤ IntKind.u64.wrap n ∧ IntKind.u64.wrap n < 18446744073709551616 := wrapU_range n
  obtain ⟨m, hm⟩ : ∃ m, IntKind.u64.wrap n = m := ⟨_, rfl⟩
  rw [hm] at hw h0
  subst hw
  clear hL
  go_enter Tryz.func37, Tryz.ntmps37
  go_wp2_with fail
  refine (rnumber_any m 8 w (by decide) h0.1 h0.2).mono ?_
  rintro e w2 ⟨a, k, c, rfl, ho, hb⟩
  have HO := Lib.hid ho
  clear ho
  go_wp2_with fail
  go_ret
  exact ⟨a, k, c, rfl, HO.out, hb⟩
end Go.Proofs.YtnkjoihnniiidaaGreatDoor
