/- LentSnap, KeptSnap, OverSnap. Conditions: the snaps lie as their readings say. -/
import Derived.Test.YtejgebpdipnhmaaGreatDoorGSnapNumbers13
import Derived.Test.YtejgebpdipnhmaaGreatDoorGSnapNumbers14
import Derived.Test.YtejgebpdipnhmaaGreatDoorGSnapNumbers16
import Derived.Test.YtejgebpdipnhmaaGreatDoorGSnapNumbers1
import Derived.Test.YtejgebpdipnhmaaGreatDoorGSnapNumbers2
import Derived.Test.YtejgebpdipnhmaaGreatDoorGSnapNumbers4
import Derived.Maps.AppendAt
set_option linter.unusedVariables false
set_option linter.unusedSimpArgs false
namespace Go.Proofs.YtejgebpdipnhmaaGreatDoor
open Go.RowKit
set_option maxRecDepth 20000
/-- A snap whose lists are lent. -/
structure SnLent (w : World) (B : Nat) (x : Sn) : Prop where
  vs : ∃ g, x.va = some ⟨g, 0, none⟩ ∧ x.vc = x.vs.length + 12 ∧ LentI w B g x.vs
  im : ∃ g, x.ia = some ⟨g, 0, none⟩ ∧ x.ic = x.im.length + 12 ∧ LentB w B g x.im
theorem slentB_rows {w : World} {B g : Nat} {xs : List Int} (h : LentB w B g xs) : BytesIn w w.heap.size (some ⟨g, 0, none⟩) xs := by
  refine Or.inr ⟨g, 0, rfl, ownsRow_ltB h, fun i hi => ?_⟩
  rw [Nat.zero_add, World.ownsRow.cellAt h i (by omega), List.getElem?_map, List.getElem?_append_left hi, List.getElem?_eq_getElem hi]
  simp [bv, List.getD, hi]
theorem own_blocks4 {w w' : World} {base e size n : Nat} {v : Value} {xs : List Value} (h : w.ownsRow base e size v n xs) (hs : ∀ g, base ≤ g → g < w.heap.size → w'.heap[g]? = w.heap[g]?) : w'.ownsRow base e size v n xs := by
  refine ⟨h.1, h.2.imp id ?_⟩
  rintro ⟨g, cap, cur, h1, h2, h3, h4, h5, h6, h7⟩
  exact ⟨g, cap, cur, h1, h2, (hs g h2 (Array.getElem?_eq_some_iff.1 h3).1).trans h3, h4, h5, h6, h7⟩
theorem SnLent.below {w w' : World} {B B' : Nat} {x : Sn} (h : SnLent w B x) (hb : Below B' w w') (hB : w.heap.size ≤ B') : SnLent w' B x := by
  obtain ⟨⟨g', h1', h2', h3'⟩, ⟨g'', h1'', h2'', h3''⟩⟩ := h
  exact ⟨⟨g', h1', h2', own_below h3' hb hB⟩, ⟨g'', h1'', h2'', own_below h3'' hb hB⟩⟩
theorem SnLent.sub {w : World} {B : Nat} {x : Sn} (h : SnLent w B x) : snSub w w.heap.size x := by
  obtain ⟨⟨g', h1', h2', h3'⟩, ⟨g'', h1'', h2'', h3''⟩⟩ := h
  refine ⟨?_, ?_⟩
  · rw [h1']; exact RowsIn.mono noSub_rising h3'.rows h3'.lt.2
  · rw [h1'']; exact slentB_rows h3''
theorem SnLent.fine {w : World} {B : Nat} {x l : Sn} (h : SnLent w B x) (hp : x.plain = l.plain) (hf : SnFine l) : SnFine x := by
  obtain ⟨⟨g', h1', h2', h3'⟩, ⟨g'', h1'', h2'', h3''⟩⟩ := h
  obtain ⟨si, st, va, vs, vc, ia, im, ic⟩ := x
  obtain ⟨si2, st2, va2, vs2, vc2, ia2, im2, ic2⟩ := l
  simp only [Sn.plain, SnP.mk.injEq] at hp
  obtain ⟨rfl, rfl, rfl, rfl⟩ := hp
  dsimp only at h1' h2' h1'' h2''
  refine ⟨hf.index, hf.term, hf.vs, hf.vn, hf.im, hf.ln, ?_, ?_, by dsimp only; omega, by dsimp only; omega⟩
  · intro h; dsimp only at h; rw [h1'] at h; cases h
  · intro h; dsimp only at h; rw [h1''] at h; cases h
def LentSnPost (l : Sn) (w : World) (e : Ending) (w' : World) : Prop := ∃ x : Sn, e = .returned (snVal x) ∧ x.plain = l.plain ∧ SnLent w' w.heap.size x ∧ Below w.heap.size w w'
set_option maxHeartbeats 4000000 in
theorem lentSn_any (x : Sn) (w : World) (hx : snSub w w.heap.size x) (hf : SnFine x) :
    Calls Tryz.prog 11 #[snVal x] w (LentSnPost x w) := by
  obtain ⟨si, st, va, xs, vc, ia, im, ic⟩ := x
  dsimp only [snVal] at hx ⊢
  obtain ⟨f1, f2, f3, f4, f5, f6, f7, f8, f9, f10⟩ := hf
  dsimp only at f1 f2 f3 f4 f5 f6 f7 f8 f9 f10
  obtain ⟨n, hn⟩ : ∃ n, xs.length = n := ⟨_, rfl⟩
  obtain ⟨m, hm⟩ : ∃ m, im.length = m := ⟨_, rfl⟩
  rw [hn] at f4 ⊢
  rw [hm] at f6 ⊢
  have hb1 := (Below.refl w.heap.size w).alloc (Nat.le_refl _) (.cells #[.int .i64 si, .int .i64 st, .slice va n vc, .slice ia m ic] 26)
  have hk1 := heap_alloc_new w (.cells #[.int .i64 si, .int .i64 st, .slice va n vc, .slice ia m ic] 26)
  have hs1 : (w.alloc (.cells #[.int .i64 si, .int .i64 st, .slice va n vc, .slice ia m ic] 26)).heap.size = w.heap.size + 1 := by simp
  have hb12 := (Below.refl _ (w.alloc (.cells #[.int .i64 si, .int .i64 st, .slice va n vc, .slice ia m ic] 26))).alloc (Nat.le_refl _) (.cells #[.int .i64 0, .int .i64 0, .slice none 0 0, .slice none 0 0] 26)
  have hk2 := heap_alloc_new (w.alloc (.cells #[.int .i64 si, .int .i64 st, .slice va n vc, .slice ia m ic] 26)) (.cells #[.int .i64 0, .int .i64 0, .slice none 0 0, .slice none 0 0] 26)
  have hk12 := (hb12.block w.heap.size (by omega)).trans hk1
  have hs2 : w.heap.size + 2 ≤ ((w.alloc (.cells #[.int .i64 si, .int .i64 st, .slice va n vc, .slice ia m ic] 26)).alloc (.cells #[.int .i64 0, .int .i64 0, .slice none 0 0, .slice none 0 0] 26)).heap.size := by simp
  rw [hs1] at hk2
  have HB2 := Lib.hid (hb1.trans (hb12.mono hb1.size))
  have HK1 := Lib.hid hk12
  have HK2 := Lib.hid hk2
  have HX1 := Lib.hid hx.1
  have HX2 := Lib.hid hx.2
  have HN := Lib.hid hn
  have HM := Lib.hid hm
  have HV := Lib.hid f7
  have HI := Lib.hid f8
  clear hb1 hk1 hs1 hb12 hk2 hk12 hx hn hm f1 f2 f3 f5 f7 f8 f9 f10
  go_enter Tryz.func11, Tryz.ntmps11
  go_upto_region 1 with fail
  generalize (w.alloc (.cells #[.int .i64 si, .int .i64 st, .slice va n vc, .slice ia m ic] 26)).alloc (.cells #[.int .i64 0, .int .i64 0, .slice none 0 0, .slice none 0 0] 26) = w2 at HB2 HK1 HK2 hs2 ⊢
  have c2 := Go.Joins.cell_of_block HK1.out 2
  go_wp2_with fail
  refine (lentI_any va n vc xs w2 HN.out ((HX1.out.below noSub_kept HB2.out (Nat.le_refl _)).mono noSub_rising HB2.out.size) HV.out (by omega)).mono ?_
  rintro e w3 ⟨gv, rfl, hgv1, hgv2, ho3, hb3⟩
  have hz3 := hb3.size
  have hk3 := (hb3.block w.heap.size (by omega)).trans HK1.out
  have HK3 := Lib.hid hk3
  have HR3 := Lib.hid ((hb3.block (w.heap.size + 1) (by omega)).trans HK2.out)
  have HB3 := Lib.hid (HB2.out.trans (hb3.mono HB2.out.size))
  have HO3 := Lib.hid ho3
  have u2 := Go.Joins.unfrozen_of_block hk3 2
  have c2' := Go.Joins.cell_of_block hk3 2
  clear c2 hb3 hk3 ho3
  go_upto_region 2 with fail
  have hk4 : (w3.setCell ⟨w.heap.size, 2, none⟩ (.slice (some ⟨gv, 0, none⟩) n (n + 12))).heap[w.heap.size]? = some (.cells #[.int .i64 si, .int .i64 st, .slice (some ⟨gv, 0, none⟩) n (n + 12), .slice ia m ic] 26 (0, 0)) := by
    have h := Go.Joins.block_setCell (i := 2) HK3.out (.slice (some ⟨gv, 0, none⟩) n (n + 12))
    simpa using h
  have hg4 : w3.grownBy _ (some w.heap.size) := grown_set w3 ⟨w.heap.size, 2, none⟩ (.slice (some ⟨gv, 0, none⟩) n (n + 12))
  clear u2 c2'
  generalize w3.setCell ⟨w.heap.size, 2, none⟩ (.slice (some ⟨gv, 0, none⟩) n (n + 12)) = w4 at hk4 hg4 ⊢
  have hz4 := hg4.size
  have HK4 := Lib.hid hk4
  have HR4 := Lib.hid ((hg4.block (w.heap.size + 1) (by omega) (by simp)).trans HR3.out)
  have HB4 := Lib.hid (HB3.out.grown hg4 HB3.out.size (fun k hk => by cases hk; exact Nat.le_refl _))
  have HO4 := Lib.hid (show LentI w4 w2.heap.size gv xs from own_blocks4 HO3.out (fun g h1 h2 => hg4.block g h2 (by simp; omega)))
  have c3 := Go.Joins.cell_of_block hk4 3
  clear hk4 hg4
  go_wp2_with fail
  have hcall := lentB_any ia ic im w4 ((HX2.out.below HB4.out (Nat.le_refl _)).mono HB4.out.size) HI.out (by rw [HM.out]; omega)
  unfold LentBPost at hcall
  rw [HM.out] at hcall
  refine hcall.mono ?_
  clear hcall
  rintro e w5 ⟨gi, rfl, hgi1, hgi2, ho5, hb5⟩
  have hz5 := hb5.size
  have hk5 := (hb5.block w.heap.size (by omega)).trans HK4.out
  have HK5 := Lib.hid hk5
  have HR5 := Lib.hid ((hb5.block (w.heap.size + 1) (by omega)).trans HR4.out)
  have HB5 := Lib.hid (HB4.out.trans (hb5.mono HB4.out.size))
  have HO5 := Lib.hid ho5
  have HV5 := Lib.hid (HO4.out.below hb5 (Nat.le_refl _))
  have u3 := Go.Joins.unfrozen_of_block hk5 3
  have c3' := Go.Joins.cell_of_block hk5 3
  clear c3 hb5 hk5 ho5
  go_upto_region 3 with fail
  have hk6 : (w5.setCell ⟨w.heap.size, 3, none⟩ (.slice (some ⟨gi, 0, none⟩) m (m + 12))).heap[w.heap.size]? = some (.cells #[.int .i64 si, .int .i64 st, .slice (some ⟨gv, 0, none⟩) n (n + 12), .slice (some ⟨gi, 0, none⟩) m (m + 12)] 26 (0, 0)) := by
    have h := Go.Joins.block_setCell (i := 3) HK5.out (.slice (some ⟨gi, 0, none⟩) m (m + 12))
    simpa using h
  have hg6 : w5.grownBy _ (some w.heap.size) := grown_set w5 ⟨w.heap.size, 3, none⟩ (.slice (some ⟨gi, 0, none⟩) m (m + 12))
  clear u3 c3'
  generalize w5.setCell ⟨w.heap.size, 3, none⟩ (.slice (some ⟨gi, 0, none⟩) m (m + 12)) = w6 at hk6 hg6 ⊢
  have hz6 := hg6.size
  have hr6 := (hg6.block (w.heap.size + 1) (by omega) (by simp)).trans HR5.out
  have HR6 := Lib.hid hr6
  have HB6 := Lib.hid (HB5.out.grown hg6 HB5.out.size (fun k hk => by cases hk; exact Nat.le_refl _))
  have HV6 := Lib.hid (show LentI w6 w2.heap.size gv xs from own_blocks4 HV5.out (fun g h1 h2 => hg6.block g h2 (by simp; omega)))
  have HO6 := Lib.hid (show LentB w6 w4.heap.size gi im from own_blocks4 HO5.out (fun g h1 h2 => hg6.block g h2 (by simp; omega)))
  have g0 := Go.Joins.cell_of_block hk6 0
  have g1 := Go.Joins.cell_of_block hk6 1
  have g2 := Go.Joins.cell_of_block hk6 2
  have g3 := Go.Joins.cell_of_block hk6 3
  have u0 := Go.Joins.unfrozen_of_block hr6 0
  have u1 := Go.Joins.unfrozen_of_block hr6 1
  have u2 := Go.Joins.unfrozen_of_block hr6 2
  have u3 := Go.Joins.unfrozen_of_block hr6 3
  have e0 := Go.Joins.cell_of_block hr6 0
  have e1 := Go.Joins.cell_of_block hr6 1
  have e2 := Go.Joins.cell_of_block hr6 2
  have e3 := Go.Joins.cell_of_block hr6 3
  clear hk6 hg6 hr6
  go_wp2_with fail
  have hk7 := block_four (a := .int .i64 si) (b := .int .i64 st) (c := .slice (some ⟨gv, 0, none⟩) n (n + 12)) (d := .slice (some ⟨gi, 0, none⟩) m (m + 12)) HR6.out
  have hg7 := grown_four (w := w6) (g := w.heap.size + 1) (a := .int .i64 si) (b := .int .i64 st) (c := .slice (some ⟨gv, 0, none⟩) n (n + 12)) (d := .slice (some ⟨gi, 0, none⟩) m (m + 12))
  generalize (((w6.setCell ⟨w.heap.size + 1, 0, none⟩ (.int .i64 si)).setCell ⟨w.heap.size + 1, 1, none⟩ (.int .i64 st)).setCell ⟨w.heap.size + 1, 2, none⟩ (.slice (some ⟨gv, 0, none⟩) n (n + 12))).setCell ⟨w.heap.size + 1, 3, none⟩ (.slice (some ⟨gi, 0, none⟩) m (m + 12)) = w7 at hk7 hg7 ⊢
  have hv7 : LentI w7 w2.heap.size gv xs := own_blocks4 HV6.out (fun g h1 h2 => hg7.block g h2 (by simp; omega))
  have ho7 : LentB w7 w4.heap.size gi im := own_blocks4 HO6.out (fun g h1 h2 => hg7.block g h2 (by simp; omega))
  refine bodyPost_ret (results_cell_row rfl _ _ (w.heap.size + 1) 26 _ _ _ rfl hk7 Tryz.underlying26 rfl (info_sn _ _ _ _)) rfl ⟨⟨si, st, some ⟨gv, 0, none⟩, xs, n + 12, some ⟨gi, 0, none⟩, im, m + 12⟩, ?_, rfl, ⟨⟨gv, rfl, ?_, hv7.le (by omega)⟩, ⟨gi, rfl, ?_, Go.Joins.ownsRow_le ho7 (by omega)⟩⟩, HB6.out.grown hg7 HB6.out.size (fun k hk => by cases hk; exact Nat.le_succ _)⟩
  · dsimp only [snVal]; rw [HN.out, HM.out]
  · dsimp only; rw [HN.out]
  · dsimp only; rw [HM.out]
set_option maxHeartbeats 4000000 in
theorem keptSn_any (x l : Sn) (w : World) (B : Nat) (hp : x.plain = l.plain) (hL : SnLent w B x) (hx : snSub w w.heap.size l) (hf : SnFine l) :
    Calls Tryz.prog 12 #[snVal x, snVal l] w fun e w' => e = .returned (.bool true) ∧ Below w.heap.size w w' := by
  have hss : ∀ w', Below w.heap.size w w' → Calls Tryz.prog 25 #[snVal x, snVal l] w' fun e w'' => e = .returned (.bool true) ∧ Below w'.heap.size w' w'' := fun w' hb => by
    have hfx := hL.fine hp hf
    exact sameSnap_any x l w' (snSub_mono (snSub_below hL.sub hb (Nat.le_refl _)) hb.size) (snSub_mono (snSub_below hx hb (Nat.le_refl _)) hb.size) hp hfx.vn hfx.ln
  obtain ⟨⟨g', h1', h2', h3'⟩, ⟨g'', h1'', h2'', h3''⟩⟩ := hL
  have l2 := hf.vn
  have l3 := hf.ln
  obtain ⟨si, st, va, xs, vc, ia, im, ic⟩ := x
  obtain ⟨si2, st2, va2, xs2, vc2, ia2, im2, ic2⟩ := l
  simp only [Sn.plain, SnP.mk.injEq] at hp
  obtain ⟨rfl, rfl, rfl, rfl⟩ := hp
  dsimp only at h1' h2' h3' h1'' h2'' h3'' l2 l3 hx
  subst h1' h2' h1'' h2''
  dsimp only [snVal] at hss ⊢
  obtain ⟨n, hn⟩ : ∃ n, xs.length = n := ⟨_, rfl⟩
  obtain ⟨m, hm⟩ : ∃ m, im.length = m := ⟨_, rfl⟩
  rw [hn] at l2 hss ⊢
  rw [hm] at l3 hss ⊢
  have HS := Lib.hid hss
  have HKI := Lib.hid (show ∀ w', Below w.heap.size w w' → Calls Tryz.prog 42 #[.slice (some ⟨g', 0, none⟩) n (n + 12), .slice va2 n vc2] w' fun e w'' => e = .returned (.bool true) ∧ Below w'.heap.size w' w'' from fun w' hb => by
    have h := keptI_any va2 n vc2 g' B xs w' hn ((hx.1.below noSub_kept hb (Nat.le_refl _)).mono noSub_rising hb.size) (h3'.below hb (Nat.le_refl _)) (by omega)
    exact h)
  have HKB := Lib.hid (show ∀ w', Below w.heap.size w w' → Calls Tryz.prog 22 #[.slice (some ⟨g'', 0, none⟩) m (m + 12), .slice ia2 m ic2] w' fun e w'' => e = .returned (.bool true) ∧ Below w'.heap.size w' w'' from fun w' hb => by
    have h := keptB_any ia2 ic2 g'' B im w' ((hx.2.below hb (Nat.le_refl _)).mono hb.size) (own_below h3'' hb (Nat.le_refl _)) (by omega)
    rw [hm] at h
    exact h)
  obtain ⟨hb2, h1, h2, hz2⟩ := alloc2_facts w #[.int .i64 si, .int .i64 st, .slice (some ⟨g', 0, none⟩) n (n + 12), .slice (some ⟨g'', 0, none⟩) m (m + 12)] #[.int .i64 si, .int .i64 st, .slice va2 n vc2, .slice ia2 m ic2] 26 26
  have HB2 := Lib.hid hb2
  have H1 := Lib.hid h1
  have H2 := Lib.hid h2
  have HZ := Lib.hid (Nat.le_of_eq hz2.symm)
  clear hb2 h1 h2 hz2 hss hx hn hm h3' h3'' hf
  go_enter Tryz.func12, Tryz.ntmps12
  go_upto_region 1 with fail
  have hb2 := HB2.out
  have h1 := H1.out
  have h2 := H2.out
  have hz2 := HZ.out
  clear HB2 H1 H2 HZ
  generalize (w.alloc (.cells #[.int .i64 si, .int .i64 st, .slice (some ⟨g', 0, none⟩) n (n + 12), .slice (some ⟨g'', 0, none⟩) m (m + 12)] 26)).alloc (.cells #[.int .i64 si, .int .i64 st, .slice va2 n vc2, .slice ia2 m ic2] 26) = w2 at hb2 h1 h2 hz2 ⊢
  have HB2 := Lib.hid hb2
  have H1 := Lib.hid h1
  have H2 := Lib.hid h2
  have hs2 := hb2.size
  have g0 := Go.Joins.cell_of_block h1 0
  have g1 := Go.Joins.cell_of_block h1 1
  have g2 := Go.Joins.cell_of_block h1 2
  have g3 := Go.Joins.cell_of_block h1 3
  have e0 := Go.Joins.cell_of_block h2 0
  have e1 := Go.Joins.cell_of_block h2 1
  have e2 := Go.Joins.cell_of_block h2 2
  have e3 := Go.Joins.cell_of_block h2 3
  clear hb2 h1 h2
  go_wp2_with fail
  refine (HS.out w2 HB2.out).mono ?_
  rintro e w3 ⟨rfl, b3⟩
  have hs3 := b3.size
  have k1 := (b3.block w.heap.size (by omega)).trans H1.out
  have k2 := (b3.block (w.heap.size + 1) (by omega)).trans H2.out
  have HB3 := Lib.hid (HB2.out.trans (b3.mono hs2))
  have K1 := Lib.hid k1
  have K2 := Lib.hid k2
  clear g0 g1 g2 g3 e0 e1 e2 e3 b3 H1 H2 HB2
  have g2 := Go.Joins.cell_of_block k1 2
  have e2 := Go.Joins.cell_of_block k2 2
  clear k1 k2
  go_wp2_with fail
  refine (HKI.out w3 HB3.out).mono ?_
  rintro e w4 ⟨rfl, b4⟩
  have hs4 := b4.size
  have k1 := (b4.block w.heap.size (by omega)).trans K1.out
  have k2 := (b4.block (w.heap.size + 1) (by omega)).trans K2.out
  have HB4 := Lib.hid (HB3.out.trans (b4.mono (by omega)))
  clear g2 e2 b4 K1 K2 HB3
  have g3 := Go.Joins.cell_of_block k1 3
  have e3 := Go.Joins.cell_of_block k2 3
  clear k1 k2
  go_wp2_with fail
  refine (HKB.out w4 HB4.out).mono ?_
  rintro e w5 ⟨rfl, b5⟩
  clear g3 e3
  go_wp2_with fail
  go_ret
  exact ⟨rfl, HB4.out.trans (b5.mono HB4.out.size)⟩
/-- A snap whose lists may be written over. -/
structure SnRoom (w : World) (B T : Nat) (x : Sn) : Prop where
  vs : Room w B T 3 1 x.va x.vs.length x.vc
  im : Room w B T 5 1 x.ia x.im.length x.ic
theorem SnLent.room {w w' : World} {B : Nat} {x : Sn} (h : SnLent w B x) (hb : Below w.heap.size w w') : SnRoom w' B w.heap.size x := by
  obtain ⟨⟨g', h1', h2', h3'⟩, ⟨g'', h1'', h2'', h3''⟩⟩ := h
  refine ⟨?_, ?_⟩
  · rw [h1', h2']; exact Room.below ⟨g', rfl, h3'.lt.1, h3'.lt.2, rfl, Blk.of_own h3'⟩ hb
  · rw [h1'', h2'']; exact Room.below ⟨g'', rfl, (World.ownsRow.lt h3'' g'' rfl).1, (World.ownsRow.lt h3'' g'' rfl).2, rfl, Blk.of_own h3''⟩ hb
def overSnTs : List TypeId := [3, 5]
set_option maxHeartbeats 4000000 in
theorem overSn_any (x : Sn) (w : World) (B T : Nat) (h : SnRoom w B T x) (hf : SnFine x) (hB : B ≤ w.heap.size) (hT : T ≤ w.heap.size) :
    Calls Tryz.prog 13 #[snVal x] w fun e w' => e = .returned (.tuple #[]) ∧ OverK B T overSnTs w w' := by
  obtain ⟨r4, r5⟩ := h
  have l2 := hf.vn
  have l3 := hf.ln
  obtain ⟨si, st, va, xs, vc, ia, im, ic⟩ := x
  dsimp only at r4 r5 l2 l3
  obtain ⟨n, hn⟩ : ∃ n, xs.length = n := ⟨_, rfl⟩
  obtain ⟨m, hm⟩ : ∃ m, im.length = m := ⟨_, rfl⟩
  dsimp only [snVal]
  rw [hn] at r4 l2 ⊢
  rw [hm] at r5 l3 ⊢
  have hb1 := (Below.refl w.heap.size w).alloc (Nat.le_refl _) (.cells #[.int .i64 si, .int .i64 st, .slice va n vc, .slice ia m ic] 26)
  have hk1 := heap_alloc_new w (.cells #[.int .i64 si, .int .i64 st, .slice va n vc, .slice ia m ic] 26)
  have HB1 := Lib.hid hb1
  have HK1 := Lib.hid hk1
  have R4 := Lib.hid (r4.below hb1)
  have R5 := Lib.hid (r5.below hb1)
  clear hb1 hk1 r4 r5 hf hn hm
  go_enter Tryz.func13, Tryz.ntmps13
  go_upto_region 1 with fail
  have hk1 := HK1.out
  have hb1 := HB1.out
  have r4 := R4.out
  have r5 := R5.out
  clear HK1 HB1 R4 R5
  generalize w.alloc (.cells #[.int .i64 si, .int .i64 st, .slice va n vc, .slice ia m ic] 26) = w1 at hk1 hb1 r4 r5 ⊢
  have hs1 := hb1.size
  have c2 := Go.Joins.cell_of_block hk1 2
  have HK1 := Lib.hid hk1
  have R4 := Lib.hid r4
  have R5 := Lib.hid r5
  have HO := Lib.hid ((OverK.refl B T overSnTs w).then_below hb1 hB)
  have hlt := (Array.getElem?_eq_some_iff.1 hk1).1
  clear hk1 hb1 r4 r5
  go_wp2_with fail
  refine (overI_room B T va n vc w1 R4.out (by omega)).mono ?_
  rintro e w2 ⟨rfl, ho⟩
  have hk2 : w2.heap[w.heap.size]? = some (.cells #[.int .i64 si, .int .i64 st, .slice va n vc, .slice ia m ic] 26 (0, 0)) := (ho.mid.far _ hT hlt).trans HK1.out
  have c3 := Go.Joins.cell_of_block hk2 3
  have HR5 := Lib.hid (R5.out.over ho)
  have HO2 := Lib.hid (HO.out.trans ho (by decide))
  clear hk2 ho c2
  go_wp2_with fail
  refine (overB_room B T ia m ic w2 HR5.out (by omega)).mono ?_
  rintro e w3 ⟨rfl, ho⟩
  clear c3
  go_wp2_with fail
  go_end0
  exact ⟨rfl, HO2.out.trans ho (by decide)⟩
end Go.Proofs.YtejgebpdipnhmaaGreatDoor
/- The reader of the document's answer: bytes. Conditions: its bytes lie as their reading says. -/
namespace Go.Proofs.YtejgebpdipnhmaaGreatDoor
open Go.RowKit
set_option maxRecDepth 20000
/-- Which bytes a reader reads. -/
structure RefZ where
  ao : Option Addr
  m : Nat
  cap : Nat
  xs : List Int
variable {Z : RefZ}
/-- Block db is a reader of the document's: its bytes, how many were read, whether it is bad. -/
structure RefIs (Z : RefZ) (w : World) (M db : Nat) (bad : Bool) (k : Nat) (ao : Option Addr) (m cap : Nat) (xs : List Int) : Prop where
  blk : w.heap[db]? = some (.cells #[.slice ao m cap, .int .i64 k, .bool bad] 118 (0, 0))
  off : BytesOff w M db ao xs
  len : xs.length = m
  room : m ≤ cap
  nil : ao = none → cap = 0
  at_ : k ≤ m
  le : M ≤ w.heap.size
  lim : m ≤ 140737488351232
  z : Z = ⟨ao, m, cap, xs⟩
theorem RefIs.lt {w : World} {M db k m cap : Nat} {bad : Bool} {ao : Option Addr} {xs : List Int} (h : RefIs Z w M db bad k ao m cap xs) : db < w.heap.size := (Array.getElem?_eq_some_iff.1 h.blk).1
/-- The document's reader, with what is left. -/
def Ref (Z : RefZ) (w : World) (M db : Nat) (bad : Bool) (left : List Int) : Prop := ∃ k ao m cap xs, RefIs Z w M db bad k ao m cap xs ∧ left = xs.drop k
theorem Ref.lt {w : World} {M db : Nat} {bad : Bool} {left : List Int} (h : Ref Z w M db bad left) : db < w.heap.size := by obtain ⟨_, _, _, _, _, h, _⟩ := h; exact h.lt
theorem RefIs.below {w w' : World} {M db k m cap B : Nat} {bad : Bool} {ao : Option Addr} {xs : List Int} (h : RefIs Z w M db bad k ao m cap xs) (hb : Below B w w') (hB : w.heap.size ≤ B) : RefIs Z w' M db bad k ao m cap xs :=
  ⟨(hb.block db (Nat.lt_of_lt_of_le h.lt hB)).trans h.blk, h.off.only h.le (Only.of_below (hb.mono hB)), h.len, h.room, h.nil, h.at_, Nat.le_trans h.le hb.size, h.lim, h.z⟩
theorem Ref.below {w w' : World} {M db : Nat} {bad : Bool} {left : List Int} (h : Ref Z w M db bad left) (hb : Below w.heap.size w w') : Ref Z w' M db bad left := by
  obtain ⟨k, ao, m, cap, xs, h, hl⟩ := h
  exact ⟨k, ao, m, cap, xs, h.below hb (Nat.le_refl _), hl⟩
theorem RefIs.setBad {w : World} {M db k m cap : Nat} {bad : Bool} {ao : Option Addr} {xs : List Int} (h : RefIs Z w M db bad k ao m cap xs) (x : Bool) : RefIs Z (w.setCell ⟨db, 2, none⟩ (.bool x)) M db x k ao m cap xs :=
  ⟨Go.Joins.block_setCell (i := 2) h.blk (.bool x), h.off.only h.le (Only.set _ _ _ _), h.len, h.room, h.nil, h.at_, by simpa using h.le, h.lim, h.z⟩
theorem RefIs.setAt {w : World} {M db k m cap : Nat} {bad : Bool} {ao : Option Addr} {xs : List Int} (h : RefIs Z w M db bad k ao m cap xs) (q : Nat) (hq : q ≤ m) : RefIs Z (w.setCell ⟨db, 1, none⟩ (.int .i64 q)) M db bad q ao m cap xs :=
  ⟨Go.Joins.block_setCell (i := 1) h.blk (.int .i64 q), h.off.only h.le (Only.set _ _ _ _), h.len, h.room, h.nil, hq, by simpa using h.le, h.lim, h.z⟩
theorem BytesOff.other {w : World} {M rb g i : Nat} {ao : Option Addr} {xs : List Int} (h : BytesOff w M rb ao xs) (hg : M ≤ g) (v : Value) : BytesOff (w.setCell ⟨g, i, none⟩ v) M rb ao xs := by
  rcases h with h0 | ⟨b, off, h1, h2, h4, h3⟩
  · exact Or.inl h0
  · exact Or.inr ⟨b, off, h1, h2, h4, fun j hj => (cell_block (heap_setCell_other _ _ _ _ (show b ≠ g by omega))).trans (h3 j hj)⟩
theorem Ref.other {w : World} {M db g i : Nat} {bad : Bool} {left : List Int} (h : Ref Z w M db bad left) (hg : M ≤ g) (hr : g ≠ db) (v : Value) : Ref Z (w.setCell ⟨g, i, none⟩ v) M db bad left := by
  obtain ⟨k, ao, m, cap, xs, h, hl⟩ := h
  exact ⟨k, ao, m, cap, xs, ⟨(heap_setCell_other _ _ _ _ (Ne.symm hr)).trans h.blk, h.off.other hg v, h.len, h.room, h.nil, h.at_, by simpa using h.le, h.lim, h.z⟩, hl⟩
theorem Ref.grown {w w' : World} {M db : Nat} {bad : Bool} {left : List Int} {row : Option Nat} (h : Ref Z w M db bad left) (hg : w.grownBy w' row) (hr : ∀ g, row = some g → M ≤ g ∧ g ≠ db) : Ref Z w' M db bad left := by
  obtain ⟨k, ao, m, cap, xs, h, hl⟩ := h
  refine ⟨k, ao, m, cap, xs, ⟨(hg.block db h.lt (fun e => (hr db e.symm).2 rfl)).trans h.blk, ?_, h.len, h.room, h.nil, h.at_, Nat.le_trans h.le hg.size, h.lim, h.z⟩, hl⟩
  rcases h.off with h0 | ⟨b, off, h1, h2, h4, h3⟩
  · exact Or.inl h0
  · exact Or.inr ⟨b, off, h1, h2, h4, fun j hj => (cell_block (hg.block b (by have := h.le; omega) (fun e => by have := (hr b e.symm).1; omega))).trans (h3 j hj)⟩
theorem BytesOff.sub {w : World} {M db : Nat} {ao : Option Addr} {xs : List Int} {cap : Nat} (l h : Nat) (hx : BytesOff w M db ao xs) (hc : xs.length ≤ cap) : BytesIn w M (subA ao cap l 1) ((xs.drop l).take h) := BytesIn.sub l h hx.in hc
theorem oper_append_bytes {w : World} {o : Oper} {a : Act} {K : Act → World → Prop} {Q : Exit → Act → World → Prop} (s x : Operand)
    (ho : o.op = .call { callee := .builtin .append, args := #[s, x], argTypes := #[24, 24] })
    (base : Nat) (v : Value) (l : List Int) (m : Nat) (hm : l.length = m) (hs : a.eval s = v) (hown : w.ownsRow base 5 1 v m (l.map bv))
    (ao : Option Addr) (n cap : Nat) (xs : List Int) (hn : xs.length = n) (hx : a.eval x = .slice ao n cap) (B : Nat) (hin : BytesIn w B ao xs) (hao : ao = none → cap = 0) (hlim : m + n ≤ 140737488351232) (hbase : base ≤ w.heap.size)
    (h : ∀ v' w', w'.ownsRow base 5 1 v' (m + n) ((l ++ xs).map bv) → w.grownBy w' v.ownBlock → K (a.put o.dst v') w') :
    Oper.wp Tryz.prog o a w K Q := by
  obtain ⟨i0, hi, hz0, hz1, hz2⟩ := info_parts infoByte
  subst hm hn
  cases ao with
  | none =>
    have hnil : xs = [] := by
      rcases hin with h | ⟨b, off, h1, _⟩
      · exact h
      · cases h1
    subst hnil
    rw [hao rfl, List.length_nil] at hx
    have hr := run_append_owned_none (P := Tryz.prog) (w := w) base 24 o.type 5 i0 1 Tryz.underlying24 hi v l.length _ hown
    unfold Oper.wp execOp
    simp only [ho, resolve, invoke, builtin, Sem.run_bind, Sem.run_pure, Result.andThen_ok, List.map_toArray, List.map_cons, List.map_nil, hs, hx, hr]
    exact h v w (by simpa using hown) (World.grownBy.refl _ _)
  | some ad =>
    obtain ⟨v', w', hr, h2, h3, _⟩ := run_append_own_at (P := Tryz.prog) w base 24 o.type 5 i0 (.int .u8 0) 1 1 Tryz.underlying24 hi hz0 hz1 hz2 rfl (by decide) v l.length _ hown ad xs.length cap (xs.map bv) (by simp) (fun j u hu => cells_of_bytes hin (Below.refl _ _) rfl hu) (bytes_oneCell _) (by unfold maxLen; omega) (by omega) hbase
    unfold Oper.wp execOp
    simp only [ho, resolve, invoke, builtin, Sem.run_bind, Sem.run_pure, Result.andThen_ok, List.map_toArray, List.map_cons, List.map_nil, hs, hx, hr]
    exact h v' w' (by rw [List.map_append]; exact h2) h3
/-- What bytes does. -/
def RBytesAt (Z : RefZ) (M db : Nat) (r : List Int × Bool × List Int) (w : World) (e : Ending) (w' : World) : Prop :=
  ∃ a n c, r.1.length = n ∧ e = .returned (.slice a n c) ∧ w'.ownsRow w.heap.size 5 1 (.slice a n c) n (r.1.map bv) ∧ Ref Z w' M db r.2.1 r.2.2 ∧ Only db w w'
set_option maxHeartbeats 2000000 in
theorem rbytes_any (M db n : Nat) (bad : Bool) (left : List Int) (w : World) (h : Ref Z w M db bad left) (hn : n ≤ 1099511627776) :
    Calls Tryz.prog 172 #[.pointer (some ⟨db, 0, none⟩), .int .i64 n] w (RBytesAt Z M db (takeS n bad left) w) := by
  obtain ⟨k, ao, m, cap, xs, h, rfl⟩ := h
  have d0 : w.cell? ⟨db, 0, none⟩ = some (.slice ao m cap) := Go.Joins.cell_of_block h.blk 0
  have d1 : w.cell? ⟨db, 1, none⟩ = some (.int .i64 k) := Go.Joins.cell_of_block h.blk 1
  have d2 : w.cell? ⟨db, 2, none⟩ = some (.bool bad) := Go.Joins.cell_of_block h.blk 2
  have f1 : w.frozen? ⟨db, 1, none⟩ = false := Go.Joins.unfrozen_of_block h.blk 1
  have f2 : w.frozen? ⟨db, 2, none⟩ = false := Go.Joins.unfrozen_of_block h.blk 2
  have hkm := h.at_
  have hlim := h.lim
  have hld : (xs.drop k).length = m - k := by rw [List.length_drop, h.len]
  have H := Lib.hid h
  cases bad with
  | true =>
    have hs : takeS n true (xs.drop k) = ([], true, xs.drop k) := if_pos (Or.inl rfl)
    rw [hs]
    clear h hs hld
    go_enter Tryz.func172, Tryz.ntmps172
    go_wp2_with fail
    go_quiet (fail)
    go_wp2_with fail
    go_ret
    have hD := fun q => H.out.below (below_drewN (Below.refl w.heap.size w) q) (Nat.le_refl _)
    exact ⟨none, 0, 0, rfl, rfl, World.ownsRow_nil _ _ _ _, ⟨k, ao, m, cap, xs, (hD _).setBad true, rfl⟩, ⟨by simp, fun b _ hn => heap_setCell_other _ _ _ _ hn, rfl, rfl, rfl⟩⟩
  | false =>
    by_cases hlt : m < k + n
    · have hs : takeS n false (xs.drop k) = ([], true, xs.drop k) := if_pos (Or.inr (by rw [hld]; omega))
      rw [hs]
      have i1 : (m : Int) - k < n := by omega
      clear h hs hld
      go_enter Tryz.func172, Tryz.ntmps172
      go_wp2_with fail
      go_quiet (fail)
      go_wp2_with fail
      go_ret
      have hD := fun q => H.out.below (below_drewN (Below.refl w.heap.size w) q) (Nat.le_refl _)
      exact ⟨none, 0, 0, rfl, rfl, World.ownsRow_nil _ _ _ _, ⟨k, ao, m, cap, xs, (hD _).setBad true, rfl⟩, ⟨by simp, fun b _ hn => heap_setCell_other _ _ _ _ hn, rfl, rfl, rfl⟩⟩
    · have hs : takeS n false (xs.drop k) = ((xs.drop k).take n, false, (xs.drop k).drop n) := if_neg (by rw [hld]; simp; omega)
      rw [hs]
      have i1 : (n : Int) ≤ (m : Int) - k := by omega
      have i2 : decide ((m : Int) - k < n) = false := by simpa using i1
      have i3 : (k : Int) + n ≤ 140737488351232 := by omega
      have i4 : IntKind.i64.wrap ((k : Int) + n) = (k : Int) + n := IntWalk.i64_in _ (by omega)
      have hroom := h.room
      have hlen2 : ((xs.drop k).take n).length = n := by rw [List.length_take, hld]; omega
      have hsl : ∀ w', (Instr.sliceAt 24 (.slice ao m cap) (some (.int .i64 (k : Int))) (some (.int .i64 ((k : Int) + n))) none).run Tryz.prog w' = .ok (.slice (subA ao cap k 1) n (cap - k)) w' := fun w' => by
        have := run_sub_lh sliceByte sizeByte ao m cap k (k + n) (by omega) (by omega) .i64 .i64 (k : Int) ((k : Int) + n) rfl (by omega) w'
        rwa [show k + n - k = n by omega] at this
      have hdb := h.lt
      have HD := Lib.hid (show ∀ w', Below w.heap.size w w' → w'.cell? ⟨db, 0, none⟩ = some (.slice ao m cap) ∧ w'.cell? ⟨db, 1, none⟩ = some (.int .i64 k) from fun w' hb => ⟨(hb.cell (p := ⟨db, 0, none⟩) hdb).trans d0, (hb.cell (p := ⟨db, 1, none⟩) hdb).trans d1⟩)
      have HL2 := Lib.hid hlen2
      clear h hs hld hlt hlen2
      go_enter Tryz.func172, Tryz.ntmps172
      go_wp2_with fail
      go_quiet (fail)
      go_wp2_with fail
      clear d0 d1 d2 f1 f2
      refine heldS_begin (fun w' => Below w.heap.size w w') (by kernel_rfl) ((below_drewN (Below.refl _ _) _).drew) ?_
      intro hS0
      (first | (refine takeS_no 1 rfl (by kernel_rfl) (by kernel_rfl) (by kernel_rfl) (fun _ _ _ h => h) (by rfl) (by assumption) ?_) | (refine takeS_yes (v := ?_) 1 rfl (by kernel_rfl) (by kernel_rfl) (by kernel_rfl) (fun _ _ _ h => h) (by rfl) (by assumption) ?_ ?_; rotate_left; focus (intro wS hSw; obtain ⟨e0, e1⟩ := HD.out wS hSw; go_simp; first | done | with_reducible rfl)))
      (try simp only [Act.put, List.setIfInBounds_toArray, List.set_cons_zero, List.set_cons_succ])
      (first | (refine takeS_no 2 rfl (by kernel_rfl) (by kernel_rfl) (by kernel_rfl) (fun _ _ _ h => h) (by rfl) (by assumption) ?_) | (refine takeS_yes (v := ?_) 2 rfl (by kernel_rfl) (by kernel_rfl) (by kernel_rfl) (fun _ _ _ h => h) (by rfl) (by assumption) ?_ ?_; rotate_left; focus (intro wS hSw; obtain ⟨e0, e1⟩ := HD.out wS hSw; go_simp; first | done | with_reducible rfl)))
      (try simp only [Act.put, List.setIfInBounds_toArray, List.set_cons_zero, List.set_cons_succ])
      (first | (refine takeS_no 3 rfl (by kernel_rfl) (by kernel_rfl) (by kernel_rfl) (fun _ _ _ h => h) (by rfl) (by assumption) ?_) | (refine takeS_yes (v := ?_) 3 rfl (by kernel_rfl) (by kernel_rfl) (by kernel_rfl) (fun _ _ _ h => h) (by rfl) (by assumption) ?_ ?_; rotate_left; focus (intro wS hSw; obtain ⟨e0, e1⟩ := HD.out wS hSw; go_simp; first | done | with_reducible rfl)))
      (try simp only [Act.put, List.setIfInBounds_toArray, List.set_cons_zero, List.set_cons_succ])
      (first | (refine takeS_no 4 rfl (by kernel_rfl) (by kernel_rfl) (by kernel_rfl) (fun _ _ _ h => h) (by rfl) (by assumption) ?_) | (refine takeS_yes (v := ?_) 4 rfl (by kernel_rfl) (by kernel_rfl) (by kernel_rfl) (fun _ _ _ h => h) (by rfl) (by assumption) ?_ ?_; rotate_left; focus (intro wS hSw; obtain ⟨e0, e1⟩ := HD.out wS hSw; go_simp; first | done | with_reducible rfl)))
      (try simp only [Act.put, List.setIfInBounds_toArray, List.set_cons_zero, List.set_cons_succ])
      (first | (refine takeS_no 5 rfl (by kernel_rfl) (by kernel_rfl) (by kernel_rfl) (fun _ _ _ h => h) (by rfl) (by assumption) ?_) | (refine takeS_yes (v := ?_) 5 rfl (by kernel_rfl) (by kernel_rfl) (by kernel_rfl) (fun _ _ _ h => h) (by rfl) (by assumption) ?_ ?_; rotate_left; focus (intro wS hSw; obtain ⟨e0, e1⟩ := HD.out wS hSw; go_simp; first | done | with_reducible rfl)))
      (try simp only [Act.put, List.setIfInBounds_toArray, List.set_cons_zero, List.set_cons_succ])
      (first | (refine takeS_no 6 rfl (by kernel_rfl) (by kernel_rfl) (by kernel_rfl) (fun _ _ _ h => h) (by rfl) (by assumption) ?_) | (refine takeS_yes (v := ?_) 6 rfl (by kernel_rfl) (by kernel_rfl) (by kernel_rfl) (fun _ _ _ h => h) (by rfl) (by assumption) ?_ ?_; rotate_left; focus (intro wS hSw; obtain ⟨e0, e1⟩ := HD.out wS hSw; go_simp; first | done | with_reducible rfl)))
      (try simp only [Act.put, List.setIfInBounds_toArray, List.set_cons_zero, List.set_cons_succ])
      (first | (refine takeS_no 7 rfl (by kernel_rfl) (by kernel_rfl) (by kernel_rfl) (fun _ _ _ h => h) (by rfl) (by assumption) ?_) | (refine takeS_yes (v := ?_) 7 rfl (by kernel_rfl) (by kernel_rfl) (by kernel_rfl) (fun _ _ _ h => h) (by rfl) (by assumption) ?_ ?_; rotate_left; focus (intro wS hSw; obtain ⟨e0, e1⟩ := HD.out wS hSw; go_simp; first | done | with_reducible rfl)))
      (try simp only [Act.put, List.setIfInBounds_toArray, List.set_cons_zero, List.set_cons_succ])
      (first | (refine takeS_no 8 rfl (by kernel_rfl) (by kernel_rfl) (by kernel_rfl) (fun _ _ _ h => h) (by rfl) (by assumption) ?_) | (refine takeS_yes (v := ?_) 8 rfl (by kernel_rfl) (by kernel_rfl) (by kernel_rfl) (fun _ _ _ h => h) (by rfl) (by assumption) ?_ ?_; rotate_left; focus (intro wS hSw; obtain ⟨e0, e1⟩ := HD.out wS hSw; go_simp; first | done | with_reducible rfl)))
      (try simp only [Act.put, List.setIfInBounds_toArray, List.set_cons_zero, List.set_cons_succ])
      (first | (refine takeS_no 9 rfl (by kernel_rfl) (by kernel_rfl) (by kernel_rfl) (fun _ _ _ h => h) (by rfl) (by assumption) ?_) | (refine takeS_yes (v := ?_) 9 rfl (by kernel_rfl) (by kernel_rfl) (by kernel_rfl) (fun _ _ _ h => h) (by rfl) (by assumption) ?_ ?_; rotate_left; focus (intro wS hSw; obtain ⟨e0, e1⟩ := HD.out wS hSw; go_simp; first | done | with_reducible rfl)))
      (try simp only [Act.put, List.setIfInBounds_toArray, List.set_cons_zero, List.set_cons_succ])
      (first | (refine takeS_no 10 rfl (by kernel_rfl) (by kernel_rfl) (by kernel_rfl) (fun _ _ _ h => h) (by rfl) (by assumption) ?_) | (refine takeS_yes (v := ?_) 10 rfl (by kernel_rfl) (by kernel_rfl) (by kernel_rfl) (fun _ _ _ h => h) (by rfl) (by assumption) ?_ ?_; rotate_left; focus (intro wS hSw; obtain ⟨e0, e1⟩ := HD.out wS hSw; go_simp; first | done | with_reducible rfl)))
      (try simp only [Act.put, List.setIfInBounds_toArray, List.set_cons_zero, List.set_cons_succ])
      (first | (refine takeS_no 11 rfl (by kernel_rfl) (by kernel_rfl) (by kernel_rfl) (fun _ _ _ h => h) (by rfl) (by assumption) ?_) | (refine takeS_yes (v := ?_) 11 rfl (by kernel_rfl) (by kernel_rfl) (by kernel_rfl) (fun _ _ _ h => h) (by rfl) (by assumption) ?_ ?_; rotate_left; focus (intro wS hSw; obtain ⟨e0, e1⟩ := HD.out wS hSw; go_simp; first | done | with_reducible rfl)))
      (try simp only [Act.put, List.setIfInBounds_toArray, List.set_cons_zero, List.set_cons_succ])
      (first | (refine takeS_no 12 rfl (by kernel_rfl) (by kernel_rfl) (by kernel_rfl) (fun _ _ _ h => h) (by rfl) (by assumption) ?_) | (refine takeS_yes (v := ?_) 12 rfl (by kernel_rfl) (by kernel_rfl) (by kernel_rfl) (fun _ _ _ h => h) (by rfl) (by assumption) ?_ ?_; rotate_left; focus (intro wS hSw; obtain ⟨e0, e1⟩ := HD.out wS hSw; go_simp; first | done | with_reducible rfl)))
      (try simp only [Act.put, List.setIfInBounds_toArray, List.set_cons_zero, List.set_cons_succ])
      (first | (refine takeS_no 13 rfl (by kernel_rfl) (by kernel_rfl) (by kernel_rfl) (fun _ _ _ h => h) (by rfl) (by assumption) ?_) | (refine takeS_yes (v := ?_) 13 rfl (by kernel_rfl) (by kernel_rfl) (by kernel_rfl) (fun _ _ _ h => h) (by rfl) (by assumption) ?_ ?_; rotate_left; focus (intro wS hSw; obtain ⟨e0, e1⟩ := HD.out wS hSw; go_simp; first | done | with_reducible rfl)))
      (try simp only [Act.put, List.setIfInBounds_toArray, List.set_cons_zero, List.set_cons_succ])
      (first | (refine takeS_no 14 rfl (by kernel_rfl) (by kernel_rfl) (by kernel_rfl) (fun _ _ _ h => h) (by rfl) (by assumption) ?_) | (refine takeS_yes (v := ?_) 14 rfl (by kernel_rfl) (by kernel_rfl) (by kernel_rfl) (fun _ _ _ h => h) (by rfl) (by assumption) ?_ ?_; rotate_left; focus (intro wS hSw; obtain ⟨e0, e1⟩ := HD.out wS hSw; go_simp; first | done | with_reducible rfl)))
      (try simp only [Act.put, List.setIfInBounds_toArray, List.set_cons_zero, List.set_cons_succ])
      (first | (refine takeS_no 15 rfl (by kernel_rfl) (by kernel_rfl) (by kernel_rfl) (fun _ _ _ h => h) (by rfl) (by assumption) ?_) | (refine takeS_yes (v := ?_) 15 rfl (by kernel_rfl) (by kernel_rfl) (by kernel_rfl) (fun _ _ _ h => h) (by rfl) (by assumption) ?_ ?_; rotate_left; focus (intro wS hSw; obtain ⟨e0, e1⟩ := HD.out wS hSw; go_simp; first | done | with_reducible rfl)))
      (try simp only [Act.put, List.setIfInBounds_toArray, List.set_cons_zero, List.set_cons_succ])
      refine takeS_alone 0 rfl (by kernel_rfl) (by rfl) (fun K hK => ?_)
      go_simp
      (have hS1 := Below.alloc (show Below w.heap.size w _ from hS0) (by simp) (Obj.cells #[] 5))
      refine hK.out _ _ (by assumption) ?_
      clear hK K
      (try simp only [Act.put, List.setIfInBounds_toArray, List.set_cons_zero, List.set_cons_succ])
      refine takeS_alone 16 rfl (by kernel_rfl) (by rfl) (fun K hK => ?_)
      skip
      (refine oper_append_bytes (.tmp 27) (.tmp 42) rfl w.heap.size _ [] 0 rfl rfl (World.ownsRow_lit _ #[] 0 (by simp) (by unfold maxLen; omega) rfl) (subA ao cap k 1) n (cap - k) ((xs.drop k).take n) HL2.out rfl M ((H.out.off.sub k n (by rw [H.out.len]; exact hroom)).below hS1 H.out.le) (fun e => by have := H.out.nil (subA_eq_none e); omega) (by omega) (by simp) ?_; intro v5 w5 hown5 hg5; rw [Nat.zero_add, List.nil_append] at hown5; have hS2 : Below w.heap.size w w5 := hS1.grown hg5 (by simp) (fun b e => by cases e; simp))
      refine hK.out _ _ (by assumption) ?_
      clear hK K
      (try simp only [Act.put, List.setIfInBounds_toArray, List.set_cons_zero, List.set_cons_succ])
      (first | (refine takeS_no 17 rfl (by kernel_rfl) (by kernel_rfl) (by kernel_rfl) (fun _ _ _ h => h) (by rfl) (by assumption) ?_) | (refine takeS_yes (v := ?_) 17 rfl (by kernel_rfl) (by kernel_rfl) (by kernel_rfl) (fun _ _ _ h => h) (by rfl) (by assumption) ?_ ?_; rotate_left; focus (intro wS hSw; obtain ⟨e0, e1⟩ := HD.out wS hSw; go_simp; first | done | with_reducible rfl)))
      (try simp only [Act.put, List.setIfInBounds_toArray, List.set_cons_zero, List.set_cons_succ])
      refine wpAnyH_done (by kernel_rfl) ?_ _
      clear hsl i4
      obtain ⟨a5, c5, hv5⟩ := row_slice hown5
      subst hv5
      have e1 := (HD.out w5 hS2).2
      have g1 : w5.frozen? ⟨db, 1, none⟩ = false := Go.Joins.unfrozen_of_block ((hS2.block db hdb).trans H.out.blk) 1
      have HO5 := Lib.hid hown5
      clear hg5 hown5
      go_wp2_with fail
      go_ret
      have hR := (H.out.below hS2 (Nat.le_refl _)).setAt (k + n) (by omega)
      have e : ((k + n : Nat) : Int) = (k : Int) + n := by omega
      rw [e] at hR
      have hown := own_only' HO5.out (Only.set db w5 1 (.int .i64 ((k : Int) + n))) hdb
      exact ⟨a5, n, c5, HL2.out, rfl, hown, ⟨k + n, ao, m, cap, xs, hR, by rw [List.drop_drop]⟩, (Only.of_below hS2).trans (Only.set _ _ _ _)⟩
/- The reader of the document's answer: said, count, Number, Text. Conditions: its bytes lie as their reading says. -/
theorem or_u64 (V x : Int) (hV : 0 ≤ V) (hV2 : V < 72057594037927936) (h0 : 0 ≤ x) (h1 : x < 256) : bits .or .u64 (V * 256) x = V * 256 + x := by
  obtain ⟨y, rfl⟩ : ∃ y : Nat, x = y := ⟨x.toNat, by omega⟩
  obtain ⟨m, rfl⟩ : ∃ m : Nat, V = m := ⟨V.toNat, by omega⟩
  have g1 : (BitVec.ofInt 64 ((m : Int) * 256)).toNat = m * 256 := by
    rw [show (m : Int) * 256 = ((m * 256 : Nat) : Int) by omega, BitVec.ofInt_natCast, BitVec.toNat_ofNat]; exact Nat.mod_eq_of_lt (by omega)
  have g2 : (BitVec.ofInt 64 (y : Int)).toNat = y := by
    rw [BitVec.ofInt_natCast, BitVec.toNat_ofNat]; exact Nat.mod_eq_of_lt (by omega)
  show IntKind.u64.wrap ((BitVec.ofInt 64 ((m : Int) * 256) ||| BitVec.ofInt 64 (y : Int)).toNat : Int) = _
  rw [BitVec.toNat_or, g1, g2]
  have h := Nat.two_pow_add_eq_or_of_lt (i := 8) (b := y) (by omega) m
  have e : 2 ^ 8 * m = m * 256 := by omega
  rw [e] at h
  rw [← h]
  unfold IntKind.wrap
  simp [IntKind.signed, IntKind.bits]
  omega
def RSaidAt (Z : RefZ) (M db : Nat) (v : Int) (bad : Bool) (left : List Int) (w : World) (e : Ending) (w' : World) : Prop :=
  e = .returned (.int .u64 v) ∧ Ref Z w' M db bad left ∧ Only db w w'
set_option maxHeartbeats 1000000 in
theorem rsaid_any (M db n : Nat) (bad : Bool) (left : List Int) (w : World) (h : Ref Z w M db bad left) (hw : BytesWf left) (hn : n ≤ 8) :
    Calls Tryz.prog 119 #[.pointer (some ⟨db, 0, none⟩), .int .i64 n] w (RSaidAt Z M db (getN (takeS n bad left).1) (takeS n bad left).2.1 (takeS n bad left).2.2 w) := by
  have H := Lib.hid h
  obtain ⟨⟨got, bad2, left2⟩, hts⟩ : ∃ r, takeS n bad left = r := ⟨_, rfl⟩
  have hgw := takeS_wf (n := n) (bad := bad) hw
  have hrb := rbytes_any M db n bad left w h (by omega)
  rw [hts] at hgw hrb ⊢
  dsimp only at hgw ⊢
  obtain ⟨g, hg⟩ : ∃ g, got.length = g := ⟨_, rfl⟩
  have hg8 : g ≤ 8 := by have := hgw.2.2.1; omega
  have HB := Lib.hid hrb
  have HGW := Lib.hid hgw.1
  have HG := Lib.hid hg
  obtain ⟨R, hR⟩ : ∃ R, getN got = R := ⟨_, rfl⟩
  rw [hR]
  have HR0 := Lib.hid hR
  clear h hts hgw hw hrb hg hR
  go_enter Tryz.func119, Tryz.ntmps119
  go_wp2_with fail
  refine HB.out.mono ?_
  rintro e w1 ⟨a, n1, c, hn1, rfl, hown, hr, hon⟩
  have e1 : n1 = g := by have := HG.out; dsimp only at hn1; omega
  subst e1
  have HO := Lib.hid (own_in HG.out hown)
  have HR := Lib.hid hr
  have HON := Lib.hid hon
  clear hown hr hon hn1 HB
  go_wp2_with fail
  go_loopw [6, 7] (fun v i wr => ∃ k : Nat, k ≤ n1 ∧ i = .int .i64 k ∧ v = .int .u64 (getN (got.take k)) ∧ wr = w1) (fun _ i _ => n1 - (intOf i).toNat)
  case atStart => exact ⟨0, by omega, rfl, by rfl, rfl⟩
  case round =>
    obtain ⟨k, hk, rfl, rfl, rfl⟩ := hrel
    by_cases hlt : k < n1
    · rcases HO.out with h0 | ⟨b, off, hao, hb, hcell⟩
      · have := HG.out; rw [h0] at this; simp at this; omega
      have hkx : k < got.length := by rw [HG.out]; exact hlt
      have c0 := hcell k hkx
      have hx := HGW.out (got.getD k 0) (by simp [List.getD, List.getElem?_eq_getElem hkx])
      have hsn : getN (got.take (k + 1)) = getN (got.take k) * 256 + got.getD k 0 := by
        rw [List.take_succ_eq_append_getElem hkx, getN_snoc]
        simp [List.getD, List.getElem?_eq_getElem hkx]
      generalize got.getD k 0 = x at c0 hx hsn
      have hVb := getN_small (HGW.out.take k) (n := 7) (by rw [List.length_take]; omega)
      obtain ⟨V, hV⟩ : ∃ V, getN (got.take k) = V := ⟨_, rfl⟩
      rw [hV] at hsn hVb ⊢
      have HSN := Lib.hid hsn
      obtain ⟨hV0, hV1⟩ := hVb
      have hV2 : V < 72057594037927936 := hV1
      have i1 : (k : Int) < n1 := by omega
      have hwr : IntKind.u64.wrap (V * 256) = V * 256 := by
        unfold IntKind.wrap
        simp [IntKind.signed, IntKind.bits]
        omega
      subst hao
      obtain ⟨hx0, hx1⟩ := hx
      have hor := or_u64 V x hV0 hV2 hx0 hx1
      clear hcell hsn hV hV1
      go_wp2_with fail
      go_roundw
      case rel =>
        refine ⟨k + 1, by omega, by go_num, ?_, by trivial⟩
        rw [HSN.out]
        first | done | (rw [hwr, hor]) | (rw [hor]) | (simp [hor, hwr])
      case measure => simp [intOf]; omega
    · obtain rfl : k = n1 := by omega
      have hf : got.take k = got := List.take_of_length_le (by rw [HG.out]; exact Nat.le_refl _)
      rw [hf, HR0.out]
      clear hf
      go_wp2_with fail
      go_ret
      exact ⟨rfl, HR.out, HON.out⟩
theorem rnum_any (M db : Nat) (bad : Bool) (left : List Int) (v : Int) (b2 : Bool) (l2 : List Int) (w : World) (hs : numS bad left = (v, b2, l2)) (h : Ref Z w M db bad left) (hw : BytesWf left) :
    Calls Tryz.prog 56 #[.pointer (some ⟨db, 0, none⟩)] w fun e w' => e = .returned (.int .i64 v) ∧ Ref Z w' M db b2 l2 ∧ Only db w w' := by
  have hrs := rsaid_any M db 8 bad left w h hw (by omega)
  unfold numS at hs
  simp only [Prod.mk.injEq] at hs
  obtain ⟨h1, h2⟩ := hs
  rw [h2] at hrs
  have hb := getN_small (takeS_wf (n := 8) (bad := bad) hw).1 (takeS_wf (n := 8) (bad := bad) hw).2.2.1
  generalize getN (takeS 8 bad left).1 = N at hrs h1 hb
  have HS := Lib.hid hrs
  clear hrs h2 h hw hb
  go_enter Tryz.func56, Tryz.ntmps56
  go_wp2_with fail
  refine HS.out.mono ?_
  rintro e w1 ⟨rfl, hr, ho⟩
  have HR := Lib.hid hr
  clear hr HS
  go_wp2_with fail
  go_ret
  exact ⟨rfl, HR.out, ho⟩
/- The reader of the document's answer: Value. Conditions: its bytes lie as their reading says. -/
/- The reader of the document's answer: Values. Conditions: its bytes lie as their reading says. -/
end Go.Proofs.YtejgebpdipnhmaaGreatDoor
