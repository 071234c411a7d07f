/- A snap stored on a disk. Conditions: the disk lies as its files say, the snap as its reading says. -/
import Derived.Test.YtejgebpdipnhmaaGreatDoorGSnapNumbers12
import Derived.Test.YtejgebpdipnhmaaGreatDoorGSnapNumbers2
import Derived.Lib.SlBytesConst
import Derived.Test.YtejgebpdipnhmaaGreatDoorGSnapNumbers3
import Derived.Test.YtejgebpdipnhmaaGreatDoorGSnapNumbers0
set_option linter.unusedVariables false
set_option linter.unusedSimpArgs false
namespace Go.Proofs.YtejgebpdipnhmaaGreatDoor
open Go.RowKit
set_option maxRecDepth 20000
theorem nums_other {w w' : World} {B g : Nat} {a : Option Addr} {xs : List Int} (h : NumsIn w B a xs) (hB : B ≤ w.heap.size) (hg : w.grownBy w' (some g)) (hc : ∀ o x, w.cell? ⟨g, o, none⟩ ≠ some (.int .i64 x)) : NumsIn w' B a xs := by
  rcases h with h | ⟨b, off, h1, h2, h3⟩
  · exact Or.inl h
  · refine Or.inr ⟨b, off, h1, h2, fun i x hi => ⟨fun j hj => ?_, trivial⟩⟩
    have h4 := (h3 i x hi).1 j hj
    obtain rfl : j = 0 := by omega
    have hne : b ≠ g := by
      rintro rfl
      exact hc _ _ h4
    have hbk := hg.block b (by omega) (by simpa using hne)
    unfold World.cell? at h4 ⊢
    rw [hbk]
    exact h4
theorem sub_map {w w' : World} {B mb : Nat} {x : Sn} {es : Array MapEntry} {ck : Nat} (h : snSub w B x) (hB : B ≤ w.heap.size) (hg : w.grownBy w' (some mb)) (hm : w.heap[mb]? = some (.map es ck)) : snSub w' B x :=
  ⟨nums_other h.1 hB hg (fun o x h => by simp [World.cell?, hm] at h), bytes_map h.2 hB hg hm⟩
theorem store1_any {w : World} {B db mb room n x y : Nat} {L : Dk} (h : DiskIs w B db mb room n L) (hn : n ≤ 1000000) (a : Option Addr) (m c : Nat) (bs : List Int) (hx : w.cell? ⟨x, 0, none⟩ = some (.pointer (some ⟨db, 0, none⟩))) (hy : w.cell? ⟨y, 0, none⟩ = some (.slice a m c))
    (hb : bs.length = m) (hin : BytesIn w w.heap.size a bs) (hw : BytesWf bs) (hnil : a = none → c = 0) (hl : m ≤ 1000000000) (r : Dk × Int) (hr : dAppend room L newN bs = r) :
    Calls Tryz.prog 71 #[.pointer (some ⟨x, 0, none⟩), .pointer (some ⟨y, 0, none⟩)] w (DkAt r db mb room (n + 1) w) := by
  have H := Lib.hid (append_any h hn newS new_named a m c bs hb hin hw hnil hl r hr)
  clear h hb hin hw hnil hr
  go_enter Tryz.func71, Tryz.ntmps71
  go_wp2_with fail
  refine H.out.mono ?_
  rintro e w1 ⟨rfl, h1, h2⟩
  have H1 := Lib.hid h1
  have H2 := Lib.hid h2
  clear h1 h2
  go_wp2_with fail
  go_ret
  exact ⟨rfl, H1.out, H2.out⟩
theorem store2_any {w : World} {B db mb room n x : Nat} {L : Dk} (h : DiskIs w B db mb room n L) (hn : n ≤ 1000000) (hx : w.cell? ⟨x, 0, none⟩ = some (.pointer (some ⟨db, 0, none⟩))) (r : Dk × Int) (hr : dSync L newN = r) :
    Calls Tryz.prog 72 #[.pointer (some ⟨x, 0, none⟩)] w (DkAt r db mb room (n + 1) w) := by
  have H := Lib.hid (sync_any h hn newS newS_le r hr)
  clear h hr
  go_enter Tryz.func72, Tryz.ntmps72
  go_wp2_with fail
  refine H.out.mono ?_
  rintro e w1 ⟨rfl, h1, h2⟩
  have H1 := Lib.hid h1
  have H2 := Lib.hid h2
  clear h1 h2
  go_wp2_with fail
  go_ret
  exact ⟨rfl, H1.out, H2.out⟩
theorem store3_any {w : World} {B db mb room n x : Nat} {L : Dk} (h : DiskIs w B db mb room n L) (hn : n ≤ 999990) (hx : w.cell? ⟨x, 0, none⟩ = some (.pointer (some ⟨db, 0, none⟩))) (r : Dk × Int) (hr : dRename L newN snapN = r) :
    Calls Tryz.prog 74 #[.pointer (some ⟨x, 0, none⟩)] w (DkAt r db mb room (n + 2) w) := by
  have H := Lib.hid (rename_any h hn newS snapS new_named snap_named (by decide) r hr)
  clear h hr
  go_enter Tryz.func74, Tryz.ntmps74
  go_wp2_with fail
  refine H.out.mono ?_
  rintro e w1 ⟨rfl, h1, h2⟩
  have H1 := Lib.hid h1
  have H2 := Lib.hid h2
  clear h1 h2
  go_wp2_with fail
  go_ret
  exact ⟨rfl, H1.out, H2.out⟩
theorem store_three (w : World) (T : TypeId) (f1 f2 f3 : Value) (h1 : f1.oneCell' = true) (h2 : f2.oneCell' = true) (h3 : f3.oneCell' = true) :
    ∃ w1 w2 w3, (store ⟨w.heap.size, 0, none⟩ f1).run Tryz.prog (w.alloc (.cells #[Value.nilFunc, Value.nilFunc, Value.nilFunc] T)) = .ok () w1 ∧ (store ⟨w.heap.size, 1, none⟩ f2).run Tryz.prog w1 = .ok () w2 ∧ (store ⟨w.heap.size, 2, none⟩ f3).run Tryz.prog w2 = .ok () w3 ∧
      w3.heap[w.heap.size]? = some (.cells #[f1, f2, f3] T (0, 0)) ∧ Below w.heap.size w w3 := by
  have hb0 := (Below.refl w.heap.size w).alloc (Nat.le_refl _) (.cells #[Value.nilFunc, Value.nilFunc, Value.nilFunc] T)
  have k0 := heap_alloc_new w (.cells #[Value.nilFunc, Value.nilFunc, Value.nilFunc] T)
  generalize w.alloc (.cells #[Value.nilFunc, Value.nilFunc, Value.nilFunc] T) = w0 at hb0 k0 ⊢
  have k1 := Go.Joins.block_setCell (i := 0) k0 f1
  have k2 := Go.Joins.block_setCell (i := 1) k1 f2
  have k3 := Go.Joins.block_setCell (i := 2) k2 f3
  refine ⟨w0.setCell ⟨w.heap.size, 0, none⟩ f1, (w0.setCell ⟨w.heap.size, 0, none⟩ f1).setCell ⟨w.heap.size, 1, none⟩ f2, ((w0.setCell ⟨w.heap.size, 0, none⟩ f1).setCell ⟨w.heap.size, 1, none⟩ f2).setCell ⟨w.heap.size, 2, none⟩ f3, ?_, ?_, ?_, by simpa using k3, ((hb0.grown (grown_set w0 ⟨w.heap.size, 0, none⟩ f1) hb0.size (fun k hk => by cases hk; exact Nat.le_refl _)).grown (grown_set _ ⟨w.heap.size, 1, none⟩ f2) (by simpa using hb0.size) (fun k hk => by cases hk; exact Nat.le_refl _)).grown (grown_set _ ⟨w.heap.size, 2, none⟩ f3) (by simpa using hb0.size) (fun k hk => by cases hk; exact Nat.le_refl _)⟩
  · rw [run_store _ _ _ _ _ h1, Go.Joins.cell_of_block k0 0]
    simp [Go.Joins.unfrozen_of_block k0 0]
  · rw [run_store _ _ _ _ _ h2, Go.Joins.cell_of_block k1 1]
    simp [Go.Joins.unfrozen_of_block k1 1]
  · rw [run_store _ _ _ _ _ h3, Go.Joins.cell_of_block k2 2]
    simp [Go.Joins.unfrozen_of_block k2 2]
theorem sput_as (x : Sn) (w : World) (hx : snSub w w.heap.size x) (hf : SnFine x) (r : List Int × Int) (hr : snPut x.plain = r) :
    Calls Tryz.prog 5 #[.agg #[.int .i64 x.index, .int .i64 x.term, .slice x.va x.vs.length x.vc, .slice x.ia x.im.length x.ic]] w (BytesE r w) := sput_any x w hx hf r hr
set_option maxHeartbeats 8000000 in
theorem sstore_any {w : World} {B db mb room n : Nat} {L : Dk} (h : DiskIs w B db mb room n L) (hn : n ≤ 999980) (x : Sn) (hx : snSub w w.heap.size x) (hf : SnFine x) (r : Dk × Int) (hr : dStore room L x.plain = r) :
    Calls Tryz.prog 36 #[.pointer (some ⟨db, 0, none⟩), snVal x] w (DkAt r db mb room (n + 6) w) := by
  have hmb := Nat.lt_of_lt_of_le h.mlt h.le
  have hdb := Nat.lt_of_lt_of_le h.dlt h.le
  have hb1 := (Below.refl w.heap.size w).alloc (Nat.le_refl _) (.cells #[.pointer (some ⟨db, 0, none⟩)] 51)
  have hk1 := heap_alloc_new w (.cells #[.pointer (some ⟨db, 0, none⟩)] 51)
  have hs1 : (w.alloc (.cells #[.pointer (some ⟨db, 0, none⟩)] 51)).heap.size = w.heap.size + 1 := by simp
  have hb21 := (Below.refl _ (w.alloc (.cells #[.pointer (some ⟨db, 0, none⟩)] 51))).alloc (Nat.le_refl _) (.cells (snArr x) 26)
  have hb2 := hb1.alloc hb1.size (.cells (snArr x) 26)
  have hk2 := heap_alloc_new (w.alloc (.cells #[.pointer (some ⟨db, 0, none⟩)] 51)) (.cells (snArr x) 26)
  have hk12 := (hb21.block w.heap.size (by omega)).trans hk1
  rw [hs1] at hk2
  have hs2 : w.heap.size + 2 ≤ ((w.alloc (.cells #[.pointer (some ⟨db, 0, none⟩)] 51)).alloc (.cells (snArr x) 26)).heap.size := by simp
  have HB2 := Lib.hid hb2
  have HK1 := Lib.hid hk12
  have HK2 := Lib.hid hk2
  have H := Lib.hid (h.top.below hb2 (Nat.le_refl _))
  have HX := Lib.hid (snSub_mono (snSub_below hx hb2 (Nat.le_refl _)) hb2.size)
  have HF := Lib.hid hf
  have HR := Lib.hid hr
  obtain ⟨q, hq⟩ : ∃ q, dRead L newN = q := ⟨_, rfl⟩
  have HQ := Lib.hid hq
  have hq1 : ¬ q.2 = 1 := by
    rw [← hq]
    unfold dRead
    split <;> simp
  obtain ⟨qe, hqe⟩ : ∃ e, q.2 = e := ⟨_, rfl⟩
  rw [hqe] at hq1
  have HQE := Lib.hid hqe
  have hmf : ∀ (fn : Fn) (first cap : Array Value) (w : World), (Instr.makeFunc fn first cap).run Tryz.prog w = .ok (.func fn first cap) w := fun _ _ _ _ => rfl
  clear hb1 hk1 hs1 hb21 hb2 hk2 hk12 h hx hf hr hq hqe
  obtain ⟨si, st, va, xs, vc, ia, im, ic⟩ := x
  dsimp only [snVal, snArr] at HK1 HK2 hs2 HB2 H HX ⊢
  go_enter Tryz.func36, Tryz.ntmps36
  go_wp2_with fail
  generalize (w.alloc (.cells #[.pointer (some ⟨db, 0, none⟩)] 51)).alloc (.cells #[.int .i64 si, .int .i64 st, .slice va xs.length vc, .slice ia im.length ic] 26) = w2 at HK1 HK2 hs2 HB2 H HX ⊢
  have k1 := Go.Joins.cell_of_block HK1.out 0
  go_wp2_with fail
  refine (read_any H.out (by omega) newS newS_le q HQ.out).mono ?_
  rintro e w3 ⟨ra, rm, rc, rfl, _, hd3, hg3⟩
  rw [HQE.out]
  have hz3 := hg3.size
  have HK13 := Lib.hid ((hg3.block w.heap.size (by omega) (by simp; omega)).trans HK1.out)
  have HK23 := Lib.hid ((hg3.block (w.heap.size + 1) (by omega) (by simp; omega)).trans HK2.out)
  have HD3 := Lib.hid hd3.top
  have HG3 := Lib.hid ((below_grown HB2.out (some mb)).trans hg3)
  have HX3 := Lib.hid (show snSub w3 w3.heap.size ⟨si, st, va, xs, vc, ia, im, ic⟩ by
    obtain ⟨es, ck, hmk⟩ := H.out.map.block
    exact snSub_mono (sub_map HX.out (Nat.le_refl _) hg3 hmk) hz3)
  have g0 := Go.Joins.cell_of_block HK23.out 0
  have g1 := Go.Joins.cell_of_block HK23.out 1
  have g2 := Go.Joins.cell_of_block HK23.out 2
  have g3 := Go.Joins.cell_of_block HK23.out 3
  clear hd3 hg3 k1
  go_wp2_with fail
  obtain ⟨⟨pb, pe⟩, hpb⟩ : ∃ q, snPut ⟨si, st, xs, im⟩ = q := ⟨_, rfl⟩
  refine (sput_as ⟨si, st, va, xs, vc, ia, im, ic⟩ w3 HX3.out HF.out (pb, pe) hpb).mono ?_
  rintro e w4 ⟨a5, n5, c5, rfl, ho5, hb4⟩
  have hz4 := hb4.size
  have hpw := snPut_wf (s := ⟨si, st, xs, im⟩) HF.out.im
  have hpl := snPut_len ⟨si, st, xs, im⟩
  rw [hpb] at hpw hpl
  have hb45 := (Below.refl w4.heap.size w4).alloc (Nat.le_refl _) (.cells #[.slice a5 n5 c5] 24)
  have hk5 := heap_alloc_new w4 (.cells #[.slice a5 n5 c5] 24)
  have hs5 : w4.heap.size + 1 ≤ (w4.alloc (.cells #[.slice a5 n5 c5] 24)).heap.size := by simp
  have hb35 := hb4.trans (hb45.mono hz4)
  have HK15 := Lib.hid ((hb35.block w.heap.size (by omega)).trans HK13.out)
  have HD5 := Lib.hid ((HD3.out.below hb35 (Nat.le_refl _)).top)
  have HG5 := Lib.hid (HG3.out.trans (below_grown hb35 (some mb)))
  have HO5 := Lib.hid (ho5.below hb45 (Nat.le_refl _))
  have HK5 := Lib.hid hk5
  have HPW := Lib.hid hpw
  have HPL : n5 ≤ 1048585 := by rw [← ho5.len]; exact hpl
  have HPB := Lib.hid hpb
  clear hb4 hb45 hk5 hb35 ho5 hpw hpl hpb g0 g1 g2 g3
  go_upto_region 5 with fail
  generalize w4.alloc (.cells #[.slice a5 n5 c5] 24) = w5 at HK15 HD5 HG5 HO5 HK5 hs5 ⊢
  by_cases hpe : pe = 0
  · subst hpe
    have hr := HR.out
    unfold dStore at hr
    rw [show snPut (Sn.plain ⟨si, st, va, xs, vc, ia, im, ic⟩) = (pb, 0) from HPB.out] at hr
    dsimp only at hr
    rw [if_neg (by simp)] at hr
    obtain ⟨r1, hr1⟩ : ∃ z, dRemove L newN = z := ⟨_, rfl⟩
    rw [hr1] at hr
    have HR1 := Lib.hid hr1
    obtain ⟨r2, hr2⟩ : ∃ z, dAppend room r1.1 newN pb = z := ⟨_, rfl⟩
    rw [hr2] at hr
    have HR2 := Lib.hid hr2
    have HRR := Lib.hid hr
    have k1 := Go.Joins.cell_of_block HK15.out 0
    clear hr hr1 hr2
    go_wp2_with fail
    refine (remove_any HD5.out (by omega) newS newS_le r1 HR1.out).mono ?_
    rintro e w6 ⟨rfl, hd6, hg6⟩
    have hz6 := hg6.size
    have HK16 := Lib.hid ((hg6.block w.heap.size (by omega) (by simp; omega)).trans HK15.out)
    have HK6 := Lib.hid ((hg6.block w4.heap.size (by omega) (by simp; omega)).trans HK5.out)
    have HO6 := Lib.hid (HO5.out.kept hg6 (Or.inr fun e => by have h1 := HO5.out.lt _ e; omega))
    have HD6 := Lib.hid hd6
    have HG6 := Lib.hid (HG5.out.trans hg6)
    clear hd6 hg6 k1
    obtain ⟨w6a, w6b, w7, e1, e2, e3, hk7, hb67⟩ := store_three w6 137 (.func (.func 71) #[] #[.pointer (some ⟨w.heap.size, 0, none⟩), .pointer (some ⟨w4.heap.size, 0, none⟩)]) (.func (.func 72) #[] #[.pointer (some ⟨w.heap.size, 0, none⟩)]) (.func (.func 74) #[] #[.pointer (some ⟨w.heap.size, 0, none⟩)]) rfl rfl rfl
    have l0 := Go.Joins.cell_of_block hk7 0
    have l1 := Go.Joins.cell_of_block hk7 1
    have l2 := Go.Joins.cell_of_block hk7 2
    have HK17 := Lib.hid ((hb67.block w.heap.size (by omega)).trans HK16.out)
    have HK7 := Lib.hid ((hb67.block w4.heap.size (by omega)).trans HK6.out)
    have HO7 := Lib.hid (HO6.out.below hb67 (Nat.le_refl _))
    have HD7 := Lib.hid ((HD6.out.below hb67 (Nat.le_refl _)).top)
    have HG7 := Lib.hid (HG6.out.trans (below_grown hb67 (some mb)))
    have hz7 := hb67.size
    clear hb67 hk7
    have i0 : ∀ w', (Instr.index 137 (.agg #[.func (.func 71) #[] #[.pointer (some ⟨w.heap.size, 0, none⟩), .pointer (some ⟨w4.heap.size, 0, none⟩)], .func (.func 72) #[] #[.pointer (some ⟨w.heap.size, 0, none⟩)], .func (.func 74) #[] #[.pointer (some ⟨w.heap.size, 0, none⟩)]]) (.int .i64 0)).run Tryz.prog w' = .ok (.func (.func 71) #[] #[.pointer (some ⟨w.heap.size, 0, none⟩), .pointer (some ⟨w4.heap.size, 0, none⟩)]) w' := fun _ => by kernel_rfl
    have i1 : ∀ w', (Instr.index 137 (.agg #[.func (.func 71) #[] #[.pointer (some ⟨w.heap.size, 0, none⟩), .pointer (some ⟨w4.heap.size, 0, none⟩)], .func (.func 72) #[] #[.pointer (some ⟨w.heap.size, 0, none⟩)], .func (.func 74) #[] #[.pointer (some ⟨w.heap.size, 0, none⟩)]]) (.int .i64 1)).run Tryz.prog w' = .ok (.func (.func 72) #[] #[.pointer (some ⟨w.heap.size, 0, none⟩)]) w' := fun _ => by kernel_rfl
    have i2 : ∀ w', (Instr.index 137 (.agg #[.func (.func 71) #[] #[.pointer (some ⟨w.heap.size, 0, none⟩), .pointer (some ⟨w4.heap.size, 0, none⟩)], .func (.func 72) #[] #[.pointer (some ⟨w.heap.size, 0, none⟩)], .func (.func 74) #[] #[.pointer (some ⟨w.heap.size, 0, none⟩)]]) (.int .i64 2)).run Tryz.prog w' = .ok (.func (.func 74) #[] #[.pointer (some ⟨w.heap.size, 0, none⟩)]) w' := fun _ => by kernel_rfl
    go_wp2_with fail
    clear e1 e2 e3 l0 l1 l2
    refine wp_loop_rounds 4 ?_
    rw [rounds_succ]
    go_wp2_with fail
    refine (store1_any HD7.out (by omega) a5 n5 c5 pb (Go.Joins.cell_of_block HK17.out 0) (Go.Joins.cell_of_block HK7.out 0) HO7.out.len HO7.out.in HPW.out HO7.out.nil (by omega) r2 HR2.out).mono ?_
    rintro e w8 ⟨rfl, hd8, hg8⟩
    have hz8 := hg8.size
    have HK18 := Lib.hid ((hg8.block w.heap.size (by omega) (by simp; omega)).trans HK17.out)
    have HD8 := Lib.hid hd8
    have HG8 := Lib.hid (HG7.out.trans hg8)
    clear hd8 hg8
    obtain ⟨⟨L2, e2⟩, hr2⟩ : ∃ z, r2 = z := ⟨_, rfl⟩
    subst hr2
    have hrr := HRR.out
    dsimp only at hrr
    dsimp only
    by_cases he2 : e2 = 0
    · subst he2
      rw [if_neg (by simp)] at hrr
      obtain ⟨⟨L3, e3⟩, hr3⟩ : ∃ z, dSync L2 newN = z := ⟨_, rfl⟩
      rw [hr3] at hrr
      dsimp only at hrr
      have HR3 := Lib.hid hr3
      have HRR3 := Lib.hid hrr
      clear hr3 hrr HRR
      go_wp2_with fail
      rw [rounds_succ]
      go_wp2_with fail
      refine (store2_any HD8.out (by omega) (Go.Joins.cell_of_block HK18.out 0) (L3, e3) HR3.out).mono ?_
      rintro e w9 ⟨rfl, hd9, hg9⟩
      have hz9 := hg9.size
      have HK19 := Lib.hid ((hg9.block w.heap.size (by omega) (by simp; omega)).trans HK18.out)
      have HD9 := Lib.hid hd9
      have HG9 := Lib.hid (HG8.out.trans hg9)
      clear hd9 hg9
      dsimp only
      by_cases he3 : e3 = 0
      · subst he3
        have hrr := HRR3.out
        rw [if_neg (by simp)] at hrr
        obtain ⟨⟨L4, e4⟩, hr4⟩ : ∃ z, dRename L3 newN snapN = z := ⟨_, rfl⟩
        rw [hr4] at hrr
        have HR4 := Lib.hid hr4
        have HRR4 := Lib.hid hrr
        clear hr4 hrr HRR3
        go_wp2_with fail
        rw [rounds_succ]
        go_wp2_with fail
        refine (store3_any HD9.out (by omega) (Go.Joins.cell_of_block HK19.out 0) (L4, e4) HR4.out).mono ?_
        rintro e w10 ⟨rfl, hd10, hg10⟩
        have HFIN := Lib.hid (show DkAt r db mb room (n + 6) w (.returned (.int .i64 e4)) w10 by
          rw [← HRR4.out]
          exact ⟨rfl, hd10, HG9.out.trans hg10⟩)
        clear hd10 hg10
        dsimp only
        by_cases he4 : e4 = 0
        · subst he4
          go_wp2_with fail
          rw [rounds_succ]
          go_wp2_with fail
          go_ret
          exact HFIN.out
        · go_wp2_with fail
          go_ret
          exact HFIN.out
      · have HFIN := Lib.hid (show DkAt r db mb room (n + 6) w (.returned (.int .i64 e3)) w9 by
          have h := HRR3.out
          rw [if_pos he3] at h
          rw [← h]
          exact ⟨rfl, HD9.out.more (by omega), HG9.out⟩)
        go_wp2_with fail
        go_ret
        exact HFIN.out
    · have HFIN := Lib.hid (show DkAt r db mb room (n + 6) w (.returned (.int .i64 e2)) w8 by
        rw [if_pos he2] at hrr
        rw [← hrr]
        exact ⟨rfl, HD8.out.more (by omega), HG8.out⟩)
      clear hrr HRR
      go_wp2_with fail
      go_ret
      exact HFIN.out
  · have hrr : r = (L, pe) := by
      rw [← HR.out]
      exact dStore_bad (s := ⟨si, st, xs, im⟩) HPB.out hpe
    have HRR := Lib.hid hrr
    clear hrr
    go_wp2_with fail
    go_ret
    rw [HRR.out]
    exact ⟨rfl, HD5.out.more (by omega), HG5.out⟩
end Go.Proofs.YtejgebpdipnhmaaGreatDoor
/- Two snaps alike; the chapter's example. Conditions: as each says. -/
namespace Go.Proofs.YtejgebpdipnhmaaGreatDoor
open Go.RowKit
set_option maxRecDepth 20000
/-- Two snaps that read alike are told the same. -/
theorem sameSnap_any (x y : Sn) (w : World) (hx : snSub w w.heap.size x) (hy : snSub w w.heap.size y) (hp : x.plain = y.plain) (hl : x.vs.length ≤ 1000000) (hm : x.im.length ≤ 4000000) :
    Calls Tryz.prog 25 #[snVal x, snVal y] w fun e w' => e = .returned (.bool true) ∧ Below w.heap.size w w' := by
  obtain ⟨si, st, va, xs, vc, ia, im, ic⟩ := x
  obtain ⟨si2, st2, va2, xs2, vc2, ia2, im2, ic2⟩ := y
  simp only [Sn.plain, SnP.mk.injEq] at hp
  obtain ⟨rfl, rfl, rfl, rfl⟩ := hp
  dsimp only [snVal, snSub] at hx hy hl hm ⊢
  obtain ⟨n, hn⟩ : ∃ n, xs.length = n := ⟨_, rfl⟩
  obtain ⟨m, hmm⟩ : ∃ m, im.length = m := ⟨_, rfl⟩
  rw [hn] at hl ⊢
  rw [hmm] at hm ⊢
  have hb1 := (Below.refl w.heap.size w).alloc (Nat.le_refl _) (.cells #[.int .i64 si, .int .i64 st, .slice va n vc, .slice ia m ic] 26)
  have hb2 := hb1.alloc hb1.size (.cells #[.int .i64 si, .int .i64 st, .slice va2 n vc2, .slice ia2 m ic2] 26)
  have hk1 := heap_alloc_new w (.cells #[.int .i64 si, .int .i64 st, .slice va n vc, .slice ia m ic] 26)
  have hs1 : (w.alloc (.cells #[.int .i64 si, .int .i64 st, .slice va n vc, .slice ia m ic] 26)).heap.size = w.heap.size + 1 := by simp
  have hb21 := (Below.refl _ (w.alloc (.cells #[.int .i64 si, .int .i64 st, .slice va n vc, .slice ia m ic] 26))).alloc (Nat.le_refl _) (.cells #[.int .i64 si, .int .i64 st, .slice va2 n vc2, .slice ia2 m ic2] 26)
  have hk2 := heap_alloc_new (w.alloc (.cells #[.int .i64 si, .int .i64 st, .slice va n vc, .slice ia m ic] 26)) (.cells #[.int .i64 si, .int .i64 st, .slice va2 n vc2, .slice ia2 m ic2] 26)
  have hk12 := (hb21.block w.heap.size (by omega)).trans hk1
  rw [hs1] at hk2
  have hs2 : w.heap.size + 2 ≤ ((w.alloc (.cells #[.int .i64 si, .int .i64 st, .slice va n vc, .slice ia m ic] 26)).alloc (.cells #[.int .i64 si, .int .i64 st, .slice va2 n vc2, .slice ia2 m ic2] 26)).heap.size := by simp
  have HB2 := Lib.hid hb2
  have HK1 := Lib.hid hk12
  have HK2 := Lib.hid hk2
  have HX1 := Lib.hid ((hx.1.below noSub_kept hb2 (Nat.le_refl _)).mono noSub_rising hb2.size)
  have HX2 := Lib.hid ((hx.2.below hb2 (Nat.le_refl _)).mono hb2.size)
  have HY1 := Lib.hid ((hy.1.below noSub_kept hb2 (Nat.le_refl _)).mono noSub_rising hb2.size)
  have HY2 := Lib.hid ((hy.2.below hb2 (Nat.le_refl _)).mono hb2.size)
  have HN := Lib.hid hn
  have HM := Lib.hid hmm
  clear hb1 hb2 hk1 hs1 hb21 hk2 hk12 hx hy hn hmm
  go_enter Tryz.func25, Tryz.ntmps25
  go_upto_region 1 with fail
  generalize (w.alloc (.cells #[.int .i64 si, .int .i64 st, .slice va n vc, .slice ia m ic] 26)).alloc (.cells #[.int .i64 si, .int .i64 st, .slice va2 n vc2, .slice ia2 m ic2] 26) = w2 at HB2 HK1 HK2 HX1 HX2 HY1 HY2 hs2 ⊢
  have g0 := Go.Joins.cell_of_block HK1.out 0
  have g1 := Go.Joins.cell_of_block HK1.out 1
  have g2 := Go.Joins.cell_of_block HK1.out 2
  have g3 := Go.Joins.cell_of_block HK1.out 3
  have e0 := Go.Joins.cell_of_block HK2.out 0
  have e1 := Go.Joins.cell_of_block HK2.out 1
  have e2 := Go.Joins.cell_of_block HK2.out 2
  have e3 := Go.Joins.cell_of_block HK2.out 3
  go_wp2_with fail
  refine (sameI_any va n vc va2 n vc2 xs w2 w2.heap.size HN.out HN.out HX1.out HY1.out (Nat.le_refl _) (by omega)).mono ?_
  rintro e w3 ⟨rfl, hb3⟩
  have hk13 := (hb3.block w.heap.size (by omega)).trans HK1.out
  have hk23 := (hb3.block (w.heap.size + 1) (by omega)).trans HK2.out
  have HB3 := Lib.hid hb3
  clear g0 g1 g2 g3 e0 e1 e2 e3 hb3
  have g3 := Go.Joins.cell_of_block hk13 3
  have e3 := Go.Joins.cell_of_block hk23 3
  clear hk13 hk23
  go_wp2_with fail
  refine (sameB_any ia m ic ia2 m ic2 im w3 HM.out HM.out ((HX2.out.below HB3.out (Nat.le_refl _)).mono HB3.out.size) ((HY2.out.below HB3.out (Nat.le_refl _)).mono HB3.out.size) (by omega)).mono ?_
  rintro e w4 ⟨rfl, hb4⟩
  go_wp2_with fail
  go_ret
  exact ⟨rfl, (HB2.out.trans (HB3.out.mono HB2.out.size)).trans (hb4.mono (Nat.le_trans HB2.out.size HB3.out.size))⟩
/-- The chapter's snap. -/
theorem small_any (w : World) : Calls Tryz.prog 6 #[] w fun e w' => ∃ x : Sn, e = .returned (snVal x) ∧ x.plain = smallS ∧ SnFine x ∧ snSub w' w'.heap.size x ∧ Below w.heap.size w w' := by
  have kc := Lib.run_convert_bytes_const (P := Tryz.prog) ((w.alloc (.cells #[.int .i64 0, .int .i64 0, .slice none 0 0, .slice none 0 0] 26)).alloc (.cells #[.int .i64 1, .int .i64 2, .int .i64 3] 3)) 24 5 #[.int .u8 97, .int .u8 98] 2 2 Tryz.underlying24 Tryz.underlying5
  simp only [World.size_alloc] at kc
  go_enter Tryz.func6, Tryz.ntmps6
  go_wp2_with fail
  obtain ⟨A, hA⟩ : ∃ A : Array Value, #[.int .i64 5, .int .i64 2, .slice (some ⟨w.heap.size + 1, 0, none⟩) 3 3, .slice (some ⟨w.heap.size + 1 + 1, 0, none⟩) 2 2] = A := ⟨_, rfl⟩
  have hb1 := (Below.refl w.heap.size w).alloc (Nat.le_refl _) (.cells #[.int .i64 5, .int .i64 2, .slice (some ⟨w.heap.size + 1, 0, none⟩) 3 3, .slice (some ⟨w.heap.size + 1 + 1, 0, none⟩) 2 2] 26)
  have hk1 := heap_alloc_new w (.cells #[.int .i64 5, .int .i64 2, .slice (some ⟨w.heap.size + 1, 0, none⟩) 3 3, .slice (some ⟨w.heap.size + 1 + 1, 0, none⟩) 2 2] 26)
  have hs1 : (w.alloc (.cells #[.int .i64 5, .int .i64 2, .slice (some ⟨w.heap.size + 1, 0, none⟩) 3 3, .slice (some ⟨w.heap.size + 1 + 1, 0, none⟩) 2 2] 26)).heap.size = w.heap.size + 1 := by simp
  generalize w.alloc (.cells #[.int .i64 5, .int .i64 2, .slice (some ⟨w.heap.size + 1, 0, none⟩) 3 3, .slice (some ⟨w.heap.size + 1 + 1, 0, none⟩) 2 2] 26) = w1 at hb1 hk1 hs1 ⊢
  have hn2 := snums_new w1 [1, 2, 3] #[.int .i64 1, .int .i64 2, .int .i64 3] rfl
  have hb2 := (Below.refl w1.heap.size w1).alloc (Nat.le_refl _) (.cells #[.int .i64 1, .int .i64 2, .int .i64 3] 3)
  have hs2 : (w1.alloc (.cells #[.int .i64 1, .int .i64 2, .int .i64 3] 3)).heap.size = w1.heap.size + 1 := by simp
  generalize w1.alloc (.cells #[.int .i64 1, .int .i64 2, .int .i64 3] 3) = w2 at hn2 hb2 hs2 ⊢
  have ho3 := fun B => bytes_newF w2 5 [97, 98] #[.int .u8 97, .int .u8 98] (2, 3) w2.heap.size B rfl rfl
  have hb3 := (Below.refl w2.heap.size w2).alloc (Nat.le_refl _) (.cells #[.int .u8 97, .int .u8 98] 5 (2, 3))
  have hs3 : (w2.alloc (.cells #[.int .u8 97, .int .u8 98] 5 (2, 3))).heap.size = w2.heap.size + 1 := by simp
  generalize w2.alloc (.cells #[.int .u8 97, .int .u8 98] 5 (2, 3)) = w3 at ho3 hb3 hs3 ⊢
  have hz2 := hb2.size
  have hz3 := hb3.size
  have hk3 := (hb3.block w.heap.size (by omega)).trans ((hb2.block w.heap.size (by omega)).trans hk1)
  have hsn : snSub w3 w3.heap.size ⟨5, 2, some ⟨w.heap.size + 1, 0, none⟩, [1, 2, 3], 3, some ⟨w.heap.size + 1 + 1, 0, none⟩, [97, 98], 2⟩ := by
    refine ⟨?_, ?_⟩
    · rw [hs1] at hn2
      exact (hn2.below noSub_kept hb3 (by omega)).mono noSub_rising (by omega)
    · have h := ho3 w3.heap.size (by omega)
      rw [hs2, hs1] at h
      exact h
  refine bodyPost_ret (results_cell_row rfl _ _ w.heap.size 26 _ _ _ rfl hk3 Tryz.underlying26 rfl (info_sn _ _ _ _)) rfl ⟨⟨5, 2, some ⟨w.heap.size + 1, 0, none⟩, [1, 2, 3], 3, some ⟨w.heap.size + 1 + 1, 0, none⟩, [97, 98], 2⟩, rfl, rfl, ?_, hsn, hb1.trans ((hb2.trans (hb3.mono hz2)).mono (by omega))⟩
  constructor <;> simp [N64, BytesWf]
end Go.Proofs.YtejgebpdipnhmaaGreatDoor
/- The chapter's example. Conditions: none. -/
namespace Go.Proofs.YtejgebpdipnhmaaGreatDoor
open Go.RowKit
set_option maxRecDepth 20000
theorem bytes_set {w : World} {B g k y : Nat} {z : Int} {xs : List Int} (h : BytesIn w B (some ⟨g, 0, none⟩) xs) (hk : k < xs.length) : BytesIn (w.setCell ⟨g, k, none⟩ (bv z)) B (some ⟨g, 0, none⟩) (xs.set k z) := by
  rcases h with h | ⟨b, off, h1, h2, h3⟩
  · rw [h] at hk; simp at hk
  · cases h1
    refine Or.inr ⟨g, 0, rfl, h2, fun i hi => ?_⟩
    rw [List.length_set] at hi
    have hc := h3 i hi
    rw [Nat.zero_add] at hc ⊢
    by_cases he : i = k
    · subst he
      have hbk : ∃ cs T fr, w.heap[g]? = some (.cells cs T fr) ∧ cs[i]? = some (bv (xs.getD i 0)) := by
        unfold World.cell? at hc
        cases hg : w.heap[g]? with
        | none => simp [hg] at hc
        | some o =>
          cases o with
          | cells cs T fr => simp [hg] at hc; exact ⟨cs, T, fr, rfl, hc⟩
          | _ => simp [hg] at hc
      obtain ⟨cs, T, fr, hb, hcs⟩ := hbk
      have hb2 := Go.Joins.block_setCell (i := i) hb (bv z)
      rw [Go.Joins.cell_of_block hb2 i]
      have hlt := (Array.getElem?_eq_some_iff.1 hcs).1
      simp [List.getD, hi, hlt, bv]
    · have hne : (xs.set k z).getD i 0 = xs.getD i 0 := by
        simp [List.getD, List.getElem?_set, show ¬ k = i from fun e => he e.symm]
      have hoth : (w.setCell ⟨g, k, none⟩ (bv z)).cell? ⟨g, i, none⟩ = w.cell? ⟨g, i, none⟩ := by
        apply World.cell?_setCell_other
        intro e
        injection e with e1 e2 e3
        exact he e2.symm
      rw [hne, hoth]
      exact hc
theorem dk_empty : ∀ {L : Dk}, (∀ k, dGet L k = none) → L = [] := by
  intro L h
  cases L with
  | nil => rfl
  | cons p r =>
    have := h p.1
    rw [dGet_cons, if_pos rfl] at this
    cases this
/-- The example's disk. -/
theorem aw_store : ∃ L1, dStore 1000 [] smallS = (L1, 0) ∧ dOk L1 ∧ ∀ k, dGet L1 k = if k = snapN then some ⟨smallB, []⟩ else none := by
  have h := dStore_ok (room := 1000) (L := []) List.nodup_nil small_put (by rw [smallB_len]; decide)
  obtain ⟨⟨L1, e1⟩, hq⟩ : ∃ q, dStore 1000 [] smallS = q := ⟨_, rfl⟩
  rw [hq] at h
  obtain ⟨h1, h2, h3⟩ := h
  dsimp only at h1 h2 h3
  subst h1
  refine ⟨L1, hq, h2, fun k => ?_⟩
  rw [h3]
  split
  · rfl
  · split <;> rfl
theorem aw_full : dStore 10 [] smallS = ([], 5) := dStore_full small_put (by rw [smallB_len]; decide)
theorem aw_crash {L1 : Dk} (h : ∀ k, dGet L1 k = if k = snapN then some ⟨smallB, []⟩ else none) (k : List UInt8) : dGet (dCrash 0 L1) k = if k = snapN then some ⟨smallB, []⟩ else none := by
  unfold dCrash
  rw [dGet_crash, h]
  by_cases hk : k = snapN
  · simp [hk, Fi.crash]
  · simp [hk]
theorem aw_load {L : Dk} (h : dGet L snapN = some ⟨smallB, []⟩) : dLoad L = (smallS, true, 0) := by
  unfold dLoad
  rw [h]
  dsimp only
  have e : (⟨smallB, []⟩ : Fi).all = smallB := by simp [Fi.all]
  rw [e, small_get]
  rfl
theorem aw_spoilt {L : Dk} (h : dGet L snapN = some ⟨[], smallB.set 11 1⟩) : dLoad L = (zeroSn, false, 10) := by
  unfold dLoad
  rw [h]
  dsimp only
  have e : (⟨[], smallB.set 11 1⟩ : Fi).all = smallB.set 11 1 := by simp [Fi.all]
  rw [e, small_spoilt]
  rfl
theorem aw_append {L : Dk} (hL : dOk L) (h : ∀ k, dGet L k = if k = snapN then some ⟨smallB, []⟩ else none) : dAppend 1000 (dPut L snapN ⟨[], []⟩) snapN (smallB.set 11 1) = (dPut (dPut L snapN ⟨[], []⟩) snapN ⟨[], smallB.set 11 1⟩, 0) := by
  have hd : dDel L snapN = [] := dk_empty fun k => by
    rw [dGet_del, h]
    split <;> rfl
  have hu : dUsed (dPut L snapN ⟨[], []⟩) = 0 := by
    rw [dUsed_put, hd]
    rfl
  have hl : (smallB.set 11 1).length = 59 := by rw [List.length_set, smallB_len]
  unfold dAppend
  dsimp only
  rw [snap_good, dGet_put, if_pos rfl, hu, hl, if_neg (by simp), if_neg (by simp [Fi.all]), if_neg (by omega)]
  rfl
set_option maxHeartbeats 4000000 in
theorem loads_any {w : World} {B db mb room n : Nat} {L : Dk} (h : DiskIs w B db mb room n L) (hn : n ≤ 1000000) (hsz : ∀ f, dGet L snapN = some f → f.all.length ≤ 3000000) (x : Sn) (hx : snSub w w.heap.size x) (hf : SnFine x) (hr : dLoad L = (x.plain, true, 0)) :
    Calls Tryz.prog 38 #[.pointer (some ⟨db, 0, none⟩), snVal x] w fun e w' => e = .returned (.bool true) ∧ DiskIs w' w'.heap.size db mb room (n + 1) L ∧ w.grownBy w' (some mb) := by
  have hmb := Nat.lt_of_lt_of_le h.mlt h.le
  have hdb := Nat.lt_of_lt_of_le h.dlt h.le
  have hb1 := (Below.refl w.heap.size w).alloc (Nat.le_refl _) (.cells (snArr x) 26)
  have hk1 := heap_alloc_new w (.cells (snArr x) 26)
  have hs1 : w.heap.size + 1 ≤ (w.alloc (.cells (snArr x) 26)).heap.size := by simp
  have HB1 := Lib.hid hb1
  have HK1 := Lib.hid hk1
  have H := Lib.hid ((h.top.below hb1 (Nat.le_refl _)).top)
  have HX := Lib.hid (snSub_mono (snSub_below hx hb1 (Nat.le_refl _)) hb1.size)
  have HF := Lib.hid hf
  have HR := Lib.hid hr
  clear hb1 hk1 h hx hf hr
  obtain ⟨si, st, va, xs, vc, ia, im, ic⟩ := x
  dsimp only [snVal, snArr] at HB1 HK1 hs1 H HX ⊢
  go_enter Tryz.func38, Tryz.ntmps38
  go_upto_region 1 with fail
  generalize w.alloc (.cells #[.int .i64 si, .int .i64 st, .slice va xs.length vc, .slice ia im.length ic] 26) = w1 at HB1 HK1 hs1 H HX ⊢
  go_wp2_with fail
  refine (sload_any H.out hn hsz _ HR.out).mono ?_
  rintro e w2 ⟨y, rfl, hyp, hyf, hyo, hd2, hg2⟩
  obtain ⟨es, ck, hmk⟩ := H.out.map.block
  have hz2 := hg2.size
  have HX2 := Lib.hid (snSub_mono (sub_map HX.out (Nat.le_refl _) hg2 hmk) hz2)
  have HK2 := Lib.hid ((hg2.block w.heap.size (by omega) (by simp; omega)).trans HK1.out)
  have hb23 := (Below.refl w2.heap.size w2).alloc (Nat.le_refl _) (.cells (snArr y) 26)
  have hk3 := heap_alloc_new w2 (.cells (snArr y) 26)
  have HX3 := Lib.hid (snSub_mono (snSub_below HX2.out hb23 (Nat.le_refl _)) hb23.size)
  have HK3 := Lib.hid ((hb23.block w.heap.size (by omega)).trans HK2.out)
  have HY3 := Lib.hid (show snSub (w2.alloc (.cells (snArr y) 26)) (w2.alloc (.cells (snArr y) 26)).heap.size y from snSub_mono (snSub_below ⟨ints_in rfl hyo.1, hyo.2.in⟩ hb23 (Nat.le_refl _)) hb23.size)
  have HKY := Lib.hid hk3
  have HD3 := Lib.hid ((hd2.below hb23 (Nat.le_refl _)).top)
  have HG3 := Lib.hid (((below_grown HB1.out (some mb)).trans hg2).trans (below_grown hb23 (some mb)))
  have HYP := Lib.hid hyp
  have HYF := Lib.hid hyf
  clear hyp hyf hyo hd2 hg2 hb23 hk3 hmk
  obtain ⟨yi, yt, yva, yxs, yvc, yia, yim, yic⟩ := y
  dsimp only [snVal, snArr] at HX3 HK3 HY3 HKY HD3 HG3 ⊢
  go_upto_region 2 with fail
  generalize w2.alloc (.cells #[.int .i64 yi, .int .i64 yt, .slice yva yxs.length yvc, .slice yia yim.length yic] 26) = w3 at HX3 HK3 HY3 HKY HD3 HG3 ⊢
  have g0 := Go.Joins.cell_of_block HK3.out 0
  have g1 := Go.Joins.cell_of_block HK3.out 1
  have g2 := Go.Joins.cell_of_block HK3.out 2
  have g3 := Go.Joins.cell_of_block HK3.out 3
  have e0 := Go.Joins.cell_of_block HKY.out 0
  have e1 := Go.Joins.cell_of_block HKY.out 1
  have e2 := Go.Joins.cell_of_block HKY.out 2
  have e3 := Go.Joins.cell_of_block HKY.out 3
  go_wp2_with fail
  refine (sameSnap_any ⟨yi, yt, yva, yxs, yvc, yia, yim, yic⟩ ⟨si, st, va, xs, vc, ia, im, ic⟩ w3 HY3.out HX3.out HYP.out HYF.out.vn HYF.out.ln).mono ?_
  rintro e w4 ⟨rfl, hb4⟩
  have HD4 := Lib.hid ((HD3.out.below hb4 (Nat.le_refl _)).top)
  have HG4 := Lib.hid (HG3.out.trans (below_grown hb4 (some mb)))
  clear hb4 g0 g1 g2 g3 e0 e1 e2 e3
  go_wp2_with fail
  go_ret
  exact ⟨rfl, HD4.out, HG4.out⟩
theorem cut_at (z : Int) {w : World} {B db mb room n : Nat} {L : Dk} (h : DiskIs w B db mb room n L) (hn : n ≤ 1000000) (s : ByteArray) (hs : s.size ≤ maxLen) (f : Fi) (hg : dGet L s.data.toList = some f) (m : Nat) (hz : z = (m : Int)) (hm : m ≤ f.all.length) (r : Dk × Int) (hr : dCut L s.data.toList m = r) :
    Calls Tryz.prog 40 #[.pointer (some ⟨db, 0, none⟩), .string s, .int .i64 z] w (DkAt r db mb room (n + 1) w) := hz ▸ cut_any h hn s hs f hg m hm r hr
set_option maxHeartbeats 8000000 in
theorem awake19_any (w : World) : Calls Tryz.prog 10 #[] w fun e w' => e = .returned (.bool true) ∧ Below w.heap.size w w' := by
  obtain ⟨L1, hst, hok1, hg1⟩ := aw_store
  have HST := Lib.hid hst
  have HG1 := Lib.hid hg1
  have HOK1 := Lib.hid hok1
  clear hst hg1 hok1
  go_enter Tryz.func10, Tryz.ntmps10
  go_wp2_with fail
  refine (dnew_any 1000 w 1000 (by decide) (by decide)).mono ?_
  rintro e w1 ⟨rfl, hd1, hb1⟩
  have HD1 := Lib.hid hd1
  have HB1 := Lib.hid hb1
  clear hd1 hb1
  go_wp2_with fail
  refine (sload_any HD1.out (by omega) (fun f h => by cases h) (zeroSn, false, 0) rfl).mono ?_
  rintro e w2 ⟨x, rfl, _, _, _, hd2, hg2⟩
  have hb12 : Below w.heap.size w w2 := HB1.out.grown hg2 HB1.out.size (fun k hk => by cases hk; exact Nat.le_refl _)
  have hb23 := (Below.refl w2.heap.size w2).alloc (Nat.le_refl _) (.cells (snArr x) 26)
  have HD3 := Lib.hid ((hd2.below hb23 (Nat.le_refl _)).top)
  have HB3 := Lib.hid (hb12.trans (hb23.mono hb12.size))
  clear hb12 hb23 hd2 hg2
  obtain ⟨si, st, va, xs, vc, ia, im, ic⟩ := x
  dsimp only [snVal, snArr] at HD3 HB3 ⊢
  go_upto_region 3 with fail
  generalize w2.alloc (.cells #[.int .i64 si, .int .i64 st, .slice va xs.length vc, .slice ia im.length ic] 26) = w3 at HD3 HB3 ⊢
  go_wp2_with fail
  refine (small_any w3).mono ?_
  rintro e w4 ⟨y, rfl, hyp, hyf, hys, hb4⟩
  have HD4 := Lib.hid ((HD3.out.below hb4 (Nat.le_refl _)).top)
  have HB4 := Lib.hid (HB3.out.trans (hb4.mono HB3.out.size))
  have HYP := Lib.hid hyp
  have HYF := Lib.hid hyf
  have HYS := Lib.hid hys
  clear hb4 hyp hyf hys
  go_wp2_with fail
  refine (sstore_any HD4.out (by omega) y HYS.out HYF.out (L1, 0) (by rw [HYP.out]; exact HST.out)).mono ?_
  rintro e w5 ⟨rfl, hd5, hg5⟩
  have HD5 := Lib.hid hd5
  have HB5 := Lib.hid (HB4.out.grown hg5 HB4.out.size (fun k hk => by cases hk; exact Nat.le_refl _))
  clear hd5 hg5
  go_wp2_with fail
  refine (crash_any HD5.out (by omega) 0 (by decide)).mono ?_
  rintro e w6 ⟨rfl, hd6, hg6⟩
  have HD6 := Lib.hid hd6
  have HB6 := Lib.hid (HB5.out.grown hg6 HB5.out.size (fun k hk => by cases hk; exact Nat.le_refl _))
  clear hd6 hg6
  have HC := Lib.hid (aw_crash HG1.out)
  have HCO := Lib.hid HD6.out.ok
  generalize dCrash 0 L1 = L2 at HD6 HC HCO
  have hsn2 : dGet L2 snapN = some ⟨smallB, []⟩ := by rw [HC.out, if_pos rfl]
  have HSN := Lib.hid hsn2
  have hsz2 : ∀ f, dGet L2 snapN = some f → f.all.length ≤ 3000000 := fun f h => by
    rw [HSN.out] at h
    cases h
    simp [Fi.all, smallB_len]
  have HSZ := Lib.hid hsz2
  clear hsn2 hsz2
  go_wp2_with fail
  refine (small_any w6).mono ?_
  rintro e w7 ⟨z, rfl, hzp, hzf, hzs, hb7⟩
  have HD7 := Lib.hid ((HD6.out.below hb7 (Nat.le_refl _)).top)
  have HB7 := Lib.hid (HB6.out.trans (hb7.mono HB6.out.size))
  have HZP := Lib.hid hzp
  have HZF := Lib.hid hzf
  have HZS := Lib.hid hzs
  clear hb7 hzp hzf hzs
  go_wp2_with fail
  refine (loads_any HD7.out (by omega) HSZ.out z HZS.out HZF.out (by rw [HZP.out]; exact aw_load HSN.out)).mono ?_
  rintro e w8 ⟨rfl, hd8, hg8⟩
  have HD8 := Lib.hid hd8
  have HB8 := Lib.hid (HB7.out.grown hg8 HB7.out.size (fun k hk => by cases hk; exact Nat.le_refl _))
  clear hd8 hg8
  go_wp2_with fail
  refine (dnew_any 10 w8 10 (by decide) (by decide)).mono ?_
  rintro e w9 ⟨rfl, hd9, hb9⟩
  have HD9 := Lib.hid ((HD8.out.below hb9 (Nat.le_refl _)))
  have HE9 := Lib.hid hd9
  have HB9 := Lib.hid (HB8.out.trans (hb9.mono HB8.out.size))
  have HZ9 := Lib.hid hb9.size
  clear hd9 hb9
  go_wp2_with fail
  refine (small_any w9).mono ?_
  rintro e w10 ⟨u, rfl, hup, huf, hus, hb10⟩
  have HD10 := Lib.hid (HD9.out.below hb10 (Nat.le_trans HD9.out.le (Nat.le_refl _)))
  have HE10 := Lib.hid ((HE9.out.below hb10 (Nat.le_refl _)).top)
  have HB10 := Lib.hid (HB9.out.trans (hb10.mono HB9.out.size))
  have HZ10 := Lib.hid (Nat.le_trans HZ9.out hb10.size)
  have HUP := Lib.hid hup
  have HUF := Lib.hid huf
  have HUS := Lib.hid hus
  clear hb10 hup huf hus
  go_wp2_with fail
  refine (sstore_any HE10.out (by omega) u HUS.out HUF.out ([], 5) (by rw [HUP.out]; exact aw_full)).mono ?_
  rintro e w11 ⟨rfl, hd11, hg11⟩
  have hb811 : Below w8.heap.size w10 w11 := ⟨hg11.os, hg11.tape, hg11.output, hg11.size, fun i hi => hg11.block i (Nat.lt_of_lt_of_le hi HZ10.out) (by simp; omega)⟩
  have HD11 := Lib.hid ((HD10.out.below hb811 (Nat.le_refl _)).top)
  have HB11 := Lib.hid (HB10.out.trans (hb811.mono HB8.out.size))
  clear hd11 hg11 hb811 HE9 HE10
  go_wp2_with fail
  refine (read_any HD11.out (by omega) snapS snapS_le (smallB, 0) (by unfold dRead; rw [show dGet L2 snapS.data.toList = _ from HSN.out]; simp [Fi.all])).mono ?_
  rintro e w12 ⟨a, m, c, rfl, ho, hd12, hg12⟩
  obtain rfl : m = 59 := ho.len.symm.trans smallB_len
  have hrow := ho.row
  obtain ⟨g, rfl⟩ : ∃ g, a = some ⟨g, 0, none⟩ := by
    rcases Go.Joins.ownsRow_forms hrow with ⟨_, h2⟩ | ⟨g, c', h2⟩
    · omega
    · injection h2 with h3; exact ⟨g, h3⟩
  have hgl := ownsRow_lt' hrow
  have hfz := World.ownsRow.frozenAt hrow 11
  have hin := ho.in
  have hc11 : w12.cell? ⟨g, 11, none⟩ = some (.int .u8 0) := by
    have h := World.ownsRow.cellAt hrow 11 (by omega)
    rw [h, List.getElem?_map, smallB_at]
    rfl
  have hb12 := HB11.out.grown hg12 HB11.out.size (fun k hk => by cases hk; exact Nat.le_refl _)
  have hset := bytes_set (y := 0) (z := 1) hin (by rw [smallB_len]; omega : 11 < smallB.length)
  have hgs : w12.grownBy _ (some g) := grown_set w12 ⟨g, 11, none⟩ (bv 1)
  have hd13 : DiskIs (w12.setCell ⟨g, 11, none⟩ (bv 1)) w11.heap.size (w.heap.size + 1) w.heap.size 1000 _ L2 := hd12.below (below_at hgs (by omega) |>.mono hgl.1) (Nat.le_refl _)
  have HSET := Lib.hid (hset.mono (B' := (w12.setCell ⟨g, 11, none⟩ (bv 1)).heap.size) (by simp))
  have HD13 := Lib.hid hd13.top
  have HB13 := Lib.hid (hb12.grown hgs hb12.size (fun k hk => by cases hk; have := HB11.out.size; omega))
  have HCAP := Lib.hid (bown_cap ho)
  clear hrow hin hb12 hset hgs hd13 hd12 hg12 ho
  have hw1 : IntKind.u8.wrap (0 + 1) = 1 := by decide
  go_wp2_with fail
  have e13 : w12.setCell ⟨g, 11, none⟩ (bv 1) = w12.setCell ⟨g, 11, none⟩ (.int .u8 1) := rfl
  rw [e13] at HSET HD13 HB13
  generalize w12.setCell ⟨g, 11, none⟩ (.int .u8 1) = w13 at HSET HD13 HB13 ⊢
  refine (cut_at 0 HD13.out (by omega) snapS snapS_le ⟨smallB, []⟩ HSN.out 0 rfl (Nat.zero_le _) _ (dCut_eq HSN.out (Nat.zero_le _))).mono ?_
  rintro e w14 ⟨rfl, hd14, hg14⟩
  have hmb13 := HD13.out.mlt
  have hz14 := hg14.size
  obtain ⟨es, ck, hmk⟩ := HD13.out.map.block
  have HSET14 := Lib.hid ((bytes_map HSET.out (Nat.le_refl _) hg14 hmk).mono hz14)
  have HD14 := Lib.hid hd14
  have HB14 := Lib.hid (HB13.out.grown hg14 HB13.out.size (fun k hk => by cases hk; exact Nat.le_refl _))
  clear hd14 hg14 hmk
  rw [List.take_zero] at HD14
  have hw9 : BytesWf (smallB.set 11 1) := fun v hv => by
    rcases List.mem_or_eq_of_mem_set hv with h | h
    · exact smallB_wf v h
    · omega
  go_wp2_with fail
  refine (append_any HD14.out (by omega) snapS snap_named (some ⟨g, 0, none⟩) 59 c (smallB.set 11 1) (by rw [List.length_set, smallB_len]) HSET14.out hw9 (fun h => by cases h) (by omega) _ (aw_append HCO.out HC.out)).mono ?_
  rintro e w15 ⟨rfl, hd15, hg15⟩
  have HD15 := Lib.hid hd15
  have HB15 := Lib.hid (HB14.out.grown hg15 HB14.out.size (fun k hk => by cases hk; exact Nat.le_refl _))
  clear hd15 hg15
  dsimp only at HD15
  have hsn : dGet (dPut (dPut L2 snapN ⟨[], []⟩) snapN ⟨[], smallB.set 11 1⟩) snapN = some ⟨[], smallB.set 11 1⟩ := by rw [dGet_put, if_pos rfl]
  go_wp2_with fail
  refine (sload_any HD15.out (by omega) (fun f h => by rw [hsn] at h; cases h; simp [Fi.all, smallB_len]) (zeroSn, false, 10) (aw_spoilt hsn)).mono ?_
  rintro e w16 ⟨v, rfl, _, _, _, _, hg16⟩
  have hb16 := HB15.out.grown hg16 HB15.out.size (fun k hk => by cases hk; exact Nat.le_refl _)
  have hb17 := hb16.trans (((Below.refl w16.heap.size w16).alloc (Nat.le_refl _) (.cells (snArr v) 26)).mono hb16.size)
  clear hb16 hg16
  obtain ⟨si, st, va, xs, vc, ia, im, ic⟩ := v
  dsimp only [snVal, snArr] at hb17 ⊢
  go_upto_region 15 with fail
  generalize w16.alloc (.cells #[.int .i64 si, .int .i64 st, .slice va xs.length vc, .slice ia im.length ic] 26) = w17 at hb17 ⊢
  go_wp2_with fail
  go_ret
  exact ⟨rfl, hb17⟩
end Go.Proofs.YtejgebpdipnhmaaGreatDoor
/- A snap among the arguments. Conditions: it is read as the row reads it, its weights are bounded. -/
namespace Go.Proofs.YtejgebpdipnhmaaGreatDoor
open Go.RowKit Go.ChangeShapes
set_option maxRecDepth 20000
/-- What holds of a snap among the arguments. -/
structure SnArg (x : Sn) : Prop where
  index : (Lit.int .i64 x.index).wf = true
  term : (Lit.int .i64 x.term).wf = true
  vs : ∀ v ∈ x.vs, (Lit.int .i64 v).wf = true
  vn : x.vs.length * 8 ≤ 140737488351232
  im : BytesWf x.im
  ln : x.im.length ≤ 140737488351232
  vnil : x.va = none → x.vc = 0
  inil : x.ia = none → x.ic = 0
  vcap : x.vs.length ≤ x.vc
  icap : x.im.length ≤ x.ic
theorem SnArg.fine {x : Sn} (h : SnArg x) (h1 : x.vs.length ≤ 1000000) (h2 : x.im.length ≤ 4000000) : SnFine x :=
  ⟨of_lit h.index, of_lit h.term, fun v hv => of_lit (h.vs v hv), h1, h.im, h2, h.vnil, h.inil, h.vcap, h.icap⟩
end Go.Proofs.YtejgebpdipnhmaaGreatDoor
/- A snap's bytes are got as it; what is got of any bytes is put as just these. Conditions: as the law's statement. -/
namespace Go.Proofs.YtejgebpdipnhmaaGreatDoor
open Go.RowKit Go.ChangeShapes
set_option maxRecDepth 20000
theorem sget_as (ao : Option Addr) (n cap : Nat) (b : List Int) (w : World) (hn : b.length = n) (hx : BytesIn w w.heap.size ao b) (hw : BytesWf b) (hnil : ao = none → cap = 0) (hcap : n ≤ cap) (hl : n ≤ 3000000) (r : SnP × Int) (hr : snGet b = r) :
    Calls Tryz.prog 9 #[.slice ao n cap] w fun e w' => ∃ (i t : Int) (va : Option Addr) (xs : List Int) (vc : Nat) (ia : Option Addr) (im : List Int) (ic : Nat), e = .returned (.tuple #[.agg #[.int .i64 i, .int .i64 t, .slice va xs.length vc, .slice ia im.length ic], .int .i64 r.2]) ∧ (⟨i, t, xs, im⟩ : SnP) = r.1 ∧ SnFine ⟨i, t, va, xs, vc, ia, im, ic⟩ ∧ OwnSn w' w.heap.size ⟨i, t, va, xs, vc, ia, im, ic⟩ ∧ Below w.heap.size w w' := by
  refine (sget_any ao n cap b w hn hx hw hnil hcap hl r hr).mono ?_
  rintro e w' ⟨⟨i, t, va, xs, vc, ia, im, ic⟩, rfl, h1, h2, h3, h4⟩
  exact ⟨i, t, va, xs, vc, ia, im, ic, rfl, h1, h2, h3, h4⟩
theorem own_sub {w : World} {base : Nat} {x : Sn} (h : OwnSn w base x) : snSub w w.heap.size x := ⟨ints_in rfl h.1, h.2.in⟩
end Go.Proofs.YtejgebpdipnhmaaGreatDoor
/- Pick: any number is brought into 0 to n - 1. Condition: n is at least 1. -/
namespace Go.Proofs.YtejgebpdipnhmaaGreatDoor
open Go.RowKit
set_option maxRecDepth 20000
end Go.Proofs.YtejgebpdipnhmaaGreatDoor
/- What is used for the stage's theorem: copies of snaps, steps among the arguments, the plain law. Conditions: as each says. -/
namespace Go.Proofs.YtejgebpdipnhmaaGreatDoor
open Go.RowKit Go.ChangeShapes
set_option maxRecDepth 20000
end Go.Proofs.YtejgebpdipnhmaaGreatDoor
