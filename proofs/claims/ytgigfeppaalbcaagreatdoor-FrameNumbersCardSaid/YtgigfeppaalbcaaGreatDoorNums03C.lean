/- Of the law FrameNumbers: its last parts. No condition. -/
import Derived.Test.YtgigfeppaalbcaaGreatDoorNums03D
import Derived.Deep.Cut
namespace Go.Proofs.YtgigfeppaalbcaaGreatDoor
open Go.RowKit
set_option maxRecDepth 1000000

set_option maxHeartbeats 8000000 in
theorem frNums23 {W wr : World} (hbW2 : Below W.heap.size W wr) {K : Act → World → Prop} (hK : ∀ a w, Code.wp Tryz.prog (afterAt 23) (bodyPost Tryz.prog Tryz.f5 fun e w' => e = .returned (.bool true) ∧ Below W.heap.size W w') a w → K a w) (u0 u1 u2 u3 u4 u5 u6 u7 u8 u9 u10 u11 u12 u13 u14 u15 u16 u17 u18 u19 u20 u21 u22 u23 u24 u25 u26 u27 u28 u29 u30 u31 u32 u33 u34 u35 u36 u37 u38 u39 u40 u41 u42 u43 u44 u45 u46 u47 u48 u49 u50 u51 u52 u53 u54 u55 u56 u57 u58 u59 u60 u61 u62 u63 u64 u65 u66 u67 u68 u69 u70 u71 u72 u73 u74 u75 u76 u77 u78 u79 u80 u81 u82 u83 u84 u85 u86 u87 u88 u89 u90 u91 u92 u93 u94 u95 u96 u97 u98 u99 u100 u101 u102 u103 u104 u105 u106 u107 u108 u109 u110 u111 u112 u113 u114 u115 u116 u117 u118 u119 u120 u121 u122 u123 u124 u125 u126 u127 u128 u129 u130 u131 u132 u133 u134 u135 u136 u137 u138 u139 u140 u141 u142 u143 u144 u145 u146 u147 u148 u149 u150 u151 u152 u153 u154 u155 u156 u157 u158 u159 u160 u161 u162 u163 u164 u165 u166 u167 u168 u169 u170 u171 u172 u173 u174 u175 u176 u177 u178 u179 u180 u181 u182 u183 u184 u185 u186 u187 u188 u189 u190 u191 u192 u193 u194 u195 u196 : Value) :
    Code.wp Tryz.prog (regAt 23) (Exit.then K (bodyPost Tryz.prog Tryz.f5 fun e w' => e = .returned (.bool true) ∧ Below W.heap.size W w')) ⟨(u0 :: u1 :: u2 :: u3 :: u4 :: u5 :: u6 :: u7 :: u8 :: u9 :: u10 :: u11 :: u12 :: u13 :: u14 :: u15 :: u16 :: u17 :: u18 :: u19 :: u20 :: u21 :: u22 :: u23 :: u24 :: u25 :: u26 :: u27 :: u28 :: u29 :: u30 :: u31 :: u32 :: u33 :: u34 :: u35 :: u36 :: u37 :: u38 :: u39 :: u40 :: u41 :: u42 :: u43 :: u44 :: u45 :: u46 :: u47 :: u48 :: u49 :: u50 :: u51 :: u52 :: u53 :: u54 :: u55 :: u56 :: u57 :: u58 :: u59 :: u60 :: u61 :: u62 :: u63 :: u64 :: u65 :: u66 :: u67 :: u68 :: u69 :: u70 :: u71 :: u72 :: u73 :: u74 :: u75 :: u76 :: u77 :: u78 :: u79 :: u80 :: u81 :: u82 :: u83 :: u84 :: u85 :: u86 :: u87 :: u88 :: u89 :: u90 :: u91 :: u92 :: u93 :: u94 :: u95 :: u96 :: u97 :: u98 :: u99 :: u100 :: u101 :: u102 :: u103 :: u104 :: u105 :: u106 :: u107 :: u108 :: u109 :: u110 :: u111 :: u112 :: u113 :: u114 :: u115 :: u116 :: u117 :: u118 :: u119 :: u120 :: u121 :: u122 :: u123 :: u124 :: u125 :: u126 :: u127 :: u128 :: u129 :: u130 :: u131 :: u132 :: u133 :: u134 :: u135 :: u136 :: u137 :: u138 :: u139 :: u140 :: u141 :: u142 :: u143 :: u144 :: u145 :: u146 :: u147 :: u148 :: u149 :: u150 :: u151 :: u152 :: u153 :: u154 :: u155 :: u156 :: u157 :: u158 :: u159 :: u160 :: u161 :: u162 :: u163 :: u164 :: u165 :: u166 :: u167 :: u168 :: u169 :: u170 :: u171 :: u172 :: u173 :: u174 :: u175 :: u176 :: u177 :: u178 :: u179 :: u180 :: u181 :: u182 :: u183 :: u184 :: u185 :: u186 :: u187 :: u188 :: u189 :: u190 :: u191 :: u192 :: u193 :: u194 :: u195 :: u196 :: []).toArray, []⟩ wr := by
  conv => arg 2; whnf
  conv at hK => enter [a, w, 1, 2]; whnf
  have hmA : ∀ w, (Instr.makeSlice 26 (.int .i64 1048576) (.int .i64 1048576)).run Tryz.prog w = .ok (.slice (some ⟨w.heap.size, 0, none⟩) 1048576 1048576) (w.alloc (.cells (madeCells #[.int .u8 0] 1048576) 5)) := fun w => run_make_row' (P := Tryz.prog) 26 5 (.int .u8 0) 1 Tryz.underlying26 infoByte rfl .i64 .i64 1048576 (by omega) (by omega) w
  have hmB : ∀ w, (Instr.makeSlice 26 (.int .i64 1048577) (.int .i64 1048577)).run Tryz.prog w = .ok (.slice (some ⟨w.heap.size, 0, none⟩) 1048577 1048577) (w.alloc (.cells (madeCells #[.int .u8 0] 1048577) 5)) := fun w => run_make_row' (P := Tryz.prog) 26 5 (.int .u8 0) 1 Tryz.underlying26 infoByte rfl .i64 .i64 1048577 (by omega) (by omega) w
  have hbW4 := hbW2
  clear hbW2
  go_wp2_with fail
  have hBIG := big_at wr
  generalize ((((wr.alloc (.cells (madeCells #[.int .u8 0] 1048576) 5)).alloc (.cells #[.int .i64 1, .slice (some ⟨wr.heap.size, 0, none⟩) 1048576 1048576] 44)).alloc (.cells (madeCells #[.int .u8 0] 1048577) 5)).alloc (.cells #[.int .i64 1, .slice (some ⟨wr.heap.size + 1 + 1, 0, none⟩) 1048577 1048577] 44)).alloc (.cells #[.int .i64 1, .slice (some ⟨wr.heap.size, 0, none⟩) 1048576 1048576, .int .i64 2, .slice none 0 0] 44) = X at hBIG ⊢
  have HB := Lib.hid hBIG
  have hbX := hBIG.below
  have hzX := hBIG.size
  clear hBIG hmA hmB
  have hsW4 := hbW4.size
  generalize hg0 : wr.heap.size = g0 at HB hbX hzX hsW4 ⊢
  have hbWX : Below W.heap.size W X := hbW4.trans (hbX.mono hsW4)
  obtain ⟨fsA, hfsA⟩ : ∃ fsA, fsA = [(⟨1, some ⟨g0, 0, none⟩, 1048576, zerosA⟩ : Fr), ⟨2, none, 0, []⟩] := ⟨_, rfl⟩
  have hokA : ∀ f ∈ fsA, okF f := by
    rw [hfsA]
    exact two_all (by unfold okF; dsimp only; rw [zA_len]; omega) (by unfold okF; simp)
  have hwfA : ∀ f ∈ fsA, FrWf f := by
    rw [hfsA]
    exact two_all (fr_wf (by omega) (by simp) zA_wf (by rw [zA_len]; omega)) (fr_wf (by omega) (by simp) nil_wf (by simp))
  have hlenA : (putB fsA).length = 1048594 := by
    rw [hfsA, putB_two]
    show 18 + zerosA.length + 0 = 1048594
    rw [zA_len]
  have hcA : fsA.length = 2 := by rw [hfsA]; rfl
  have hfsX : FramesIn X X.heap.size (some ⟨g0 + 1 + 1 + 1 + 1, 0, none⟩) fsA := by
    rw [hfsA, ← hg0]
    have := HB.out.fs
    rwa [hg0] at this ⊢
  have hzb : BytesIn X X.heap.size (some ⟨g0 + 1 + 1, 0, none⟩) zerosB := by
    have := HB.out.zb
    rwa [hg0] at this
  have hfb : X.heap[g0 + 1 + 1 + 1]? = some (.cells #[.int .i64 1, .slice (some ⟨g0 + 1 + 1, 0, none⟩) 1048577 1048577] 44 (0, 0)) := by
    have := HB.out.fb
    rwa [hg0] at this
  have HZB := Lib.hid hzb
  have HFB := Lib.hid hfb
  have hpairs : putP (fsA.map Fr.pair) = putB fsA := putB_pairs fsA
  have hsc : scanS (putB fsA) = (fsA.map Fr.pair, 1048594, false) := by
    rw [← hpairs, scan_all _ (fun p hp => by
      obtain ⟨f, hf, rfl⟩ := List.mem_map.1 hp
      have h1 := hokA f hf
      unfold okF at h1
      exact ⟨h1.1, h1.2.1, h1.2.2, (hwfA f hf).2.2.1⟩), hpairs, hlenA]
  have hwfB : BytesWf (putB fsA) := putB_wf hokA (fun f hf => (hwfA f hf).2.2.1)
  have HSC := Lib.hid hsc
  have HOKA := Lib.hid hokA
  have HWFA := Lib.hid hwfA
  have HLENA := Lib.hid hlenA
  have HCA := Lib.hid hcA
  have HFSX := Lib.hid hfsX
  clear hfsA hokA hwfA hlenA hcA hfsX hg0 hzb hfb hpairs hsc HB
  refine (put_n _ 2 2 fsA (putB fsA) 1048594 0 X _ HCA.out (putL_ok HOKA.out) HLENA.out (putE_ok HOKA.out) HFSX.out (Nat.le_refl _) HWFA.out (by rw [HLENA.out]; omega) (by omega)).mono ?_
  rintro e y1 ⟨ay, cy, rfl, hown1, hby1⟩
  have hsy1 := hby1.size
  have hbWy1 : Below W.heap.size W y1 := hbWX.trans (hby1.mono (by omega))
  have HO1 := Lib.hid hown1
  have HNY := Lib.hid (own_none hown1)
  have hcy := own_cap hown1
  clear hown1
  go_wp2_with fail
  refine (scan_at ay 1048594 cy (putB fsA) _ 1048594 false y1 _ HLENA.out HSC.out (own_at HLENA.out HO1.out) (Nat.le_refl _) hwfB HNY.out hcy (by omega)).mono ?_
  rintro e y2 ⟨v2, frs, rfl, hmap2, hfo2, hby2⟩
  have hsy2 := hby2.size
  have hlen2 : frs.length = 2 := by
    have := congrArg List.length hmap2
    simp only [List.length_map] at this
    rw [this, HCA.out]
  obtain ⟨a2, c2, hv2, _, _, _⟩ := hfo2.lie
  rw [hlen2] at hv2
  subst hv2
  have hbX2 : Below X.heap.size X y2 := hby1.trans (hby2.mono (by omega))
  have hbWy2 : Below W.heap.size W y2 := hbWX.trans (hbX2.mono (by omega))
  have hb2 := (hbX2.block _ (Array.getElem?_eq_some_iff.1 HFB.out).1).trans HFB.out
  have hzb2 := (HZB.out.below hbX2 (Nat.le_refl _)).mono hbX2.size
  clear hmap2 hfo2 hlen2 HO1
  go_upto_region 27 with (fail)
  exact frNums27 hbWy2 hb2 zB_len zB_wf hzb2 (by assumption) _ _ _ _ _ _ _ _ _ _ _ _ _ _ _ _ _ _ _ _ _ _ _ _ _ _ _ _ _ _ _ _ _ _ _ _ _ _ _ _ _ _ _ _ _ _ _ _ _ _ _ _ _ _ _ _ _ _ _ _ _ _ _ _ _ _ _ _ _ _ _ _ _ _ _ _ _ _ _ _ _ _ _ _ _ _ _ _ _ _ _ _ _ _ _ _ _ _ _ _ _ _ _ _ _ _ _ _ _ _ _ _ _ _ _ _ _ _ _ _ _ _ _ _ _ _ _ _ _ _ _ _ _ _ _ _ _ _ _ _ _ _ _ _ _ _ _ _ _ _ _ _ _ _ _ _ _ _ _ _ _ _ _ _ _ _ _ _ _ _ _ _ _ _ _ _ _ _ _ _ _ _ _ _ _ _ _ _ _ _ _
end Go.Proofs.YtgigfeppaalbcaaGreatDoor
