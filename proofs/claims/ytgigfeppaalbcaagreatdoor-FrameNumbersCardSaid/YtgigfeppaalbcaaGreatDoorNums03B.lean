/- Of the law FrameNumbers: its last parts. No condition. -/
import Derived.Test.YtgigfeppaalbcaaGreatDoorNums03C
import Derived.Deep.Cut
namespace Go.Proofs.YtgigfeppaalbcaaGreatDoor
open Go.RowKit
set_option maxRecDepth 1000000

set_option maxHeartbeats 8000000 in
theorem frNums17 {W wr : World} (hbW2 : Below W.heap.size W wr) {K : Act → World → Prop} (hK : ∀ a w, Code.wp Tryz.prog (afterAt 17) (bodyPost Tryz.prog Tryz.f5 fun e w' => e = .returned (.bool true) ∧ Below W.heap.size W w') a w → K a w) (u0 u1 u2 u3 u4 u5 u6 u7 u8 u9 u10 u11 u12 u13 u14 u15 u16 u17 u18 u19 u20 u21 u22 u23 u24 u25 u26 u27 u28 u29 u30 u31 u32 u33 u34 u35 u36 u37 u38 u39 u40 u41 u42 u43 u44 u45 u46 u47 u48 u49 u50 u51 u52 u53 u54 u55 u56 u57 u58 u59 u60 u61 u62 u63 u64 u65 u66 u67 u68 u69 u70 u71 u72 u73 u74 u75 u76 u77 u78 u79 u80 u81 u82 u83 u84 u85 u86 u87 u88 u89 u90 u91 u92 u93 u94 u95 u96 u97 u98 u99 u100 u101 u102 u103 u104 u105 u106 u107 u108 u109 u110 u111 u112 u113 u114 u115 u116 u117 u118 u119 u120 u121 u122 u123 u124 u125 u126 u127 u128 u129 u130 u131 u132 u133 u134 u135 u136 u137 u138 u139 u140 u141 u142 u143 u144 u145 u146 u147 u148 u149 u150 u151 u152 u153 u154 u155 u156 u157 u158 u159 u160 u161 u162 u163 u164 u165 u166 u167 u168 u169 u170 u171 u172 u173 u174 u175 u176 u177 u178 u179 u180 u181 u182 u183 u184 u185 u186 u187 u188 u189 u190 u191 u192 u193 u194 u195 u196 : Value) :
    Code.wp Tryz.prog (regAt 17) (Exit.then K (bodyPost Tryz.prog Tryz.f5 fun e w' => e = .returned (.bool true) ∧ Below W.heap.size W w')) ⟨(u0 :: u1 :: u2 :: u3 :: u4 :: u5 :: u6 :: u7 :: u8 :: u9 :: u10 :: u11 :: u12 :: u13 :: u14 :: u15 :: u16 :: u17 :: u18 :: u19 :: u20 :: u21 :: u22 :: u23 :: u24 :: u25 :: u26 :: u27 :: u28 :: u29 :: u30 :: u31 :: u32 :: u33 :: u34 :: u35 :: u36 :: u37 :: u38 :: u39 :: u40 :: u41 :: u42 :: u43 :: u44 :: u45 :: u46 :: u47 :: u48 :: u49 :: u50 :: u51 :: u52 :: u53 :: u54 :: u55 :: u56 :: u57 :: u58 :: u59 :: u60 :: u61 :: u62 :: u63 :: u64 :: u65 :: u66 :: u67 :: u68 :: u69 :: u70 :: u71 :: u72 :: u73 :: u74 :: u75 :: u76 :: u77 :: u78 :: u79 :: u80 :: u81 :: u82 :: u83 :: u84 :: u85 :: u86 :: u87 :: u88 :: u89 :: u90 :: u91 :: u92 :: u93 :: u94 :: u95 :: u96 :: u97 :: u98 :: u99 :: u100 :: u101 :: u102 :: u103 :: u104 :: u105 :: u106 :: u107 :: u108 :: u109 :: u110 :: u111 :: u112 :: u113 :: u114 :: u115 :: u116 :: u117 :: u118 :: u119 :: u120 :: u121 :: u122 :: u123 :: u124 :: u125 :: u126 :: u127 :: u128 :: u129 :: u130 :: u131 :: u132 :: u133 :: u134 :: u135 :: u136 :: u137 :: u138 :: u139 :: u140 :: u141 :: u142 :: u143 :: u144 :: u145 :: u146 :: u147 :: u148 :: u149 :: u150 :: u151 :: u152 :: u153 :: u154 :: u155 :: u156 :: u157 :: u158 :: u159 :: u160 :: u161 :: u162 :: u163 :: u164 :: u165 :: u166 :: u167 :: u168 :: u169 :: u170 :: u171 :: u172 :: u173 :: u174 :: u175 :: u176 :: u177 :: u178 :: u179 :: u180 :: u181 :: u182 :: u183 :: u184 :: u185 :: u186 :: u187 :: u188 :: u189 :: u190 :: u191 :: u192 :: u193 :: u194 :: u195 :: u196 :: []).toArray, []⟩ wr := by
  conv => arg 2; whnf
  conv at hK => enter [a, w, 1, 2]; whnf
  go_wp2_with fail
  have hsW2 := hbW2.size
  have hK := heap_alloc_new wr (.cells #[.int .i64 (-9223372036854775808), .int .i64 (-1), .int .i64 0, .int .i64 255, .int .i64 256, .int .i64 9223372036854775807] 3)
  have hbW3 := hbW2.alloc hsW2 (.cells #[.int .i64 (-9223372036854775808), .int .i64 (-1), .int .i64 0, .int .i64 255, .int .i64 256, .int .i64 9223372036854775807] 3)
  have hkz : (wr.alloc (.cells #[.int .i64 (-9223372036854775808), .int .i64 (-1), .int .i64 0, .int .i64 255, .int .i64 256, .int .i64 9223372036854775807] 3)).heap.size = wr.heap.size + 1 := by simp
  generalize wr.alloc (.cells #[.int .i64 (-9223372036854775808), .int .i64 (-1), .int .i64 0, .int .i64 255, .int .i64 256, .int .i64 9223372036854775807] 3) = v0 at hK hbW3 hkz ⊢
  have hgW := hsW2
  generalize hgk : wr.heap.size = gk at hK hkz hgW ⊢
  have HK := Lib.hid hK
  clear hK hgk
  go_loopw [8] (fun i wr => ∃ k : Nat, k ≤ 6 ∧ i = .int .i64 k ∧ Below v0.heap.size v0 wr) (fun i _ => 6 - (intOf i).toNat)
  case atStart => exact ⟨0, by omega, rfl, Below.refl _ _⟩
  case round =>
    obtain ⟨q, hq, rfl, hbq⟩ := hrel
    have hsq := hbq.size
    by_cases hlt6 : q < 6
    · have i6 : (q : Int) < 6 := by omega
      obtain ⟨kv, hkv, hkb⟩ := kinds_at HK.out hbq (by omega) hlt6
      go_wp2_with fail
      have hin1 := fr2_in (wr.alloc (.cells #[.int .u8 5] 5)) (wr.heap.size + 1) 1 kv none (some ⟨wr.heap.size, 0, none⟩) 0 1 [] [5] 0 1 (wr.heap.size + 1) (by simp) rfl rfl (Or.inl rfl) (bytes_new wr _ [5] _ _ _ _ rfl rfl (by omega)) (by simp)
      have hbx0 : Below wr.heap.size wr ((wr.alloc (.cells #[.int .u8 5] 5)).alloc (.cells #[.int .i64 1, .slice none 0 0, .int .i64 kv, .slice (some ⟨wr.heap.size, 0, none⟩) 1 1] 44)) := ((Below.refl _ _).alloc (Nat.le_refl _) _).alloc (by simp) _
      have hzx0 : ((wr.alloc (.cells #[.int .u8 5] 5)).alloc (.cells #[.int .i64 1, .slice none 0 0, .int .i64 kv, .slice (some ⟨wr.heap.size, 0, none⟩) 1 1] 44)).heap.size = wr.heap.size + 2 := by simp
      generalize (wr.alloc (.cells #[.int .u8 5] 5)).alloc (.cells #[.int .i64 1, .slice none 0 0, .int .i64 kv, .slice (some ⟨wr.heap.size, 0, none⟩) 1 1] 44) = x0 at hin1 hbx0 hzx0 ⊢
      clear hkv
      refine (puts_any x0 _ 2 2 _ rfl (hin1.mono (by omega)) (two_all (fr_arg (by omega) (by simp) nil_wf (by simp) (by omega)) (fr_arg hkb (by simp) (by intro y hy; simp at hy; omega) (by simp) (by omega))) (by decide)).mono ?_
      rintro e x1 ⟨rfl, hbx1⟩
      have hbq1 : Below v0.heap.size v0 x1 := hbq.trans ((hbx0.trans (hbx1.mono (by omega))).mono hsq)
      obtain ⟨kv2, hkv2, hkb2⟩ := kinds_at HK.out hbq1 (by omega) hlt6
      clear hin1
      go_wp2_with fail
      have hin2 := fr2_in x1 x1.heap.size kv2 (-1) none none 0 0 [] [] 0 0 x1.heap.size rfl rfl rfl (Or.inl rfl) (Or.inl rfl) (Nat.le_refl _)
      have hbx2 : Below x1.heap.size x1 (x1.alloc (.cells #[.int .i64 kv2, .slice none 0 0, .int .i64 (-1), .slice none 0 0] 44)) := (Below.refl _ _).alloc (Nat.le_refl _) _
      have hzx2 : (x1.alloc (.cells #[.int .i64 kv2, .slice none 0 0, .int .i64 (-1), .slice none 0 0] 44)).heap.size = x1.heap.size + 1 := by simp
      generalize x1.alloc (.cells #[.int .i64 kv2, .slice none 0 0, .int .i64 (-1), .slice none 0 0] 44) = x2 at hin2 hbx2 hzx2 ⊢
      clear hkv2
      have hsx1 := hbq1.size
      refine (puts_any x2 _ 2 2 _ rfl (hin2.mono (by omega)) (two_all (fr_arg hkb2 (by simp) nil_wf (by simp) (by omega)) (fr_arg (by omega) (by simp) nil_wf (by simp) (by omega))) (by decide)).mono ?_
      rintro e x3 ⟨rfl, hbx3⟩
      have hbq3 : Below v0.heap.size v0 x3 := hbq1.trans ((hbx2.trans (hbx3.mono (by omega))).mono hsx1)
      clear hin2
      go_wp2_with fail
      go_roundw
      case rel => exact ⟨q + 1, by omega, by go_num, hbq3⟩
      case measure => simp [intOf]; omega
    · have i6 : ¬ (q : Int) < 6 := by omega
      have hbW4 : Below W.heap.size W wr := hbW3.trans (hbq.mono (by omega))
      clear HK hbq hsq hbW3 hbW2
      go_upto_region 23 with (fail)
      exact frNums23 hbW4 (by assumption) _ _ _ _ _ _ _ _ _ _ _ _ _ _ _ _ _ _ _ _ _ _ _ _ _ _ _ _ _ _ _ _ _ _ _ _ _ _ _ _ _ _ _ _ _ _ _ _ _ _ _ _ _ _ _ _ _ _ _ _ _ _ _ _ _ _ _ _ _ _ _ _ _ _ _ _ _ _ _ _ _ _ _ _ _ _ _ _ _ _ _ _ _ _ _ _ _ _ _ _ _ _ _ _ _ _ _ _ _ _ _ _ _ _ _ _ _ _ _ _ _ _ _ _ _ _ _ _ _ _ _ _ _ _ _ _ _ _ _ _ _ _ _ _ _ _ _ _ _ _ _ _ _ _ _ _ _ _ _ _ _ _ _ _ _ _ _ _ _ _ _ _ _ _ _ _ _ _ _ _ _ _ _ _ _ _ _ _ _ _ _ _ _ _ _ _ _
end Go.Proofs.YtgigfeppaalbcaaGreatDoor
