/- Of the law FrameNumbers: its last parts. No condition. -/
import Derived.Test.YtgigfeppaalbcaaGreatDoorNums03
import Derived.Deep.Cut
namespace Go.Proofs.YtgigfeppaalbcaaGreatDoor
open Go.RowKit
set_option maxRecDepth 1000000

set_option maxHeartbeats 8000000 in
theorem frNums29 {W wr : World} {ay a2 : Option Addr} {cy c2 : Nat} (hbW : Below W.heap.size W wr) {K : Act → World → Prop} (hK : ∀ a w, Code.wp Tryz.prog (afterAt 29) (bodyPost Tryz.prog Tryz.f5 fun e w' => e = .returned (.bool true) ∧ Below W.heap.size W w') a w → K a w) (u0 u1 u2 u3 u4 u5 u6 u7 u8 u9 u10 u16 u18 u20 u21 u22 u23 u24 u25 u26 u27 u28 u29 u30 u31 u32 u33 u34 u35 u36 u37 u38 u39 u40 u41 u42 u43 u44 u45 u46 u47 u48 u49 u50 u51 u52 u53 u54 u55 u56 u57 u58 u59 u60 u61 u62 u63 u64 u65 u66 u67 u68 u69 u70 u71 u72 u73 u74 u75 u76 u77 u78 u79 u80 u81 u82 u83 u84 u85 u86 u87 u88 u89 u90 u91 u92 u93 u94 u95 u96 u97 u98 u99 u100 u101 u102 u103 u104 u105 u106 u107 u108 u109 u110 u111 u112 u113 u114 u115 u116 u117 u118 u119 u120 u121 u122 u123 u124 u125 u126 u127 u128 u129 u130 u131 u132 u133 u134 u135 u136 u137 u138 u139 u140 u141 u142 u143 u144 u145 u146 u147 u148 u149 u150 u151 u152 u153 u154 u155 u156 u157 u158 u159 u160 u161 u162 u163 u164 u165 u166 u167 u168 u169 u170 u171 u172 u173 u174 u175 u176 u177 u178 u179 u180 u181 u182 u183 u184 u185 u186 u187 u188 u189 u190 u191 u192 u193 u194 u195 u196 : Value) :
    Code.wp Tryz.prog (regAt 29) (Exit.then K (bodyPost Tryz.prog Tryz.f5 fun e w' => e = .returned (.bool true) ∧ Below W.heap.size W w')) ⟨(u0 :: u1 :: u2 :: u3 :: u4 :: u5 :: u6 :: u7 :: u8 :: u9 :: u10 :: .slice ay 1048594 cy :: .int .i64 0 :: .slice a2 2 c2 :: .int .i64 1048594 :: .bool false :: u16 :: .int .i64 3 :: u18 :: .int .i64 2 :: u20 :: u21 :: u22 :: u23 :: u24 :: u25 :: u26 :: u27 :: u28 :: u29 :: u30 :: u31 :: u32 :: u33 :: u34 :: u35 :: u36 :: u37 :: u38 :: u39 :: u40 :: u41 :: u42 :: u43 :: u44 :: u45 :: u46 :: u47 :: u48 :: u49 :: u50 :: u51 :: u52 :: u53 :: u54 :: u55 :: u56 :: u57 :: u58 :: u59 :: u60 :: u61 :: u62 :: u63 :: u64 :: u65 :: u66 :: u67 :: u68 :: u69 :: u70 :: u71 :: u72 :: u73 :: u74 :: u75 :: u76 :: u77 :: u78 :: u79 :: u80 :: u81 :: u82 :: u83 :: u84 :: u85 :: u86 :: u87 :: u88 :: u89 :: u90 :: u91 :: u92 :: u93 :: u94 :: u95 :: u96 :: u97 :: u98 :: u99 :: u100 :: u101 :: u102 :: u103 :: u104 :: u105 :: u106 :: u107 :: u108 :: u109 :: u110 :: u111 :: u112 :: u113 :: u114 :: u115 :: u116 :: u117 :: u118 :: u119 :: u120 :: u121 :: u122 :: u123 :: u124 :: u125 :: u126 :: u127 :: u128 :: u129 :: u130 :: u131 :: u132 :: u133 :: u134 :: u135 :: u136 :: u137 :: u138 :: u139 :: u140 :: u141 :: u142 :: u143 :: u144 :: u145 :: u146 :: u147 :: u148 :: u149 :: u150 :: u151 :: u152 :: u153 :: u154 :: u155 :: u156 :: u157 :: u158 :: u159 :: u160 :: u161 :: u162 :: u163 :: u164 :: u165 :: u166 :: u167 :: u168 :: u169 :: u170 :: u171 :: u172 :: u173 :: u174 :: u175 :: u176 :: u177 :: u178 :: u179 :: u180 :: u181 :: u182 :: u183 :: u184 :: u185 :: u186 :: u187 :: u188 :: u189 :: u190 :: u191 :: u192 :: u193 :: u194 :: u195 :: u196 :: []).toArray, []⟩ wr := by
  conv => arg 2; whnf
  conv at hK => enter [a, w, 1, 2]; whnf
  have hbWy6 := hbW
  go_wp2_with fail
  refine (puts_any wr none 0 0 [] rfl (Or.inl rfl) (by intro f hf; cases hf) (by decide)).mono ?_
  rintro e y7 ⟨rfl, hby7⟩
  have hbWy7 : Below W.heap.size W y7 := hbW.trans (hby7.mono hbW.size)
  go_wp2_with fail
  refine (awake03_any y7).mono ?_
  rintro e y8 ⟨rfl, hby8⟩
  have hbWy8 : Below W.heap.size W y8 := hbWy7.trans (hby8.mono hbWy7.size)
  go_wp2_with fail
  go_ret
  exact ⟨rfl, hbWy8⟩

set_option maxHeartbeats 8000000 in
theorem frNums27 {W wr : World} {ay a2 : Option Addr} {cy c2 fb zb : Nat} (hbW : Below W.heap.size W wr) (HFB0 : wr.heap[fb]? = some (.cells #[.int .i64 1, .slice (some ⟨zb, 0, none⟩) 1048577 1048577] 44 (0, 0))) {Z : List Int} (hZl : Z.length = 1048577) (hZw : BytesWf Z) (hzb : BytesIn wr wr.heap.size (some ⟨zb, 0, none⟩) Z) {K : Act → World → Prop} (hK : ∀ a w, Code.wp Tryz.prog (afterAt 27) (bodyPost Tryz.prog Tryz.f5 fun e w' => e = .returned (.bool true) ∧ Below W.heap.size W w') a w → K a w) (u0 u1 u2 u3 u4 u5 u6 u7 u8 u9 u16 u17 u18 u19 u20 u21 u22 u23 u24 u25 u26 u27 u28 u29 u30 u31 u32 u33 u34 u35 u36 u37 u38 u39 u40 u41 u42 u43 u44 u45 u46 u47 u48 u49 u50 u51 u52 u53 u54 u55 u56 u57 u58 u59 u60 u61 u62 u63 u64 u65 u66 u67 u68 u69 u70 u71 u72 u73 u74 u75 u76 u77 u78 u79 u80 u81 u82 u83 u84 u85 u86 u87 u88 u89 u90 u91 u92 u93 u94 u95 u96 u97 u98 u99 u100 u101 u102 u103 u104 u105 u106 u107 u108 u109 u110 u111 u112 u113 u114 u115 u116 u117 u118 u119 u120 u121 u122 u123 u124 u125 u126 u127 u128 u129 u130 u131 u132 u133 u134 u135 u136 u137 u138 u139 u140 u141 u142 u143 u144 u145 u146 u147 u148 u149 u150 u151 u152 u153 u154 u155 u156 u157 u158 u159 u160 u161 u162 u163 u164 u165 u166 u167 u168 u169 u170 u171 u172 u173 u174 u175 u176 u177 u178 u179 u180 u181 u182 u183 u184 u185 u186 u187 u188 u189 u190 u191 u192 u193 u194 u195 u196 : Value) :
    Code.wp Tryz.prog (regAt 27) (Exit.then K (bodyPost Tryz.prog Tryz.f5 fun e w' => e = .returned (.bool true) ∧ Below W.heap.size W w')) ⟨(u0 :: u1 :: u2 :: u3 :: u4 :: u5 :: u6 :: u7 :: u8 :: u9 :: .pointer (some ⟨fb, 0, none⟩) :: .slice ay 1048594 cy :: .int .i64 0 :: .slice a2 2 c2 :: .int .i64 1048594 :: .bool false :: u16 :: u17 :: u18 :: u19 :: u20 :: u21 :: u22 :: u23 :: u24 :: u25 :: u26 :: u27 :: u28 :: u29 :: u30 :: u31 :: u32 :: u33 :: u34 :: u35 :: u36 :: u37 :: u38 :: u39 :: u40 :: u41 :: u42 :: u43 :: u44 :: u45 :: u46 :: u47 :: u48 :: u49 :: u50 :: u51 :: u52 :: u53 :: u54 :: u55 :: u56 :: u57 :: u58 :: u59 :: u60 :: u61 :: u62 :: u63 :: u64 :: u65 :: u66 :: u67 :: u68 :: u69 :: u70 :: u71 :: u72 :: u73 :: u74 :: u75 :: u76 :: u77 :: u78 :: u79 :: u80 :: u81 :: u82 :: u83 :: u84 :: u85 :: u86 :: u87 :: u88 :: u89 :: u90 :: u91 :: u92 :: u93 :: u94 :: u95 :: u96 :: u97 :: u98 :: u99 :: u100 :: u101 :: u102 :: u103 :: u104 :: u105 :: u106 :: u107 :: u108 :: u109 :: u110 :: u111 :: u112 :: u113 :: u114 :: u115 :: u116 :: u117 :: u118 :: u119 :: u120 :: u121 :: u122 :: u123 :: u124 :: u125 :: u126 :: u127 :: u128 :: u129 :: u130 :: u131 :: u132 :: u133 :: u134 :: u135 :: u136 :: u137 :: u138 :: u139 :: u140 :: u141 :: u142 :: u143 :: u144 :: u145 :: u146 :: u147 :: u148 :: u149 :: u150 :: u151 :: u152 :: u153 :: u154 :: u155 :: u156 :: u157 :: u158 :: u159 :: u160 :: u161 :: u162 :: u163 :: u164 :: u165 :: u166 :: u167 :: u168 :: u169 :: u170 :: u171 :: u172 :: u173 :: u174 :: u175 :: u176 :: u177 :: u178 :: u179 :: u180 :: u181 :: u182 :: u183 :: u184 :: u185 :: u186 :: u187 :: u188 :: u189 :: u190 :: u191 :: u192 :: u193 :: u194 :: u195 :: u196 :: []).toArray, []⟩ wr := by
  conv => arg 2; whnf
  conv at hK => enter [a, w, 1, 2]; whnf
  have hfl := (Array.getElem?_eq_some_iff.1 HFB0).1
  have HFB := Lib.hid HFB0
  have HZB := Lib.hid hzb
  have hsW := hbW.size
  have k0 : wr.cell? ⟨fb, 0, none⟩ = some (.int .i64 1) := Go.Joins.cell_of_block HFB0 0
  have k1 : wr.cell? ⟨fb, 1, none⟩ = some (.slice (some ⟨zb, 0, none⟩) 1048577 1048577) := Go.Joins.cell_of_block HFB0 1
  clear HFB0 hzb
  go_wp2_with fail
  have hin3 := fr3_in wr wr.heap.size 0 1 (-1) none (some ⟨zb, 0, none⟩) none 0 1048577 0 [] Z [] 0 1048577 0 wr.heap.size rfl rfl hZl rfl (Or.inl rfl) HZB.out (Or.inl rfl) (Nat.le_refl _)
  have hbA3 : Below wr.heap.size wr (wr.alloc (.cells #[.int .i64 0, .slice none 0 0, .int .i64 1, .slice (some ⟨zb, 0, none⟩) 1048577 1048577, .int .i64 (-1), .slice none 0 0] 44)) := (Below.refl _ _).alloc (Nat.le_refl _) _
  have hzA3 : (wr.alloc (.cells #[.int .i64 0, .slice none 0 0, .int .i64 1, .slice (some ⟨zb, 0, none⟩) 1048577 1048577, .int .i64 (-1), .slice none 0 0] 44)).heap.size = wr.heap.size + 1 := by simp
  generalize wr.alloc (.cells #[.int .i64 0, .slice none 0 0, .int .i64 1, .slice (some ⟨zb, 0, none⟩) 1048577 1048577, .int .i64 (-1), .slice none 0 0] 44) = y3 at hin3 hbA3 hzA3 ⊢
  clear k0 k1
  have hE3 : putE [(⟨0, none, 0, []⟩ : Fr), ⟨1, some ⟨zb, 0, none⟩, 1048577, Z⟩, ⟨-1, none, 0, []⟩] = 3 := by
    simp [putE, hZl]
  refine (put_n _ 3 3 _ [] 0 3 y3 _ rfl (putL_bad hE3 (by decide)) rfl hE3 (hin3.mono (by omega)) (Nat.le_refl _) (three_all (fr_wf (by omega) (by simp) nil_wf (by simp)) (fr_wf (by omega) (by simp) hZw (by rw [hZl]; omega)) (fr_wf (by omega) (by simp) nil_wf (by simp))) (by rw [putB_three]; show 27 + 0 + Z.length + 0 ≤ _; rw [hZl]; omega) (by omega)).mono ?_
  rintro e y4 ⟨a4, c4, rfl, _, hby4⟩
  have hsy4 := hby4.size
  have hbX4 : Below wr.heap.size wr y4 := hbA3.trans (hby4.mono (by omega))
  have hbWy4 : Below W.heap.size W y4 := hbW.trans (hbX4.mono hsW)
  have hb4 := (hbX4.block _ (Array.getElem?_eq_some_iff.1 HFB.out).1).trans HFB.out
  have k0 : y4.cell? ⟨fb, 0, none⟩ = some (.int .i64 1) := Go.Joins.cell_of_block hb4 0
  have k1 : y4.cell? ⟨fb, 1, none⟩ = some (.slice (some ⟨zb, 0, none⟩) 1048577 1048577) := Go.Joins.cell_of_block hb4 1
  clear hin3 hb4 hE3
  go_wp2_with fail
  have hin5 := fr2_in y4 y4.heap.size (-1) 1 none (some ⟨zb, 0, none⟩) 0 1048577 [] Z 0 1048577 y4.heap.size rfl rfl hZl (Or.inl rfl) ((HZB.out.below hbX4 (Nat.le_refl _)).mono hbX4.size) (Nat.le_refl _)
  have hbA5 : Below y4.heap.size y4 (y4.alloc (.cells #[.int .i64 (-1), .slice none 0 0, .int .i64 1, .slice (some ⟨zb, 0, none⟩) 1048577 1048577] 44)) := (Below.refl _ _).alloc (Nat.le_refl _) _
  have hzA5 : (y4.alloc (.cells #[.int .i64 (-1), .slice none 0 0, .int .i64 1, .slice (some ⟨zb, 0, none⟩) 1048577 1048577] 44)).heap.size = y4.heap.size + 1 := by simp
  generalize y4.alloc (.cells #[.int .i64 (-1), .slice none 0 0, .int .i64 1, .slice (some ⟨zb, 0, none⟩) 1048577 1048577] 44) = y5 at hin5 hbA5 hzA5 ⊢
  clear k0 k1
  have hE5 : putE [(⟨-1, none, 0, []⟩ : Fr), ⟨1, some ⟨zb, 0, none⟩, 1048577, Z⟩] = 2 := by
    simp [putE]
  refine (put_n _ 2 2 _ [] 0 2 y5 _ rfl (putL_bad hE5 (by decide)) rfl hE5 (hin5.mono (by omega)) (Nat.le_refl _) (two_all (fr_wf (by omega) (by simp) nil_wf (by simp)) (fr_wf (by omega) (by simp) hZw (by rw [hZl]; omega))) (by rw [putB_two]; show 18 + 0 + Z.length ≤ _; rw [hZl]; omega) (by omega)).mono ?_
  rintro e y6 ⟨a6, c6, rfl, _, hby6⟩
  have hsy6 := hby6.size
  have hbWy6 : Below W.heap.size W y6 := hbWy4.trans ((hbA5.trans (hby6.mono (by omega))).mono (by have := hbWy4.size; omega))
  clear hin5 hE5 HFB HZB
  go_upto_region 29 with (fail)
  exact frNums29 hbWy6 (by assumption) _ _ _ _ _ _ _ _ _ _ _ _ _ _ _ _ _ _ _ _ _ _ _ _ _ _ _ _ _ _ _ _ _ _ _ _ _ _ _ _ _ _ _ _ _ _ _ _ _ _ _ _ _ _ _ _ _ _ _ _ _ _ _ _ _ _ _ _ _ _ _ _ _ _ _ _ _ _ _ _ _ _ _ _ _ _ _ _ _ _ _ _ _ _ _ _ _ _ _ _ _ _ _ _ _ _ _ _ _ _ _ _ _ _ _ _ _ _ _ _ _ _ _ _ _ _ _ _ _ _ _ _ _ _ _ _ _ _ _ _ _ _ _ _ _ _ _ _ _ _ _ _ _ _ _ _ _ _ _ _ _ _ _ _ _ _ _ _ _ _ _ _ _ _ _ _ _ _ _ _ _ _ _ _ _ _ _ _ _ _
end Go.Proofs.YtgigfeppaalbcaaGreatDoor
