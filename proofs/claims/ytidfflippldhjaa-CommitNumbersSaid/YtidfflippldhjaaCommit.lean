/- Package commit and its reference by their contracts. Conditions: the voters' cells and the map lie as their reading says. -/
import Derived.Test.YtidfflippldhjaaCommitMap
import Derived.Test.YtidfflippldhjaaQuorum2
import Derived.Test.YtidfflippldhjaaHeldPlain
import Derived.Deep.RegionHeld3
namespace Go.Proofs.Ytidfflippldhjaa
open Go.RowKit Go.Maps

theorem haveS_take {f : Int → Int} {n : Int} {vs : List Int} {k : Nat} (h : k < vs.length) : haveS f n (vs.take (k + 1)) = haveS f n (vs.take k) ++ (if n ≤ f (vs.getD k 0) then [vs.getD k 0] else []) := by
  unfold haveS
  rw [List.take_succ_eq_append_getElem h, List.filter_append]
  have e : vs[k] = vs.getD k 0 := by simp [List.getD, List.getElem?_eq_getElem h]
  rw [e]
  by_cases h : n ≤ f (vs.getD k 0) <;> simp [List.filter_cons]
theorem haveS_len (f : Int → Int) (n : Int) (vs : List Int) (k : Nat) : (haveS f n (vs.take k)).length ≤ k :=
  Nat.le_trans (List.length_filter_le _ _) (List.length_take_le _ _)
def WfAll (vs : List Int) : Prop := ∀ x ∈ vs, (Lit.int .i64 x).wf = true

def HavePost (l : List Int) (w : World) (e : Ending) (w' : World) : Prop :=
  ∃ ao cap, e = .returned (.slice ao l.length cap) ∧ IntsIn w' w'.heap.size ao l ∧ Below w.heap.size w w'

theorem have_any (n : Int) (p q b : Nat) (ao : Option Addr) (cap : Nat) (vs : List Int) (ps : List (Int × Int)) (w : World) (hp : w.cell? ⟨p, 0, none⟩ = some (.slice ao vs.length cap)) (hq : w.cell? ⟨q, 0, none⟩ = some (.map (some b)))
    (hx : IntsIn w w.heap.size ao vs) (hm : MapIs w b ps) (hw : WfAll vs) (hl : vs.length ≤ 1099511627776) :
    Calls Try.prog 15 #[.int .i64 n, .pointer (some ⟨p, 0, none⟩), .pointer (some ⟨q, 0, none⟩)] w (HavePost (haveS (mget ps) n vs) w) := by
  obtain ⟨i0, hi, hz0, hz1, hz2⟩ := info_parts infoInt
  have HX := Lib.hid hx
  clear hx
  have pl : p < w.heap.size := World.block_lt_of_cell? w _ hp
  have ql : q < w.heap.size := World.block_lt_of_cell? w _ hq
  go_enter Try.func15, Try.ntmps15
  go_wp2_with fail
  go_loopw [5, 7, 10] (fun v _ i wr => ∃ k : Nat, k ≤ vs.length ∧ i = .int .i64 k ∧ wr.ownsRow w.heap.size 3 1 v (haveS (mget ps) n (vs.take k)).length ((haveS (mget ps) n (vs.take k)).map (Value.int .i64)) ∧ Below w.heap.size w wr) (fun _ _ i _ => vs.length - (intOf i).toNat)
  case atStart => exact ⟨0, by omega, rfl, World.ownsRow_nil _ _ _ _, Below.refl _ _⟩
  case round =>
    obtain ⟨k, hk, rfl, hown, hbel⟩ := hrel
    have hle := haveS_len (mget ps) n vs k
    by_cases hlt : k < vs.length
    · rcases HX.out with h0 | ⟨bb, off, rfl, hb, hc⟩
      · rw [h0] at hlt; simp at hlt
      have c0 := hc k hlt
      rw [← hbel.cell (p := ⟨bb, _, none⟩) hb] at c0
      clear hc
      have hq' : wr.cell? ⟨q, 0, none⟩ = some (.map (some b)) := (hbel.cell (p := ⟨q, 0, none⟩) ql).trans hq
      have hst := haveS_take (f := mget ps) (n := n) hlt
      have hwx := hw _ (getD_mem hlt)
      obtain ⟨x, hxe⟩ : ∃ x, x = vs.getD k 0 := ⟨_, rfl⟩
      rw [← hxe] at c0 hst hwx
      clear hxe
      have hlk := ((hm.below hbel hm.lt).look hwx).1
      have hbs := hbel.size
      generalize mget ps x = y at hst hlk
      by_cases hny : n ≤ y
      · rw [if_pos hny] at hst
        have HS := Lib.hid hst
        clear hst
        go_wp2_with (at_builtin; refine wpList_append_own _ rfl (.tmp 19) (.tmp 21) 22 rfl w.heap.size 3 i0 (.int .i64 0) 1 8 Try.underlying22 hi hz0 hz1 hz2 rfl (by decide) _ _ _ rfl (World.ownsRow.alloc hown _) ⟨wr.heap.size, 0, none⟩ 1 1 [.int .i64 x] rfl rfl (cell_one_new _ _ _) (by simp [Value.oneCell']) (by unfold maxLen; omega) (by omega) (by simp; omega) ?_)
        intro v' w1 hown' hgrow _
        have hb1 := (hbel.alloc hbs _).grown hgrow (by simp; omega) (own_below' hown)
        clear hown hgrow hlk
        go_wp2_with fail
        go_roundw
        case rel => exact ⟨k + 1, by omega, by go_num, by rw [HS.out]; simpa using hown', hb1⟩
        case measure => simp [intOf]; omega
      · rw [if_neg hny, List.append_nil] at hst
        have HS := Lib.hid hst
        clear hst
        go_wp2_with fail
        go_roundw
        case rel => exact ⟨k + 1, by omega, by go_num, by rw [HS.out]; exact hown, hbel⟩
        case measure => simp [intOf]; omega
    · obtain rfl : k = vs.length := by omega
      rw [List.take_length] at hown
      rcases Go.Joins.ownsRow_forms hown with ⟨rfl, hz⟩ | ⟨g, cap', rfl⟩
      · have HN := Lib.hid (List.eq_nil_of_length_eq_zero hz)
        clear hz hown
        go_wp2_with fail
        go_ret
        exact ⟨none, 0, by rw [HN.out]; rfl, Or.inl HN.out, hbel⟩
      · have HO := Lib.hid hown
        clear hown
        go_wp2_with fail
        go_ret
        refine ⟨_, _, rfl, Or.inr ⟨g, 0, rfl, ownsRow_lt HO.out, fun i hi => ?_⟩, hbel⟩
        rw [Nat.zero_add, World.ownsRow.cellAt HO.out i (by omega)]
        simp [List.getD, List.getElem?_eq_getElem hi]

def indexUpto (vs : List Int) (f : Int → Int) (k : Nat) : Int := (vs.take k).foldl (indexStep vs f) 0
theorem indexUpto_succ {vs : List Int} {f : Int → Int} {k : Nat} (h : k < vs.length) : indexUpto vs f (k + 1) = indexStep vs f (indexUpto vs f k) (vs.getD k 0) := by
  unfold indexUpto
  rw [List.take_succ_eq_append_getElem h, List.foldl_append]
  simp [List.getD, List.getElem?_eq_getElem h]
theorem indexUpto_all (vs : List Int) (f : Int → Int) : indexUpto vs f vs.length = indexS vs f := by simp [indexUpto, indexS]

theorem index_any25 (b : Nat) (ao : Option Addr) (cap : Nat) (vs : List Int) (ps : List (Int × Int)) (w : World)
    (hx : IntsIn w w.heap.size ao vs) (hm : MapIs w b ps) (hw : WfAll vs) (hl : vs.length ≤ 1099511627776) :
    Calls Try.prog 9 #[.slice ao vs.length cap, .map (some b)] w fun e w' => e = .returned (.int .i64 (indexS vs (mget ps))) ∧ Below w.heap.size w w' := by
  have hbm := hm.lt
  have HX := Lib.hid hx
  clear hx
  have hb0 := ((Below.refl w.heap.size w).alloc (Nat.le_refl _) (.cells #[.slice ao vs.length cap] 22)).alloc (by simp) (.cells #[.map (some b)] 31)
  have hsz : w.heap.size + 2 ≤ ((w.alloc (.cells #[.slice ao vs.length cap] 22)).alloc (.cells #[.map (some b)] 31)).heap.size := by simp
  have k0 : ((w.alloc (.cells #[.slice ao vs.length cap] 22)).alloc (.cells #[.map (some b)] 31)).cell? ⟨w.heap.size, 0, none⟩ = some (.slice ao vs.length cap) := by go_simp
  have k1 : ((w.alloc (.cells #[.slice ao vs.length cap] 22)).alloc (.cells #[.map (some b)] 31)).cell? ⟨w.heap.size + 1, 0, none⟩ = some (.map (some b)) := by go_simp
  go_enter Try.func9, Try.ntmps9
  go_wp2_with fail
  generalize ((w.alloc (.cells #[.slice ao vs.length cap] 22)).alloc (.cells #[.map (some b)] 31)) = w0 at hb0 hsz k0 k1 ⊢
  go_loopw [6, 8, 9, 13] (fun v _ _ i wr => ∃ k : Nat, k ≤ vs.length ∧ i = .int .i64 k ∧ v = .int .i64 (indexUpto vs (mget ps) k) ∧ Below (w.heap.size + 2) w0 wr) (fun _ _ _ i _ => vs.length - (intOf i).toNat)
  case atStart => exact ⟨0, by omega, rfl, rfl, Below.refl _ _⟩
  case round =>
    obtain ⟨k, hk, rfl, rfl, hbel⟩ := hrel
    have hB := hb0.trans (hbel.mono (B' := w.heap.size) (by omega))
    by_cases hlt : k < vs.length
    · rcases HX.out with h0 | ⟨bb, off, rfl, hb, hc⟩
      · rw [h0] at hlt; simp at hlt
      have c0 := hc k hlt
      rw [← hB.cell (p := ⟨bb, _, none⟩) hb] at c0
      clear hc
      have q0 : wr.cell? ⟨w.heap.size, 0, none⟩ = some (.slice (some ⟨bb, off, none⟩) vs.length cap) := (hbel.cell (p := ⟨w.heap.size, 0, none⟩) (show w.heap.size < w.heap.size + 2 by omega)).trans k0
      have q1 : wr.cell? ⟨w.heap.size + 1, 0, none⟩ = some (.map (some b)) := (hbel.cell (p := ⟨w.heap.size + 1, 0, none⟩) (show w.heap.size + 1 < w.heap.size + 2 by omega)).trans k1
      have hst := indexUpto_succ (f := mget ps) hlt
      have hwx := hw _ (getD_mem hlt)
      obtain ⟨x, hxe⟩ : ∃ x, x = vs.getD k 0 := ⟨_, rfl⟩
      rw [← hxe] at c0 hst hwx
      clear hxe
      have hmr := hm.below hB hbm
      have hlk := (hmr.look hwx).1
      have hbs := hbel.size
      generalize indexUpto vs (mget ps) k = best at hst ⊢
      have hif : indexStep vs (mget ps) best x = if best < mget ps x ∧ enoughS vs (haveS (mget ps) (mget ps x) vs) = true then mget ps x else best := rfl
      rw [hif] at hst
      clear hif
      have hlen : (haveS (mget ps) (mget ps x) vs).length ≤ vs.length := List.length_filter_le _ _
      generalize mget ps x = y at hst hlk hlen
      have HL := Lib.hid hlen
      clear hlen
      by_cases hgt : best < y
      · cases hen : enoughS vs (haveS (mget ps) y vs)
        · rw [if_neg (by rw [hen]; simp)] at hst
          have HS := Lib.hid hst
          have HE := Lib.hid hen
          clear hst hen
          go_wp2_with fail
          clear hlk
          go_region_held3 (fun w' => w'.cell? ⟨w.heap.size, 0, none⟩ = some (.slice (some ⟨bb, off, none⟩) vs.length cap)) (first | exact q0 | exact q03 | exact q04) (first
            | (go_at_call 15; refine (have_any y w.heap.size (w.heap.size + 1) b _ cap vs ps wr.drew q0 q1 ((HX.out.below hB (Nat.le_refl _)).mono hB.size) hmr hw hl).mono ?_; rintro e w3 ⟨a3, c3, rfl, h3, hb3⟩; have hB3 : Below (w.heap.size + 2) w0 w3 := hbel.drew.trans (hb3.mono (by simp; omega)); have q03 := (hB3.cell (p := ⟨w.heap.size, 0, none⟩) (show w.heap.size < w.heap.size + 2 by omega)).trans k0)
            | (go_at_call 16; refine (enough_at _ _ _ _ _ _ vs _ _ _ rfl rfl HE.out ((HX.out.below (hb0.trans (hB3.mono (by omega))) (Nat.le_refl _)).mono (hb0.trans (hB3.mono (by omega))).size) h3 (by omega) (by have := HL.out; omega)).mono ?_; rintro e w4 ⟨rfl, hb4⟩; have hB4 : Below (w.heap.size + 2) w0 w4 := hB3.trans (hb4.mono (by have := hB3.size; omega)); have q04 := (hB4.cell (p := ⟨w.heap.size, 0, none⟩) (show w.heap.size < w.heap.size + 2 by omega)).trans k0))
          go_wp2_with fail
          go_roundw
          case rel => exact ⟨k + 1, by omega, by go_num, by rw [HS.out], hB4⟩
          case measure => simp [intOf]; omega
        · rw [if_pos ⟨hgt, hen⟩] at hst
          have HS := Lib.hid hst
          have HE := Lib.hid hen
          clear hst hen
          go_wp2_with fail
          clear hlk
          go_region_held3 (fun w' => w'.cell? ⟨w.heap.size, 0, none⟩ = some (.slice (some ⟨bb, off, none⟩) vs.length cap)) (first | exact q0 | exact q03 | exact q04) (first
            | (go_at_call 15; refine (have_any y w.heap.size (w.heap.size + 1) b _ cap vs ps wr.drew q0 q1 ((HX.out.below hB (Nat.le_refl _)).mono hB.size) hmr hw hl).mono ?_; rintro e w3 ⟨a3, c3, rfl, h3, hb3⟩; have hB3 : Below (w.heap.size + 2) w0 w3 := hbel.drew.trans (hb3.mono (by simp; omega)); have q03 := (hB3.cell (p := ⟨w.heap.size, 0, none⟩) (show w.heap.size < w.heap.size + 2 by omega)).trans k0)
            | (go_at_call 16; refine (enough_at _ _ _ _ _ _ vs _ _ _ rfl rfl HE.out ((HX.out.below (hb0.trans (hB3.mono (by omega))) (Nat.le_refl _)).mono (hb0.trans (hB3.mono (by omega))).size) h3 (by omega) (by have := HL.out; omega)).mono ?_; rintro e w4 ⟨rfl, hb4⟩; have hB4 : Below (w.heap.size + 2) w0 w4 := hB3.trans (hb4.mono (by have := hB3.size; omega)); have q04 := (hB4.cell (p := ⟨w.heap.size, 0, none⟩) (show w.heap.size < w.heap.size + 2 by omega)).trans k0))
          go_wp2_with fail
          go_roundw
          case rel => exact ⟨k + 1, by omega, by go_num, by rw [HS.out], hB4⟩
          case measure => simp [intOf]; omega
      · rw [if_neg (by simp; omega)] at hst
        have HS := Lib.hid hst
        clear hst
        have hd : decide (best < y) = false := by simp; omega
        go_wp2_with fail
        clear hlk
        go_quiet (fail)
        go_wp2_with fail
        go_roundw
        case rel => exact ⟨k + 1, by omega, by go_num, by rw [HS.out], below_drewN hbel _⟩
        case measure => simp [intOf]; omega
    · obtain rfl : k = vs.length := by omega
      rw [indexUpto_all]
      go_wp2_with fail
      go_ret
      exact ⟨rfl, hB⟩
end Go.Proofs.Ytidfflippldhjaa
