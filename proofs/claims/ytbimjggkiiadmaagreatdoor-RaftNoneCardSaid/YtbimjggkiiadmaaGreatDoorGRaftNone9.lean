/- Package commit and its reference by their contracts. Conditions: the voters' cells and the map lie as their reading says. -/
import Derived.Test.YtbimjggkiiadmaaGreatDoorGRaftNone8
import Derived.Deep.RegionHeld3
set_option linter.unusedVariables false
set_option linter.unusedSimpArgs false
namespace Go.Proofs.YtbimjggkiiadmaaGreatDoor
open Go.RowKit Go.Maps
theorem haveS_take {f : Int → Int} {n : Int} {vs : List Int} {k : Nat} (h : k < vs.length) : haveS f n (vs.take (k + 1)) = haveS f n (vs.take k) ++ (if n ≤ f (vs.getD k 0) then [vs.getD k 0] else []) := by
  unfold haveS
  rw [List.take_succ_eq_append_getElem h, List.filter_append]
  have e : vs[k] = vs.getD k 0 := by simp [List.getD, List.getElem?_eq_getElem h]
  rw [e]
  by_cases h : n ≤ f (vs.getD k 0) <;> simp [List.filter_cons]
theorem haveS_len (f : Int → Int) (n : Int) (vs : List Int) (k : Nat) : (haveS f n (vs.take k)).length ≤ k :=
  Nat.le_trans (List.length_filter_le _ _) (List.length_take_le _ _)
def WfAll (vs : List Int) : Prop := ∀ x ∈ vs, (Lit.int .i64 x).wf = true
def HavePost (l : List Int) (w : World) (e : Ending) (w' : World) : Prop :=
  ∃ ao cap, e = .returned (.slice ao l.length cap) ∧ IntsIn w' w'.heap.size ao l ∧ Below w.heap.size w w'
theorem have_any (n : Int) (p q b : Nat) (ao : Option Addr) (cap : Nat) (vs : List Int) (ps : List (Int × Int)) (w : World) (hp : w.cell? ⟨p, 0, none⟩ = some (.slice ao vs.length cap)) (hq : w.cell? ⟨q, 0, none⟩ = some (.map (some b)))
    (hx : IntsIn w w.heap.size ao vs) (hm : MapIs w b ps) (hw : WfAll vs) (hl : vs.length ≤ 1099511627776) :
    Calls Tryz.prog 87 #[.int .i64 n, .pointer (some ⟨p, 0, none⟩), .pointer (some ⟨q, 0, none⟩)] w (HavePost (haveS (mget ps) n vs) w) := by
  obtain ⟨i0, hi, hz0, hz1, hz2⟩ := info_parts infoInt
  have HX := Lib.hid hx
  clear hx
  have pl : p < w.heap.size := World.block_lt_of_cell? w _ hp
  have ql : q < w.heap.size := World.block_lt_of_cell? w _ hq
  go_enter Tryz.func87, Tryz.ntmps87
  go_wp2_with fail
  go_loopw [5, 7, 10] (fun v _ i wr => ∃ k : Nat, k ≤ vs.length ∧ i = .int .i64 k ∧ wr.ownsRow w.heap.size 3 1 v (haveS (mget ps) n (vs.take k)).length ((haveS (mget ps) n (vs.take k)).map (Value.int .i64)) ∧ Below w.heap.size w wr) (fun _ _ i _ => vs.length - (intOf i).toNat)
  case atStart => exact ⟨0, by omega, rfl, World.ownsRow_nil _ _ _ _, Below.refl _ _⟩
  case round =>
    obtain ⟨k, hk, rfl, hown, hbel⟩ := hrel
    have hle := haveS_len (mget ps) n vs k
    by_cases hlt : k < vs.length
    · rcases HX.out with h0 | ⟨bb, off, rfl, hb, hc⟩
      · rw [h0] at hlt; simp at hlt
      have c0 := hc k hlt
      rw [← hbel.cell (p := ⟨bb, _, none⟩) hb] at c0
      clear hc
      have hq' : wr.cell? ⟨q, 0, none⟩ = some (.map (some b)) := (hbel.cell (p := ⟨q, 0, none⟩) ql).trans hq
      have hst := haveS_take (f := mget ps) (n := n) hlt
      have hwx := hw _ (getD_mem hlt)
      obtain ⟨x, hxe⟩ : ∃ x, x = vs.getD k 0 := ⟨_, rfl⟩
      rw [← hxe] at c0 hst hwx
      clear hxe
      have hlk := ((hm.below hbel hm.lt).look hwx).1
      have hbs := hbel.size
      generalize mget ps x = y at hst hlk
      by_cases hny : n ≤ y
      · rw [if_pos hny] at hst
        have HS := Lib.hid hst
        clear hst
        go_wp2_with (at_builtin; refine wpList_append_own _ rfl (.tmp 19) (.tmp 21) 24 rfl w.heap.size 3 i0 (.int .i64 0) 1 8 Tryz.underlying24 hi hz0 hz1 hz2 rfl (by decide) _ _ _ rfl (World.ownsRow.alloc hown _) ⟨wr.heap.size, 0, none⟩ 1 1 [.int .i64 x] rfl rfl (cell_one_new _ _ _) (by simp [Value.oneCell']) (by unfold maxLen; omega) (by omega) (by simp; omega) ?_)
        intro v' w1 hown' hgrow _
        have hb1 := (hbel.alloc hbs _).grown hgrow (by simp; omega) (own_below' hown)
        clear hown hgrow hlk
        go_wp2_with fail
        go_roundw
        case rel => exact ⟨k + 1, by omega, by go_num, by rw [HS.out]; simpa using hown', hb1⟩
        case measure => simp [intOf]; omega
      · rw [if_neg hny, List.append_nil] at hst
        have HS := Lib.hid hst
        clear hst
        go_wp2_with fail
        go_roundw
        case rel => exact ⟨k + 1, by omega, by go_num, by rw [HS.out]; exact hown, hbel⟩
        case measure => simp [intOf]; omega
    · obtain rfl : k = vs.length := by omega
      rw [List.take_length] at hown
      rcases Go.Joins.ownsRow_forms hown with ⟨rfl, hz⟩ | ⟨g, cap', rfl⟩
      · have HN := Lib.hid (List.eq_nil_of_length_eq_zero hz)
        clear hz hown
        go_wp2_with fail
        go_ret
        exact ⟨none, 0, by rw [HN.out]; rfl, Or.inl HN.out, hbel⟩
      · have HO := Lib.hid hown
        clear hown
        go_wp2_with fail
        go_ret
        refine ⟨_, _, rfl, Or.inr ⟨g, 0, rfl, ownsRow_lt HO.out, fun i hi => ?_⟩, hbel⟩
        rw [Nat.zero_add, World.ownsRow.cellAt HO.out i (by omega)]
        simp [List.getD, List.getElem?_eq_getElem hi]
def indexUpto (vs : List Int) (f : Int → Int) (k : Nat) : Int := (vs.take k).foldl (indexStep vs f) 0
theorem indexUpto_succ {vs : List Int} {f : Int → Int} {k : Nat} (h : k < vs.length) : indexUpto vs f (k + 1) = indexStep vs f (indexUpto vs f k) (vs.getD k 0) := by
  unfold indexUpto
  rw [List.take_succ_eq_append_getElem h, List.foldl_append]
  simp [List.getD, List.getElem?_eq_getElem h]
theorem indexUpto_all (vs : List Int) (f : Int → Int) : indexUpto vs f vs.length = indexS vs f := by simp [indexUpto, indexS]
theorem index_any25 (b : Nat) (ao : Option Addr) (cap : Nat) (vs : List Int) (ps : List (Int × Int)) (w : World)
    (hx : IntsIn w w.heap.size ao vs) (hm : MapIs w b ps) (hw : WfAll vs) (hl : vs.length ≤ 1099511627776) :
    Calls Tryz.prog 56 #[.slice ao vs.length cap, .map (some b)] w fun e w' => e = .returned (.int .i64 (indexS vs (mget ps))) ∧ Below w.heap.size w w' := by
  have hbm := hm.lt
  have HX := Lib.hid hx
  clear hx
  have hb0 := ((Below.refl w.heap.size w).alloc (Nat.le_refl _) (.cells #[.slice ao vs.length cap] 24)).alloc (by simp) (.cells #[.map (some b)] 96)
  have hsz : w.heap.size + 2 ≤ ((w.alloc (.cells #[.slice ao vs.length cap] 24)).alloc (.cells #[.map (some b)] 96)).heap.size := by simp
  have k0 : ((w.alloc (.cells #[.slice ao vs.length cap] 24)).alloc (.cells #[.map (some b)] 96)).cell? ⟨w.heap.size, 0, none⟩ = some (.slice ao vs.length cap) := by go_simp
  have k1 : ((w.alloc (.cells #[.slice ao vs.length cap] 24)).alloc (.cells #[.map (some b)] 96)).cell? ⟨w.heap.size + 1, 0, none⟩ = some (.map (some b)) := by go_simp
  go_enter Tryz.func56, Tryz.ntmps56
  go_wp2_with fail
  generalize ((w.alloc (.cells #[.slice ao vs.length cap] 24)).alloc (.cells #[.map (some b)] 96)) = w0 at hb0 hsz k0 k1 ⊢
  go_loopw [6, 8, 9, 13] (fun v _ _ i wr => ∃ k : Nat, k ≤ vs.length ∧ i = .int .i64 k ∧ v = .int .i64 (indexUpto vs (mget ps) k) ∧ Below (w.heap.size + 2) w0 wr) (fun _ _ _ i _ => vs.length - (intOf i).toNat)
  case atStart => exact ⟨0, by omega, rfl, rfl, Below.refl _ _⟩
  case round =>
    obtain ⟨k, hk, rfl, rfl, hbel⟩ := hrel
    have hB := hb0.trans (hbel.mono (B' := w.heap.size) (by omega))
    by_cases hlt : k < vs.length
    · rcases HX.out with h0 | ⟨bb, off, rfl, hb, hc⟩
      · rw [h0] at hlt; simp at hlt
      have c0 := hc k hlt
      rw [← hB.cell (p := ⟨bb, _, none⟩) hb] at c0
      clear hc
      have q0 : wr.cell? ⟨w.heap.size, 0, none⟩ = some (.slice (some ⟨bb, off, none⟩) vs.length cap) := (hbel.cell (p := ⟨w.heap.size, 0, none⟩) (show w.heap.size < w.heap.size + 2 by omega)).trans k0
      have q1 : wr.cell? ⟨w.heap.size + 1, 0, none⟩ = some (.map (some b)) := (hbel.cell (p := ⟨w.heap.size + 1, 0, none⟩) (show w.heap.size + 1 < w.heap.size + 2 by omega)).trans k1
      have hst := indexUpto_succ (f := mget ps) hlt
      have hwx := hw _ (getD_mem hlt)
      obtain ⟨x, hxe⟩ : ∃ x, x = vs.getD k 0 := ⟨_, rfl⟩
      rw [← hxe] at c0 hst hwx
      clear hxe
      have hmr := hm.below hB hbm
      have hlk := (hmr.look hwx).1
      have hbs := hbel.size
      generalize indexUpto vs (mget ps) k = best at hst ⊢
      have hif : indexStep vs (mget ps) best x = if best < mget ps x ∧ enoughS vs (haveS (mget ps) (mget ps x) vs) = true then mget ps x else best := rfl
      rw [hif] at hst
      clear hif
      have hlen : (haveS (mget ps) (mget ps x) vs).length ≤ vs.length := List.length_filter_le _ _
      generalize mget ps x = y at hst hlk hlen
      have HL := Lib.hid hlen
      clear hlen
      by_cases hgt : best < y
      · cases hen : enoughS vs (haveS (mget ps) y vs)
        · rw [if_neg (by rw [hen]; simp)] at hst
          have HS := Lib.hid hst
          have HE := Lib.hid hen
          clear hst hen
          go_wp2_with fail
          clear hlk
          go_region_held3 (fun w' => w'.cell? ⟨w.heap.size, 0, none⟩ = some (.slice (some ⟨bb, off, none⟩) vs.length cap)) (first | exact q0 | exact q03 | exact q04) (first
            | (go_at_call 87; refine (have_any y w.heap.size (w.heap.size + 1) b _ cap vs ps wr.drew q0 q1 ((HX.out.below hB (Nat.le_refl _)).mono hB.size) hmr hw hl).mono ?_; rintro e w3 ⟨a3, c3, rfl, h3, hb3⟩; have hB3 : Below (w.heap.size + 2) w0 w3 := hbel.drew.trans (hb3.mono (by simp; omega)); have q03 := (hB3.cell (p := ⟨w.heap.size, 0, none⟩) (show w.heap.size < w.heap.size + 2 by omega)).trans k0)
            | (go_at_call 54; refine (enough_at _ _ _ _ _ _ vs _ _ _ rfl rfl HE.out ((HX.out.below (hb0.trans (hB3.mono (by omega))) (Nat.le_refl _)).mono (hb0.trans (hB3.mono (by omega))).size) h3 (by omega) (by have := HL.out; omega)).mono ?_; rintro e w4 ⟨rfl, hb4⟩; have hB4 : Below (w.heap.size + 2) w0 w4 := hB3.trans (hb4.mono (by have := hB3.size; omega)); have q04 := (hB4.cell (p := ⟨w.heap.size, 0, none⟩) (show w.heap.size < w.heap.size + 2 by omega)).trans k0))
          go_wp2_with fail
          go_roundw
          case rel => exact ⟨k + 1, by omega, by go_num, by rw [HS.out], hB4⟩
          case measure => simp [intOf]; omega
        · rw [if_pos ⟨hgt, hen⟩] at hst
          have HS := Lib.hid hst
          have HE := Lib.hid hen
          clear hst hen
          go_wp2_with fail
          clear hlk
          go_region_held3 (fun w' => w'.cell? ⟨w.heap.size, 0, none⟩ = some (.slice (some ⟨bb, off, none⟩) vs.length cap)) (first | exact q0 | exact q03 | exact q04) (first
            | (go_at_call 87; refine (have_any y w.heap.size (w.heap.size + 1) b _ cap vs ps wr.drew q0 q1 ((HX.out.below hB (Nat.le_refl _)).mono hB.size) hmr hw hl).mono ?_; rintro e w3 ⟨a3, c3, rfl, h3, hb3⟩; have hB3 : Below (w.heap.size + 2) w0 w3 := hbel.drew.trans (hb3.mono (by simp; omega)); have q03 := (hB3.cell (p := ⟨w.heap.size, 0, none⟩) (show w.heap.size < w.heap.size + 2 by omega)).trans k0)
            | (go_at_call 54; refine (enough_at _ _ _ _ _ _ vs _ _ _ rfl rfl HE.out ((HX.out.below (hb0.trans (hB3.mono (by omega))) (Nat.le_refl _)).mono (hb0.trans (hB3.mono (by omega))).size) h3 (by omega) (by have := HL.out; omega)).mono ?_; rintro e w4 ⟨rfl, hb4⟩; have hB4 : Below (w.heap.size + 2) w0 w4 := hB3.trans (hb4.mono (by have := hB3.size; omega)); have q04 := (hB4.cell (p := ⟨w.heap.size, 0, none⟩) (show w.heap.size < w.heap.size + 2 by omega)).trans k0))
          go_wp2_with fail
          go_roundw
          case rel => exact ⟨k + 1, by omega, by go_num, by rw [HS.out], hB4⟩
          case measure => simp [intOf]; omega
      · rw [if_neg (by simp; omega)] at hst
        have HS := Lib.hid hst
        clear hst
        have hd : decide (best < y) = false := by simp; omega
        go_wp2_with fail
        clear hlk
        go_quiet (fail)
        go_wp2_with fail
        go_roundw
        case rel => exact ⟨k + 1, by omega, by go_num, by rw [HS.out], below_drewN hbel _⟩
        case measure => simp [intOf]; omega
    · obtain rfl : k = vs.length := by omega
      rw [indexUpto_all]
      go_wp2_with fail
      go_ret
      exact ⟨rfl, hB⟩
end Go.Proofs.YtbimjggkiiadmaaGreatDoor
/- The reference's Index and both Next by their contracts, and the example of the laws of layer 25. Conditions: the voters' cells and the map lie as their reading says. -/
namespace Go.Proofs.YtbimjggkiiadmaaGreatDoor
open Go.RowKit Go.Maps
def nextS (now index term current : Int) : Int := if term = current ∧ now < index then index else now
theorem next_any (a b c d : Int) (w : World) :
    Calls Tryz.prog 57 #[.int .i64 a, .int .i64 b, .int .i64 c, .int .i64 d] w fun e w' => e = .returned (.int .i64 (nextS a b c d)) ∧ w = w' := by
  go_enter Tryz.func57, Tryz.ntmps57
  go_wp2
  all_goals
    go_ret
    refine ⟨ret_int ?_, rfl⟩
    grind [nextS]
end Go.Proofs.YtbimjggkiiadmaaGreatDoor
/- A leader settles what is committed. Conditions: it is its one voter; its log's last entry is of its term. -/
namespace Go.Proofs.YtbimjggkiiadmaaGreatDoor
open Go.RowKit Go.Maps
set_option maxRecDepth 20000
theorem arr_mt (n : Int) (k : Nat) (h : k < 10) (w : World) : (Instr.index 46 (.agg #[.int .i64 0, .int .i64 n, .int .i64 0, .int .i64 0, .int .i64 0, .int .i64 0, .int .i64 0, .int .i64 0, .int .i64 0, .int .i64 0]) (.int .i64 k)).run Tryz.prog w = .ok (.int .i64 (if k = 1 then n else 0)) w := by
  obtain rfl | rfl | rfl | rfl | rfl | rfl | rfl | rfl | rfl | rfl : k = 0 ∨ k = 1 ∨ k = 2 ∨ k = 3 ∨ k = 4 ∨ k = 5 ∨ k = 6 ∨ k = 7 ∨ k = 8 ∨ k = 9 := by omega
  all_goals kernel_rfl
/-- What the map holds. -/
def prs (n : Int) (k : Nat) : List (Int × Int) := (List.range k).map fun (j : Nat) => ((j : Int), (if j = 1 then n else 0 : Int))
theorem prs_succ (n : Int) (k : Nat) : prs n (k + 1) = prs n k ++ [((k : Int), if k = 1 then n else 0)] := by simp [prs, List.range_succ]
theorem prs_len (n : Int) (k : Nat) : (prs n k).length = k := by simp [prs]
theorem prs_one (n : Int) : mget (prs n 10) 1 = n := by simp [mget, prs, List.range, List.range.loop]
theorem index_one (f : Int → Int) (n : Int) (h : f 1 = n) (hn : 0 < n) : indexS [1] f = n := by
  have e : enoughS [1] [1] = true := by decide
  simp [indexS, indexStep, haveS, h, hn, e]
theorem mt_cells {w : World} {B pb lb : Nat} {t : PP} {vs : List Int} {ps : List EnP} {n : Int} (h : PeerIs w B pb lb t vs ps) (hrd : t.mt = ⟨0, n, 0, 0, 0, 0, 0, 0, 0, 0⟩) : w.cell? ⟨pb, 18, none⟩ = some (.int .i64 0) ∧ w.cell? ⟨pb, 19, none⟩ = some (.int .i64 n) ∧ w.cell? ⟨pb, 20, none⟩ = some (.int .i64 0) ∧ w.cell? ⟨pb, 21, none⟩ = some (.int .i64 0) ∧ w.cell? ⟨pb, 22, none⟩ = some (.int .i64 0) ∧ w.cell? ⟨pb, 23, none⟩ = some (.int .i64 0) ∧ w.cell? ⟨pb, 24, none⟩ = some (.int .i64 0) ∧ w.cell? ⟨pb, 25, none⟩ = some (.int .i64 0) ∧ w.cell? ⟨pb, 26, none⟩ = some (.int .i64 0) ∧ w.cell? ⟨pb, 27, none⟩ = some (.int .i64 0) := by
  refine ⟨(h.cells 18).trans ?_, (h.cells 19).trans ?_, (h.cells 20).trans ?_, (h.cells 21).trans ?_, (h.cells 22).trans ?_, (h.cells 23).trans ?_, (h.cells 24).trans ?_, (h.cells 25).trans ?_, (h.cells 26).trans ?_, (h.cells 27).trans ?_⟩ <;> (simp only [PP.cells, hrd]; rfl)
/-- What makes a leader's settling plain. -/
structure Settles (s : PP) (vs : List Int) (ps : List EnP) (m n tt : Int) : Prop where
  id : s.id = 1
  mt : s.mt = ⟨0, m, 0, 0, 0, 0, 0, 0, 0, 0⟩
  pos : 0 < n ∧ n ≤ 1000
  last : lastS 0 0 ps = (n, tt)
  term : termS 0 0 ps n = (tt, true)
  now : s.term = tt
  next : nextS s.commit n tt tt = n
  len : ps.length ≤ 1000
  small : PSmall ps
  vots : votS vs ps = [1]
  vlen : vs.length ≤ 1000
theorem nums_any (n : Nat) (i : Int) (hn : n ≤ 1000) (h : -1000 ≤ i ∧ i ≤ 1000) : LogNums 0 n i := by unfold LogNums; omega
set_option maxHeartbeats 16000000 in
theorem psettle_any {w : World} {B pb lb : Nat} {s : PP} {vs : List Int} {ps : List EnP} (m n tt : Int) (h : PeerIs w B pb lb s vs ps) (hs : Settles s vs ps m n tt) :
    Calls Tryz.prog 25 #[.pointer (some ⟨pb, 0, none⟩)] w (EndIs fun w' => PeerIs w' B pb lb { s with mt := ⟨0, n, 0, 0, 0, 0, 0, 0, 0, 0⟩, commit := n } vs ps ∧ Stay B w w') := by
  have HS := Lib.hid hs
  have hn0 := hs.pos
  have hi0 : (0 : Int) < s.id := by rw [hs.id]; decide
  have hB : B ≤ w.heap.size := Nat.le_trans h.low (Nat.le_of_lt h.lt)
  have c0 : w.cell? ⟨pb, 40, none⟩ = some (.pointer (some ⟨lb, 0, none⟩)) := (h.cells 40).trans (congrArg some h.lg)
  have H := Lib.hid h
  clear h hs
  go_enter Tryz.func25, Tryz.ntmps25
  go_wp2_with fail
  refine (last_is B lb 0 0 ps n tt w HS.out.last H.out.log (nums_any _ _ HS.out.len (by omega))).mono ?_
  rintro e w1 ⟨rfl, hb1⟩
  have h1 := H.out.below hb1 (Nat.le_refl _)
  have st1 := Stay.below hb1 hB
  clear hb1 c0 H
  have c1 : w1.cell? ⟨pb, 38, none⟩ = some (.int .i64 1) := (h1.cells 38).trans (congrArg (fun x => some (Value.int .i64 x)) HS.out.id)
  go_upto_region 1 with fail
  have h2 := h1.below (Below.refl w1.heap.size w1).drew (Nat.le_refl _)
  have st2 := st1.trans (Stay.below (Below.refl w1.heap.size w1).drew (Nat.le_trans h1.low (Nat.le_of_lt h1.lt)))
  have c2 : w1.drew.cell? ⟨pb, 19, none⟩ = some (.int .i64 m) := (mt_cells h2 HS.out.mt).2.1
  have f2 := h2.soft 19
  have h3 := h2.set 19 (.int .i64 n) { s with mt := ⟨0, n, 0, 0, 0, 0, 0, 0, 0, 0⟩ } (by rw [PP.set_mt1, HS.out.mt]) rfl rfl
  have st3 := st2.trans (Stay.set h2 19 (.int .i64 n))
  clear h1 st1 h2 st2
  go_still_tail 10, (by kernel_rfl)
  change wpList _ _ _ _ _ w1.drew
  generalize w1.drew = w2 at c2 f2 h3 st3 ⊢
  go_upto_region 2 with fail
  generalize w2.setCell ⟨pb, 19, none⟩ (.int .i64 n) = w3 at h3 st3 ⊢
  clear c1 c2 f2
  have hmm := @run_makeMap Tryz.prog
  have hb4 := (Below.refl w3.heap.size w3).alloc (Nat.le_refl _) (.map #[] 0)
  have hm4 : MapIs (w3.alloc (.map #[] 0)) w3.heap.size [] := ⟨0, Nat.le_refl _, World.ownsMap_made _ _ _ _⟩
  have h4 := h3.below hb4 (Nat.le_refl _)
  have H3 := Lib.hid h3
  have ST3 := Lib.hid st3
  obtain ⟨mb, hmb⟩ : ∃ mb, w3.heap.size = mb := ⟨_, rfl⟩
  go_upto_region 3 with fail
  clear hmm h3 st3
  rw [hmb] at hm4
  generalize w3.alloc (.map #[] 0) = w4 at h4 hb4 hm4 ⊢
  obtain ⟨z0, z1, z2, z3, z4, z5, z6, z7, z8, z9⟩ := mt_cells h4 rfl
  have HMB := Lib.hid hmb
  clear h4 hmb
  go_wp2_with fail
  clear z0 z1 z2 z3 z4 z5 z6 z7 z8 z9
  go_loopw [5, 6, 34] (fun _ _ i wr => ∃ k : Nat, k ≤ 10 ∧ i = .int .i64 k ∧ MapIs wr mb (prs n k) ∧ Below w3.heap.size w3 wr) (fun _ _ i _ => 10 - (intOf i).toNat)
  case atStart => exact ⟨0, by omega, rfl, hm4, hb4⟩
  case round =>
    obtain ⟨k, hk, rfl, hmap, hgr⟩ := hrel
    clear hm4 hb4
    by_cases hlt : k < 10
    · have dk : decide ((k : Int) < 10) = true := by simp; omega
      have i0 := arr_mt n k hlt
      have hps := prs_succ n k
      have w1f : (Lit.int .i64 (k : Int)).wf = true := WalkArith.wf_i64 (by omega)
      have w2f : (Lit.int .i64 (if k = 1 then n else 0 : Int)).wf = true := WalkArith.wf_i64 (by by_cases h1 : k = 1 <;> simp [h1] <;> omega)
      generalize (if k = 1 then n else 0 : Int) = y at i0 hps w2f
      have HPS := Lib.hid hps
      clear hps
      obtain ⟨nn, hn, hown⟩ := hmap
      rw [prs_len] at hn
      go_wp2_with (refine wpList_mapUpdate_own _ rfl _ _ _ 96 rfl 3 3 intLaw Tryz.underlying96 _ mb nn _ rfl hown (by unfold maxLen; omega) _ _ _ rfl rfl (keyOf_int_mk Tryz.underlying3 w1f) _ [] (plainElem_int Tryz.underlying3 w2f) ?_)
      intro w6 hown6 hg6
      have hmap6 : MapIs w6 mb (prs n (k + 1)) := by
        rw [HPS.out]
        exact ⟨nn + 1, by rw [List.length_append, prs_len]; simp; omega, by rw [mapD_snoc]; exact hown6⟩
      have hgr6 := hgr.grown hg6 hgr.size (fun j hj => by cases hj; exact Nat.le_of_eq HMB.out)
      clear hown hown6 hg6
      go_wp2_with fail
      go_roundw
      case rel => exact ⟨k + 1, by omega, by go_num, hmap6, hgr6⟩
      case measure => simp [intOf]; omega
    · obtain rfl : k = 10 := by omega
      have H7 := Lib.hid (H3.out.below hgr (Nat.le_refl _))
      have ST7 := Lib.hid (ST3.out.trans (Stay.below hgr (Nat.le_trans H3.out.low (Nat.le_of_lt H3.out.lt))))
      have HM := Lib.hid hmap
      have hml := hmap.lt
      clear hmap hgr H3 ST3
      go_wp2_with fail
      refine (pvoters_any H7.out hi0 HS.out.vots HS.out.small (by have := HS.out.len; omega) (by have := HS.out.vlen; omega)).mono ?_
      rintro e w8 ⟨a8, n8, c8, rfl, rfl, ho8, hb8⟩
      have hn8 := ints_of_nums (own_rowsIn iCells_len (sub := noSub) rfl ho8 fun _ _ => trivial)
      have HM8 := Lib.hid (HM.out.below hb8 hml)
      have H8 := Lib.hid (H7.out.below hb8 (Nat.le_refl _))
      have ST8 := Lib.hid (ST7.out.trans (Stay.below hb8 (Nat.le_trans H7.out.low (Nat.le_of_lt H7.out.lt))))
      clear ho8 hb8 HM H7 ST7
      go_wp2_with fail
      refine (index_any25 mb a8 c8 [1] (prs n 10) w8 hn8 HM8.out (fun x hx => by rw [List.mem_singleton] at hx; subst hx; decide) (by simp)).mono ?_
      rw [index_one (mget (prs n 10)) n (prs_one n) hn0.1]
      rintro e w9 ⟨rfl, hb9⟩
      have H9 := Lib.hid (H8.out.below hb9 (Nat.le_refl _))
      have ST9 := Lib.hid (ST8.out.trans (Stay.below hb9 (Nat.le_trans H8.out.low (Nat.le_of_lt H8.out.lt))))
      clear hn8 hb9 HM8 H8 ST8
      have c9 : w9.cell? ⟨pb, 40, none⟩ = some (.pointer (some ⟨lb, 0, none⟩)) := (H9.out.cells 40).trans (congrArg some H9.out.lg)
      go_wp2_with fail
      refine (term_is B lb 0 0 ps n tt true w9 HS.out.term H9.out.log (nums_any _ _ HS.out.len (by omega))).mono ?_
      rintro e w10 ⟨rfl, hb10⟩
      have H10 := Lib.hid (H9.out.below hb10 (Nat.le_refl _))
      have ST10 := Lib.hid (ST9.out.trans (Stay.below hb10 (Nat.le_trans H9.out.low (Nat.le_of_lt H9.out.lt))))
      clear hb10 H9 ST9 c9
      go_upto_region 10 with fail
      have HC := Lib.hid (fun (wS : World) (hb : Below w10.heap.size w10 wS) => And.intro (show wS.cell? ⟨pb, 4, none⟩ = some (.int .i64 s.commit) from (H10.out.below hb (Nat.le_refl _)).cells 4) (show wS.cell? ⟨pb, 0, none⟩ = some (.int .i64 tt) from ((H10.out.below hb (Nat.le_refl _)).cells 0).trans (congrArg (fun x => some (Value.int .i64 x)) HS.out.now)))
      have h11 := H10.out.below (Below.refl w10.heap.size w10).drew (Nat.le_refl _)
      have st11 := ST10.out.trans (Stay.below (Below.refl w10.heap.size w10).drew (Nat.le_trans H10.out.low (Nat.le_of_lt H10.out.lt)))
      refine heldT_begin (fun w' => Below w10.heap.size w10 w') (by kernel_rfl) ((Below.refl _ _).drew) ?_
      intro hS0
      refine takeT_yes (v := ?_) 17 0 rfl (by kernel_rfl) (by kernel_rfl) (by kernel_rfl) (by kernel_rfl) (by kernel_rfl) (fun _ _ _ h => h) (by rfl) (by assumption) ?_ ?_; rotate_left; focus (intro wS hSw; obtain ⟨q0, q1⟩ := HC.out wS hSw; go_simp; first | done | with_reducible rfl)
      (try simp only [Act.put, List.setIfInBounds_toArray, List.set_cons_zero, List.set_cons_succ])
      refine takeT_yes (v := ?_) 17 1 rfl (by kernel_rfl) (by kernel_rfl) (by kernel_rfl) (by kernel_rfl) (by kernel_rfl) (fun _ _ _ h => h) (by rfl) (by assumption) ?_ ?_; rotate_left; focus (intro wS hSw; obtain ⟨q0, q1⟩ := HC.out wS hSw; go_simp; first | done | with_reducible rfl)
      (try simp only [Act.put, List.setIfInBounds_toArray, List.set_cons_zero, List.set_cons_succ])
      refine takeT_yes (v := ?_) 17 2 rfl (by kernel_rfl) (by kernel_rfl) (by kernel_rfl) (by kernel_rfl) (by kernel_rfl) (fun _ _ _ h => h) (by rfl) (by assumption) ?_ ?_; rotate_left; focus (intro wS hSw; obtain ⟨q0, q1⟩ := HC.out wS hSw; go_simp; first | done | with_reducible rfl)
      (try simp only [Act.put, List.setIfInBounds_toArray, List.set_cons_zero, List.set_cons_succ])
      refine takeT_yes (v := ?_) 17 3 rfl (by kernel_rfl) (by kernel_rfl) (by kernel_rfl) (by kernel_rfl) (by kernel_rfl) (fun _ _ _ h => h) (by rfl) (by assumption) ?_ ?_; rotate_left; focus (intro wS hSw; obtain ⟨q0, q1⟩ := HC.out wS hSw; go_simp; first | done | with_reducible rfl)
      (try simp only [Act.put, List.setIfInBounds_toArray, List.set_cons_zero, List.set_cons_succ])
      refine takeT_yes (v := ?_) 17 4 rfl (by kernel_rfl) (by kernel_rfl) (by kernel_rfl) (by kernel_rfl) (by kernel_rfl) (fun _ _ _ h => h) (by rfl) (by assumption) ?_ ?_; rotate_left; focus (intro wS hSw; obtain ⟨q0, q1⟩ := HC.out wS hSw; go_simp; first | done | with_reducible rfl)
      (try simp only [Act.put, List.setIfInBounds_toArray, List.set_cons_zero, List.set_cons_succ])
      refine takeT_yes (v := ?_) 17 5 rfl (by kernel_rfl) (by kernel_rfl) (by kernel_rfl) (by kernel_rfl) (by kernel_rfl) (fun _ _ _ h => h) (by rfl) (by assumption) ?_ ?_; rotate_left; focus (intro wS hSw; obtain ⟨q0, q1⟩ := HC.out wS hSw; go_simp; first | done | with_reducible rfl)
      (try simp only [Act.put, List.setIfInBounds_toArray, List.set_cons_zero, List.set_cons_succ])
      refine takeT_yes (v := ?_) 17 6 rfl (by kernel_rfl) (by kernel_rfl) (by kernel_rfl) (by kernel_rfl) (by kernel_rfl) (fun _ _ _ h => h) (by rfl) (by assumption) ?_ ?_; rotate_left; focus (intro wS hSw; obtain ⟨q0, q1⟩ := HC.out wS hSw; go_simp; first | done | with_reducible rfl)
      (try simp only [Act.put, List.setIfInBounds_toArray, List.set_cons_zero, List.set_cons_succ])
      refine takeT_yes (v := ?_) 17 7 rfl (by kernel_rfl) (by kernel_rfl) (by kernel_rfl) (by kernel_rfl) (by kernel_rfl) (fun _ _ _ h => h) (by rfl) (by assumption) ?_ ?_; rotate_left; focus (intro wS hSw; obtain ⟨q0, q1⟩ := HC.out wS hSw; go_simp; first | done | with_reducible rfl)
      (try simp only [Act.put, List.setIfInBounds_toArray, List.set_cons_zero, List.set_cons_succ])
      refine takeT_yes (v := ?_) 17 8 rfl (by kernel_rfl) (by kernel_rfl) (by kernel_rfl) (by kernel_rfl) (by kernel_rfl) (fun _ _ _ h => h) (by rfl) (by assumption) ?_ ?_; rotate_left; focus (intro wS hSw; obtain ⟨q0, q1⟩ := HC.out wS hSw; go_simp; first | done | with_reducible rfl)
      (try simp only [Act.put, List.setIfInBounds_toArray, List.set_cons_zero, List.set_cons_succ])
      refine takeT_yes (v := ?_) 17 9 rfl (by kernel_rfl) (by kernel_rfl) (by kernel_rfl) (by kernel_rfl) (by kernel_rfl) (fun _ _ _ h => h) (by rfl) (by assumption) ?_ ?_; rotate_left; focus (intro wS hSw; obtain ⟨q0, q1⟩ := HC.out wS hSw; go_simp; first | done | with_reducible rfl)
      (try simp only [Act.put, List.setIfInBounds_toArray, List.set_cons_zero, List.set_cons_succ])
      refine takeT_yes (v := ?_) 17 10 rfl (by kernel_rfl) (by kernel_rfl) (by kernel_rfl) (by kernel_rfl) (by kernel_rfl) (fun _ _ _ h => h) (by rfl) (by assumption) ?_ ?_; rotate_left; focus (intro wS hSw; obtain ⟨q0, q1⟩ := HC.out wS hSw; go_simp; first | done | with_reducible rfl)
      (try simp only [Act.put, List.setIfInBounds_toArray, List.set_cons_zero, List.set_cons_succ])
      refine takeT_yes (v := ?_) 17 11 rfl (by kernel_rfl) (by kernel_rfl) (by kernel_rfl) (by kernel_rfl) (by kernel_rfl) (fun _ _ _ h => h) (by rfl) (by assumption) ?_ ?_; rotate_left; focus (intro wS hSw; obtain ⟨q0, q1⟩ := HC.out wS hSw; go_simp; first | done | with_reducible rfl)
      (try simp only [Act.put, List.setIfInBounds_toArray, List.set_cons_zero, List.set_cons_succ])
      refine takeT_yes (v := ?_) 17 12 rfl (by kernel_rfl) (by kernel_rfl) (by kernel_rfl) (by kernel_rfl) (by kernel_rfl) (fun _ _ _ h => h) (by rfl) (by assumption) ?_ ?_; rotate_left; focus (intro wS hSw; obtain ⟨q0, q1⟩ := HC.out wS hSw; go_simp; first | done | with_reducible rfl)
      (try simp only [Act.put, List.setIfInBounds_toArray, List.set_cons_zero, List.set_cons_succ])
      generalize w10.drew = w11 at h11 st11 hS0 ⊢
      refine takeT_one 13 rfl (by kernel_rfl) (by rfl) (fun K hK => ?_)
      go_simp
      (refine (next_any s.commit n tt tt w11).mono ?_; rw [HS.out.next]; rintro e w' ⟨rfl, rfl⟩)
      refine hK.out _ _ (fun _ => by assumption) ?_
      clear hK K
      (try simp only [Act.put, List.setIfInBounds_toArray, List.set_cons_zero, List.set_cons_succ])
      refine takeT_yes (v := ?_) 15 14 rfl (by kernel_rfl) (by kernel_rfl) (by kernel_rfl) (by kernel_rfl) (by kernel_rfl) (fun _ _ _ h => h) (by rfl) (by assumption) ?_ ?_; rotate_left; focus (intro wS hSw; obtain ⟨q0, q1⟩ := HC.out wS hSw; go_simp; first | done | with_reducible rfl)
      (try simp only [Act.put, List.setIfInBounds_toArray, List.set_cons_zero, List.set_cons_succ])
      refine takeT_yes (v := ?_) 16 15 rfl (by kernel_rfl) (by kernel_rfl) (by kernel_rfl) (by kernel_rfl) (by kernel_rfl) (fun _ _ _ h => h) (by rfl) (by assumption) ?_ ?_; rotate_left; focus (intro wS hSw; obtain ⟨q0, q1⟩ := HC.out wS hSw; go_simp; first | done | with_reducible rfl)
      (try simp only [Act.put, List.setIfInBounds_toArray, List.set_cons_zero, List.set_cons_succ])
      refine takeT_yes (v := ?_) 17 16 rfl (by kernel_rfl) (by kernel_rfl) (by kernel_rfl) (by kernel_rfl) (by kernel_rfl) (fun _ _ _ h => h) (by rfl) (by assumption) ?_ ?_; rotate_left; focus (intro wS hSw; obtain ⟨q0, q1⟩ := HC.out wS hSw; go_simp; first | done | with_reducible rfl)
      (try simp only [Act.put, List.setIfInBounds_toArray, List.set_cons_zero, List.set_cons_succ])
      refine takeT_one 17 rfl (by kernel_rfl) (by rfl) (fun K hK => ?_)
      (have q1 : w11.cell? ⟨pb, 4, none⟩ = some (.int .i64 s.commit) := h11.cells 4; have q2 := h11.soft 4; go_simp; have h12 := h11.set 4 (.int .i64 n) { s with mt := ⟨0, n, 0, 0, 0, 0, 0, 0, 0, 0⟩, commit := n } rfl rfl rfl; have st12 := st11.trans (Stay.set h11 4 (.int .i64 n)); clear q1 q2 h11 st11 hS0; generalize w11.setCell ⟨pb, 4, none⟩ (.int .i64 n) = w12 at h12 st12 ⊢)
      refine hK.out _ _ (fun h => left_none h (by kernel_rfl)) ?_
      clear hK K
      (try simp only [Act.put, List.setIfInBounds_toArray, List.set_cons_zero, List.set_cons_succ])
      refine wpAnyT_done (by kernel_rfl) ?_ _
      (try simp only [Exit.then])
      (try (rename (∀ (_ : Act) (_ : World), _ → _) => hK0; refine hK0 _ _ ?_; clear hK0))
      clear HC
      go_upto_region 11 with fail
      have HC := Lib.hid (fun (wS : World) (hb : Below w12.heap.size w12 wS) => (show wS.cell? ⟨pb, 38, none⟩ = some (.int .i64 1) from ((h12.below hb (Nat.le_refl _)).cells 38).trans (congrArg (fun x => some (Value.int .i64 x)) HS.out.id)))
      have H12 := Lib.hid h12
      have ST12 := Lib.hid st12
      have HD := Lib.hid (h12.below (Below.refl w12.heap.size w12).drew (Nat.le_refl _))
      clear h12 st12
      refine heldS_begin (fun w' => Below w12.heap.size w12 w') (by kernel_rfl) ((Below.refl _ _).drew) ?_
      intro hS0
      (first | (refine takeS_no 0 rfl (by kernel_rfl) (by kernel_rfl) (by kernel_rfl) (fun _ _ _ h => h) (by rfl) (by assumption) ?_) | (refine takeS_yes (v := ?_) 0 rfl (by kernel_rfl) (by kernel_rfl) (by kernel_rfl) (fun _ _ _ h => h) (by rfl) (by assumption) ?_ ?_; rotate_left; focus (intro wS hSw; have q0 := HC.out wS hSw; go_simp; first | done | with_reducible rfl)))
      (try simp only [Act.put, List.setIfInBounds_toArray, List.set_cons_zero, List.set_cons_succ])
      (first | (refine takeS_no 2 rfl (by kernel_rfl) (by kernel_rfl) (by kernel_rfl) (fun _ _ _ h => h) (by rfl) (by assumption) ?_) | (refine takeS_yes (v := ?_) 2 rfl (by kernel_rfl) (by kernel_rfl) (by kernel_rfl) (fun _ _ _ h => h) (by rfl) (by assumption) ?_ ?_; rotate_left; focus (intro wS hSw; have q0 := HC.out wS hSw; go_simp; first | done | with_reducible rfl)))
      (try simp only [Act.put, List.setIfInBounds_toArray, List.set_cons_zero, List.set_cons_succ])
      (first | (refine takeS_no 3 rfl (by kernel_rfl) (by kernel_rfl) (by kernel_rfl) (fun _ _ _ h => h) (by rfl) (by assumption) ?_) | (refine takeS_yes (v := ?_) 3 rfl (by kernel_rfl) (by kernel_rfl) (by kernel_rfl) (fun _ _ _ h => h) (by rfl) (by assumption) ?_ ?_; rotate_left; focus (intro wS hSw; have q0 := HC.out wS hSw; go_simp; first | done | with_reducible rfl)))
      (try simp only [Act.put, List.setIfInBounds_toArray, List.set_cons_zero, List.set_cons_succ])
      (first | (refine takeS_no 4 rfl (by kernel_rfl) (by kernel_rfl) (by kernel_rfl) (fun _ _ _ h => h) (by rfl) (by assumption) ?_) | (refine takeS_yes (v := ?_) 4 rfl (by kernel_rfl) (by kernel_rfl) (by kernel_rfl) (fun _ _ _ h => h) (by rfl) (by assumption) ?_ ?_; rotate_left; focus (intro wS hSw; have q0 := HC.out wS hSw; go_simp; first | done | with_reducible rfl)))
      (try simp only [Act.put, List.setIfInBounds_toArray, List.set_cons_zero, List.set_cons_succ])
      (first | (refine takeS_no 5 rfl (by kernel_rfl) (by kernel_rfl) (by kernel_rfl) (fun _ _ _ h => h) (by rfl) (by assumption) ?_) | (refine takeS_yes (v := ?_) 5 rfl (by kernel_rfl) (by kernel_rfl) (by kernel_rfl) (fun _ _ _ h => h) (by rfl) (by assumption) ?_ ?_; rotate_left; focus (intro wS hSw; have q0 := HC.out wS hSw; go_simp; first | done | with_reducible rfl)))
      (try simp only [Act.put, List.setIfInBounds_toArray, List.set_cons_zero, List.set_cons_succ])
      refine takeS_alone 1 rfl (by kernel_rfl) (by rfl) (fun K hK => ?_)
      go_simp
      (refine (pvoters_any HD.out hi0 HS.out.vots HS.out.small (by have := HS.out.len; omega) (by have := HS.out.vlen; omega)).mono ?_; rintro e w13 ⟨a13, n13, c13, rfl, rfl, ho13, hb13⟩; have hS1 := (Below.refl w12.heap.size w12).drew.trans hb13; have hn13 := ints_of_nums (own_rowsIn iCells_len (sub := noSub) rfl ho13 fun _ _ => trivial); clear ho13 hb13)
      refine hK.out _ _ (by assumption) ?_
      clear hK K
      (try simp only [Act.put, List.setIfInBounds_toArray, List.set_cons_zero, List.set_cons_succ])
      refine takeS_alone 6 rfl (by kernel_rfl) (by rfl) (fun K hK => ?_)
      go_simp
      (refine (has_any a13 c13 [1] 1 w13 _ hn13 (by simp)).mono ?_; rw [show hasB [1] 1 = true from rfl]; rintro e w14 ⟨rfl, rfl⟩; clear hn13)
      refine hK.out _ _ (by assumption) ?_
      clear hK K
      (try simp only [Act.put, List.setIfInBounds_toArray, List.set_cons_zero, List.set_cons_succ])
      (first | (refine takeS_no 7 rfl (by kernel_rfl) (by kernel_rfl) (by kernel_rfl) (fun _ _ _ h => h) (by rfl) (by assumption) ?_) | (refine takeS_yes (v := ?_) 7 rfl (by kernel_rfl) (by kernel_rfl) (by kernel_rfl) (fun _ _ _ h => h) (by rfl) (by assumption) ?_ ?_; rotate_left; focus (intro wS hSw; have q0 := HC.out wS hSw; go_simp; first | done | with_reducible rfl)))
      (try simp only [Act.put, List.setIfInBounds_toArray, List.set_cons_zero, List.set_cons_succ])
      (first | (refine takeS_no 8 rfl (by kernel_rfl) (by kernel_rfl) (by kernel_rfl) (fun _ _ _ h => h) (by rfl) (by assumption) ?_) | (refine takeS_yes (v := ?_) 8 rfl (by kernel_rfl) (by kernel_rfl) (by kernel_rfl) (fun _ _ _ h => h) (by rfl) (by assumption) ?_ ?_; rotate_left; focus (intro wS hSw; have q0 := HC.out wS hSw; go_simp; first | done | with_reducible rfl)))
      (try simp only [Act.put, List.setIfInBounds_toArray, List.set_cons_zero, List.set_cons_succ])
      (first | (refine takeS_no 9 rfl (by kernel_rfl) (by kernel_rfl) (by kernel_rfl) (fun _ _ _ h => h) (by rfl) (by assumption) ?_) | (refine takeS_yes (v := ?_) 9 rfl (by kernel_rfl) (by kernel_rfl) (by kernel_rfl) (fun _ _ _ h => h) (by rfl) (by assumption) ?_ ?_; rotate_left; focus (intro wS hSw; have q0 := HC.out wS hSw; go_simp; first | done | with_reducible rfl)))
      (try simp only [Act.put, List.setIfInBounds_toArray, List.set_cons_zero, List.set_cons_succ])
      (first | (refine takeS_no 10 rfl (by kernel_rfl) (by kernel_rfl) (by kernel_rfl) (fun _ _ _ h => h) (by rfl) (by assumption) ?_) | (refine takeS_yes (v := ?_) 10 rfl (by kernel_rfl) (by kernel_rfl) (by kernel_rfl) (fun _ _ _ h => h) (by rfl) (by assumption) ?_ ?_; rotate_left; focus (intro wS hSw; have q0 := HC.out wS hSw; go_simp; first | done | with_reducible rfl)))
      (try simp only [Act.put, List.setIfInBounds_toArray, List.set_cons_zero, List.set_cons_succ])
      (first | (refine takeS_no 11 rfl (by kernel_rfl) (by kernel_rfl) (by kernel_rfl) (fun _ _ _ h => h) (by rfl) (by assumption) ?_) | (refine takeS_yes (v := ?_) 11 rfl (by kernel_rfl) (by kernel_rfl) (by kernel_rfl) (fun _ _ _ h => h) (by rfl) (by assumption) ?_ ?_; rotate_left; focus (intro wS hSw; have q0 := HC.out wS hSw; go_simp; first | done | with_reducible rfl)))
      (try simp only [Act.put, List.setIfInBounds_toArray, List.set_cons_zero, List.set_cons_succ])
      (first | (refine takeS_no 12 rfl (by kernel_rfl) (by kernel_rfl) (by kernel_rfl) (fun _ _ _ h => h) (by rfl) (by assumption) ?_) | (refine takeS_yes (v := ?_) 12 rfl (by kernel_rfl) (by kernel_rfl) (by kernel_rfl) (fun _ _ _ h => h) (by rfl) (by assumption) ?_ ?_; rotate_left; focus (intro wS hSw; have q0 := HC.out wS hSw; go_simp; first | done | with_reducible rfl)))
      (try simp only [Act.put, List.setIfInBounds_toArray, List.set_cons_zero, List.set_cons_succ])
      (first | (refine takeS_no 13 rfl (by kernel_rfl) (by kernel_rfl) (by kernel_rfl) (fun _ _ _ h => h) (by rfl) (by assumption) ?_) | (refine takeS_yes (v := ?_) 13 rfl (by kernel_rfl) (by kernel_rfl) (by kernel_rfl) (fun _ _ _ h => h) (by rfl) (by assumption) ?_ ?_; rotate_left; focus (intro wS hSw; have q0 := HC.out wS hSw; go_simp; first | done | with_reducible rfl)))
      (try simp only [Act.put, List.setIfInBounds_toArray, List.set_cons_zero, List.set_cons_succ])
      (first | (refine takeS_no 14 rfl (by kernel_rfl) (by kernel_rfl) (by kernel_rfl) (fun _ _ _ h => h) (by rfl) (by assumption) ?_) | (refine takeS_yes (v := ?_) 14 rfl (by kernel_rfl) (by kernel_rfl) (by kernel_rfl) (fun _ _ _ h => h) (by rfl) (by assumption) ?_ ?_; rotate_left; focus (intro wS hSw; have q0 := HC.out wS hSw; go_simp; first | done | with_reducible rfl)))
      (try simp only [Act.put, List.setIfInBounds_toArray, List.set_cons_zero, List.set_cons_succ])
      (first | (refine takeS_no 15 rfl (by kernel_rfl) (by kernel_rfl) (by kernel_rfl) (fun _ _ _ h => h) (by rfl) (by assumption) ?_) | (refine takeS_yes (v := ?_) 15 rfl (by kernel_rfl) (by kernel_rfl) (by kernel_rfl) (fun _ _ _ h => h) (by rfl) (by assumption) ?_ ?_; rotate_left; focus (intro wS hSw; have q0 := HC.out wS hSw; go_simp; first | done | with_reducible rfl)))
      (try simp only [Act.put, List.setIfInBounds_toArray, List.set_cons_zero, List.set_cons_succ])
      (first | (refine takeS_no 16 rfl (by kernel_rfl) (by kernel_rfl) (by kernel_rfl) (fun _ _ _ h => h) (by rfl) (by assumption) ?_) | (refine takeS_yes (v := ?_) 16 rfl (by kernel_rfl) (by kernel_rfl) (by kernel_rfl) (fun _ _ _ h => h) (by rfl) (by assumption) ?_ ?_; rotate_left; focus (intro wS hSw; have q0 := HC.out wS hSw; go_simp; first | done | with_reducible rfl)))
      (try simp only [Act.put, List.setIfInBounds_toArray, List.set_cons_zero, List.set_cons_succ])
      (first | (refine takeS_no 17 rfl (by kernel_rfl) (by kernel_rfl) (by kernel_rfl) (fun _ _ _ h => h) (by rfl) (by assumption) ?_) | (refine takeS_yes (v := ?_) 17 rfl (by kernel_rfl) (by kernel_rfl) (by kernel_rfl) (fun _ _ _ h => h) (by rfl) (by assumption) ?_ ?_; rotate_left; focus (intro wS hSw; have q0 := HC.out wS hSw; go_simp; first | done | with_reducible rfl)))
      (try simp only [Act.put, List.setIfInBounds_toArray, List.set_cons_zero, List.set_cons_succ])
      refine wpAnyH_done (by kernel_rfl) ?_ _
      (try simp only [Exit.then])
      (try (rename (∀ (_ : Act) (_ : World), _ → _) => hK0; refine hK0 _ _ ?_; clear hK0))
      have H13 := Lib.hid (H12.out.below hS1 (Nat.le_refl _))
      have ST13 := Lib.hid (ST12.out.trans (Stay.below hS1 (Nat.le_trans H12.out.low (Nat.le_of_lt H12.out.lt))))
      clear hS0 hS1 HD HC H12 ST12
      go_wp2_with fail
      go_end0
      exact ⟨rfl, H13.out, ST13.out⟩
end Go.Proofs.YtbimjggkiiadmaaGreatDoor
/- A peer's log grows by one entry; what is new; letters to nobody. Conditions: the peer lies so. -/
namespace Go.Proofs.YtbimjggkiiadmaaGreatDoor
open Go.RowKit
set_option maxRecDepth 20000
/-- An entry of a term and a kind alone. -/
def bareE (term kind : Int) : En := ⟨term, kind, 0, 0, 0, ⟨#[]⟩, none, [], 0, 0, none, [], 0⟩
theorem ownsRow_same {w w' : World} {B E k n : Nat} {v : Value} {xs : List Value} (h : w.ownsRow B E k v n xs) (hb : ∀ g, v.ownBlock = some g → g < w.heap.size → w'.heap[g]? = w.heap[g]?) : w'.ownsRow B E k v n xs := by
  refine ⟨h.1, ?_⟩
  rcases h.2 with h1 | ⟨g, cap, cur, rfl, h2, h3, h4⟩
  · exact Or.inl h1
  · exact Or.inr ⟨g, cap, cur, rfl, h2, (hb g rfl (Array.getElem?_eq_some_iff.1 h3).1).trans h3, h4⟩
theorem bareE_in {w : World} {g : Nat} {t k : Int} (hg : w.heap[g]? = some (.cells (enCells (bareE t k)).toArray 34 (0, 0))) : EnsIn w w.heap.size (some ⟨g, 0, none⟩) [bareE t k] :=
  rows_block enCells_len [bareE t k] _ hg rfl (Array.getElem?_eq_some_iff.1 hg).1 (fun x hx => by
    rw [List.mem_singleton] at hx
    subst hx
    exact ⟨Or.inl rfl, Or.inl rfl⟩)
theorem pappend_any {w : World} {B pb lb g : Nat} {s : PP} {vs : List Int} {ps : List EnP} (t k r : Int) (h : PeerIs w B pb lb s vs ps) (hr : r = ps.length + 1) (hl : ps.length ≤ 1000) (hg : w.heap[g]? = some (.cells (enCells (bareE t k)).toArray 34 (0, 0))) :
    Calls Tryz.prog 23 #[.pointer (some ⟨lb, 0, none⟩), .slice (some ⟨g, 0, none⟩) 1 1] w fun e w' => e = .returned (.int .i64 r) ∧ PeerIs w' B pb lb s vs (ps ++ [(bareE t k).plain]) ∧ Stay B w w' := by
  obtain ⟨v, es, h1, h2⟩ := h.log
  have hlen : es.length = ps.length := len_map h2
  refine (append_any B lb 0 0 v es (some ⟨g, 0, none⟩) 1 1 [bareE t k] w w.heap.size h1 (nums_any _ _ (by omega) (by omega)) (Nat.le_trans h.low (Nat.le_of_lt h.lt)) rfl (by decide) (bareE_in hg) (Nat.le_refl _) (fun e => by cases e) (by decide) (by omega) ⟨fun x hx => by rw [List.mem_singleton] at hx; subst hx; exact ⟨by simp [bareE], by simp [bareE]⟩, fun x hx => by rw [List.mem_singleton] at hx; subst hx; exact ⟨fun _ => rfl, fun _ => rfl⟩⟩).mono ?_
  rintro e w' ⟨v', es2, rfl, g2, g3, g4, g5⟩
  have hT : ∀ (q : Nat) (cs : Array Value) (T : TypeId) (fr : Nat × Nat), w.heap[q]? = some (Obj.cells cs T fr) → T ≠ 92 → T ≠ 34 → w'.heap[q]? = w.heap[q]? := fun q cs T fr hq n1 n2 =>
    g5.apt q (Array.getElem?_eq_some_iff.1 hq).1 (fun e => by
      have hb := h1.blk
      rw [← e, hq] at hb
      simp only [Option.some.injEq, Obj.cells.injEq] at hb
      exact n1 hb.2.1) (row_ne_T hq h1.ens.row n2)
  refine ⟨by rw [hr, hlen, Int.zero_add], ⟨(hT pb _ _ _ h.blk (by decide) (by decide)).trans h.blk, h.lg, ⟨v', es ++ es2, g2, by rw [List.map_append, h2, g3]; rfl⟩, ownsRow_same h.row fun q hq _ => ?_, h.low⟩, g4, fun q cs T fr hq _ n2 n3 _ => hT q cs T fr hq n2 n3⟩
  rcases h.row.2 with ⟨e, _⟩ | ⟨g', cap, cur, e, _, hb, _⟩
  · rw [e] at hq; cases hq
  · rw [e] at hq
    cases hq
    exact hT _ _ _ _ hb (by decide) (by decide)
theorem panew_any {w : World} {B pb lb : Nat} {s : PP} {vs : List Int} {ps : List EnP} (i : Int) (h : PeerIs w B pb lb s vs ps) (hf : s.frm = 0) (hi : 0 < i) :
    Calls Tryz.prog 24 #[.pointer (some ⟨pb, 0, none⟩), .int .i64 i] w fun e w' => e = .returned (.tuple #[]) ∧ PeerIs w' B pb lb { s with frm := i } vs ps ∧ Stay B w w' := by
  have c0 : w.cell? ⟨pb, 2, none⟩ = some (.int .i64 0) := (h.cells 2).trans (congrArg (fun x => some (Value.int .i64 x)) hf)
  have f0 := h.soft 2
  have d0 : decide ((0 : Int) < i) = true := by simpa using hi
  have H := Lib.hid h
  clear h hf
  go_enter Tryz.func24, Tryz.ntmps24
  go_wp2_with fail
  go_end0
  exact ⟨rfl, H.out.set 2 _ { s with frm := i } rfl rfl rfl, Stay.set H.out 2 _⟩
theorem pon_nil {w : World} {B pb lb cap : Nat} {ao : Option Addr} {s : PP} {vs : List Int} {ps : List EnP} (h : PeerIs w B pb lb s vs ps) :
    Calls Tryz.prog 29 #[.pointer (some ⟨pb, 0, none⟩), .slice ao 0 cap] w (EndIs fun w' => Below w.heap.size w w') := by
  have c0 : w.cell? ⟨pb, 40, none⟩ = some (.pointer (some ⟨lb, 0, none⟩)) := (h.cells 40).trans (congrArg some h.lg)
  have H := Lib.hid h
  clear h
  go_enter Tryz.func29, Tryz.ntmps29
  go_wp2_with fail
  refine (base_is B lb 0 0 ps w H.out.log).mono ?_
  rintro e w1 ⟨rfl, hb1⟩
  have HB := Lib.hid hb1
  clear hb1 c0
  go_wp2_with fail
  go_loopw [7, 8, 9, 10, 11, 22] (fun _ _ _ _ _ i wr => i = .int .i64 0 ∧ wr = w1) (fun _ _ _ _ _ _ _ => 0)
  case atStart => exact ⟨rfl, rfl⟩
  case round =>
    obtain ⟨rfl, rfl⟩ := hrel
    go_wp2_with fail
    go_end0
    exact ⟨rfl, HB.out⟩
end Go.Proofs.YtbimjggkiiadmaaGreatDoor
