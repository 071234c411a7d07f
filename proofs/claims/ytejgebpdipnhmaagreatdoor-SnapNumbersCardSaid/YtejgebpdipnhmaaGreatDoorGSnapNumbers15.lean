/- Rows of bytes that lie apart are found to do so. Conditions: each row is the call's own, in a block of its own. -/
import Derived.Test.YtejgebpdipnhmaaGreatDoorGSnapNumbers14
import Derived.Test.YtejgebpdipnhmaaGreatDoorGSnapNumbers1
import Derived.StillTailTactics
set_option linter.unusedVariables false
set_option linter.unusedSimpArgs false
namespace Go.Proofs.YtejgebpdipnhmaaGreatDoor
open Go.RowKit
set_option maxRecDepth 20000
def markN (k i : Nat) : Int := 1000003 * ((k : Int) + 7) + i
def markBK (k i : Nat) : Int := IntKind.u64.wrap (markN k i * 11400714819323198485) / 72057594037927936 % 256
theorem mark_at (a b : Int) (k i : Nat) (ha : a = k) (hb : b = i) (hk : k ≤ 1000000) (hi : i ≤ 2000000000000) (w : World) :
    Calls Tryz.prog 80 #[.int .i64 a, .int .i64 b] w fun e w' => e = .returned (.int .i64 (markN k i)) ∧ w = w' := by
  subst ha hb
  go_enter Tryz.func80, Tryz.ntmps80
  go_wp2_with fail
  go_ret
  exact ⟨rfl, rfl⟩
theorem markBK_at (a b : Int) (k i : Nat) (ha : a = k) (hb : b = i) (hk : k ≤ 1000000) (hi : i ≤ 2000000000000) (w : World) :
    Calls Tryz.prog 53 #[.int .i64 a, .int .i64 b] w fun e w' => e = .returned (.int .u8 (markBK k i)) ∧ w = w' := by
  have hm : 0 ≤ markN k i ∧ markN k i ≤ 4000000000000 := by unfold markN; omega
  have HM := Lib.hid (show markBK k i = IntKind.u64.wrap (markN k i * 11400714819323198485) / 72057594037927936 % 256 from rfl)
  have hc := mark_at a b k i ha hb hk hi
  generalize markN k i = m at hm HM hc
  have HC := Lib.hid hc
  clear hc ha hb
  go_enter Tryz.func53, Tryz.ntmps53
  go_wp2_with fail
  refine (HC.out _).mono ?_
  rintro e w' ⟨rfl, rfl⟩
  go_wp2_with fail
  go_ret
  exact ⟨ret_int (by rw [HM.out]), rfl⟩
def mkB (k i : Nat) : List Value := [.int .u8 (markBK k i)]
theorem mkB_len (k i : Nat) : (mkB k i).length = 1 := rfl
theorem take_set_succ {l : List Value} {q : Nat} {u : Value} (h : q < l.length) : (l.set q u).take (q + 1) = l.take q ++ [u] := by
  rw [List.take_succ_eq_append_getElem (by simpa using h)]
  congr 1
  · exact List.take_set_of_le (Nat.le_refl _)
  · simp
theorem own_cap' {w : World} {base e size n m cap : Nat} {ao : Option Addr} {xs : List Value} (h : w.ownsRow base e size (.slice ao m cap) n xs) : m ≤ cap := by
  rcases h.2 with ⟨h', _⟩ | ⟨g, cap', cur, h', _, _, h3, _⟩
  · cases h'; omega
  · cases h'; exact h3
theorem infoRowB : (Tryz.prog.info? 24).map (fun i => (i.zero, i.size, i.bytes)) = some (some (.slice none 0 0), 1, 24) := by kernel_rfl
theorem made_list (z : Value) (n : Nat) : (madeCells #[z] n).toList = (List.range n).map fun _ => z := by
  apply List.ext_getElem?
  intro i
  rw [List.getElem?_map, Array.getElem?_toList]
  by_cases hi : i < n
  · rw [List.getElem?_range hi]; simp [madeCells, hi, Nat.mod_one]
  · rw [List.getElem?_eq_none (by simpa using hi), Array.getElem?_eq_none (by simp [size_madeCells]; omega)]; rfl
/-- A row that lies apart from the one that is grown. -/
theorem grow_other {w : World} {B E SZ B2 E2 S2 k hs n n2 q g c : Nat} {mk : Nat → Nat → List Value} {r u : Value} {xs : List Value} (h : GrowAt B E SZ mk k hs r n q (.slice (some ⟨g, 0, none⟩) (n + q) c) w) (hu : w.ownsRow B2 E2 S2 u n2 xs) (hs2 : ∀ b, u.ownBlock = some b → b < hs) (hsep : Sep u r) : u.ownBlock = none ∨ u.ownBlock ≠ some g := by
  cases hub : u.ownBlock with
  | none => exact Or.inl rfl
  | some b =>
    right
    intro he
    cases he
    rcases h.2.2 with h1 | h1
    · exact hsep g hub h1.symm
    · have := h1 g rfl
      have := hs2 g hub
      omega
/-- A row's slice, as it looks. -/
theorem row_form {w : World} {B E SZ n : Nat} {v : Value} {xs : List Value} (h : w.ownsRow B E SZ v n xs) : ∃ a c, v = .slice a n c ∧ (a = none → n = 0 ∧ c = 0) ∧ (0 < c → ∃ g, a = some ⟨g, 0, none⟩) ∧ n ≤ c := by
  have h0 := h
  rcases Go.Joins.ownsRow_forms h with ⟨rfl, hz⟩ | ⟨g, c, rfl⟩
  · exact ⟨none, 0, by rw [hz], fun _ => ⟨hz, rfl⟩, fun h => by omega, by omega⟩
  · exact ⟨_, c, rfl, by simp, fun _ => ⟨g, rfl⟩, own_cap' h0⟩
set_option maxHeartbeats 8000000 in
theorem flatB_any (B K : Nat) (lo : Option Addr) (lc : Nat) (R : Nat → Value) (n : Nat → Nat) (C0 : Nat → List Value) (w : World)
    (hL : w.ownsRow B 24 1 (.slice lo K lc) K ((List.range K).map R)) (hR : RowsAt B 5 1 K R n C0 w) (hsep : SepAll K R) (hK : K ≤ 100000) (hn : ∀ j, j < K → n j ≤ 1099511627776) (hB : B ≤ w.heap.size) :
    Calls Tryz.prog 89 #[.slice lo K lc] w fun e w' => e = .returned (.bool true) ∧ Kb (ofRows K R) B 5 w w' := by
  have HL := Lib.hid hL
  have HR := Lib.hid hR
  have HS := Lib.hid hsep
  have HN := Lib.hid hn
  clear hL hR hsep hn
  go_enter Tryz.func89, Tryz.ntmps89
  go_wp2_with fail
  go_loopw [3, 4] (fun i _ wr => ∃ k : Nat, k ≤ K ∧ i = .int .i64 k ∧ (∃ C, RowsAt B 5 1 K R n C wr ∧ ∀ j, j < k → C j = mks mkB j (n j)) ∧ wr.ownsRow B 24 1 (.slice lo K lc) K ((List.range K).map R) ∧ Kb (ofRows K R) B 5 w wr) (fun i _ _ => K - (intOf i).toNat)
  case atStart => exact ⟨0, by omega, rfl, ⟨C0, HR.out, fun j hj => by omega⟩, HL.out, Kb.refl _ _ _ _⟩
  case round =>
    obtain ⟨k, hk, rfl, hrows, hlw, hbel⟩ := hrel
    have HRW := Lib.hid hrows
    have HLW := Lib.hid hlw
    clear hrows hlw
    by_cases hlt : k < K
    · obtain ⟨C, hC, hCk⟩ := HRW.out
      obtain ⟨a, c, hRk, hanone, hasome, hac⟩ := row_form (hC k hlt)
      have hnk := HN.out k hlt
      obtain ⟨nk, hnk2⟩ : ∃ nk, nk = n k := ⟨_, rfl⟩
      rw [← hnk2] at hRk hanone hnk hac
      obtain ⟨lb, lcc, hlo⟩ := Go.Joins.ownsRow_form HLW.out (by omega)
      cases hlo
      have HRK := Lib.hid hRk
      have HNK := Lib.hid hnk2
      have HC := Lib.hid hC
      have HCK := Lib.hid hCk
      have HAS := Lib.hid hasome
      have i1 : (k : Int) < K := by omega
      clear hRk hnk2 hC hCk hasome hanone
      go_wp2_with fail
      obtain ⟨wo, rfl⟩ : ∃ wo : World, wo = wr := ⟨_, rfl⟩
      go_loopw [4] (fun i wr => ∃ q : Nat, q ≤ nk ∧ i = .int .i64 q ∧ (∃ C, RowsAt B 5 1 K R n C wr ∧ (∀ j, j < k → C j = mks mkB j (n j)) ∧ (C k).take q = mks mkB k q) ∧ wr.ownsRow B 24 1 (.slice (some ⟨lb, 0, none⟩) K lc) K ((List.range K).map R) ∧ Kb (ofRows K R) B 5 w wr) (fun i _ => nk - (intOf i).toNat)
      case atStart => exact ⟨0, by omega, rfl, ⟨C, HC.out, HCK.out, by simp [mks]⟩, HLW.out, hbel⟩
      case round =>
        clear hbel
        obtain ⟨q, hq, rfl, hrows, hlw, hbel⟩ := hrel
        have HRW2 := Lib.hid hrows
        have HLW2 := Lib.hid hlw
        have c0 : wr.cell? ⟨lb, k, none⟩ = some (.slice a nk c) := by
          rw [World.ownsRow.cellAt hlw k (by omega), range_get R K k hlt, HRK.out]
        clear hrows hlw
        by_cases hltq : q < nk
        · obtain ⟨g, rfl⟩ := HAS.out (by omega)
          have i2 : (q : Int) < nk := by omega
          go_wp2_with fail
          go_still_tail 9, (by kernel_rfl)
          still_call ((markBK_at _ _ k q rfl rfl (by omega) (by omega) _).mono fun _ _ ⟨h, hw⟩ => ⟨h, hw.symm⟩)
          repeat still_step
          refine wpStill_nil ?_
          change wpList _ _ _ _ _ wr.drew
          obtain ⟨C2, hC2, hCk2, hCq2⟩ := HRW2.out
          have hC3 : RowsAt B 5 1 K R n C2 wr.drew := hC2
          have hl3 : wr.drew.ownsRow B 24 1 (.slice (some ⟨lb, 0, none⟩) K lc) K ((List.range K).map R) := HLW2.out
          have hb3 : Kb (ofRows K R) B 5 w wr.drew := hbel.drew
          generalize wr.drew = w3 at hC3 hl3 hb3 ⊢
          have hrow := hC3 k hlt
          rw [HRK.out, ← HNK.out] at hrow
          have hql : q < (C2 k).length := by have := hrow.1; omega
          have d0 : w3.cell? ⟨g, q, none⟩ = some ((C2 k)[q]) := by
            rw [World.ownsRow.cellAt hrow q (by omega), List.getElem?_eq_getElem hql]
          have f0 : w3.frozen? ⟨g, q, none⟩ = false := World.ownsRow.frozenAt hrow _
          have hst := World.ownsRow.stored hrow q (.int .u8 (markBK k q))
          have HST := Lib.hid hst
          have HROW := Lib.hid hrow
          have HC3 := Lib.hid hC3
          have HL3 := Lib.hid hl3
          generalize (C2 k)[q] = old at d0
          clear hst hrow hC3 hl3 hC2 c0
          go_wp2_with fail
          go_roundw
          case rel =>
            have hRb : (R k).ownBlock = some g := by rw [HRK.out]; rfl
            refine ⟨q + 1, by omega, by go_num, ⟨_, RowsAt.upd HC3.out HS.out hlt (by rw [hRb]; exact HST.out.2) (by rw [HRK.out, ← HNK.out]; exact HST.out.1), fun j hj => ?_, ?_⟩, ?_, ?_⟩
            · have e : ¬ j = k := by omega
              simp only [e, if_false]
              exact hCk2 j hj
            · simp only [if_true]
              rw [take_set_succ hql, hCq2, mks_succ]; rfl
            · exact World.ownsRow.kept HL3.out HST.out.2 (by have := own_apart HL3.out HROW.out (by decide); exact this)
            · exact hb3.grownRow HST.out.2 (by have := hb3.size; omega) HROW.out (HROW.out.lt g rfl).1 (Or.inl ⟨k, hlt, hRb⟩)
          case measure => simp [intOf]; omega
        · obtain rfl : q = nk := by omega
          go_wp2_with fail
          go_roundw
          case rel =>
            obtain ⟨C2, hC2, hCk2, hCq2⟩ := HRW2.out
            refine ⟨k + 1, by omega, by go_num, ⟨C2, hC2, fun j hj => ?_⟩, HLW2.out, hbel⟩
            by_cases e : j = k
            · subst e
              rw [← HNK.out, ← hCq2, List.take_of_length_le (by have := (hC2 j hlt).1; rw [← HNK.out] at this; omega)]
            · exact hCk2 j (by omega)
          case measure => simp [intOf]; omega
    · obtain rfl : K = k := by omega
      obtain ⟨wo, rfl⟩ : ∃ wo : World, wo = wr := ⟨_, rfl⟩
      have hP1 : RowsAt B 5 1 K R n (fun j => mks mkB j (n j)) wo := by
        obtain ⟨C, hC, hCk⟩ := HRW.out
        exact hC.congr hCk
      have hmk := run_make_row' (P := Tryz.prog) 41 24 (.slice none 0 0) 24 Tryz.underlying41 infoRowB rfl .i64 .i64 K (by omega) (by omega)
      have hsz := hbel.size
      have hwo : w.heap.size ≤ wo.heap.size := hsz
      have hP2 : RowsAt B 5 1 K R n (fun j => mks mkB j (n j)) (wo.alloc (.cells (madeCells #[.slice none 0 0] K) 24)) := fun j hj => (hP1 j hj).alloc _
      have hl2 := World.ownsRow.alloc HLW.out (.cells (madeCells #[.slice none 0 0] K) 24)
      have hg2 := World.ownsRow_lit (base := B) (e := 24) (size := 1) wo (madeCells #[.slice none 0 0] K) K (by omega) (by unfold maxLen; omega) (by simp [size_madeCells])
      rw [made_list] at hg2
      have hb2 := hbel.alloc (by omega) (.cells (madeCells #[.slice none 0 0] K) 24)
      have hLG : Sep (.slice lo K lc) (.slice (some ⟨wo.heap.size, 0, none⟩) K K) := fun b hb hb' => by
        have := (HLW.out.lt b hb).2
        simp [Value.ownBlock] at hb'
        omega
      have HP2 := Lib.hid hP2
      have HL2 := Lib.hid hl2
      have HG2 := Lib.hid hg2
      have HLG := Lib.hid hLG
      clear hP1 hP2 hl2 hg2 hLG HRW HLW
      obtain ⟨i0, hi, hz0, hz1, hz2⟩ := info_parts infoByte
      go_wp2_with fail
      generalize wo.alloc (.cells (madeCells #[.slice none 0 0] K) 24) = w1 at HP2 HL2 HG2 hb2 ⊢
      clear hmk
      go_loopw [6, 7, 8] (fun i _ _ wr => ∃ (k : Nat) (V : Nat → Value), k ≤ K ∧ i = .int .i64 k ∧ RowsAt B 5 1 K R n (fun j => mks mkB j (n j)) wr ∧ (∀ j, j < k → wr.ownsRow B 5 1 (V j) (n j + 64) (mks mkB j (n j + 64))) ∧ (∀ i j, i < k → j < K → i ≠ j → Sep (V i) (R j)) ∧ (∀ i j, i < k → j < k → i ≠ j → Sep (V i) (V j)) ∧
        wr.ownsRow B 24 1 (.slice lo K lc) K ((List.range K).map R) ∧ wr.ownsRow B 24 1 (.slice (some ⟨wo.heap.size, 0, none⟩) K K) K ((List.range K).map fun j => if j < k then V j else .slice none 0 0) ∧ Kb (ofRows K R) B 5 w wr) (fun i _ _ _ => K - (intOf i).toNat)
      case atStart => exact ⟨0, fun _ => .slice none 0 0, by omega, rfl, HP2.out, fun j hj => by omega, fun i j hi => by omega, fun i j hi => by omega, HL2.out, by simpa using HG2.out, hb2⟩
      case round =>
        clear hbel hsz hb2 HP2 HL2 HG2
        obtain ⟨k, V, hk, rfl, hP, hV, hVR, hVV, hlw, hgw, hbel⟩ := hrel
        have HP := Lib.hid hP
        have HV := Lib.hid hV
        have HVR := Lib.hid hVR
        have HVV := Lib.hid hVV
        have HLW := Lib.hid hlw
        have HGW := Lib.hid hgw
        clear hP hV hVR hVV hlw hgw
        by_cases hlt : k < K
        · obtain ⟨a, c, hRk, hanone, hasome, hac⟩ := row_form (HP.out k hlt)
          have hnk := HN.out k hlt
          obtain ⟨nk, hnk2⟩ : ∃ nk, nk = n k := ⟨_, rfl⟩
          rw [← hnk2] at hRk hanone hnk hac
          obtain ⟨lb, lcc, hlo⟩ := Go.Joins.ownsRow_form HLW.out (by omega)
          cases hlo
          have c0 : wr.cell? ⟨lb, k, none⟩ = some (.slice a nk c) := by
            rw [World.ownsRow.cellAt HLW.out k (by omega), range_get R K k hlt, hRk]
          have HRK := Lib.hid hRk
          have HNK := Lib.hid hnk2
          have i1 : (k : Int) < K := by omega
          have hsw := hbel.size
          clear hRk hnk2 hasome hanone
          go_wp2_with fail
          obtain ⟨wi, rfl⟩ : ∃ wi : World, wi = wr := ⟨_, rfl⟩
          have hwi : w.heap.size ≤ wi.heap.size := hbel.size
          clear c0
          go_loopw [7, 8] (fun v i wr => ∃ q : Nat, q ≤ 64 ∧ i = .int .i64 q ∧ GrowAt B 5 1 mkB k wi.heap.size (R k) nk q v wr ∧ (∀ j, j < K → j ≠ k → wr.ownsRow B 5 1 (R j) (n j) (mks mkB j (n j))) ∧ (∀ j, j < k → wr.ownsRow B 5 1 (V j) (n j + 64) (mks mkB j (n j + 64))) ∧
            wr.ownsRow B 24 1 (.slice (some ⟨lb, 0, none⟩) K lc) K ((List.range K).map R) ∧ wr.ownsRow B 24 1 (.slice (some ⟨wo.heap.size, 0, none⟩) K K) K ((List.range K).map fun j => if j < k then V j else .slice none 0 0) ∧ Kb (ofRows K R) B 5 w wr ∧ wi.heap.size ≤ wr.heap.size) (fun _ i _ => 64 - (intOf i).toNat)
          case atStart => exact ⟨0, by omega, rfl, by rw [← HRK.out]; exact grow_start (by rw [HNK.out]; exact HP.out k hlt), fun j hj _ => HP.out j hj, HV.out, HLW.out, HGW.out, hbel, Nat.le_refl _⟩
          case round =>
            clear hbel hsw
            obtain ⟨q, hq, rfl, hgr, hRo, hVo, hlw, hgw, hbel, hsw⟩ := hrel
            have hsb := hbel.size
            have HGR := Lib.hid hgr
            have HRO := Lib.hid hRo
            have HVO := Lib.hid hVo
            have HLW2 := Lib.hid hlw
            have HGW2 := Lib.hid hgw
            clear hgr hRo hVo hlw hgw
            by_cases hltq : q < 64
            · have c0 : wr.cell? ⟨lb, k, none⟩ = some (.slice a nk c) := by
                rw [World.ownsRow.cellAt HLW2.out k (by omega), range_get R K k hlt, HRK.out]
              obtain ⟨va, vc, hv, hvn, hvs, hvc⟩ := row_form HGR.out.1
              subst hv
              have i2 : (q : Int) < 64 := by omega
              have HVS := Lib.hid hvs
              have HVN := Lib.hid hvn
              clear hvs hvn
              have hRb : ∀ j, j < K → ∀ b, (R j).ownBlock = some b → b < wi.heap.size := fun j hj b hb => ((HP.out j hj).lt b hb).2
              have hVb : ∀ j, j < k → ∀ b, (V j).ownBlock = some b → b < wi.heap.size := fun j hj b hb => ((HV.out j hj).lt b hb).2
              have HRB := Lib.hid hRb
              have HVB := Lib.hid hVb
              clear hRb hVb
              by_cases hfit : nk + q + 1 ≤ vc
              · obtain ⟨g, rfl⟩ := HVS.out (by omega)
                go_wp2_with (first | (go_at_call 53; (with_reducible refine (markBK_at _ _ k (nk + q) rfl (by omega) (by omega) (by omega) _).mono ?_); rintro e w' ⟨rfl, rfl⟩) | (at_builtin; refine wpList_append_fits _ rfl (.tmp 57) (.tmp 67) 24 rfl B 5 i0 1 Tryz.underlying24 hi hz1 g (nk + q) vc (mks mkB k (nk + q)) rfl (World.ownsRow.alloc HGR.out.1 _) ⟨wr.heap.size, 0, none⟩ 1 1 [.int .u8 (markBK k (nk + q))] rfl rfl (cell_one_new _ _ _) (by simp [Value.oneCell']) hfit ?_))
                intro w3 hown3 hg3
                have HGA := grow_alloc HGR.out (.cells #[.int .u8 (markBK k (nk + q))] 5)
                have hgr3 := grow_fits mkB_len (by decide) HGA (HRB.out k hlt) hown3 hg3
                have hR3 : ∀ j, j < K → j ≠ k → w3.ownsRow B 5 1 (R j) (n j) (mks mkB j (n j)) := fun j hj hjk =>
                  World.ownsRow.kept ((HRO.out j hj hjk).alloc _) hg3 (grow_other HGA ((HRO.out j hj hjk).alloc _) (HRB.out j hj) (HS.out j k hj hlt hjk))
                have hV3 : ∀ j, j < k → w3.ownsRow B 5 1 (V j) (n j + 64) (mks mkB j (n j + 64)) := fun j hj =>
                  World.ownsRow.kept ((HVO.out j hj).alloc _) hg3 (grow_other HGA ((HVO.out j hj).alloc _) (HVB.out j hj) (HVR.out j k hj hlt (by omega)))
                have hl3 := World.ownsRow.kept (HLW2.out.alloc (.cells #[.int .u8 (markBK k (nk + q))] 5)) hg3 (own_apart (HLW2.out.alloc _) HGA.1 (by decide))
                have hG3 := World.ownsRow.kept (HGW2.out.alloc (.cells #[.int .u8 (markBK k (nk + q))] 5)) hg3 (own_apart (HGW2.out.alloc _) HGA.1 (by decide))
                have hb3 : Kb (ofRows K R) B 5 w w3 := (hbel.alloc (by omega) _).grownRow hg3 (by simp; omega) HGA.1 (HGA.1.lt g rfl).1 (HGA.2.2.imp (fun e => ⟨k, hlt, e.symm⟩) (fun h => by have := h g rfl; omega))
                have hs3 : wi.heap.size ≤ w3.heap.size := by have := hg3.size; simp at this; omega
                have HA1 := Lib.hid hgr3
                have HA2 := Lib.hid hR3
                have HA3 := Lib.hid hV3
                have HA4 := Lib.hid hl3
                have HA5 := Lib.hid hG3
                clear hown3 hg3 HGA hgr3 hR3 hV3 hl3 hG3 c0
                go_wp2_with fail
                go_roundw
                case rel => exact ⟨q + 1, by omega, by go_num, by have := HA1.out; rwa [show nk + q + 1 = nk + (q + 1) by omega] at this, HA2.out, HA3.out, HA4.out, HA5.out, hb3, hs3⟩
                case measure => simp [intOf]; omega
              · have HLN := Lib.hid (mks_len mkB_len k (nk + q))
                have HCL := Lib.hid (show ∀ b, va = some b → ∀ (j : Nat) u, (mks mkB k (nk + q))[j]? = some u → (wr.alloc (.cells #[.int .u8 (markBK k (nk + q))] 5)).cell? (b.add j) = some u from fun b hb j u hu => by
                  have h1 := HGR.out.1.alloc (.cells #[.int .u8 (markBK k (nk + q))] 5)
                  rw [hb] at h1
                  rcases Go.Joins.ownsRow_forms h1 with ⟨h2, _⟩ | ⟨g2, c2, h2⟩
                  · cases h2
                  · injection h2 with h3 _ _
                    injection h3 with h3
                    subst h3
                    exact World.ownsRow.cells h1 rfl j u hu)
                have hcl := HCL.out
                have hln := HLN.out
                have hvn := HVN.out
                go_wp2_with (first | (go_at_call 53; (with_reducible refine (markBK_at _ _ k (nk + q) rfl (by omega) (by omega) (by omega) _).mono ?_); rintro e w' ⟨rfl, rfl⟩) | (at_builtin; refine wpList_append_grows _ rfl (.tmp 57) (.tmp 67) 24 rfl 5 i0 (.int .u8 0) 1 1 Tryz.underlying24 hi hz0 hz1 hz2 rfl (by decide) va (nk + q) vc (mks mkB k (nk + q)) rfl hvn hln hcl ⟨wr.heap.size, 0, none⟩ 1 1 [.int .u8 (markBK k (nk + q))] rfl rfl (cell_one_new _ _ _) (by simp [Value.oneCell']) (by omega) (by unfold maxLen; omega) (by omega) ?_))
                intro v3 w3 hown3 hg3
                have HGA := grow_alloc HGR.out (.cells #[.int .u8 (markBK k (nk + q))] 5)
                have hgr3 := grow_new HGA (by simp; omega) (by simp; omega) (by rw [World.size_alloc]; exact hown3) hg3
                have hR3 : ∀ j, j < K → j ≠ k → w3.ownsRow B 5 1 (R j) (n j) (mks mkB j (n j)) := fun j hj hjk =>
                  World.ownsRow.kept ((HRO.out j hj hjk).alloc _) hg3 (by cases (R j).ownBlock <;> simp)
                have hV3 : ∀ j, j < k → w3.ownsRow B 5 1 (V j) (n j + 64) (mks mkB j (n j + 64)) := fun j hj =>
                  World.ownsRow.kept ((HVO.out j hj).alloc _) hg3 (by cases (V j).ownBlock <;> simp)
                have hl3 := World.ownsRow.kept (HLW2.out.alloc (.cells #[.int .u8 (markBK k (nk + q))] 5)) hg3 (by simp [Value.ownBlock])
                have hG3 := World.ownsRow.kept (HGW2.out.alloc (.cells #[.int .u8 (markBK k (nk + q))] 5)) hg3 (by simp [Value.ownBlock])
                have hb3 : Kb (ofRows K R) B 5 w w3 := (hbel.alloc (by omega) _).grownNone hg3 (by simp; omega)
                have hs3 : wi.heap.size ≤ w3.heap.size := by have := hg3.size; simp at this; omega
                have HA1 := Lib.hid hgr3
                have HA2 := Lib.hid hR3
                have HA3 := Lib.hid hV3
                have HA4 := Lib.hid hl3
                have HA5 := Lib.hid hG3
                clear hown3 hg3 HGA hgr3 hR3 hV3 hl3 hG3 c0 hcl hln hvn
                go_wp2_with fail
                go_roundw
                case rel => exact ⟨q + 1, by omega, by go_num, HA1.out, HA2.out, HA3.out, HA4.out, HA5.out, hb3, hs3⟩
                case measure => simp [intOf]; omega
            · obtain rfl : 64 = q := by omega
              obtain ⟨va, vc, hv, _, _, _⟩ := row_form HGR.out.1
              subst hv
              have c1 : wr.cell? ⟨wo.heap.size, k, none⟩ = some (.slice none 0 0) := by
                rw [World.ownsRow.cellAt HGW2.out k (by omega), range_get _ K k hlt]
                simp
              have f1 : wr.frozen? ⟨wo.heap.size, k, none⟩ = false := World.ownsRow.frozenAt HGW2.out _
              have hst := World.ownsRow.stored HGW2.out k (.slice va (nk + 64) vc)
              rw [range_set] at hst
              have HST := Lib.hid hst
              clear hst
              go_wp2_with fail
              go_roundw
              case rel =>
                have hg := HST.out.2
                have hGB : B ≤ wo.heap.size := (HGW2.out.lt _ rfl).1
                refine ⟨k + 1, fun j => if j = k then .slice va (nk + 64) vc else V j, by omega, by go_num, fun j hj => ?_, fun j hj => ?_, fun i j hi hj hij => ?_, fun i j hi hj hij => ?_, World.ownsRow.kept HLW2.out hg HLG.out.ne, ?_, hbel.grownNew hg (by have := hbel.size; omega) hwo hGB⟩
                · by_cases e : j = k
                  · subst e
                    have h1 := World.ownsRow.kept HGR.out.2.1 hg (own_apart HGR.out.2.1 HGW2.out (by decide))
                    rw [HNK.out] at h1 ⊢
                    exact h1
                  · exact World.ownsRow.kept (HRO.out j hj e) hg (own_apart (HRO.out j hj e) HGW2.out (by decide))
                · by_cases e : j = k
                  · subst e
                    simp only [if_true]
                    have h1 := World.ownsRow.kept HGR.out.1 hg (own_apart HGR.out.1 HGW2.out (by decide))
                    rw [← HNK.out]
                    exact h1
                  · simp only [e, if_false]
                    exact World.ownsRow.kept (HVO.out j (by omega)) hg (own_apart (HVO.out j (by omega)) HGW2.out (by decide))
                · by_cases e : i = k
                  · subst e
                    simp only [if_true]
                    intro b hb hb'
                    rcases HGR.out.2.2 with h1 | h1
                    · exact HS.out i j hlt hj hij b (h1 ▸ hb) hb'
                    · have := h1 b hb
                      have := ((HP.out j hj).lt b hb').2
                      omega
                  · simp only [e, if_false]
                    exact HVR.out i j (by omega) hj hij
                · by_cases e : i = k
                  · have e2 : ¬ j = k := fun h => hij (e.trans h.symm)
                    subst e
                    simp only [if_true, e2, if_false]
                    intro b hb hb'
                    rcases HGR.out.2.2 with h1 | h1
                    · exact HVR.out j i (by omega) hlt (Ne.symm hij) b hb' (h1 ▸ hb)
                    · have := h1 b hb
                      have := ((HV.out j (by omega)).lt b hb').2
                      omega
                  · by_cases e2 : j = k
                    · subst e2
                      simp only [if_true, e, if_false]
                      intro b hb hb'
                      rcases HGR.out.2.2 with h1 | h1
                      · exact HVR.out i j (by omega) hlt hij b hb (h1 ▸ hb')
                      · have := h1 b hb'
                        have := ((HV.out i (by omega)).lt b hb).2
                        omega
                    · simp only [e, e2, if_false]
                      exact HVV.out i j (by omega) (by omega) hij
                · have h1 := HST.out.1
                  have e : (fun j => if j = k then (Value.slice va (nk + 64) vc) else if j < k then V j else .slice none 0 0) = fun j => if j < k + 1 then (if j = k then (Value.slice va (nk + 64) vc) else V j) else .slice none 0 0 := by
                    funext j
                    by_cases e1 : j = k
                    · subst e1; simp
                    · by_cases e2 : j < k
                      · simp [e1, e2, show j < k + 1 by omega]
                      · simp [e1, e2, show ¬ j < k + 1 by omega]
                  rw [e] at h1
                  exact h1
              case measure => simp [intOf]; omega
        · obtain rfl : K = k := by omega
          obtain ⟨wb, rfl⟩ : ∃ wb : World, wb = wr := ⟨_, rfl⟩
          have HGW2 := Lib.hid (show wb.ownsRow B 24 1 (.slice (some ⟨wo.heap.size, 0, none⟩) K K) K ((List.range K).map V) by
            have h1 := HGW.out
            have e : ((List.range K).map fun j => if j < K then V j else .slice none 0 0) = (List.range K).map V := List.map_congr_left fun j hj => by simp [List.mem_range.1 hj]
            rwa [e] at h1)
          clear HGW
          have hsb := hbel.size
          have hgl := (HGW2.out.lt _ rfl).2
          go_wp2_with fail
          go_loopw [9, 10] (fun i _ wr => ∃ k : Nat, k ≤ K ∧ i = .int .i64 k ∧ Below wb.heap.size wb wr) (fun i _ _ => K - (intOf i).toNat)
          case atStart => exact ⟨0, by omega, rfl, Below.refl _ _⟩
          case round =>
            obtain ⟨k, hk, rfl, hb5⟩ := hrel
            by_cases hlt : k < K
            · obtain ⟨a, c, hRk, _, hasome, hac⟩ := row_form (HP.out k hlt)
              obtain ⟨va, vc, hVk, _, hvsome, hvc⟩ := row_form (HV.out k hlt)
              have hnk := HN.out k hlt
              have hVr := HV.out k hlt
              have hRr := HP.out k hlt
              obtain ⟨nk, hnk2⟩ : ∃ nk, nk = n k := ⟨_, rfl⟩
              rw [hRk] at hRr
              rw [hVk] at hVr
              simp only [← hnk2] at hRk hVk hnk hac hvc hVr hRr
              obtain ⟨lb, lcc, hlo⟩ := Go.Joins.ownsRow_form HLW.out (by omega)
              cases hlo
              have cl : wb.cell? ⟨lb, k, none⟩ = some (.slice a nk c) := by
                rw [World.ownsRow.cellAt HLW.out k (by omega), range_get R K k hlt, hRk]
              have cg : wb.cell? ⟨wo.heap.size, k, none⟩ = some (.slice va (nk + 64) vc) := by
                rw [World.ownsRow.cellAt HGW2.out k (by omega), range_get V K k hlt, hVk]
              have hll := (HLW.out.lt lb rfl).2
              have HVR2 := Lib.hid hVr
              have HRR2 := Lib.hid hRr
              have HVS := Lib.hid hvsome
              have HAS := Lib.hid hasome
              have i1 : (k : Int) < K := by omega
              clear hRk hVk hnk2 hVr hRr hvsome hasome
              go_wp2_with fail
              go_loopw [10] (fun i wr => ∃ q : Nat, q ≤ nk + 64 ∧ i = .int .i64 q ∧ Below wb.heap.size wb wr) (fun i _ => nk + 64 - (intOf i).toNat)
              case atStart => exact ⟨0, by omega, rfl, hb5⟩
              case round =>
                clear hb5
                obtain ⟨q, hq, rfl, hb5⟩ := hrel
                have cg5 : wr.cell? ⟨wo.heap.size, k, none⟩ = some (.slice va (nk + 64) vc) := (hb5.cell (p := ⟨wo.heap.size, k, none⟩) hgl).trans cg
                by_cases hltq : q < nk + 64
                · obtain ⟨vg, rfl⟩ := HVS.out (by omega)
                  have hvg := (HVR2.out.lt vg rfl).2
                  have dv : wb.cell? ⟨vg, q, none⟩ = some (.int .u8 (markBK k q)) := by
                    rw [World.ownsRow.cellAt HVR2.out q (by omega)]
                    have := mks_get mkB_len k (nk + 64) q 0 hltq (by decide)
                    simpa [mkB] using this
                  have k0 : ∀ x : Calm wb.heap.size wb, x.1.cell? ⟨wo.heap.size, k, none⟩ = some (.slice (some ⟨vg, 0, none⟩) (nk + 64) vc) := fun x => x.cell cg hgl
                  have k1 : ∀ x : Calm wb.heap.size wb, x.1.cell? ⟨vg, q, none⟩ = some (.int .u8 (markBK k q)) := fun x => x.cell dv hvg
                  have k2 : ∀ x : Calm wb.heap.size wb, x.1.cell? ⟨lb, k, none⟩ = some (.slice a nk c) := fun x => x.cell cl hll
                  have i2 : (q : Int) < (nk : Int) + 64 := by omega
                  have i3 : (q : Int) < ((nk + 64 : Nat) : Int) := by omega
                  by_cases hlq : q < nk
                  · obtain ⟨rg, rfl⟩ := HAS.out (by omega)
                    have hrg := (HRR2.out.lt rg rfl).2
                    have dr : wb.cell? ⟨rg, q, none⟩ = some (.int .u8 (markBK k q)) := by
                      rw [World.ownsRow.cellAt HRR2.out q (by omega)]
                      have := mks_get mkB_len k nk q 0 hlq (by decide)
                      simpa [mkB] using this
                    have k3 : ∀ x : Calm wb.heap.size wb, x.1.cell? ⟨rg, q, none⟩ = some (.int .u8 (markBK k q)) := fun x => x.cell dr hrg
                    have i4 : (q : Int) < nk := by omega
                    have d1 : decide ((q : Int) < nk) = true := by simpa using hlq
                    have d2 : decide (q < nk) = true := by simpa using hlq
                    clear dv dr cl cg
                    go_wp2_with fail
                    clear cg5
                    refine wp_region_calm (B := wb.heap.size) (W0 := wb) hb5 (by kernel_rfl) (by kernel_rfl) ?_
                    repeat (go_big_quiet_step ((go_at_call 53; exact Calm.same (markBK_at _ _ k q rfl rfl (by omega) (by omega) _))))
                    refine wpQuiet_nil ?_
                    intro w6 hb6
                    clear k0 k1 k2 k3
                    go_wp2_with fail
                    go_roundw
                    case rel => exact ⟨q + 1, by omega, by go_num, hb6⟩
                    case measure => simp [intOf]; omega
                  · have i4 : ¬ (q : Int) < nk := by omega
                    have d1 : decide ((q : Int) < nk) = false := by simp; omega
                    have d2 : decide (q < nk) = false := by simpa using hlq
                    clear dv cl cg
                    go_wp2_with fail
                    clear cg5
                    refine wp_region_calm (B := wb.heap.size) (W0 := wb) hb5 (by kernel_rfl) (by kernel_rfl) ?_
                    repeat (go_big_quiet_step ((go_at_call 53; exact Calm.same (markBK_at _ _ k q rfl rfl (by omega) (by omega) _))))
                    refine wpQuiet_nil ?_
                    intro w6 hb6
                    clear k0 k1 k2
                    go_wp2_with fail
                    go_roundw
                    case rel => exact ⟨q + 1, by omega, by go_num, hb6⟩
                    case measure => simp [intOf]; omega
                · obtain rfl : q = nk + 64 := by omega
                  go_wp2_with fail
                  go_roundw
                  case rel => exact ⟨k + 1, by omega, by go_num, hb5⟩
                  case measure => simp [intOf]; omega
            · obtain rfl : K = k := by omega
              have hV2 : ∀ j, j < K → ∃ ys : List Value, wr.ownsRow B 5 1 (V j) (n j + 64) (mks mkB j (n j) ++ ys) := fun j hj => by
                have h1 := own_below (HV.out j hj) hb5 (Nat.le_refl _)
                refine ⟨(mks mkB j (n j + 64)).drop (n j * 1), ?_⟩
                rw [← mks_take mkB_len j (n j) 64, List.take_append_drop]
                exact h1
              have hP2 : RowsAt B 5 1 K R n (fun j => mks mkB j (n j)) wr := fun j hj => own_below (HP.out j hj) hb5 (Nat.le_refl _)
              have hl2 := own_below HLW.out hb5 (Nat.le_refl _)
              have hg2 := own_below HGW2.out hb5 (Nat.le_refl _)
              have hbw : Kb (ofRows K R) B 5 w wr := hbel.trans_below hb5 (by omega)
              have HV2 := Lib.hid hV2
              have HP2 := Lib.hid hP2
              have HL2 := Lib.hid hl2
              have HG2 := Lib.hid hg2
              have hmk : ∀ w, (Instr.makeSlice 24 (.int .i64 64) (.int .i64 64)).run Tryz.prog w = .ok (.slice (some ⟨w.heap.size, 0, none⟩) 64 64) (w.alloc (.cells (madeCells #[.int .u8 0] 64) 5)) := fun w => run_make_row' (P := Tryz.prog) 24 5 (.int .u8 0) 1 Tryz.underlying24 infoByte rfl .i64 .i64 64 (by omega) (by omega) w
              clear hV2 hP2 hl2 hg2 hb5 HV HP HLW HGW2
              go_wp2_with fail
              go_loopw [11, 12, 13] (fun i _ _ wr => ∃ (k : Nat) (V : Nat → Value), k ≤ K ∧ i = .int .i64 k ∧ RowsAt B 5 1 K R n (fun j => mks mkB j (n j)) wr ∧ (∀ j, j < K → ∃ ys : List Value, wr.ownsRow B 5 1 (V j) (n j + 64) (mks mkB j (n j) ++ ys)) ∧ (∀ i j, i < K → j < K → i ≠ j → Sep (V i) (R j)) ∧ (∀ i j, i < K → j < K → i ≠ j → Sep (V i) (V j)) ∧
                wr.ownsRow B 24 1 (.slice lo K lc) K ((List.range K).map R) ∧ wr.ownsRow B 24 1 (.slice (some ⟨wo.heap.size, 0, none⟩) K K) K ((List.range K).map V) ∧ Kb (ofRows K R) B 5 w wr) (fun i _ _ _ => K - (intOf i).toNat)
              case atStart => exact ⟨0, V, by omega, rfl, HP2.out, HV2.out, HVR.out, HVV.out, HL2.out, HG2.out, hbw⟩
              case round =>
                clear hbel hsb hbw HV2 HP2 HL2 HG2 HVR HVV hgl
                obtain ⟨k, V, hk, rfl, hP, hV, hVR, hVV, hlw, hgw, hbel⟩ := hrel
                have HP := Lib.hid hP
                have HV := Lib.hid hV
                have HVR := Lib.hid hVR
                have HVV := Lib.hid hVV
                have HLW := Lib.hid hlw
                have HGW := Lib.hid hgw
                clear hP hV hVR hVV hlw hgw
                have hsb := hbel.size
                by_cases hlt : k < K
                · obtain ⟨wi, rfl⟩ : ∃ wi : World, wi = wr := ⟨_, rfl⟩
                  have i1 : (k : Int) < K := by omega
                  have hm0 := World.ownsRow_lit (base := wi.heap.size) (e := 5) (size := 1) wi (madeCells #[.int .u8 0] 64) 64 (Nat.le_refl _) (by unfold maxLen; omega) (by simp [size_madeCells])
                  rw [made_list] at hm0
                  have hm1 : (wi.alloc (.cells (madeCells #[.int .u8 0] 64) 5)).ownsRow wi.heap.size 5 1 (.slice (some ⟨wi.heap.size, 0, none⟩) 64 64) 64 (((List.range 64).map fun _ => (0 : Int)).map bv) := by
                    rw [List.map_map]; exact hm0
                  have hba : Below wi.heap.size wi (wi.alloc (.cells (madeCells #[.int .u8 0] 64) 5)) := (Below.refl _ _).alloc (Nat.le_refl _) _
                  have HM1 := Lib.hid hm1
                  clear hm0 hm1
                  go_wp2_with fail
                  generalize wi.alloc (.cells (madeCells #[.int .u8 0] 64) 5) = w2 at HM1 hba ⊢
                  go_loopw [13] (fun i wr => ∃ (q : Nat) (zs : List Int), q ≤ 64 ∧ i = .int .i64 q ∧ zs.length = 64 ∧ wr.ownsRow wi.heap.size 5 1 (.slice (some ⟨wi.heap.size, 0, none⟩) 64 64) 64 (zs.map bv) ∧ Below wi.heap.size wi wr) (fun i _ => 64 - (intOf i).toNat)
                  case atStart => exact ⟨0, (List.range 64).map fun _ => (0 : Int), by omega, rfl, by simp, HM1.out, hba⟩
                  case round =>
                    clear hba HM1
                    obtain ⟨q, zs, hq, rfl, hzl, hmo, hbi⟩ := hrel
                    have HMO := Lib.hid hmo
                    have HZL := Lib.hid hzl
                    clear hmo hzl
                    by_cases hltq : q < 64
                    · have i2 : (q : Int) < 64 := by omega
                      have hzl := HZL.out
                      have d0 : wr.cell? ⟨wi.heap.size, q, none⟩ = some (.int .u8 (zs[q]'(by omega))) := by
                        rw [World.ownsRow.cellAt HMO.out q (by omega), List.getElem?_map, List.getElem?_eq_getElem (by omega)]
                        rfl
                      have f0 : wr.frozen? ⟨wi.heap.size, q, none⟩ = false := World.ownsRow.frozenAt HMO.out _
                      have hst := World.ownsRow.stored HMO.out q (.int .u8 (markBK (k + K) q))
                      have HST := Lib.hid hst
                      generalize (zs[q]'(by omega)) = old at d0
                      clear hst hzl
                      go_wp2_with (go_at_call 53; (with_reducible refine (markBK_at _ _ (k + K) q (by omega) rfl (by omega) (by omega) _).mono ?_); rintro e w' ⟨rfl, rfl⟩)
                      go_roundw
                      case rel => exact ⟨q + 1, zs.set q (markBK (k + K) q), by omega, by go_num, by rw [List.length_set]; exact HZL.out, by rw [List.map_set]; exact HST.out.1, hbi.setCell (p := ⟨wi.heap.size, q, none⟩) (Nat.le_refl _) _⟩
                      case measure => simp [intOf]; omega
                    · obtain rfl : 64 = q := by omega
                      have hP6 : RowsAt B 5 1 K R n (fun j => mks mkB j (n j)) wr := fun j hj => own_below (HP.out j hj) hbi (Nat.le_refl _)
                      have hV6 : ∀ j, j < K → ∃ ys : List Value, wr.ownsRow B 5 1 (V j) (n j + 64) (mks mkB j (n j) ++ ys) := fun j hj => by
                        obtain ⟨ys, hys⟩ := HV.out j hj
                        exact ⟨ys, own_below hys hbi (Nat.le_refl _)⟩
                      have hl6 := own_below HLW.out hbi (Nat.le_refl _)
                      have hg6 := own_below HGW.out hbi (Nat.le_refl _)
                      have hb6 : Kb (ofRows K R) B 5 w wr := hbel.trans_below hbi (by omega)
                      have hs6 := hb6.size
                      obtain ⟨a, c, hRk, hanone, hasome, hac⟩ := row_form (hP6 k hlt)
                      have hRr := hP6 k hlt
                      obtain ⟨ys0, hys0⟩ := hV6 k hlt
                      obtain ⟨va, vc, hVk, _, _, _⟩ := row_form hys0
                      have hnk := HN.out k hlt
                      obtain ⟨nk, hnk2⟩ : ∃ nk, nk = n k := ⟨_, rfl⟩
                      rw [hRk] at hRr
                      simp only [← hnk2] at hRk hVk hnk hac hRr hanone
                      obtain ⟨lb, lcc, hlo⟩ := Go.Joins.ownsRow_form hl6 (by omega)
                      cases hlo
                      have c0 : wr.cell? ⟨lb, k, none⟩ = some (.slice a nk c) := by
                        rw [World.ownsRow.cellAt hl6 k (by omega), range_get R K k hlt, hRk]
                      have hnews : ∀ (j : Nat) u, (zs.map bv)[j]? = some u → wr.cell? ((⟨wi.heap.size, 0, none⟩ : Addr).add j) = some u := fun j u hu => World.ownsRow.cells HMO.out rfl j u hu
                      have hzn : (zs.map bv).length = 64 * 1 := by rw [List.length_map, HZL.out]
                      have HRK := Lib.hid hRk
                      have HVK := Lib.hid hVk
                      have HNK := Lib.hid hnk2
                      have HP6 := Lib.hid hP6
                      have HV6 := Lib.hid hV6
                      have HL6 := Lib.hid hl6
                      have HG6 := Lib.hid hg6
                      have HRR := Lib.hid hRr
                      have HAS := Lib.hid hasome
                      have HAN := Lib.hid hanone
                      have HNW := Lib.hid hnews
                      have HZN := Lib.hid hzn
                      clear hRk hVk hnk2 hP6 hV6 hl6 hg6 hRr hasome hanone hys0 hnews hzn
                      have hnews := HNW.out
                      have hzn := HZN.out
                      by_cases hfit : nk + 64 ≤ c
                      rotate_left
                      focus
                        have hcl : ∀ b, a = some b → ∀ (j : Nat) u, (mks mkB k nk)[j]? = some u → wr.cell? (b.add j) = some u := fun b hb j u hu => by
                          have h1 := HRR.out
                          rw [hb, HNK.out] at h1
                          rcases Go.Joins.ownsRow_forms h1 with ⟨h2, _⟩ | ⟨g2, c2, h2⟩
                          · cases h2
                          · injection h2 with h3 _ _
                            injection h3 with h3
                            subst h3
                            exact World.ownsRow.cells h1 rfl j u (by rw [← HNK.out]; exact hu)
                        have hln := mks_len mkB_len k nk
                        have hvn := HAN.out
                        have HCL := Lib.hid hcl
                        have HLN := Lib.hid hln
                        go_wp2_with (at_builtin; refine wpList_append_grows _ rfl (.tmp 148) (.tmp 149) 24 rfl 5 i0 (.int .u8 0) 1 1 Tryz.underlying24 hi hz0 hz1 hz2 rfl (by decide) a nk c (mks mkB k nk) rfl hvn hln hcl ⟨wi.heap.size, 0, none⟩ 64 64 (zs.map bv) rfl hzn hnews (bytes_oneCell _) (by omega) (by unfold maxLen; omega) (by omega) ?_)
                        intro v3 w3 hown3 hg3
                        have HF1 := Lib.hid (show RowsAt B 5 1 K R n (fun j => mks mkB j (n j)) w3 from fun j hj => World.ownsRow.kept (HP6.out j hj) hg3 (by cases (R j).ownBlock <;> simp))
                        have HF2 := Lib.hid (show ∀ j, j < K → j ≠ k → ∃ ys : List Value, w3.ownsRow B 5 1 (V j) (n j + 64) (mks mkB j (n j) ++ ys) from fun j hj _ => by
                          obtain ⟨ys, hys⟩ := HV6.out j hj
                          exact ⟨ys, World.ownsRow.kept hys hg3 (by cases (V j).ownBlock <;> simp)⟩)
                        have HF3 := Lib.hid (Go.Joins.ownsRow_le hown3 (show B ≤ wr.heap.size by omega))
                        have HF4 := Lib.hid (show v3.ownBlock = (R k).ownBlock ∨ ∀ b, v3.ownBlock = some b → wr.heap.size ≤ b from Or.inr fun b hb => (hown3.lt b hb).1)
                        have HF5 := Lib.hid (World.ownsRow.kept HL6.out hg3 (by simp [Value.ownBlock]))
                        have HF6 := Lib.hid (World.ownsRow.kept HG6.out hg3 (by simp [Value.ownBlock]))
                        have HF7 := Lib.hid (show Kb (ofRows K R) B 5 w w3 from hb6.grownNone hg3 (by omega))
                        clear hown3 hg3 hcl hln hvn HCL HLN hfit c0 hnews hzn
                      rotate_left
                      focus
                        obtain ⟨rg, rfl⟩ := HAS.out (by omega)
                        have hRr := HRR.out
                        go_wp2_with (at_builtin; refine wpList_append_fits _ rfl (.tmp 148) (.tmp 149) 24 rfl B 5 i0 1 Tryz.underlying24 hi hz1 rg nk c (mks mkB k nk) rfl hRr ⟨wi.heap.size, 0, none⟩ 64 64 (zs.map bv) rfl hzn hnews (bytes_oneCell _) hfit ?_)
                        intro w3 hown3 hg3
                        have hRb : (R k).ownBlock = some rg := by rw [HRK.out]; rfl
                        have HF1 := Lib.hid (show RowsAt B 5 1 K R n (fun j => mks mkB j (n j)) w3 from fun j hj => by
                          by_cases e : j = k
                          · subst e
                            have h3 := own_prefix hown3 (show nk ≤ nk + 64 by omega)
                            rw [List.take_left' (mks_len mkB_len j nk)] at h3
                            show w3.ownsRow B 5 1 (R j) (n j) (mks mkB j (n j))
                            rw [HRK.out, ← HNK.out]
                            exact h3
                          · exact World.ownsRow.kept (HP6.out j hj) hg3 (by rw [← hRb]; exact (HS.out j k hj hlt e).ne))
                        have HF2 := Lib.hid (show ∀ j, j < K → j ≠ k → ∃ ys : List Value, w3.ownsRow B 5 1 (V j) (n j + 64) (mks mkB j (n j) ++ ys) from fun j hj e => by
                          obtain ⟨ys, hys⟩ := HV6.out j hj
                          exact ⟨ys, World.ownsRow.kept hys hg3 (by rw [← hRb]; exact (HVR.out j k hj hlt e).ne)⟩)
                        have HF3 := Lib.hid hown3
                        have HF4 := Lib.hid (show (Value.slice (some ⟨rg, 0, none⟩) (nk + 64) c).ownBlock = (R k).ownBlock ∨ ∀ b, (Value.slice (some ⟨rg, 0, none⟩) (nk + 64) c).ownBlock = some b → wr.heap.size ≤ b from Or.inl hRb.symm)
                        have HF5 := Lib.hid (World.ownsRow.kept HL6.out hg3 (own_apart HL6.out hRr (by decide)))
                        have HF6 := Lib.hid (World.ownsRow.kept HG6.out hg3 (own_apart HG6.out hRr (by decide)))
                        have HF7 := Lib.hid (show Kb (ofRows K R) B 5 w w3 from hb6.grownRow hg3 (by omega) hRr (hRr.lt rg rfl).1 (Or.inl ⟨k, hlt, hRb⟩))
                        clear hown3 hg3 hfit c0 hnews hzn hRr hRb
                        generalize (Value.slice (some ⟨rg, 0, none⟩) (nk + 64) c) = v3 at HF3 HF4 ⊢
                      all_goals
                        obtain ⟨va3, vc3, hv3, _, _, _⟩ := row_form HF3.out
                        subst hv3
                        have e1 : w3.cell? ⟨wo.heap.size, k, none⟩ = some (.slice va (nk + 64) vc) := by
                          rw [World.ownsRow.cellAt HF6.out k (by omega), range_get V K k hlt, HVK.out]
                        have f1 : w3.frozen? ⟨wo.heap.size, k, none⟩ = false := World.ownsRow.frozenAt HF6.out _
                        have hst := World.ownsRow.stored HF6.out k (.slice va3 (nk + 64) vc3)
                        rw [range_set] at hst
                        have HST := Lib.hid hst
                        clear hst
                        go_wp2_with fail
                        go_roundw
                        case rel =>
                          have hg := HST.out.2
                          have hGB : B ≤ wo.heap.size := (HF6.out.lt _ rfl).1
                          refine ⟨k + 1, fun j => if j = k then .slice va3 (nk + 64) vc3 else V j, by omega, by go_num, fun j hj => ?_, fun j hj => ?_, fun i j hi hj hij => ?_, fun i j hi hj hij => ?_, World.ownsRow.kept HF5.out hg HLG.out.ne, HST.out.1, HF7.out.grownNew hg (by have := HF7.out.size; omega) hwo hGB⟩
                          · exact World.ownsRow.kept (HF1.out j hj) hg (own_apart (HF1.out j hj) HF6.out (by decide))
                          · by_cases e : j = k
                            · subst e
                              simp only [if_true]
                              refine ⟨zs.map bv, ?_⟩
                              rw [← HNK.out]
                              exact World.ownsRow.kept HF3.out hg (own_apart HF3.out HF6.out (by decide))
                            · simp only [e, if_false]
                              obtain ⟨ys, hys⟩ := HF2.out j hj e
                              exact ⟨ys, World.ownsRow.kept hys hg (own_apart hys HF6.out (by decide))⟩
                          · by_cases e : i = k
                            · subst e
                              simp only [if_true]
                              intro b hb hb'
                              rcases HF4.out with h1 | h1
                              · exact HS.out i j hlt hj hij b (h1 ▸ hb) hb'
                              · have := h1 b hb
                                have := ((HP6.out j hj).lt b hb').2
                                omega
                            · simp only [e, if_false]
                              exact HVR.out i j hi hj hij
                          · by_cases e : i = k
                            · have e2 : ¬ j = k := fun h => hij (e.trans h.symm)
                              subst e
                              simp only [if_true, e2, if_false]
                              intro b hb hb'
                              rcases HF4.out with h1 | h1
                              · exact HVR.out j i hj hlt (Ne.symm hij) b hb' (h1 ▸ hb)
                              · have := h1 b hb
                                obtain ⟨ys, hys⟩ := HV6.out j hj
                                have := (hys.lt b hb').2
                                omega
                            · by_cases e2 : j = k
                              · subst e2
                                simp only [if_true, e, if_false]
                                intro b hb hb'
                                rcases HF4.out with h1 | h1
                                · exact HVR.out i j hi hlt hij b hb (h1 ▸ hb')
                                · have := h1 b hb'
                                  obtain ⟨ys, hys⟩ := HV6.out i hi
                                  have := (hys.lt b hb).2
                                  omega
                              · simp only [e, e2, if_false]
                                exact HVV.out i j hi hj hij
                        case measure => simp [intOf]; omega
                · obtain rfl : K = k := by omega
                  obtain ⟨wc, rfl⟩ : ∃ wc : World, wc = wr := ⟨_, rfl⟩
                  have hgl := (HGW.out.lt _ rfl).2
                  clear hmk
                  go_wp2_with fail
                  go_loopw [14, 15] (fun i _ wr => ∃ k : Nat, k ≤ K ∧ i = .int .i64 k ∧ Below wc.heap.size wc wr) (fun i _ _ => K - (intOf i).toNat)
                  case atStart => exact ⟨0, by omega, rfl, Below.refl _ _⟩
                  case round =>
                    obtain ⟨k, hk, rfl, hb5⟩ := hrel
                    by_cases hlt : k < K
                    · obtain ⟨a, c, hRk, _, hasome, hac⟩ := row_form (HP.out k hlt)
                      obtain ⟨ys, hVr⟩ := HV.out k hlt
                      obtain ⟨va, vc, hVk, _, hvsome, hvc⟩ := row_form hVr
                      have hnk := HN.out k hlt
                      have hRr := HP.out k hlt
                      obtain ⟨nk, hnk2⟩ : ∃ nk, nk = n k := ⟨_, rfl⟩
                      rw [hRk] at hRr
                      rw [hVk] at hVr
                      simp only [← hnk2] at hRk hVk hnk hac hvc hVr hRr
                      obtain ⟨lb, lcc, hlo⟩ := Go.Joins.ownsRow_form HLW.out (by omega)
                      cases hlo
                      have cl : wc.cell? ⟨lb, k, none⟩ = some (.slice a nk c) := by
                        rw [World.ownsRow.cellAt HLW.out k (by omega), range_get R K k hlt, hRk]
                      have cg : wc.cell? ⟨wo.heap.size, k, none⟩ = some (.slice va (nk + 64) vc) := by
                        rw [World.ownsRow.cellAt HGW.out k (by omega), range_get V K k hlt, hVk]
                      have hll := (HLW.out.lt lb rfl).2
                      have HVR2 := Lib.hid hVr
                      have HRR2 := Lib.hid hRr
                      have HVS := Lib.hid hvsome
                      have HAS := Lib.hid hasome
                      have i1 : (k : Int) < K := by omega
                      clear hRk hVk hnk2 hVr hRr hvsome hasome
                      go_wp2_with fail
                      go_loopw [15] (fun i wr => ∃ q : Nat, q ≤ nk ∧ i = .int .i64 q ∧ Below wc.heap.size wc wr) (fun i _ => nk - (intOf i).toNat)
                      case atStart => exact ⟨0, by omega, rfl, hb5⟩
                      case round =>
                        clear hb5
                        obtain ⟨q, hq, rfl, hb5⟩ := hrel
                        have cl5 : wr.cell? ⟨lb, k, none⟩ = some (.slice a nk c) := (hb5.cell (p := ⟨lb, k, none⟩) hll).trans cl
                        by_cases hltq : q < nk
                        · obtain ⟨vg, rfl⟩ := HVS.out (by omega)
                          obtain ⟨rg, rfl⟩ := HAS.out (by omega)
                          have hvg := (HVR2.out.lt vg rfl).2
                          have hrg := (HRR2.out.lt rg rfl).2
                          have hm := mks_get mkB_len k nk q 0 hltq (by decide)
                          have hml := mks_len mkB_len k nk
                          have dv : wc.cell? ⟨vg, q, none⟩ = some (.int .u8 (markBK k q)) := by
                            rw [World.ownsRow.cellAt HVR2.out q (by omega), List.getElem?_append_left (by omega)]
                            simpa [mkB] using hm
                          have dr : wc.cell? ⟨rg, q, none⟩ = some (.int .u8 (markBK k q)) := by
                            rw [World.ownsRow.cellAt HRR2.out q (by omega)]
                            simpa [mkB] using hm
                          have k0 : ∀ x : Calm wc.heap.size wc, x.1.cell? ⟨wo.heap.size, k, none⟩ = some (.slice (some ⟨vg, 0, none⟩) (nk + 64) vc) := fun x => x.cell cg hgl
                          have k1 : ∀ x : Calm wc.heap.size wc, x.1.cell? ⟨vg, q, none⟩ = some (.int .u8 (markBK k q)) := fun x => x.cell dv hvg
                          have k2 : ∀ x : Calm wc.heap.size wc, x.1.cell? ⟨lb, k, none⟩ = some (.slice (some ⟨rg, 0, none⟩) nk c) := fun x => x.cell cl hll
                          have k3 : ∀ x : Calm wc.heap.size wc, x.1.cell? ⟨rg, q, none⟩ = some (.int .u8 (markBK k q)) := fun x => x.cell dr hrg
                          have i2 : (q : Int) < nk := by omega
                          have i3 : (q : Int) < (nk : Int) + 64 := by omega
                          have i4 : (q : Int) < ((nk + 64 : Nat) : Int) := by omega
                          clear dv dr cl cg hm hml
                          go_wp2_with fail
                          clear cl5
                          refine wp_region_calm (B := wc.heap.size) (W0 := wc) hb5 (by kernel_rfl) (by kernel_rfl) ?_
                          repeat (go_big_quiet_step ((go_at_call 53; exact Calm.same (markBK_at _ _ k q rfl rfl (by omega) (by omega) _))))
                          refine wpQuiet_nil ?_
                          intro w6 hb6
                          clear k0 k1 k2 k3
                          go_wp2_with fail
                          go_roundw
                          case rel => exact ⟨q + 1, by omega, by go_num, hb6⟩
                          case measure => simp [intOf]; omega
                        · obtain rfl : q = nk := by omega
                          go_wp2_with fail
                          go_roundw
                          case rel => exact ⟨k + 1, by omega, by go_num, hb5⟩
                          case measure => simp [intOf]; omega
                    · obtain rfl : K = k := by omega
                      go_wp2_with fail
                      go_ret
                      exact ⟨rfl, hbel.trans_below hb5 (by omega)⟩
end Go.Proofs.YtejgebpdipnhmaaGreatDoor
