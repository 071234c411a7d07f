/- The law WireJoins, walked: it returns true, and nothing that was there is changed. Conditions: the argument is read as the row reads it. -/
import Derived.Test.YtpjaghaapmbanaaDoorJoins
import Derived.Test.YtpjaghaapmbanaaDoorAwake02
import Derived.Test.YtpjaghaapmbanaaDoorOverB
import Derived.Test.YtpjaghaapmbanaaDoorCopied
namespace Go.Proofs.YtpjaghaapmbanaaDoor
open Go.RowKit
set_option maxRecDepth 20000

theorem infoBs : (Tryd.prog.info? 23).map (fun i => (i.zero, i.size, i.bytes)) = some (some (.slice none 0 0), 1, 24) := by kernel_rfl
theorem ptCells_one (x : Pt) : ∀ u ∈ ptCells x, u.oneCell' = true := by intro u hu; simp [ptCells] at hu; rw [hu]; rfl
theorem lentB_at (ao : Option Addr) (n cap : Nat) (xs : List Int) (w : World) (B : Nat) (hn : xs.length = n) (hx : BytesIn w B ao xs) (hB : B ≤ w.heap.size) (hao : ao = none → cap = 0) (hl : n ≤ 1099511627776) :
    Calls Tryd.prog 8 #[.slice ao n cap] w fun e w' => ∃ g, e = .returned (.slice (some ⟨g, 0, none⟩) n (n + 12)) ∧ w.heap.size ≤ g ∧ g < w'.heap.size ∧ LentB w' w.heap.size g xs ∧ Below w.heap.size w w' := by
  subst hn
  exact lentB_any ao cap xs w (hx.mono hB) hao hl
theorem keptB_at (ao : Option Addr) (n cap c2 g B : Nat) (xs : List Int) (w : World) (hn : xs.length = n) (hc : c2 = n + 12) (hx : BytesIn w w.heap.size ao xs) (hL : LentB w B g xs) (hl : n ≤ 1099511627776) :
    Calls Tryd.prog 10 #[.slice (some ⟨g, 0, none⟩) n c2, .slice ao n cap] w fun e w' => e = .returned (.bool true) ∧ Below w.heap.size w w' := by
  subst hn hc
  exact keptB_any ao cap g B xs w hx hL hl
theorem overB_at (B g n c2 : Nat) (xs : List Int) (w : World) (hn : xs.length = n) (hc : c2 = n + 12) (h : LentB w B g xs) (hl : n ≤ 1099511627776) :
    Calls Tryd.prog 11 #[.slice (some ⟨g, 0, none⟩) n c2] w fun e w' => e = .returned (.tuple #[]) ∧ w.grownBy w' (some g) := by
  subst hn hc
  exact (overB_any B g xs.length _ w h hl).mono fun e w' h => ⟨h.1, h.2.1⟩
set_option maxHeartbeats 4000000 in
theorem walk_joins (W : World) (ao : Option Addr) (n cap : Nat) (ps : List Pt) (hn : ps.length = n) (hx : RowsIn 1 ptCells ptSub W W.heap.size ao ps) (hq : ∀ p ∈ ps, PtArg p) (hz : n ≤ 140737488355328) :
    Calls Tryd.prog 3 #[.slice ao n cap] W fun e w' => e = .returned (.bool true) ∧ Below W.heap.size W w' := by
  have HN := Lib.hid hn
  have HX := Lib.hid hx
  have HQ := Lib.hid hq
  clear hn hx hq
  go_enter Tryd.func3, Tryd.ntmps3
  go_wp2_with fail
  go_loopw [3, 4] (fun nv i wr => ∃ k : Nat, k ≤ n ∧ i = .int .i64 k ∧ wr = W ∧ k ≤ 2001 ∧ ∃ m : Nat, ((ps.take k).flatMap Pt.data).length = m ∧ nv = .int .i64 m ∧ m ≤ 22000) (fun _ i _ => n - (intOf i).toNat)
  case atStart => exact ⟨0, by omega, rfl, rfl, by omega, 0, rfl, rfl, by omega⟩
  case round =>
    obtain ⟨k, hk, rfl, hW, hk2, m, hm, rfl, hm2⟩ := hrel
    obtain rfl := hW.symm
    have HM := Lib.hid hm
    clear hm
    by_cases hlt : k < n
    · obtain ⟨p, hp⟩ : ∃ p, ps[k]? = some p := ⟨_, List.getElem?_eq_getElem (by rw [HN.out]; exact hlt)⟩
      obtain ⟨b, off, hao, hb, hc, hsub⟩ := HX.out.at hp
      obtain ⟨q, hpl⟩ : ∃ q, p.data.length = q := ⟨_, rfl⟩
      have c0 : W.cell? ⟨b, off + k, none⟩ = some (.slice p.ao q p.cap) := by
        have := hc 0 (by decide)
        rw [← hpl]
        simpa [ptCells] using this
      have HP := Lib.hid hp
      have HPL := Lib.hid hpl
      subst hao
      have i1 : (k : Int) < n := by omega
      clear hc hsub hp hpl
      by_cases hA : 2000 < q
      · have j1 : (2000 : Int) < q := by omega
        go_wp2_with fail
        refine (awake02_any W).mono ?_
        rintro e w1 ⟨rfl, hb1⟩
        go_wp2_with fail
        go_ret
        exact ⟨rfl, hb1⟩
      · have j1 : (q : Int) ≤ 2000 := by omega
        have j2 : decide ((2000 : Int) < q) = false := by simpa using j1
        by_cases hA2 : 20000 < m
        · have j3 : (20000 : Int) < m := by omega
          go_wp2_with fail
          refine (awake02_any W).mono ?_
          rintro e w1 ⟨rfl, hb1⟩
          go_wp2_with fail
          go_ret
          exact ⟨rfl, hb1⟩
        · have j3 : (m : Int) ≤ 20000 := by omega
          have j4 : decide ((20000 : Int) < m) = false := by simpa using j3
          by_cases hA3 : 2000 < k
          · have j5 : (2000 : Int) < k := by omega
            go_wp2_with fail
            refine (awake02_any W).mono ?_
            rintro e w1 ⟨rfl, hb1⟩
            go_wp2_with fail
            go_ret
            exact ⟨rfl, hb1⟩
          · have j5 : (k : Int) ≤ 2000 := by omega
            have j6 : decide ((2000 : Int) < k) = false := by simpa using j5
            go_wp2_with fail
            go_roundw
            case rel => exact ⟨k + 1, by omega, by go_num, by trivial, by omega, m + q, by rw [← take_flat_le ps k HP.out, HM.out, HPL.out], by go_num, by omega⟩
            case measure => simp [intOf]; omega
    · obtain rfl : k = n := by omega
      have HT := Lib.hid (show ps.take k = ps from List.take_of_length_le (by rw [HN.out]; omega))
      go_wp2_with fail
      clear hlt
      have hM := HM.out
      rw [HT.out] at hM
      have HM2 := Lib.hid hM
      clear hM HM
      go_loopw [5, 6, 7] (fun vin vw i w2 => ∃ (k2 : Nat) (qs : List Pt), k2 ≤ k ∧ i = .int .i64 k2 ∧ LentAt w2 W ps k2 vin vw qs) (fun _ _ i _ => k - (intOf i).toNat)
      case atStart => exact ⟨0, [], by omega, rfl, LentAt.start _ _⟩
      case round =>
        obtain ⟨k2, qs, hk3, rfl, hL⟩ := hrel
        have HL := Lib.hid hL
        clear hL
        by_cases hlt : k2 < k
        · obtain ⟨p, hp⟩ : ∃ p, ps[k2]? = some p := ⟨_, List.getElem?_eq_getElem (by rw [HN.out]; exact hlt)⟩
          obtain ⟨b, off, hao, hb, hc, hsub⟩ := HX.out.at hp
          obtain ⟨q, hpl⟩ : ∃ q, p.data.length = q := ⟨_, rfl⟩
          obtain ⟨m2, hm2'⟩ : ∃ m2, ((ps.take k2).flatMap Pt.data).length = m2 := ⟨_, rfl⟩
          have hmq : m2 + q ≤ m := by
            have h1 := take_flat_le ps k2 hp
            have h2 : ((ps.take (k2 + 1)).flatMap Pt.data).length ≤ (ps.flatMap Pt.data).length := by
              conv => rhs; rw [← List.take_append_drop (k2 + 1) ps, List.flatMap_append, List.length_append]
              omega
            have h3 := HM2.out
            omega
          have c0' : W.cell? ⟨b, off + k2, none⟩ = some (.slice p.ao q p.cap) := by
            have := hc 0 (by decide)
            rw [← hpl]
            simpa [ptCells] using this
          have HC0 := Lib.hid c0'
          have HP := Lib.hid hp
          have HPL := Lib.hid hpl
          have HM3 := Lib.hid hm2'
          have HS := Lib.hid hsub
          have hpa := HQ.out p (List.mem_of_getElem? hp)
          have HPA := Lib.hid hpa
          have c0 : wr.cell? ⟨b, off + k2, none⟩ = some (.slice p.ao q p.cap) := (HL.out.bel.cell (p := ⟨b, off + k2, none⟩) hb).trans HC0.out
          subst hao
          have i1 : (k2 : Int) < k := by omega
          have i2 : (k2 : Int) < ps.length := by rw [HN.out]; omega
          clear hc hsub hp hpl hm2' c0' hpa
          go_wp2_with fail
          refine (lentB_at p.ao q p.cap p.data wr W.heap.size HPL.out (HS.out.below HL.out.bel (Nat.le_refl _)) HL.out.bel.size HPA.out.2.1 (by omega)).mono ?_
          rintro e w1 ⟨g, rfl, hg0, hg1, hl, hb1⟩
          have HLB := Lib.hid hl
          have HG0 := Lib.hid hg0
          have hsW := HL.out.bel.size
          have hb1W := HL.out.bel.trans (hb1.mono hsW)
          have hsz1 := hb1W.size
          clear c0 hl hg0
          go_wp2_with (at_builtin; refine wpList_append_rows (sub := noSub) Tryd.underlying22 infoBs rfl (by decide) ptCells_len ptCells_one rfl (.tmp 44) (.tmp 50) rfl W.heap.size _ k2 (qs.flatMap ptCells) rfl ((own_below HL.out.row hb1 (Nat.le_refl _)).alloc _) (some ⟨w1.heap.size, 0, none⟩) 1 1 [⟨some ⟨g, 0, none⟩, p.data.length + 12, p.data⟩] rfl rfl (w1.heap.size + 1) (rowsIn_block ptCells_len _ _ (heap_alloc_new w1 _) (by simp [ptCells, HPL.out]) (by omega) (fun _ _ => trivial)) (by simp) (by unfold maxLen; omega) (by omega) (by simp; omega) ?_)
          intro vin2 w2 h2 hg2 _
          have hb2 : Below W.heap.size W w2 := (hb1W.alloc hsz1 _).grown hg2 (by simp; omega) (fun b e => (HL.out.row.lt b e).1)
          have hsz2 := hb2.size
          have c0 : w2.cell? ⟨b, off + k2, none⟩ = some (.slice p.ao q p.cap) := (hb2.cell (p := ⟨b, off + k2, none⟩) hb).trans HC0.out
          have HW2 := Lib.hid (HL.out.wantAt HM3.out hb1 _ hg2)
          have H2 := Lib.hid h2
          have HG2 := Lib.hid hg2
          clear h2 hg2
          go_wp2_with (at_builtin; refine wpList_append_bytes_at rfl (.tmp 52) (.tmp 56) rfl W.heap.size _ ((ps.take k2).flatMap Pt.data) m2 HM3.out rfl HW2.out p.ao q p.cap p.data HPL.out rfl W.heap.size (HS.out.below hb2 (Nat.le_refl _)) HPA.out.2.1 (by omega) hsz2 ?_)
          intro vw2 w3 h3 hg3 hat
          have HST := Lib.hid (HL.out.step HP.out HG0.out HLB.out hb1 _ H2.out HG2.out HM3.out HPL.out (by rw [List.map_append]; exact h3) hg3 hat)
          clear h3 hg3 hat c0 hb2 H2 HG2 HW2 hb1 hb1W hsz1 hsz2
          go_wp2_with fail
          go_roundw
          case rel => exact ⟨k2 + 1, _, by omega, by go_num, HST.out⟩
          case measure => simp [intOf]; omega
        · obtain rfl : k2 = k := by omega
          obtain ⟨a, c, hv⟩ := row_slice HL.out.row
          obtain ⟨aw, cw, hvw⟩ := row_slice HL.out.want
          subst hv hvw
          obtain ⟨L, hLd⟩ : ∃ L, ps.flatMap Pt.data = L := ⟨_, rfl⟩
          have hm5 : L.length = m := by rw [← hLd]; exact HM2.out
          have hqd : qs.map Pt.data = ps.map Pt.data := by rw [HL.out.data, HT.out]
          have hwant := HL.out.want
          rw [HT.out, HM2.out, hLd] at hwant
          have hlenT : ((ps.take k2).flatMap Pt.data).length = m := by rw [HT.out]; exact HM2.out
          rw [hlenT]
          have hfl : qs.flatMap Pt.data = L := by rw [← hLd]; exact flat_data hqd
          have hwf : ∀ q ∈ qs, BytesWf q.data := fun q hq => by
            obtain ⟨p, hp, he⟩ := data_mem hqd hq
            rw [← he]; exact (HQ.out p hp).1
          have hsub : ∀ q ∈ qs, ptSub wr wr.heap.size q := fun q hq => (HL.out.lent q hq).sub
          have HQL := Lib.hid HL.out.len
          have HLT := Lib.hid (show ∀ q ∈ qs, ∀ g, q.ao = some ⟨g, 0, none⟩ → g < wr.heap.size from fun q hq g he => by
            obtain ⟨g', e1, e2, e3⟩ := HL.out.lent q hq
            rw [he] at e1; cases e1
            exact ownsRow_ltB e3)
          have HQD := Lib.hid hqd
          have hsep := HL.out.sep
          rw [hlenT] at hsep
          have HSEP := Lib.hid hsep
          have HAP := Lib.hid HL.out.apart
          have HB := Lib.hid HL.out.bel
          have HWF := Lib.hid hwf
          have HFL := Lib.hid hfl
          have HSU := Lib.hid (own_rowsIn ptCells_len HQL.out HL.out.row hsub)
          have HCP := Lib.hid (own_capG HL.out.row)
          have HM5 := Lib.hid hm5
          have HROW := Lib.hid HL.out.row
          have HWA := Lib.hid hwant
          have HLE := Lib.hid HL.out.lent
          have HPS := Lib.hid hLd
          clear hsep hwant hlenT hqd hfl hwf hsub hm5 hLd HL
          go_wp2_with fail
          refine (wjoin_any a k2 c qs L wr wr.heap.size HQL.out HFL.out HSU.out (Nat.le_refl _) HWF.out HCP.out (by rw [HM5.out]; omega) (by omega)).mono ?_
          rintro e w5 ⟨a5, c5, rfl, hin5, hn5, hc5, hfar5, hb5⟩
          have HIN5 := Lib.hid hin5
          have HF5 := Lib.hid hfar5
          have HB5 := Lib.hid (HB.out.trans (hb5.mono HB.out.size))
          have HO := Lib.hid (⟨own_below HROW.out hb5 (Nat.le_refl _), own_below HWA.out hb5 (Nat.le_refl _), fun i q _ hq => by
            obtain ⟨g', e1, e2, e3⟩ := HLE.out q (List.mem_of_getElem? hq)
            exact ⟨g', e1, e2, own_below e3 hb5 (Nat.le_refl _)⟩, Mid.refl _ _ _⟩ : OverAt w5 w5 W wr.heap.size 0 k2 m (.slice a k2 c) (.slice aw m cw) qs L)
          clear hin5 hfar5 hb5 hn5 hc5
          generalize wr.heap.size = T at HLT HF5 HO
          go_wp2_with fail
          go_loopw [9] (fun i w6 => ∃ k3 : Nat, k3 ≤ k2 ∧ i = .int .i64 k3 ∧ OverAt w5 w6 W T k3 k2 m (.slice a k2 c) (.slice aw m cw) qs L) (fun i _ => k2 - (intOf i).toNat)
          case atStart => exact ⟨0, by omega, rfl, HO.out⟩
          case round =>
            clear HO HROW HWA HLE HSU HB
            obtain ⟨k3, hk4, rfl, ho⟩ := hrel
            have HO := Lib.hid ho
            clear ho
            have hbW := HB5.out.trans HO.out.mid.below
            by_cases hlt : k3 < k2
            · obtain ⟨p, hp⟩ : ∃ p, ps[k3]? = some p := ⟨_, List.getElem?_eq_getElem (by rw [HN.out]; exact hlt)⟩
              obtain ⟨t, ht⟩ : ∃ t, qs[k3]? = some t := ⟨_, List.getElem?_eq_getElem (by rw [HQL.out]; exact hlt)⟩
              obtain ⟨b, off, hao, hb, hc, hsub⟩ := HX.out.at hp
              obtain ⟨q, hpl⟩ : ∃ q, p.data.length = q := ⟨_, rfl⟩
              have htd : t.data = p.data := by
                have := congrArg (fun l => l[k3]?) HQD.out
                simp only [List.getElem?_map, ht, hp, Option.map_some, Option.some.injEq] at this
                exact this
              obtain ⟨g, e1, e2, e3⟩ := HO.out.lent k3 t (Nat.le_refl _) ht
              rw [htd] at e3 e2
              rw [hpl] at e2
              obtain ⟨gi, ci, hgi⟩ := Go.Joins.ownsRow_form HO.out.row (by omega)
              cases hgi
              have hq22 : q ≤ 22000 := by
                have h1 := take_flat_le ps k3 hp
                have h2 : ((ps.take (k3 + 1)).flatMap Pt.data).length ≤ (ps.flatMap Pt.data).length := by
                  conv => rhs; rw [← List.take_append_drop (k3 + 1) ps, List.flatMap_append, List.length_append]
                  omega
                have h3 := HM2.out
                omega
              have c0' : W.cell? ⟨b, off + k3, none⟩ = some (.slice p.ao q p.cap) := by
                have := hc 0 (by decide)
                rw [← hpl]
                simpa [ptCells] using this
              have c0w : wr.cell? ⟨b, off + k3, none⟩ = some (.slice p.ao q p.cap) := (hbW.cell (p := ⟨b, off + k3, none⟩) hb).trans c0'
              have c1w : wr.cell? ⟨gi, k3, none⟩ = some (.slice (some ⟨g, 0, none⟩) q (q + 12)) := by
                rw [World.ownsRow.cellAt HO.out.row k3 (by omega)]
                have := flat_get ptCells_len qs k3 t ht 0 (by decide)
                rw [Nat.mul_one, Nat.add_zero] at this
                rw [this]
                simp [ptCells, e1, e2, htd, hpl]
              have hbs : b < wr.heap.size := Nat.lt_of_lt_of_le hb hbW.size
              have hgis := (HO.out.row.lt gi rfl).2
              have c0 : ∀ x' : Calm wr.heap.size wr, x'.1.cell? ⟨b, off + k3, none⟩ = some (.slice p.ao q p.cap) := fun x' => x'.cell c0w hbs
              have c1 : ∀ x' : Calm wr.heap.size wr, x'.1.cell? ⟨gi, k3, none⟩ = some (.slice (some ⟨g, 0, none⟩) q (q + 12)) := fun x' => x'.cell c1w hgis
              have hcall : ∀ x' : Calm wr.heap.size wr, Calls Tryd.prog 10 #[.slice (some ⟨g, 0, none⟩) q (q + 12), .slice p.ao q p.cap] x'.1 fun e w' => e = .returned (.bool true) ∧ Below x'.1.heap.size x'.1 w' := fun x' =>
                keptB_at p.ao q p.cap _ g W.heap.size p.data x'.1 hpl rfl (((hsub : BytesIn W W.heap.size p.ao p.data).below (hbW.trans (x'.2.mono hbW.size)) (Nat.le_refl _)).mono (Nat.le_trans hbW.size x'.2.size)) (own_below e3 x'.2 (Nat.le_refl _)) (by omega)
              have HC := Lib.hid hcall
              have HT3 := Lib.hid ht
              have HE1 := Lib.hid e1
              have HE3 := Lib.hid e3
              have HPL := Lib.hid hpl
              have HC1 := Lib.hid c1w
              have hgT := HLT.out t (List.mem_of_getElem? ht) g e1
              have HSP := Lib.hid (HSEP.out t (List.mem_of_getElem? ht) g e1)
              subst hao
              have i1 : (k3 : Int) < k2 := by omega
              clear hc hsub hp ht hpl hcall c0w c1w c0' e1 e2 e3 htd
              go_wp2_with fail
              refine wp_region_calm (B := wr.heap.size) (W0 := wr) (Below.refl _ _) (by kernel_rfl) (by kernel_rfl) ?_
              repeat (go_big_quiet_step ((go_at_call 10; exact Calm.call (Nat.le_refl _) (HC.out _))))
              refine wpQuiet_nil ?_
              intro w6 hb6
              have c2 : w6.cell? ⟨gi, k3, none⟩ = some (.slice (some ⟨g, 0, none⟩) q (q + 12)) := (hb6.cell (p := ⟨gi, k3, none⟩) hgis).trans HC1.out
              have HO6 := Lib.hid (HO.out.below hb6 HB5.out.size)
              have HL6 := Lib.hid (own_below HE3.out hb6 (Nat.le_refl _))
              clear c0 c1 HC hb6
              go_wp2_with fail
              refine (overB_at W.heap.size g q (q + 12) _ w6 HPL.out rfl HL6.out (by omega)).mono ?_
              rintro e w7 ⟨rfl, hg7⟩
              have HO7 := Lib.hid (HO6.out.over HT3.out HE1.out hg7 HB5.out.size hgT HAP.out HSP.out)
              clear hg7 c2 HO6 HL6
              go_wp2_with fail
              go_roundw
              case rel => exact ⟨k3 + 1, by omega, by go_num, HO7.out⟩
              case measure => simp [intOf]; omega
            · have i1 : ¬ (k3 : Int) < k2 := by omega
              have i2 : (k2 : Int) ≤ k3 := by omega
              have hbs := hbW.size
              have h5 := HO.out.mid.below.size
              go_wp2_with fail
              refine (sameB_any a5 L.length c5 aw m cw L wr rfl HM5.out ((HO.out.mid.bytes HIN5.out (Nat.le_refl _) HF5.out).mono h5) (own_in HM5.out HO.out.want) (by rw [HM5.out]; omega)).mono ?_
              rintro e w8 ⟨rfl, hb8⟩
              have hb8W := hbW.trans (hb8.mono hbs)
              go_wp2_with fail
              refine (wjoin_any none 0 0 [] [] w8 w8.heap.size rfl rfl (Or.inl rfl) (Nat.le_refl _) (by intro p hp; cases hp) (Nat.le_refl _) (by decide) (by decide)).mono ?_
              rintro e w9 ⟨a9, c9, rfl, _, _, _, _, hb9⟩
              have hb9W := hb8W.trans (hb9.mono hb8W.size)
              clear hb8 hb9
              go_wp2_with fail
              refine (awake02_any w9).mono ?_
              rintro e w10 ⟨rfl, hb10⟩
              have hb10W := hb9W.trans (hb10.mono hb9W.size)
              clear hb10
              go_wp2_with fail
              go_ret
              exact ⟨rfl, hb10W⟩
end Go.Proofs.YtpjaghaapmbanaaDoor
