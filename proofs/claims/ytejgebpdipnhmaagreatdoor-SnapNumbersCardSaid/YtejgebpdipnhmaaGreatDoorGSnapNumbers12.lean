/- A disk that crashes. Conditions: the disk lies as its files say. -/
import Derived.Test.YtejgebpdipnhmaaGreatDoorGSnapNumbers11
import Derived.Test.YtejgebpdipnhmaaGreatDoorGSnapNumbers10
import Derived.Test.YtejgebpdipnhmaaGreatDoorGSnapNumbers6
set_option linter.unusedVariables false
set_option linter.unusedSimpArgs false
namespace Go.Proofs.YtejgebpdipnhmaaGreatDoor
open Go.RowKit Go.ChangeMaps Go.MapKept Go.WideShapes
set_option maxRecDepth 20000
theorem DkHas.other {w w' : World} {B g : Nat} {D : DataW Rv} {L : Dk} (h : DkHas w B D L) (hB : B ≤ w.heap.size) (hg : w.grownBy w' (some g)) (hc : ∀ o x, w.cell? ⟨g, o, none⟩ ≠ some (bv x)) : DkHas w' B D L :=
  ⟨h.no, fun k f hk => let ⟨r, h1, h2⟩ := h.yes k f hk; ⟨r, h1, h2.other hB hg hc⟩⟩
theorem DkRange.it_none {w : World} {B mb it n : Nat} {L : Dk} {lf : List UInt8 → Bool} {cnt : Nat} (h : DkRange w B mb it n L lf cnt) : ∀ o x, w.cell? ⟨it, o, none⟩ ≠ some (bv x) := by
  obtain ⟨D, left, h1, _, _⟩ := h
  obtain ⟨es, clock, since, seen, c0, hb, F, hs, rfl, hr, _⟩ := h1
  intro o x hx
  simp [World.cell?, hr] at hx
theorem DkRange.mono {w : World} {B B' mb it n : Nat} {L : Dk} {lf : List UInt8 → Bool} {cnt : Nat} (h : DkRange w B mb it n L lf cnt) (hB : B ≤ B') : DkRange w B' mb it n L lf cnt := let ⟨D, left, h1, h2, h3⟩ := h; ⟨D, left, h1, h2.mono hB, h3⟩
theorem DkRange.congr {w : World} {B mb it n : Nat} {L L' : Dk} {lf : List UInt8 → Bool} {cnt : Nat} (h : DkRange w B mb it n L lf cnt) (he : ∀ k, dGet L' k = dGet L k) : DkRange w B mb it n L' lf cnt := let ⟨D, left, h1, h2, h3⟩ := h; ⟨D, left, h1, h2.congr he, h3⟩
theorem DkRange.put {w : World} {B mb it n : Nat} {L : Dk} {lf : List UInt8 → Bool} {cnt : Nat} (h : DkRange w B mb it n L lf cnt) (hB : B ≤ w.heap.size) (hn : n ≤ 1000000) (s : ByteArray) (hs : s.size ≤ maxLen) (hthere : (dGet L s.data.toList).isSome = true) (r : Rv) (f : Fi) (hr : RvIs w B r f) :
    ∃ w', (Instr.mapUpdate 120 (.map (some mb)) (.string s) (rvVal r)).run Tryz.prog w = .ok () w' ∧ DkRange w' B mb it n (dPut L s.data.toList f) lf cnt ∧ w.grownBy w' (some mb) := by
  obtain ⟨D, left, h1, h2, h3⟩ := h
  have hhas : Maps.has D (.string s.data.toList) = true := by
    obtain ⟨f0, hf0⟩ := Option.isSome_iff_exists.1 hthere
    obtain ⟨r0, hr0, _⟩ := h2.yes _ f0 hf0
    exact Maps.has_true_of_atKey hr0
  obtain ⟨w', hrun, hrg, ht⟩ := ranges_store h1 dk_law Tryz.underlying120 (by unfold maxLen; omega) (WideMaps.keyOf_string_mk Tryz.underlying9 hs) (rvElem_mk r) hhas
  have hmp : DkMap w B mb n L := ⟨D, h1.owns, h2⟩
  obtain ⟨es, ck, hbk⟩ := hmp.block
  exact ⟨w', hrun, ⟨_, left, hrg, (h2.put h1.owns.isMap _ hr).map hB ht.grown hbk, h3⟩, ht.grown⟩
section
variable {w : World} {ops : Array Oper} {rest : List Oper} {o : Oper} {a : Act} {Q : Exit → Act → World → Prop}
/-- The step, wherever the bytes lie. -/
theorem wpList_next_dk2 (hg : o.guard = none) (itv : Operand) (hop : o.op = Op.next itv false) {B mb it n : Nat} {L : Dk} {lf : List UInt8 → Bool} {cnt : Nat} (hit : a.eval itv = .pointer (some ⟨it, 0, none⟩)) (h : DkRange w B mb it n L lf cnt) (hB : B ≤ w.heap.size)
    (hDone : (∀ k, lf k = false) → wpList Tryz.prog ops Q rest (a.put o.dst (.tuple #[.bool false])) w)
    (hMore : ∀ (s : ByteArray) (r : Rv) (f : Fi) (w' : World) (cnt' : Nat), s.size ≤ maxLen → lf s.data.toList = true → dGet L s.data.toList = some f → RvIs w' B r f → DkRange w' B mb it n L (fun x => lf x && !decide (x = s.data.toList)) cnt' → cnt' < cnt →
      w.grownBy w' (some it) → w'.heap.size = w.heap.size → (Instr.entry (.pointer (some ⟨it, 0, none⟩))).run Tryz.prog w' = .ok (.tuple #[.string s, rvVal r]) w' → wpList Tryz.prog ops Q rest (a.put o.dst (.tuple #[.bool true, .string s, rvVal r])) w') :
    wpList Tryz.prog ops Q (o :: rest) a w := by
  have hnb := h.it_none
  obtain ⟨D, left, h1, h2, h3⟩ := h
  refine wpList_next_ranges w hg itv hop 9 dk_law rvElem Value.string rvVal (fun key kl hk => let ⟨s, hs, _⟩ := key_inv hk; ⟨s, hs⟩) (fun v y hv => let ⟨r, hr, _⟩ := rvElem_inv hv; ⟨r, hr⟩) mb it n D left cnt hit h1 (fun _ hl => hDone fun k => by rw [← h3]; exact hl _) ?_
  intro s r kl y w' cnt' hkey hlk hv hat hrg hlt hgr hsz hen
  obtain ⟨s', hs', rfl, hsl⟩ := key_inv hkey
  cases hs'
  obtain ⟨r', hr', rfl⟩ := rvElem_inv hv
  have hh' := h2.other hB hgr hnb
  have hre : r' = r := by
    unfold rvVal at hr'
    simp at hr'
    cases r
    cases r'
    simp_all
  subst hre
  cases hg : dGet L s.data.toList with
  | none =>
    have := h2.no _ hg
    rw [Maps.has_true_of_atKey hat] at this
    cases this
  | some f =>
    obtain ⟨r1, hr1, hr2⟩ := hh'.yes _ f hg
    have he := (hat (.held rvZero)).symm.trans (hr1 (.held rvZero))
    simp only [DataW.held.injEq] at he
    subst he
    refine hMore s _ f w' cnt' hsl (by rw [← h3]; exact hlk) hg hr2 ⟨D, _, hrg, hh', fun k => ?_⟩ hlt hgr hsz hen
    show (left (.string k) && !(Lit.string k).sameKey (.string s.data.toList)) = _
    rw [h3]
    congr 2
    by_cases hk : k = s.data.toList
    · subst hk; rw [WideAt.sameKey_self (str_key _)]; simp
    · rw [Maps.sameKey_ne (str_ne hk)]; simp [hk]
end
theorem crash_step (keep : Int) (L : Dk) (lf : List UInt8 → Bool) (k : List UInt8) (f : Fi) (hl : lf k = true) (hg : dGet (crashBut lf keep L) k = some f) (x : List UInt8) :
    dGet (crashBut (fun x => lf x && !decide (x = k)) keep L) x = dGet (dPut (crashBut lf keep L) k (f.crash keep)) x := by
  rw [dGet_crash, dGet_put, dGet_crash]
  rw [dGet_crash] at hg
  by_cases hx : x = k
  · subst hx
    rw [if_pos rfl]
    cases h : dGet L x with
    | none => rw [h] at hg; cases hg
    | some f0 =>
      rw [h] at hg
      simp [hl] at hg ⊢
      rw [hg]
  · rw [if_neg hx]
    simp [hx]
theorem crash_take (z : Int) (l : List Int) (kk : Nat) (h : min (max z 0) (l.length : Int) = kk) : l.take z.toNat = l.take kk := by
  by_cases h1 : z.toNat ≤ l.length
  · congr 1; omega
  · rw [List.take_of_length_le (by omega), List.take_of_length_le (by omega)]
set_option maxHeartbeats 4000000 in
theorem crash_any {w : World} {B db mb room n : Nat} {L : Dk} (h : DiskIs w B db mb room n L) (hn : n ≤ 1000000) (z : Int) (hz : -9223372036854775808 ≤ z ∧ z ≤ 9223372036854775807) :
    Calls Tryz.prog 37 #[.pointer (some ⟨db, 0, none⟩), .int .i64 z] w fun e w' => e = .returned (.tuple #[]) ∧ DiskIs w' w'.heap.size db mb room n (dCrash z L) ∧ w.grownBy w' (some mb) := by
  obtain ⟨c0, c1⟩ := h.cells
  have H := Lib.hid h
  have hB := h.le
  have hdlt := h.dlt
  have hmlt := h.mlt
  have hne := h.ne
  clear h
  go_enter Tryz.func37, Tryz.ntmps37
  go_wp2_with fail
  refine (is_any H.out.toDiskAt).mono ?_
  rintro e w1 ⟨rfl, rfl⟩
  go_wp2_with (first | (at_range; refine wpList_range_dk rfl _ rfl rfl H.out.map hB ?_; intro w0 cnt hrg0 hg0 hs0) | fail)
  go_frame
  go_loopw [] (fun wr => ∃ lf cnt, DkRange wr wr.heap.size mb w.heap.size n (crashBut lf z L) lf cnt ∧ w.grownBy wr (some mb)) (fun wr => wr.rangeLeft mb w.heap.size)
  case atStart =>
    refine ⟨_, _, (hrg0.congr fun k => ?_).mono (Nat.le_trans hB hg0.size), ⟨hg0.os, hg0.tape, hg0.output, hg0.size, fun i hi _ => hg0.block i hi (by simp)⟩⟩
    rw [dGet_crash]
    cases dGet L k <;> simp
  case round =>
    obtain ⟨lf, cnt, hrg, hgr⟩ := hrel
    have hszr := hgr.size
    go_wp2_with (first | (at_next; refine wpList_next_dk2 rfl _ rfl rfl hrg (Nat.le_refl _) ?_ ?_) | fail)
    · intro hl0
      go_wp2_with fail
      go_end0
      have he : ∀ k, dGet (dCrash z L) k = dGet (crashBut lf z L) k := fun k => by
        unfold dCrash
        rw [dGet_crash, dGet_crash, hl0]
      refine ⟨rfl, ⟨⟨(hgr.block db (by omega) (by simpa using hne)).trans H.out.blk, hrg.map.congr he, by omega, by omega, Nat.le_refl _, ?_, H.out.rle⟩, Nat.le_trans (dUsed_crash _ z L) H.out.used⟩, hgr⟩
      unfold dOk dCrash
      rw [crash_names]
      exact H.out.ok
    · intro s r f w2 cnt2 hs hlf hgt hrv hrg2 hlt hg2 hs2 hen
      obtain ⟨a1, n1, c1', a2, n2, c2⟩ := r
      simp only [rvVal] at hen ⊢
      have hsz2 : wr.heap.size ≤ w2.heap.size := Nat.le_of_eq hs2.symm
      have hmf : dGet L s.data.toList = some f := by
        rw [dGet_crash] at hgt
        cases hgl : dGet L s.data.toList with
        | none => rw [hgl] at hgt; cases hgt
        | some f0 => rw [hgl] at hgt; simpa [hlf] using hgt
      have hbd := bec_bounds H.out hmf
      obtain ⟨e1, e2, h1, h2, w1', w2', z1, z2, k1, k2⟩ := hrv
      dsimp only at e1 e2 h1 h2 z1 z2 k1 k2
      have hlen : n1 + n2 ≤ 1099511627776 := by rw [e1, e2]; unfold Fi.all at hbd; rw [List.length_append] at hbd; exact hbd
      obtain ⟨kk, hkk⟩ : ∃ kk : Nat, min (max z 0) (n2 : Int) = kk := ⟨(min (max z 0) (n2 : Int)).toNat, by omega⟩
      have hkl : kk ≤ n2 := by omega
      have hsl : ∀ w', (Instr.sliceAt 24 (.slice a2 n2 c2) none (some (.int .i64 (kk : Int))) none).run Tryz.prog w' = .ok (.slice (subA a2 c2 0 1) kk c2) w' := fun w' => run_sub_h sliceByte sizeByte a2 n2 c2 kk (by omega) .i64 kk rfl w'
      have h3 : BytesIn w2 wr.heap.size (subA a2 c2 0 1) (f.loose.take kk) := by
        have := BytesIn.sub (cap := c2) 0 kk h2 (by rw [← e2]; exact k2)
        simpa using this
      have z3 : subA a2 c2 0 1 = none → c2 = 0 := fun h => z2 (subA_eq_none h)
      have htk : f.loose.take z.toNat = f.loose.take kk := crash_take z f.loose kk (by rw [← e2]; exact hkk)
      generalize subA a2 c2 0 1 = a3 at hsl h3 z3
      have hcr : f.crash z = ⟨f.firm ++ f.loose.take kk, []⟩ := by unfold Fi.crash; rw [htk]
      have hl3 : (f.loose.take kk).length = kk := by rw [List.length_take]; omega
      have E1 := Lib.hid e1.symm
      have L3 := Lib.hid hl3
      have H1 := Lib.hid h1
      have H3 := Lib.hid h3
      have Z1 := Lib.hid z1
      have Z3 := Lib.hid z3
      have HW := Lib.hid (show BytesWf (f.firm ++ f.loose.take kk) from BytesWf.app w1' (w2'.take kk))
      have HCR := Lib.hid hcr
      have HGT := Lib.hid hgt
      have HLF := Lib.hid hlf
      have HRG := Lib.hid hrg2
      have HLE := Lib.hid (hrg.left_eq)
      have HG2 := Lib.hid (grownBy_mix hgr hg2 (Nat.le_refl _))
      have HLT := Lib.hid hlt
      have hcl := hbd
      clear e1 e2 h1 h2 w1' w2' z1 z2 k2 hl3 h3 z3 htk hcr hgt hlf hrg2 hrg hgr hg2 hlt hs2 hbd hmf
      have d1 := Go.Joins.cell_of_block ((HG2.out.block db (by omega) (by simpa using hne)).trans H.out.blk) 1
      go_wp2_with fail
      have hal := (Below.refl w2.heap.size w2).alloc (Nat.le_refl _) (.cells #[.slice a1 n1 c1', .slice a2 n2 c2] 125)
      have hk4 := heap_alloc_new w2 (.cells #[.slice a1 n1 c1', .slice a2 n2 c2] 125)
      have HAL := Lib.hid hal
      have HK4 := Lib.hid hk4
      clear hal hk4 hen
      generalize w2.alloc (.cells #[.slice a1 n1 c1', .slice a2 n2 c2] 125) = w4 at HAL HK4 ⊢
      refine heldS_begin (fun w' => w'.cell? ⟨db, 1, none⟩ = some (.map (some mb)) ∧ w'.cell? ⟨w2.heap.size, 0, none⟩ = some (.slice a1 n1 c1')) (by kernel_rfl) (⟨(((HAL.out.drew).cell (p := ⟨db, 1, none⟩) (show db < w2.heap.size by omega)).trans d1), Go.Joins.cell_of_block HK4.out 0⟩) ?_
      intro hS0
      (first | (refine takeS_no 0 rfl (by kernel_rfl) (by kernel_rfl) (by kernel_rfl) (fun _ _ _ h => h) (by rfl) (by assumption) ?_) | (refine takeS_yes (v := ?_) 0 rfl (by kernel_rfl) (by kernel_rfl) (by kernel_rfl) (fun _ _ _ h => h) (by rfl) (by assumption) ?_ ?_; rotate_left; focus (intro wS hSw; obtain ⟨q0, q1⟩ := hSw; go_simp; first | done | with_reducible rfl)))
      (try simp only [Act.put, List.setIfInBounds_toArray, List.set_cons_zero, List.set_cons_succ])
      (first | (refine takeS_no 1 rfl (by kernel_rfl) (by kernel_rfl) (by kernel_rfl) (fun _ _ _ h => h) (by rfl) (by assumption) ?_) | (refine takeS_yes (v := ?_) 1 rfl (by kernel_rfl) (by kernel_rfl) (by kernel_rfl) (fun _ _ _ h => h) (by rfl) (by assumption) ?_ ?_; rotate_left; focus (intro wS hSw; obtain ⟨q0, q1⟩ := hSw; go_simp; first | done | with_reducible rfl)))
      (try simp only [Act.put, List.setIfInBounds_toArray, List.set_cons_zero, List.set_cons_succ])
      (first | (refine takeS_no 2 rfl (by kernel_rfl) (by kernel_rfl) (by kernel_rfl) (fun _ _ _ h => h) (by rfl) (by assumption) ?_) | (refine takeS_yes (v := ?_) 2 rfl (by kernel_rfl) (by kernel_rfl) (by kernel_rfl) (fun _ _ _ h => h) (by rfl) (by assumption) ?_ ?_; rotate_left; focus (intro wS hSw; obtain ⟨q0, q1⟩ := hSw; go_simp; first | done | with_reducible rfl)))
      (try simp only [Act.put, List.setIfInBounds_toArray, List.set_cons_zero, List.set_cons_succ])
      (first | (refine takeS_no 3 rfl (by kernel_rfl) (by kernel_rfl) (by kernel_rfl) (fun _ _ _ h => h) (by rfl) (by assumption) ?_) | (refine takeS_yes (v := ?_) 3 rfl (by kernel_rfl) (by kernel_rfl) (by kernel_rfl) (fun _ _ _ h => h) (by rfl) (by assumption) ?_ ?_; rotate_left; focus (intro wS hSw; obtain ⟨q0, q1⟩ := hSw; go_simp; first | done | with_reducible rfl)))
      (try simp only [Act.put, List.setIfInBounds_toArray, List.set_cons_zero, List.set_cons_succ])
      (first | (refine takeS_no 4 rfl (by kernel_rfl) (by kernel_rfl) (by kernel_rfl) (fun _ _ _ h => h) (by rfl) (by assumption) ?_) | (refine takeS_yes (v := ?_) 4 rfl (by kernel_rfl) (by kernel_rfl) (by kernel_rfl) (fun _ _ _ h => h) (by rfl) (by assumption) ?_ ?_; rotate_left; focus (intro wS hSw; obtain ⟨q0, q1⟩ := hSw; go_simp; first | done | with_reducible rfl)))
      (try simp only [Act.put, List.setIfInBounds_toArray, List.set_cons_zero, List.set_cons_succ])
      (first | (refine takeS_no 5 rfl (by kernel_rfl) (by kernel_rfl) (by kernel_rfl) (fun _ _ _ h => h) (by rfl) (by assumption) ?_) | (refine takeS_yes (v := ?_) 5 rfl (by kernel_rfl) (by kernel_rfl) (by kernel_rfl) (fun _ _ _ h => h) (by rfl) (by assumption) ?_ ?_; rotate_left; focus (intro wS hSw; obtain ⟨q0, q1⟩ := hSw; go_simp; first | done | with_reducible rfl)))
      (try simp only [Act.put, List.setIfInBounds_toArray, List.set_cons_zero, List.set_cons_succ])
      (first | (refine takeS_no 6 rfl (by kernel_rfl) (by kernel_rfl) (by kernel_rfl) (fun _ _ _ h => h) (by rfl) (by assumption) ?_) | (refine takeS_yes (v := ?_) 6 rfl (by kernel_rfl) (by kernel_rfl) (by kernel_rfl) (fun _ _ _ h => h) (by rfl) (by assumption) ?_ ?_; rotate_left; focus (intro wS hSw; obtain ⟨q0, q1⟩ := hSw; go_simp; first | done | with_reducible rfl)))
      (try simp only [Act.put, List.setIfInBounds_toArray, List.set_cons_zero, List.set_cons_succ])
      (first | (refine takeS_no 7 rfl (by kernel_rfl) (by kernel_rfl) (by kernel_rfl) (fun _ _ _ h => h) (by rfl) (by assumption) ?_) | (refine takeS_yes (v := ?_) 7 rfl (by kernel_rfl) (by kernel_rfl) (by kernel_rfl) (fun _ _ _ h => h) (by rfl) (by assumption) ?_ ?_; rotate_left; focus (intro wS hSw; obtain ⟨q0, q1⟩ := hSw; go_simp; first | done | with_reducible rfl)))
      (try simp only [Act.put, List.setIfInBounds_toArray, List.set_cons_zero, List.set_cons_succ])
      have hsz4 := HAL.out.size
      have hlt4 := (Array.getElem?_eq_some_iff.1 HK4.out).1
      have hSS : ∀ w', Below w4.heap.size w4 w' → w'.cell? ⟨db, 1, none⟩ = some (.map (some mb)) ∧ w'.cell? ⟨w2.heap.size, 0, none⟩ = some (.slice a1 n1 c1') := fun w' hb =>
        ⟨(hb.cell (p := ⟨db, 1, none⟩) (show db < w4.heap.size by omega)).trans ((HAL.out.cell (p := ⟨db, 1, none⟩) (show db < w2.heap.size by omega)).trans d1), Go.Joins.cell_of_block ((hb.block _ hlt4).trans HK4.out) 0⟩
      have HSS := Lib.hid hSS
      have c4 : Below w4.heap.size w4 w4.drew := (Below.refl _ _).drew
      clear hSS
      generalize w4.drew = wd at hS0 c4 ⊢
      have hzd := c4.size
      refine takeS_alone 8 rfl (by kernel_rfl) (by rfl) (fun K hK => ?_)
      go_simp
      (have c5 := c4.alloc hzd (.cells #[.slice a1 n1 c1', .slice a3 kk c2] 24); have k5 := heap_alloc_new wd (.cells #[.slice a1 n1 c1', .slice a3 kk c2] 24); generalize wd.alloc (.cells #[.slice a1 n1 c1', .slice a3 kk c2] 24) = w5 at c5 k5 ⊢; have s5 := HSS.out w5 c5; have hb5 := HAL.out.trans (c5.mono hsz4))
      refine hK.out _ _ (by assumption) ?_
      clear hK K
      (try simp only [Act.put, List.setIfInBounds_toArray, List.set_cons_zero, List.set_cons_succ])
      refine takeS_alone 9 rfl (by kernel_rfl) (by rfl) (fun K hK => ?_)
      go_simp
      (refine (concat_any wd.heap.size a1 a3 n1 c1' kk c2 f.firm (f.loose.take kk) _ w5 (Go.Joins.cell_of_block k5 0) (Go.Joins.cell_of_block k5 1) (Array.getElem?_eq_some_iff.1 k5).1 ((H1.out.below hb5 hsz2).mono (Nat.le_trans hsz2 hb5.size)) ((H3.out.below hb5 hsz2).mono (Nat.le_trans hsz2 hb5.size)) Z1.out Z3.out E1.out L3.out rfl (by omega)).mono ?_; rintro e w6 ⟨a, m, c, rfl, ho, hb6⟩; have c6 := c5.trans (hb6.mono c5.size); have s6 := HSS.out w6 c6; have hb26 := HAL.out.trans (c6.mono hsz4); have hr6 : RvIs w6 w6.heap.size ⟨a, m, c, none, 0, 0⟩ (f.crash z) := (by rw [HCR.out]; exact ⟨ho.len.symm, rfl, ho.in, Or.inl rfl, HW.out, fun _ h => (by cases h), ho.nil, fun _ => rfl, bown_cap ho, Nat.le_refl _⟩); have hrg6 := (HRG.out.below hb26 hsz2).mono (Nat.le_trans hsz2 hb26.size); obtain ⟨w7, hrun7, hrg7, hg7⟩ := hrg6.put (Nat.le_refl _) hn s hs (by rw [HGT.out]; rfl) ⟨a, m, c, none, 0, 0⟩ (f.crash z) hr6; simp only [rvVal] at hrun7; have hlt6 := c6.size; have s7 : w7.cell? ⟨db, 1, none⟩ = some (.map (some mb)) ∧ w7.cell? ⟨w2.heap.size, 0, none⟩ = some (.slice a1 n1 c1') := ⟨by (have h := hg7.block db (by omega) (by simpa using hne); have h0 := s6.1; unfold World.cell? at h0 ⊢; rw [h]; exact h0), by (have h := hg7.block w2.heap.size (by omega) (by simp; omega); have h0 := s6.2; unfold World.cell? at h0 ⊢; rw [h]; exact h0)⟩)
      refine hK.out _ _ (by assumption) ?_
      clear hK K
      (try simp only [Act.put, List.setIfInBounds_toArray, List.set_cons_zero, List.set_cons_succ])
      (first | (refine takeS_no 10 rfl (by kernel_rfl) (by kernel_rfl) (by kernel_rfl) (fun _ _ _ h => h) (by rfl) (by assumption) ?_) | (refine takeS_yes (v := ?_) 10 rfl (by kernel_rfl) (by kernel_rfl) (by kernel_rfl) (fun _ _ _ h => h) (by rfl) (by assumption) ?_ ?_; rotate_left; focus (intro wS hSw; obtain ⟨q0, q1⟩ := hSw; go_simp; first | done | with_reducible rfl)))
      (try simp only [Act.put, List.setIfInBounds_toArray, List.set_cons_zero, List.set_cons_succ])
      refine takeS_alone 11 rfl (by kernel_rfl) (by rfl) (fun K hK => ?_)
      go_simp
      skip
      refine hK.out _ _ (by assumption) ?_
      clear hK K
      (try simp only [Act.put, List.setIfInBounds_toArray, List.set_cons_zero, List.set_cons_succ])
      refine wpAnyH_done (by kernel_rfl) ?_ _
      have hfin := (hrg7.congr (crash_step z L lf s.data.toList f HLF.out HGT.out)).mono hg7.size
      have hgf := HG2.out.trans ((below_grown hb26 (some mb)).trans hg7)
      have HFIN := Lib.hid hfin
      have HGF := Lib.hid hgf
      clear hfin hgf hrg7 hg7 hrun7 hrg6 s5 s6 s7 hS0
      go_wp2_with fail
      go_roundw
      case rel => exact ⟨_, _, HFIN.out, HGF.out⟩
      case measure => rw [HFIN.out.left_eq, HLE.out]; exact HLT.out
end Go.Proofs.YtejgebpdipnhmaaGreatDoor
/- A snap loaded from a disk, and stored. Conditions: the disk lies as its files say, the snap as its reading says. -/
namespace Go.Proofs.YtejgebpdipnhmaaGreatDoor
open Go.RowKit
set_option maxRecDepth 20000
theorem results_cell3 {P : Program} {fn : Func} {p u v : Tmp} {ty : TypeId} (h : fn.results = #[.cell p ty, .tmp u, .tmp v]) (tmps : Array Value) (w : World) (g : Nat) (t : TypeId) (cs : Array Value) (fr : Nat × Nat) (d : TypeDesc) (x y : Value)
    (hp : tmps.getD p undef = .pointer (some ⟨g, 0, none⟩)) (hu1 : tmps.getD u undef = x) (hv : tmps.getD v undef = y) (hg : w.heap[g]? = some (.cells cs t fr))
    (hu : P.underlying ty = some d) (hd : (match d with | .struct _ | .array _ _ => true | _ => false) = true) (hi : (P.info? ty).map (·.size) = some cs.size) :
    (results fn tmps).run P w = .ok (.tuple #[.agg cs, x, y]) w := by
  have e : (results fn tmps).run P w = ((asAddr (tmps.getD p undef)).run P w).andThen fun a w₁ => ((loadVar ty a).run P w₁).andThen fun z w₂ => .ok (.tuple #[z, tmps.getD u undef, tmps.getD v undef]) w₂ := by
    simp only [results, h]
    simp [Sem.run_bind, Result.andThen]
  rw [e, hp, hu1, hv]
  simp [asAddr, run_loadVar_row w g t ty cs fr d hg hu hd hi, Result.andThen]
def SLoadAt (r : SnP × Bool × Int) (L : Dk) (db mb room n : Nat) (w : World) (e : Ending) (w' : World) : Prop :=
  ∃ x : Sn, e = .returned (.tuple #[snVal x, .bool r.2.1, .int .i64 r.2.2]) ∧ x.plain = r.1 ∧ SnFine x ∧ OwnSn w' w.heap.size x ∧ DiskIs w' w'.heap.size db mb room n L ∧ w.grownBy w' (some mb)
theorem snapS_le : snapS.size ≤ maxLen := by decide
theorem newS_le : newS.size ≤ maxLen := by decide
theorem four_same {w : World} {g : Nat} {a b c d : Value} {T : TypeId} {fr : Nat × Nat} (h : w.heap[g]? = some (.cells #[a, b, c, d] T fr)) : ∀ o x, a ≠ bv x → b ≠ bv x → c ≠ bv x → d ≠ bv x → w.cell? ⟨g, o, none⟩ ≠ some (bv x) := by
  intro o x h0 h1 h2 h3 hx
  have hc := Go.Joins.cell_of_block h o
  rw [hc] at hx
  match o with
  | 0 => simp at hx; exact h0 hx
  | 1 => simp at hx; exact h1 hx
  | 2 => simp at hx; exact h2 hx
  | 3 => simp at hx; exact h3 hx
  | o + 4 => simp at hx
/-- Loading ends: the result's cell is written, the disk stays. -/
theorem sload_end {f : Func} {W w' : World} {x : Sn} {y0 y1 y2 y3 : Value} {tmps : Array Value} {r : SnP × Bool × Int} {L : Dk} {db mb room n : Nat} (hf : f.results = #[.cell 2 26, .tmp 3, .tmp 4])
    (hk : w'.heap[W.heap.size]? = some (.cells #[y0, y1, y2, y3] 26 (0, 0))) (hy0 : ∀ z, y0 ≠ bv z) (hy1 : ∀ z, y1 ≠ bv z) (hy2 : ∀ z, y2 ≠ bv z) (hy3 : ∀ z, y3 ≠ bv z)
    (hd : DiskIs w' w'.heap.size db mb room n L) (hg : W.grownBy w' (some mb)) (hmb : mb < W.heap.size) (hdb : db < W.heap.size)
    (h2 : tmps.getD 2 undef = .pointer (some ⟨W.heap.size, 0, none⟩)) (h3 : tmps.getD 3 undef = .bool r.2.1) (h4 : tmps.getD 4 undef = .int .i64 r.2.2) (hp : x.plain = r.1) (hfn : SnFine x) (ho : OwnSn w' (W.heap.size + 1) x) :
    bodyPost Tryz.prog f (SLoadAt r L db mb room n W) .ret ⟨tmps, []⟩ ((((w'.setCell ⟨W.heap.size, 0, none⟩ (.int .i64 x.index)).setCell ⟨W.heap.size, 1, none⟩ (.int .i64 x.term)).setCell ⟨W.heap.size, 2, none⟩ (.slice x.va x.vs.length x.vc)).setCell ⟨W.heap.size, 3, none⟩ (.slice x.ia x.im.length x.ic)) := by
  have hg4 := grown_four (w := w') (g := W.heap.size) (a := .int .i64 x.index) (b := .int .i64 x.term) (c := .slice x.va x.vs.length x.vc) (d := .slice x.ia x.im.length x.ic)
  have hk4 := block_four (a := .int .i64 x.index) (b := .int .i64 x.term) (c := .slice x.va x.vs.length x.vc) (d := .slice x.ia x.im.length x.ic) hk
  refine bodyPost_ret (results_cell3 hf tmps _ W.heap.size _ _ _ _ _ _ h2 h3 h4 hk4 Tryz.underlying26 rfl (info_sn _ _ _ _)) rfl ⟨x, rfl, hp, hfn, ⟨?_, ?_⟩, ⟨hd.toDiskAt.other hg4 (by omega) (by omega) (fun o z => four_same hk o z (hy0 z) (hy1 z) (hy2 z) (hy3 z)), hd.used⟩, grownBy_mix hg hg4 (Nat.le_refl _)⟩
  · exact IntsOwn.le (World.ownsRow.kept ho.1 hg4 (Or.inr fun e => by have h1 := (World.ownsRow.lt ho.1 _ e).1; omega)) (Nat.le_succ _)
  · exact (ho.2.kept hg4 (Or.inr fun e => by have h1 := ho.2.lt _ e; omega)).le (Nat.le_succ _)
set_option maxHeartbeats 4000000 in
theorem sload_any {w : World} {B db mb room n : Nat} {L : Dk} (h : DiskIs w B db mb room n L) (hn : n ≤ 1000000) (hsz : ∀ f, dGet L snapN = some f → f.all.length ≤ 3000000) (r : SnP × Bool × Int) (hr : dLoad L = r) :
    Calls Tryz.prog 29 #[.pointer (some ⟨db, 0, none⟩)] w (SLoadAt r L db mb room (n + 1) w) := by
  have hmb := Nat.lt_of_lt_of_le h.mlt h.le
  have hdb := Nat.lt_of_lt_of_le h.dlt h.le
  have hb1 := (Below.refl w.heap.size w).alloc (Nat.le_refl _) (.cells #[.int .i64 0, .int .i64 0, .slice none 0 0, .slice none 0 0] 26)
  have hk1 := heap_alloc_new w (.cells #[.int .i64 0, .int .i64 0, .slice none 0 0, .slice none 0 0] 26)
  have hs1 : (w.alloc (.cells #[.int .i64 0, .int .i64 0, .slice none 0 0, .slice none 0 0] 26)).heap.size = w.heap.size + 1 := by simp
  obtain ⟨q, hq⟩ : ∃ q, dRead L snapN = q := ⟨_, rfl⟩
  have HQ := Lib.hid hq
  have H := Lib.hid (h.top.below hb1 (Nat.le_refl _))
  have HB1 := Lib.hid hb1
  have HK1 := Lib.hid hk1
  have HS1 := Lib.hid hs1
  have HR := Lib.hid hr
  clear hb1 hk1 hs1 h hr hq
  go_enter Tryz.func29, Tryz.ntmps29
  go_wp2_with fail
  generalize w.alloc (.cells #[.int .i64 0, .int .i64 0, .slice none 0 0, .slice none 0 0] 26) = w1 at HB1 HK1 HS1 H ⊢
  refine (read_any H.out hn snapS snapS_le q HQ.out).mono ?_
  rintro e w2 ⟨a, m, c, rfl, ho, hd2, hg2⟩
  have hz1 : w.heap.size + 1 ≤ w1.heap.size := Nat.le_of_eq HS1.out.symm
  have hz2 := hg2.size
  have hk2 := (hg2.block w.heap.size (by omega) (by simp; omega)).trans HK1.out
  have HK2 := Lib.hid hk2
  have HD2 := Lib.hid hd2.top
  have HO2 := Lib.hid ho
  have HG2 := Lib.hid ((below_grown HB1.out (some mb)).trans hg2)
  have hu0 := Go.Joins.unfrozen_of_block hk2 0
  have hu1 := Go.Joins.unfrozen_of_block hk2 1
  have hu2 := Go.Joins.unfrozen_of_block hk2 2
  have hu3 := Go.Joins.unfrozen_of_block hk2 3
  have hc0 := Go.Joins.cell_of_block hk2 0
  have hc1 := Go.Joins.cell_of_block hk2 1
  have hc2 := Go.Joins.cell_of_block hk2 2
  have hc3 := Go.Joins.cell_of_block hk2 3
  clear ho hd2 hg2 hk2
  cases hg : dGet L snapN with
  | none =>
    have hq6 : q = ([], 6) := by rw [← HQ.out]; unfold dRead; rw [hg]
    have hr0 : r = (zeroSn, false, 0) := by rw [← HR.out]; unfold dLoad; rw [hg]
    subst hr0
    have hq2 : q.2 = 6 := by rw [hq6]
    rw [hq2]
    clear hq6 hq2
    go_wp2_with fail
    exact sload_end (x := zeroSx) (r := (zeroSn, false, 0)) rfl HK2.out (fun _ h => by cases h) (fun _ h => by cases h) (fun _ h => by cases h) (fun _ h => by cases h) HD2.out HG2.out hmb hdb rfl rfl rfl rfl zeroSx_fine (OwnSn.zero _ _)
  | some f =>
    have hq0 : q = (f.all, 0) := by rw [← HQ.out]; unfold dRead; rw [hg]
    have hl := hsz f hg
    subst hq0
    have hrr := HR.out
    unfold dLoad at hrr
    rw [hg] at hrr
    dsimp only at hrr
    have hwf : BytesWf f.all := by
      obtain ⟨rv, _, _, hrv⟩ := (HD2.out.map.look snapS snapS_le).2 f hg
      exact BytesWf.app hrv.w1 hrv.w2
    obtain ⟨⟨s, er⟩, hse⟩ : ∃ z, snGet f.all = z := ⟨_, rfl⟩
    rw [hse] at hrr
    dsimp only at hrr
    have HRR := Lib.hid hrr
    have HSE := Lib.hid hse
    clear hrr hse
    dsimp only
    go_wp2_with fail
    have hml : m ≤ 3000000 := by rw [← HO2.out.len]; exact hl
    refine (sget_any a m c f.all w2 HO2.out.len HO2.out.in hwf HO2.out.nil (bown_cap HO2.out) hml (s, er) HSE.out).mono ?_
    rintro e w3 ⟨x, rfl, hxp, hxf, hxo, hb3⟩
    have hz3 := hb3.size
    have hb34 := (Below.refl w3.heap.size w3).alloc (Nat.le_refl _) (.cells (snArr x) 26)
    have hk4 := heap_alloc_new w3 (.cells (snArr x) 26)
    have hb24 := hb3.trans (hb34.mono hz3)
    have HD4 := Lib.hid ((HD2.out.below hb24 (Nat.le_refl _)).top)
    have HG4 := Lib.hid (HG2.out.trans (below_grown hb24 (some mb)))
    have HK4 := Lib.hid ((hb24.block w.heap.size (by omega)).trans HK2.out)
    have HO4 := Lib.hid (show OwnSn (w3.alloc (.cells (snArr x) 26)) (w.heap.size + 1) x from ⟨(hxo.1.below hb34 (Nat.le_refl _)).le (by omega), (hxo.2.below hb34 (Nat.le_refl _)).le (by omega)⟩)
    have HF := Lib.hid hxf
    have HP := Lib.hid hxp
    have HKX := Lib.hid hk4
    clear hb3 hb34 hb24 hxo hxf hxp hk4 hu0 hu1 hu2 hu3 hc0 hc1 hc2 hc3
    obtain ⟨si, st, va, xs, vc, ia, im, ic⟩ := x
    dsimp only [snVal, snArr] at HK4 HKX HD4 HG4 HO4 ⊢
    go_upto_region 7 with fail
    generalize w3.alloc (.cells #[.int .i64 si, .int .i64 st, .slice va xs.length vc, .slice ia im.length ic] 26) = w4 at HK4 HKX HD4 HG4 HO4 ⊢
    have hu0 := Go.Joins.unfrozen_of_block HK4.out 0
    have hu1 := Go.Joins.unfrozen_of_block HK4.out 1
    have hu2 := Go.Joins.unfrozen_of_block HK4.out 2
    have hu3 := Go.Joins.unfrozen_of_block HK4.out 3
    have hc0 := Go.Joins.cell_of_block HK4.out 0
    have hc1 := Go.Joins.cell_of_block HK4.out 1
    have hc2 := Go.Joins.cell_of_block HK4.out 2
    have hc3 := Go.Joins.cell_of_block HK4.out 3
    have g0 := Go.Joins.cell_of_block HKX.out 0
    have g1 := Go.Joins.cell_of_block HKX.out 1
    have g2 := Go.Joins.cell_of_block HKX.out 2
    have g3 := Go.Joins.cell_of_block HKX.out 3
    by_cases her : er = 0
    · subst her
      rw [if_pos rfl] at HRR
      obtain rfl := HRR.out
      go_wp2_with fail
      exact sload_end (x := ⟨si, st, va, xs, vc, ia, im, ic⟩) (r := (s, true, 0)) rfl HK4.out (fun _ h => by cases h) (fun _ h => by cases h) (fun _ h => by cases h) (fun _ h => by cases h) HD4.out HG4.out hmb hdb rfl rfl rfl HP.out HF.out HO4.out
    · rw [if_neg her] at HRR
      obtain rfl := HRR.out
      go_wp2_with fail
      exact sload_end (x := zeroSx) (r := (zeroSn, false, 10)) rfl HK4.out (fun _ h => by cases h) (fun _ h => by cases h) (fun _ h => by cases h) (fun _ h => by cases h) HD4.out HG4.out hmb hdb rfl rfl rfl rfl zeroSx_fine (OwnSn.zero _ _)
end Go.Proofs.YtejgebpdipnhmaaGreatDoor
