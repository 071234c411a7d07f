/- The law FrameTorn, walked: it returns true, and nothing that was there is changed. Conditions: the arguments are read as the row reads them. -/
import Derived.Test.YtllpamkbcjcddaaDoorAwake03
import Derived.Test.YtllpamkbcjcddaaDoorGreat
import Derived.Test.YtllpamkbcjcddaaDoorSame
import Derived.Test.YtllpamkbcjcddaaDoorPick
namespace Go.Proofs.YtllpamkbcjcddaaDoor
open Go.RowKit

theorem putE_zero : ∀ {fs : List Fr}, putE fs = 0 → ∀ f ∈ fs, okF f := by
  intro fs
  induction fs with
  | nil => intro _ f hf; cases hf
  | cons g fs ih =>
    intro h f hf
    unfold putE at h
    split at h
    · cases h
    · split at h
      · cases h
      · rcases List.mem_cons.1 hf with rfl | hf
        · unfold okF; omega
        · exact ih h f hf
def wAt (l : List (Int × List Int)) (cut k n : Nat) : Prop := wholeS l cut = (k + (wholeS (l.drop k) (cut - n)).1, n + (wholeS (l.drop k) (cut - n)).2)
theorem wAt_zero (l : List (Int × List Int)) (cut : Nat) : wAt l cut 0 0 := by unfold wAt; simp
theorem wAt_succ {l : List (Int × List Int)} {cut k n : Nat} {p : Int × List Int} (hk : l[k]? = some p) (h : wAt l cut k n) (hc : n + 9 + p.2.length ≤ cut) : wAt l cut (k + 1) (n + (9 + p.2.length)) := by
  unfold wAt at *
  have hlt : k < l.length := by
    rcases Nat.lt_or_ge k l.length with h | h
    · exact h
    · rw [List.getElem?_eq_none h] at hk; cases hk
  have hd : l.drop k = p :: l.drop (k + 1) := by
    rw [List.drop_eq_getElem_cons hlt]
    rw [List.getElem?_eq_getElem hlt] at hk
    rw [Option.some.inj hk]
  have hw : wholeS (p :: l.drop (k + 1)) (cut - n) = ((wholeS (l.drop (k + 1)) (cut - n - (9 + p.2.length))).1 + 1, (wholeS (l.drop (k + 1)) (cut - n - (9 + p.2.length))).2 + (9 + p.2.length)) := by
    show (if 9 + p.2.length ≤ cut - n then _ else _) = _
    rw [if_pos (by omega)]
  rw [h, hd, hw, show cut - (n + (9 + p.2.length)) = cut - n - (9 + p.2.length) by omega]
  simp only [Prod.mk.injEq]
  omega
theorem wAt_stop {l : List (Int × List Int)} {cut k n : Nat} {p : Int × List Int} (hk : l[k]? = some p) (h : wAt l cut k n) (hc : ¬ n + 9 + p.2.length ≤ cut) (hn : n ≤ cut) : wholeS l cut = (k, n) := by
  unfold wAt at *
  have hlt : k < l.length := by
    rcases Nat.lt_or_ge k l.length with h | h
    · exact h
    · rw [List.getElem?_eq_none h] at hk; cases hk
  have hd : l.drop k = p :: l.drop (k + 1) := by
    rw [List.drop_eq_getElem_cons hlt]
    rw [List.getElem?_eq_getElem hlt] at hk
    rw [Option.some.inj hk]
  have hw : wholeS (p :: l.drop (k + 1)) (cut - n) = (0, 0) := by
    show (if 9 + p.2.length ≤ cut - n then _ else _) = _
    rw [if_neg (by omega)]
  rw [h, hd, hw]
  rfl
theorem wAt_end {l : List (Int × List Int)} {cut n : Nat} (h : wAt l cut l.length n) : wholeS l cut = (l.length, n) := by
  unfold wAt at h
  rw [h, List.drop_length]
  rfl
theorem FramesIn.mono {w : World} {B B' : Nat} {ao : Option Addr} {fs : List Fr} (h : FramesIn w B ao fs) (hB : B ≤ B') : FramesIn w B' ao fs := by
  rcases h with h | ⟨b, off, h1, h2, h3⟩
  · exact Or.inl h
  · exact Or.inr ⟨b, off, h1, by omega, fun i hi => ⟨(h3 i hi).1, (h3 i hi).2.1, (h3 i hi).2.2.mono hB⟩⟩
theorem four_wf {n : Nat} (h : n < 4294967296) : BytesWf (fourB n) := by
  intro x hx
  simp only [fourB, List.mem_cons, List.not_mem_nil, or_false] at hx
  omega
theorem frameB_wf {k : Int} {d : List Int} (hk : 0 ≤ k ∧ k ≤ 255) (hd : BytesWf d) (hl : d.length < 4294967296) : BytesWf (frameB k d) := by
  intro x hx
  unfold frameB at hx
  rcases List.mem_append.1 hx with hx | hx
  · rcases List.mem_append.1 hx with hx | hx
    · rcases List.mem_append.1 hx with hx | hx
      · exact four_wf hl x hx
      · rw [List.mem_singleton.1 hx]; omega
    · refine four_wf (sumS_lt ?_) x hx
      intro y hy
      rcases List.mem_cons.1 hy with rfl | hy
      · omega
      · exact hd y hy
  · exact hd x hx
theorem putB_wf {fs : List Fr} (hok : ∀ f ∈ fs, okF f) (hw : ∀ f ∈ fs, BytesWf f.data) : BytesWf (putB fs) := by
  intro x hx
  unfold putB at hx
  obtain ⟨f, hf, hx⟩ := List.mem_flatMap.1 hx
  have h := hok f hf
  unfold okF at h
  exact frameB_wf ⟨h.1, h.2.1⟩ (hw f hf) (by omega) x hx
theorem great_at (ao : Option Addr) (n cap : Nat) (fs : List Fr) (r : Bool) (w : World) (B : Nat) (hn : fs.length = n) (hr : decide (20000 < (putB fs).length) = r) (hx : FramesIn w B ao fs) (hB : B ≤ w.heap.size) (hq : ∀ f ∈ fs, FrArg f) (hl : n ≤ 1099511627776000) :
    Calls Tryd.prog 11 #[.slice ao n cap] w fun e w' => e = .returned (.bool r) ∧ w = w' := by
  subst hr
  exact great_any ao n cap fs w hn (hx.mono hB) hq hl
theorem pick_at (a k : Int) (r : Int) (hk : 1 ≤ k) (hk2 : k ≤ 1000000) (hr : a % k = r) (w : World) :
    Calls Tryd.prog 13 #[.int .i64 a, .int .i64 k] w fun e w' => e = .returned (.int .i64 r) ∧ w = w' := by
  subst hr
  exact pick_any a k hk hk2 w
theorem put_bad (ao : Option Addr) (n cap : Nat) (fs : List Fr) (E : Int) (w : World) (B : Nat) (hn : fs.length = n) (hE : putE fs = E) (hx : FramesIn w B ao fs) (hB : B ≤ w.heap.size) (hw : ∀ f ∈ fs, FrWf f) (h0 : E ≠ 0) (hl : (putB fs).length ≤ 140737488351232) (hn2 : n ≤ 1099511627776) :
    Calls Tryd.prog 12 #[.slice ao n cap] w fun e w' => e = .returned (.tuple #[.slice none 0 0, .int .i64 E]) ∧ Below w.heap.size w w' := by
  subst hE hn
  refine (put_any ao cap fs w (hx.mono hB) hw hl hn2).mono ?_
  rintro e w' ⟨v, he, _, h2, h3⟩
  exact ⟨by rw [he, h2 h0], h3⟩
theorem sizeFrame : ∀ w, (sizeOf (Tryd.prog.elem 29)).run Tryd.prog w = .ok 2 w := fun _ => by kernel_rfl
theorem sliceFrame : Tryd.prog.underlying 29 = some (.slice (Tryd.prog.elem 29)) := by kernel_rfl
theorem FramesIn.take {w : World} {B : Nat} {ao : Option Addr} {fs : List Fr} (cap h : Nat) (hx : FramesIn w B ao fs) : FramesIn w B (subA ao cap 0 2) (fs.take h) := by
  rcases hx with h0 | ⟨b, off, rfl, h1, h2⟩
  · exact Or.inl (by rw [h0]; simp)
  · rw [subA_zero _ _ _ (by intro a ha; cases ha; rfl)]
    refine Or.inr ⟨b, off, rfl, h1, fun i hi => ?_⟩
    have hi1 : i < h ∧ i < fs.length := by simp at hi; omega
    have e : (fs.take h).getD i Fr.zero = fs.getD i Fr.zero := by simp [List.getD, hi1.1]
    rw [e]
    exact h2 i hi1.2
theorem FrArg.wf {f : Fr} (h : FrArg f) (hl : f.data.length ≤ 140737488351232) : FrWf f := ⟨h.1, h.2.1, h.2.2.1, hl⟩
theorem okP_of {f : Fr} (h : okF f) (hw : BytesWf f.data) : okP f.pair := ⟨h.1, h.2.1, h.2.2, hw⟩
theorem own_wf {w : World} {base : Nat} {v : Value} {frs : List Fr} (h : FramesOwn w base v frs) (hp : ∀ p ∈ frs.map Fr.pair, okP p) : (∀ f ∈ frs, FrWf f) ∧ ∀ f ∈ frs, okF f := by
  have h1 : ∀ f ∈ frs, okP f.pair := fun f hf => hp _ (List.mem_map_of_mem hf)
  refine ⟨fun f hf => ⟨?_, own_none (h.2.1 f hf), (h1 f hf).2.2.2, ?_⟩, fun f hf => ⟨(h1 f hf).1, (h1 f hf).2.1, (h1 f hf).2.2.1⟩⟩
  · have := (h1 f hf).1
    have := (h1 f hf).2.1
    have e : f.pair.1 = f.kind := rfl
    simp [Lit.wf, IntKind.min, IntKind.max, IntKind.signed, IntKind.bits]
    omega
  · have := (h1 f hf).2.2.1
    have e : f.pair.2 = f.data := rfl
    rw [e] at this
    omega

set_option maxHeartbeats 4000000 in
theorem torn_any (W : World) (ao : Option Addr) (n cap : Nat) (fs : List Fr) (hn : fs.length = n) (hx : FramesIn W W.heap.size ao fs) (hq : ∀ f ∈ fs, FrArg f) (hao : ao = none → cap = 0) (hnc : n ≤ cap) (hcm : cap ≤ maxLen) (hz : n ≤ 1099511627776000)
    (c0 : Int) (bo : Option Addr) (n2 cap2 : Nat) (xs : List Int) (hn2 : xs.length = n2) (hbx : BytesIn W W.heap.size bo xs) (hbw : BytesWf xs) (hbo : bo = none → cap2 = 0) (hnc2 : n2 ≤ cap2) (hcm2 : cap2 ≤ maxLen) :
    Calls Tryd.prog 4 #[.slice ao n cap, .int .i64 c0, .slice bo n2 cap2] W fun e w' => e = .returned (.bool true) ∧ Below W.heap.size W w' := by
  unfold maxLen at hcm hcm2
  have HX := Lib.hid hx
  have HQ := Lib.hid hq
  have HN := Lib.hid hn
  have HA := Lib.hid hao
  have HB := Lib.hid hbx
  have HW := Lib.hid hbw
  have HN2 := Lib.hid hn2
  have HA2 := Lib.hid hbo
  clear hx hq hn hao hbx hbw hn2 hbo
  go_enter Tryd.func4, Tryd.ntmps4
  go_wp2_with fail
  refine (awake03_any _).mono ?_
  rintro e w1 ⟨rfl, hb1⟩
  have hs1 := hb1.size
  go_wp2_with fail
  by_cases hg : 20000 < (putB fs).length
  · refine (great_at ao n cap fs true w1 _ HN.out (by simpa using hg) (HX.out.below hb1 (Nat.le_refl _)) hs1 HQ.out hz).mono ?_
    rintro e w' ⟨rfl, rfl⟩
    go_wp2_with fail
    go_ret
    exact ⟨rfl, hb1⟩
  refine (great_at ao n cap fs false w1 _ HN.out (by simpa using hg) (HX.out.below hb1 (Nat.le_refl _)) hs1 HQ.out hz).mono ?_
  rintro e w' ⟨rfl, rfl⟩
  by_cases hg2 : 20000 < n2
  · have i1 : (20000 : Int) < n2 := by omega
    go_wp2_with fail
    go_ret
    exact ⟨rfl, hb1⟩
  have i1 : ¬ (20000 : Int) < n2 := by omega
  have hcount := putB_count fs
  have hn9 : n ≤ 20000 := by have := HN.out; omega
  have HF := Lib.hid (show ∀ f ∈ fs, FrWf f from fun f hf => (HQ.out f hf).wf (by have := putB_mem hf; omega))
  have HL20 := Lib.hid (show ∀ f ∈ fs, f.data.length ≤ 20000 from fun f hf => by have := putB_mem hf; omega)
  clear hcount
  go_wp2_with fail
  have hcase : putE fs = 0 ∨ putE fs ≠ 0 := by omega
  have HXw := Lib.hid (HX.out.below hb1 (Nat.le_refl _))
  rcases hcase with hE | hE
  rotate_left
  focus
    obtain ⟨E, hEE⟩ : ∃ E, putE fs = E := ⟨_, rfl⟩
    have HE := Lib.hid hEE
    have hE0 : ¬ E = 0 := hEE ▸ hE
    clear hE hEE
    refine (put_bad ao n cap fs E w1 _ HN.out HE.out HXw.out hs1 HF.out hE0 (by omega) (by omega)).mono ?_
    rintro e wq ⟨rfl, hb2⟩
    have hq := hb1.trans (hb2.mono hs1)
    go_wp2_with fail
  rotate_left
  focus
    have HO := Lib.hid (putE_zero hE)
    clear hE
    obtain ⟨bs, hbs⟩ : ∃ bs, putB fs = bs := ⟨_, rfl⟩
    have HBS := Lib.hid hbs
    have hbl : bs.length ≤ 20000 := by rw [← hbs]; omega
    have hwb : BytesWf bs := by rw [← hbs]; exact putB_wf HO.out (fun f hf => (HQ.out f hf).2.2.1)
    have hpk : ∀ p ∈ fs.map Fr.pair, okP p := fun p hp => by
      obtain ⟨f, hf, rfl⟩ := List.mem_map.1 hp
      exact okP_of (HO.out f hf) (HQ.out f hf).2.2.1
    have HPP := Lib.hid (show putP (fs.map Fr.pair) = bs by rw [putB_pairs, hbs])
    have HSC := Lib.hid (show scanS bs = (fs.map Fr.pair, bs.length, false) by rw [← HPP.out]; exact scan_all _ hpk)
    have HPK := Lib.hid hpk
    clear hg hbs hpk
    refine (put_ok ao n cap fs bs w1 HN.out (HXw.out.mono hs1) HF.out HO.out HBS.out (by omega) (by omega)).mono ?_
    rintro e w2 ⟨v, rfl, hown, hb2⟩
    have hcap' := fun ao m c (h : v = .slice ao m c) => own_cap (h ▸ hown)
    have hnil' := fun ao m c (h : v = .slice ao m c) => own_none (h ▸ hown)
    obtain ⟨a3, cap3, hv3, hD3⟩ := own_bytes hown
    have hcap3 := hcap' _ _ _ hv3
    have hnil3 := Lib.hid (hnil' _ _ _ hv3)
    subst hv3
    clear hown hcap' hnil'
    have hbel2 := hb1.trans (hb2.mono hs1)
    have hs2 := hbel2.size
    have h0 := Int.emod_nonneg c0 (show (bs.length : Int) + 1 ≠ 0 by omega)
    have h1 := Int.emod_lt_of_pos c0 (show (0 : Int) < (bs.length : Int) + 1 by omega)
    obtain ⟨ct, hct⟩ : ∃ ct : Nat, c0 % ((bs.length : Int) + 1) = ct := ⟨_, (Int.toNat_of_nonneg h0).symm⟩
    rw [hct] at h1
    have HCT := Lib.hid hct
    clear hct h0
    go_wp2_with fail
    refine (pick_at c0 _ ct (by omega) (by omega) HCT.out w2).mono ?_
    rintro e w' ⟨rfl, rfl⟩
    go_wp2_with fail
    refine (scan_at a3 _ cap3 bs _ _ _ w2 _ rfl HSC.out hD3 (Nat.le_refl _) hwb hnil3.out hcap3 (by omega)).mono ?_
    rintro e w3 ⟨v5, frs, rfl, hmap, hfo, hb3⟩
    obtain ⟨a5, cap5, rfl, _, _, hin5⟩ := hfo.lie
    have hbel3 := hbel2.trans (hb3.mono hs2)
    have hs3 := hbel3.size
    have HMAP := Lib.hid hmap
    clear hmap hfo
    go_wp2_with fail
    refine (sameFs_any ao n cap a5 frs.length cap5 fs frs w3 HN.out rfl HMAP.out.symm ((HX.out.below hbel3 (Nat.le_refl _)).mono hs3) hin5 (by omega) (fun f hf => by have := (HF.out f hf).2.2.2; omega)).mono ?_
    rintro e w4 ⟨rfl, hb4⟩
    have hbel4 := hbel3.trans (hb4.mono hs3)
    have hs4 := hbel4.size
    have hD4 := (hD3.below hb3 (Nat.le_refl _)).below hb4 hb3.size
    have hD4' : BytesIn w4 w4.heap.size a3 bs := hD4.mono (Nat.le_trans hb3.size hb4.size)
    have HD4 := Lib.hid hD4'
    clear hD3 hD4 hD4' hin5
    go_wp2_with fail
    go_loopw [12, 13, 14] (fun wh nn i wr => wr = w4 ∧ ∃ k m : Nat, k ≤ n ∧ i = .int .i64 k ∧ wh = .int .i64 k ∧ nn = .int .i64 m ∧ wAt (fs.map Fr.pair) ct k m ∧ m ≤ ct) (fun _ _ i _ => n - (intOf i).toNat)
    case atStart => exact ⟨rfl, 0, 0, by omega, rfl, rfl, rfl, wAt_zero _ _, by omega⟩
    case round =>
      obtain ⟨rfl, k, m, hk, rfl, rfl, rfl, hwat, hmc⟩ := hrel
      have HWA := Lib.hid hwat
      clear hwat
      have hcell : k < n → ∃ b off, ao = some ⟨b, off, none⟩ ∧ wr.cell? ⟨b, off + k * 2 + 1, none⟩ = some (.slice (fs.getD k Fr.zero).ao (fs.getD k Fr.zero).data.length (fs.getD k Fr.zero).cap) := by
        intro hlt
        rcases HX.out with h0 | ⟨b, off, hb1', hb, hc⟩
        · have := HN.out; rw [h0] at this; simp at this; omega
        · obtain ⟨_, c1, _⟩ := hc k (by have := HN.out; omega)
          rw [← hbel4.cell (p := ⟨b, _, none⟩) hb] at c1
          exact ⟨b, off, hb1', c1⟩
      have hpair : k < n → (fs.map Fr.pair)[k]? = some (fs.getD k Fr.zero).pair := by
        intro hlt
        have h2 : k < fs.length := by have := HN.out; omega
        rw [List.getElem?_map, List.getElem?_eq_getElem h2]
        simp [List.getD, List.getElem?_eq_getElem h2]
      have hpl : (fs.getD k Fr.zero).pair.2 = (fs.getD k Fr.zero).data := rfl
      have hdl : k < n → (fs.getD k Fr.zero).data.length ≤ 20000 := by
        intro hlt
        have h2 : k < fs.length := by have := HN.out; omega
        have h3 : fs.getD k Fr.zero ∈ fs := by simp [List.getD, List.getElem?_eq_getElem h2]
        exact HL20.out _ h3
      generalize fs.getD k Fr.zero = f at hcell hpair hpl hdl
      obtain ⟨fk, fa, fc, fd⟩ := f
      dsimp only at hcell hpl hdl
      have HP := Lib.hid hpair
      have HPL := Lib.hid hpl
      have HCE := Lib.hid hcell
      have HDL := Lib.hid hdl
      clear hpair hpl hcell hdl
      by_cases hgo : k < n ∧ m + 9 + fd.length ≤ ct
      · obtain ⟨hlt, hfit⟩ := hgo
        obtain ⟨b, off, rfl, c1⟩ := HCE.out hlt
        have hnext := wAt_succ (HP.out hlt) HWA.out (by rw [HPL.out]; exact hfit)
        rw [HPL.out] at hnext
        have HNX := Lib.hid hnext
        have i2 : (k : Int) < n := by omega
        have i3 : (m : Int) + 9 + fd.length ≤ ct := by omega
        clear hnext
        go_wp2_with fail
        go_roundw
        case rel => exact ⟨trivial, k + 1, m + (9 + fd.length), by omega, by go_num, by go_num, by go_num, HNX.out, by omega⟩
        case measure => simp [intOf]; omega
      · have hwh : wholeS (fs.map Fr.pair) ct = (k, m) := by
          by_cases hlt : k < n
          · exact wAt_stop (HP.out hlt) HWA.out (by rw [HPL.out]; omega) hmc
          · have hkn : k = (fs.map Fr.pair).length := by rw [List.length_map, HN.out]; omega
            have h5 := HWA.out
            rw [hkn] at h5 ⊢
            exact wAt_end h5
        have HWH := Lib.hid hwh
        clear hwh
        have hslc : ∀ w, (Instr.sliceAt 22 (.slice a3 bs.length cap3) none (some (.int .i64 (ct : Int))) none).run Tryd.prog w = .ok (.slice (subA a3 cap3 0 1) ct cap3) w := fun w => run_sub_h sliceByte sizeByte a3 bs.length cap3 ct (by omega) .i64 ct rfl w
        obtain ⟨ac, hac⟩ : ∃ ac, ac = subA a3 cap3 0 1 := ⟨_, rfl⟩
        simp only [← hac] at hslc
        have HAC := Lib.hid hac
        clear hac
        have hsll : ∀ w, (Instr.sliceAt 29 (.slice ao n cap) none (some (.int .i64 (k : Int))) none).run Tryd.prog w = .ok (.slice (subA ao cap 0 2) k cap) w := fun w => run_sub_h sliceFrame sizeFrame ao n cap k (by omega) .i64 k rfl w
        obtain ⟨al, hal⟩ : ∃ al, al = subA ao cap 0 2 := ⟨_, rfl⟩
        simp only [← hal] at hsll
        have HAL := Lib.hid hal
        clear hal
        by_cases hlt : k < n
        rotate_left
        focus
          have i2 : ¬ (k : Int) < n := by omega
          clear hgo
          go_wp2_with fail
        rotate_left
        focus
          obtain ⟨b, off, rfl, c1⟩ := HCE.out hlt
          have i2 : (k : Int) < n := by omega
          have i3 : ¬ (m : Int) + 9 + fd.length ≤ ct := by omega
          have hfd := HDL.out hlt
          clear hgo
          go_wp2_with fail
        all_goals
          have hc1 : BytesIn wr wr.heap.size ac (bs.take ct) := by
            have := HD4.out.sub (cap := cap3) 0 ct hcap3
            rw [HAC.out]
            simpa using this
          refine (scan_at ac ct cap3 (bs.take ct) ((fs.map Fr.pair).take k) m false wr _ (by rw [List.length_take]; omega) ?_ hc1 (Nat.le_refl _) (hwb.take _) (fun h => hnil3.out (subA_eq_none (HAC.out.symm.trans h))) (by omega) (by omega)).mono ?_
          · have h6 := scan_torn (fs.map Fr.pair) HPK.out ct (by rw [HPP.out]; omega)
            rw [HPP.out, HWH.out] at h6
            exact h6
          rintro e w6 ⟨v6, frs6, rfl, hmap6, hfo6, hb6⟩
          obtain ⟨a6, cap6, rfl, _, _, hin6⟩ := hfo6.lie
          have hbel6 := hbel4.trans (hb6.mono hs4)
          have hs6 := hbel6.size
          have hd6 : ∀ f ∈ frs6, f.data.length ≤ 4611686018427387904 := by
            intro f hf
            have h1 : f.pair ∈ (fs.map Fr.pair).take k := by rw [← hmap6]; exact List.mem_map_of_mem hf
            have h2 := HPK.out _ (List.mem_of_mem_take h1)
            have h3 := h2.2.2.1
            have e : f.pair.2 = f.data := rfl
            rw [e] at h3
            omega
          have HM6 := Lib.hid (show frs6.map Fr.pair = (fs.take k).map Fr.pair by rw [hmap6, List.map_take])
          have HD6 := Lib.hid hd6
          have hl6 : frs6.length ≤ 20000 := by have h1 := congrArg List.length HM6.out; simp at h1; omega
          clear hmap6 hfo6 hd6 hc1
          go_wp2_with fail
          refine (sameFs_any a6 _ cap6 al k cap frs6 (fs.take k) w6 rfl (by rw [List.length_take, HN.out]; omega) HM6.out hin6 (by rw [HAL.out]; exact ((HX.out.below hbel6 (Nat.le_refl _)).mono hs6).take cap k) (by omega) HD6.out).mono ?_
          rintro e wq ⟨rfl, hb7⟩
          have hq := hbel6.trans (hb7.mono hs6)
          clear hin6
          go_wp2_with fail
          have hsq := hq.size
          obtain ⟨r, u, s, hrus⟩ : ∃ r u s, scanS xs = (r, u, s) := ⟨_, _, _, rfl⟩
          have hsp := scanS_put (b := xs) HW.out
          rw [hrus] at hsp
          obtain ⟨hu, hput, hokr⟩ := hsp
          dsimp only at hu hput hokr
          have HR := Lib.hid hrus
          have HPU := Lib.hid hput
          have HOKR := Lib.hid hokr
          have hul : (u : Int) ≤ n2 := by have := HN2.out; omega
          have hul2 : u ≤ n2 := by omega
          clear hrus hput hokr hu
          have hslb : ∀ w, (Instr.sliceAt 22 (.slice bo n2 cap2) none (some (.int .i64 (u : Int))) none).run Tryd.prog w = .ok (.slice (subA bo cap2 0 1) u cap2) w := fun w => run_sub_h sliceByte sizeByte bo n2 cap2 u (by omega) .i64 u rfl w
          obtain ⟨ab, hab⟩ : ∃ ab, ab = subA bo cap2 0 1 := ⟨_, rfl⟩
          simp only [← hab] at hslb
          have HAB := Lib.hid hab
          clear hab
          refine (scan_at bo n2 cap2 xs r u s wq _ HN2.out HR.out (HB.out.below hq (Nat.le_refl _)) hsq HW.out HA2.out hnc2 (by omega)).mono ?_
          rintro e w8 ⟨v8, frs8, rfl, hmap8, hfo8, hb8⟩
          obtain ⟨hwf8, hok8⟩ := own_wf hfo8 (by rw [hmap8]; exact HOKR.out)
          obtain ⟨a8, cap8, rfl, _, _, hin8⟩ := hfo8.lie
          obtain ⟨ys, hys⟩ : ∃ ys, xs.take u = ys := ⟨_, rfl⟩
          have HYS := Lib.hid hys
          have HPB := Lib.hid (show putB frs8 = ys by rw [← hys, ← putB_pairs, hmap8, HPU.out])
          have H9 := Lib.hid (show ys.length = u by rw [← hys, List.length_take]; have := HN2.out; omega)
          clear hys
          have hc8 : frs8.length ≤ 20000 := by have h1 := putB_count frs8; have h2 := H9.out; have h3 := HPB.out; rw [h3] at h1; omega
          have HWF8 := Lib.hid hwf8
          have HOK8 := Lib.hid hok8
          have hq8 := hq.trans (hb8.mono hsq)
          have hs8 := hq8.size
          clear hmap8 hfo8 hwf8 hok8
          go_wp2_with fail
          refine (put_ok a8 _ cap8 frs8 ys w8 rfl hin8 HWF8.out HOK8.out HPB.out (by rw [H9.out]; omega) (by omega)).mono ?_
          rintro e w9 ⟨v9, rfl, hown9, hb9⟩
          obtain ⟨a9, cap9, rfl, hD9⟩ := own_bytes hown9
          have hq9 := hq8.trans (hb9.mono hs8)
          have hs9 := hq9.size
          have hy9 : BytesIn w9 w9.heap.size ab ys := by
            have := ((HB.out.below hq9 (Nat.le_refl _)).mono hs9).sub (cap := cap2) 0 u (by have := HN2.out; omega)
            rw [HAB.out, ← HYS.out]
            simpa using this
          clear hown9
          go_wp2_with fail
          refine (sameB_any a9 _ cap9 ab u cap2 ys w9 rfl H9.out hD9 hy9 (by rw [H9.out]; omega)).mono ?_
          rintro e w10 ⟨rfl, hb10⟩
          go_wp2_with fail
          go_ret
          exact ⟨rfl, hq9.trans (hb10.mono hs9)⟩
  have hsq := hq.size
  obtain ⟨r, u, s, hrus⟩ : ∃ r u s, scanS xs = (r, u, s) := ⟨_, _, _, rfl⟩
  have hsp := scanS_put (b := xs) HW.out
  rw [hrus] at hsp
  obtain ⟨hu, hput, hokr⟩ := hsp
  dsimp only at hu hput hokr
  have HR := Lib.hid hrus
  have HPU := Lib.hid hput
  have HOKR := Lib.hid hokr
  have hul : (u : Int) ≤ n2 := by have := HN2.out; omega
  have hul2 : u ≤ n2 := by omega
  clear hrus hput hokr hu
  have hslb : ∀ w, (Instr.sliceAt 22 (.slice bo n2 cap2) none (some (.int .i64 (u : Int))) none).run Tryd.prog w = .ok (.slice (subA bo cap2 0 1) u cap2) w := fun w => run_sub_h sliceByte sizeByte bo n2 cap2 u (by omega) .i64 u rfl w
  obtain ⟨ab, hab⟩ : ∃ ab, ab = subA bo cap2 0 1 := ⟨_, rfl⟩
  simp only [← hab] at hslb
  have HAB := Lib.hid hab
  clear hab
  refine (scan_at bo n2 cap2 xs r u s wq _ HN2.out HR.out (HB.out.below hq (Nat.le_refl _)) hsq HW.out HA2.out hnc2 (by omega)).mono ?_
  rintro e w8 ⟨v8, frs8, rfl, hmap8, hfo8, hb8⟩
  obtain ⟨hwf8, hok8⟩ := own_wf hfo8 (by rw [hmap8]; exact HOKR.out)
  obtain ⟨a8, cap8, rfl, _, _, hin8⟩ := hfo8.lie
  obtain ⟨ys, hys⟩ : ∃ ys, xs.take u = ys := ⟨_, rfl⟩
  have HYS := Lib.hid hys
  have HPB := Lib.hid (show putB frs8 = ys by rw [← hys, ← putB_pairs, hmap8, HPU.out])
  have H9 := Lib.hid (show ys.length = u by rw [← hys, List.length_take]; have := HN2.out; omega)
  clear hys
  have hc8 : frs8.length ≤ 20000 := by have h1 := putB_count frs8; have h2 := H9.out; have h3 := HPB.out; rw [h3] at h1; omega
  have HWF8 := Lib.hid hwf8
  have HOK8 := Lib.hid hok8
  have hq8 := hq.trans (hb8.mono hsq)
  have hs8 := hq8.size
  clear hmap8 hfo8 hwf8 hok8
  go_wp2_with fail
  refine (put_ok a8 _ cap8 frs8 ys w8 rfl hin8 HWF8.out HOK8.out HPB.out (by rw [H9.out]; omega) (by omega)).mono ?_
  rintro e w9 ⟨v9, rfl, hown9, hb9⟩
  obtain ⟨a9, cap9, rfl, hD9⟩ := own_bytes hown9
  have hq9 := hq8.trans (hb9.mono hs8)
  have hs9 := hq9.size
  have hy9 : BytesIn w9 w9.heap.size ab ys := by
    have := ((HB.out.below hq9 (Nat.le_refl _)).mono hs9).sub (cap := cap2) 0 u (by have := HN2.out; omega)
    rw [HAB.out, ← HYS.out]
    simpa using this
  clear hown9
  go_wp2_with fail
  refine (sameB_any a9 _ cap9 ab u cap2 ys w9 rfl H9.out hD9 hy9 (by rw [H9.out]; omega)).mono ?_
  rintro e w10 ⟨rfl, hb10⟩
  go_wp2_with fail
  go_ret
  exact ⟨rfl, hq9.trans (hb10.mono hs9)⟩
end Go.Proofs.YtllpamkbcjcddaaDoor
