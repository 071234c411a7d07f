/- The reference's Scan: the frames that bytes begin with. Conditions: the bytes' cells lie as their reading says. -/
import Derived.Test.YtnhnabcpkaeaaaaGreatDoorGWalReads22
import Derived.Test.YtnhnabcpkaeaaaaGreatDoorGWalReads12
import Derived.Test.YtnhnabcpkaeaaaaGreatDoorGWalReads21
set_option linter.unusedVariables false
set_option linter.unusedSimpArgs false
namespace Go.Proofs.YtnhnabcpkaeaaaaGreatDoor
open Go.RowKit
set_option maxRecDepth 20000
theorem i64_or_natQ (x y : Nat) (hx : x < 2 ^ 62) (hy : y < 2 ^ 62) : bits .or .i64 (x : Int) (y : Int) = ((x ||| y : Nat) : Int) := by
  show IntKind.i64.wrap ((BitVec.ofInt 64 x ||| BitVec.ofInt 64 y).toNat : Nat) = _
  rw [BitVec.toNat_or, BitVec.toNat_ofInt, BitVec.toNat_ofInt, IntKind.wrap_i64]
  have hor : x ||| y < 2 ^ 62 := Nat.or_lt_two_pow hx hy
  have e : ∀ z : Nat, z < 2 ^ 62 → ((z : Int) % ((2 ^ 64 : Nat) : Int)).toNat = z := by intro z hz; omega
  rw [e x hx, e y hy]
  omega
theorem i64_or_addQ (i a b : Nat) (hb : b < 2 ^ i) (h : 2 ^ i * a + b < 4294967296) : bits .or .i64 ((2 ^ i * a : Nat) : Int) ((b : Nat) : Int) = ((2 ^ i * a + b : Nat) : Int) := by
  rw [i64_or_natQ _ _ (by omega) (by omega), Nat.two_pow_add_eq_or_of_lt hb]
theorem said_bits64Q {a b c d : Int} (ha : 0 ≤ a ∧ a < 256) (hb : 0 ≤ b ∧ b < 256) (hc : 0 ≤ c ∧ c < 256) (hd : 0 ≤ d ∧ d < 256) :
    bits .or .i64 (bits .or .i64 (bits .or .i64 (a * 16777216) (b * 65536)) (c * 256)) d = a * 16777216 + b * 65536 + c * 256 + d := by
  obtain ⟨x, rfl⟩ := Int.eq_ofNat_of_zero_le ha.1
  obtain ⟨y, rfl⟩ := Int.eq_ofNat_of_zero_le hb.1
  obtain ⟨z, rfl⟩ := Int.eq_ofNat_of_zero_le hc.1
  obtain ⟨u, rfl⟩ := Int.eq_ofNat_of_zero_le hd.1
  have e1 := i64_or_addQ 24 x (65536 * y) (by omega) (by omega)
  have e2 := i64_or_addQ 16 (256 * x + y) (256 * z) (by omega) (by omega)
  have e3 := i64_or_addQ 8 (65536 * x + 256 * y + z) u (by omega) (by omega)
  have f1 : (x : Int) * 16777216 = ((2 ^ 24 * x : Nat) : Int) := by omega
  have f2 : (y : Int) * 65536 = ((65536 * y : Nat) : Int) := by omega
  have f3 : (z : Int) * 256 = ((256 * z : Nat) : Int) := by omega
  rw [f1, f2, f3, e1]
  rw [show 2 ^ 24 * x + 65536 * y = 2 ^ 16 * (256 * x + y) by omega, e2]
  rw [show 2 ^ 16 * (256 * x + y) + 256 * z = 2 ^ 8 * (65536 * x + 256 * y + z) by omega, e3]
  omega
theorem said_nat {b : List Int} (hb : BytesWf b) (hl : 4 ≤ b.length) : ((saidS b : Nat) : Int) = b.getD 0 0 * 16777216 + b.getD 1 0 * 65536 + b.getD 2 0 * 256 + b.getD 3 0 := by
  have w0 := hb _ (bytes_mem (k := 0) (xs := b) (by omega))
  have w1 := hb _ (bytes_mem (k := 1) (xs := b) (by omega))
  have w2 := hb _ (bytes_mem (k := 2) (xs := b) (by omega))
  have w3 := hb _ (bytes_mem (k := 3) (xs := b) (by omega))
  unfold saidS; omega
theorem own_lit0 (w : World) (g base : Nat) (hg : g = w.heap.size) (hb : base ≤ w.heap.size) : (w.alloc (.cells #[] 5)).ownsRow base 5 1 (.slice (some ⟨g, 0, none⟩) 0 0) 0 [] := by
  subst hg
  exact World.ownsRow_lit w #[] 0 hb (by unfold maxLen; omega) rfl
theorem heap_two (w : World) (c1 c2 : Array Value) (t1 t2 : TypeId) : ((w.drew.alloc (.cells c1 t1)).alloc (.cells c2 t2)).heap[w.heap.size + 1]? = some (.cells c2 t2 (0, 0)) := by
  have h := heap_alloc_new (w.drew.alloc (.cells c1 t1)) (.cells c2 t2)
  have e : (w.drew.alloc (.cells c1 t1)).heap.size = w.heap.size + 1 := by simp
  rwa [e] at h
theorem heap_one (w : World) (c1 c2 : Array Value) (t1 t2 : TypeId) : ((w.drew.alloc (.cells c1 t1)).alloc (.cells c2 t2)).heap[w.heap.size]? = some (.cells c1 t1 (0, 0)) :=
  ((World.grownBy_alloc _ _ none).block w.heap.size (by simp) (by simp)).trans (heap_alloc_new w.drew (.cells c1 t1))
theorem grown_at {w w' : World} {g n c b : Nat} {o : Obj} (hg : w.grownBy w' (Value.slice (some ⟨g, 0, none⟩) n c).ownBlock) (h : w.heap[b]? = some o) (hne : b ≠ g) : w'.heap[b]? = some o :=
  (hg.block b (Array.getElem?_eq_some_iff.1 h).1 (by simp [Value.ownBlock]; omega)).trans h
theorem own_ne_block {w : World} {base e size n fb : Nat} {v : Value} {xs : List Value} {cs : Array Value} {T : TypeId} {fz : Nat × Nat} (h : w.ownsRow base e size v n xs) (hF : w.heap[fb]? = some (.cells cs T fz)) (he : e ≠ T) : v.ownBlock ≠ some fb := by
  intro hh
  rcases h.2 with ⟨h1, _⟩ | ⟨g, cap, cur, h1, _, g1, _⟩
  · rw [h1] at hh; simp [Value.ownBlock] at hh
  · rw [h1] at hh
    simp [Value.ownBlock] at hh
    subst hh
    rw [hF] at g1
    simp only [Option.some.injEq, Obj.cells.injEq] at g1
    exact he g1.2.1.symm
theorem own_dt {w : World} {base c : Nat} {ao : Option Addr} {l : List Int} (h : w.ownsRow base 5 1 (.slice ao l.length c) l.length (l.map bv)) : BytesIn w w.heap.size ao l := by
  obtain ⟨a', c', hv, hB⟩ := own_bytes h
  cases hv
  exact hB
theorem rput_one (kd : Int) (a : Option Addr) (c : Nat) (dt : List Int) (w : World) (B : Nat) (hx : BytesIn w B a dt) (hB : B ≤ w.heap.size) (ha : a = none → c = 0) (hk : 0 ≤ kd ∧ kd < 256) (hw : BytesWf dt) (hl : dt.length ≤ 1048576) :
    Calls Tryz.prog 75 #[.slice (some ⟨w.heap.size, 0, none⟩) 1 1] (w.alloc (.cells #[.int .i64 kd, .slice a dt.length c] 83)) fun e w' => ∃ a' c', e = .returned (.tuple #[.slice a' (9 + dt.length) c', .int .i64 0]) ∧ w'.ownsRow w.heap.size 5 1 (.slice a' (9 + dt.length) c') (9 + dt.length) ((frameB kd dt).map bv) ∧ Below w.heap.size w w' := by
  have hok : ∀ f ∈ [(⟨kd, a, c, dt⟩ : Fr)], okF f := by
    intro f hf
    rw [List.mem_singleton.1 hf]; unfold okF; dsimp only; omega
  have hpb : putB [(⟨kd, a, c, dt⟩ : Fr)] = frameB kd dt := by simp [putB]
  have hin : FramesIn (w.alloc (.cells #[.int .i64 kd, .slice a dt.length c] 83)) (w.alloc (.cells #[.int .i64 kd, .slice a dt.length c] 83)).heap.size (some ⟨w.heap.size, 0, none⟩) [⟨kd, a, c, dt⟩] := by
    refine Or.inr ⟨w.heap.size, 0, rfl, by simp, fun i hi => ?_⟩
    obtain rfl : i = 0 := by simpa using hi
    refine ⟨Go.Joins.cell_of_block (heap_alloc_new w _) 0, Go.Joins.cell_of_block (heap_alloc_new w _) 1, ?_⟩
    exact (hx.below ((Below.refl w.heap.size w).alloc (Nat.le_refl _) _) hB).mono (by simp; omega)
  refine (rput_any (some ⟨w.heap.size, 0, none⟩) 1 [⟨kd, a, c, dt⟩] (w.alloc _) hin (fun f hf => ?_) (by rw [hpb, frameB_len]; omega) (by simp)).mono ?_
  · rw [List.mem_singleton.1 hf]
    exact ⟨by simp [Lit.wf, IntKind.min, IntKind.max, IntKind.signed, IntKind.bits]; omega, ha, hw, by dsimp only; omega⟩
  rintro e w' ⟨v, he, h1, _, h3⟩
  rw [putE_ok hok] at he h1
  have h4 := h1 rfl
  rw [hpb] at h4
  obtain ⟨a', c', hv, _⟩ := own_bytes h4
  rw [frameB_len] at hv h4
  subst hv
  exact ⟨a', c', he, Go.Joins.ownsRow_le h4 (by simp), ((Below.refl w.heap.size w).alloc (Nat.le_refl _) _).trans (h3.mono (by simp))⟩
theorem frame_same {left : List Int} (hw : BytesWf left) (h4 : 4 ≤ left.length) (h1 : saidS left ≤ 1048576) (h2 : 9 + saidS left ≤ left.length) : (strOfNums (frameB (kindF left) (dataS left))).toList = (strOfNums (left.take (9 + saidS left))).toList ↔ saidS (left.drop 5) = sumS (kindF left :: dataS left) := by
  have hdl := dataS_len h2
  constructor
  · intro h
    have e : frameB (kindF left) (dataS left) = left.take (9 + saidS left) := by
      have h' : (frameB (kindF left) (dataS left)).map (fun n => UInt8.ofNat n.toNat) = (left.take (9 + saidS left)).map (fun n => UInt8.ofNat n.toNat) := by
        have h3 := h
        rw [ByteArray.toList_eq, ByteArray.toList_eq, strOfNums_data, strOfNums_data] at h3
        exact h3
      have inj : ∀ {xs ys : List Int}, BytesWf xs → BytesWf ys → xs.map (fun n => UInt8.ofNat n.toNat) = ys.map (fun n => UInt8.ofNat n.toNat) → xs = ys := by
        intro xs
        induction xs with
        | nil => intro ys _ _ h; cases ys with
          | nil => rfl
          | cons y ys => cases h
        | cons x xs ih => intro ys hx hy h; cases ys with
          | nil => cases h
          | cons y ys =>
            simp only [List.map_cons, List.cons.injEq] at h
            have hx0 := hx x List.mem_cons_self
            have hy0 := hy y List.mem_cons_self
            have e1 : x.toNat = y.toNat := by
              have := congrArg UInt8.toNat h.1
              simp only [UInt8.toNat_ofNat'] at this
              omega
            rw [show x = y by omega, ih (fun z hz => hx z (List.mem_cons_of_mem _ hz)) (fun z hz => hy z (List.mem_cons_of_mem _ hz)) h.2]
      refine inj ?_ ?_ h'
      · have hk := hw _ (bytes_mem (k := 4) (xs := left) (by omega))
        have hd : BytesWf (dataS left) := (hw.drop 9).take _
        have h32 : ∀ n, n < 4294967296 → BytesWf (fourB n) := by
          intro n hn x hx
          simp only [fourB, List.mem_cons, List.not_mem_nil, or_false] at hx
          omega
        have hkd : BytesWf (kindF left :: dataS left) := by
          intro y hy
          rcases List.mem_cons.1 hy with rfl | hy
          · exact hk
          · exact hd y hy
        intro x hx
        unfold frameB at hx
        rcases List.mem_append.1 hx with hx | hx
        · rcases List.mem_append.1 hx with hx | hx
          · rcases List.mem_append.1 hx with hx | hx
            · exact h32 _ (by omega) x hx
            · rw [List.mem_singleton.1 hx]; exact hk
          · exact h32 _ (sumS_lt hkd) x hx
        · exact hd x hx
      · exact hw.take _
    have hsplit : left = frameB (kindF left) (dataS left) ++ left.drop (9 + saidS left) := by
      rw [e, List.take_append_drop]
    generalize kindF left = K at hsplit ⊢
    generalize dataS left = D at hsplit ⊢
    rw [hsplit, frame_drop5, said_four]
  · intro h
    have hst := step_e h4 h1 h2 h
    have := (step_put hw hst).1
    rw [hdl] at this
    rw [this]
set_option maxHeartbeats 4000000 in
theorem rscan_any (ao : Option Addr) (cap : Nat) (xs : List Int) (w : World) (hx : BytesIn w w.heap.size ao xs) (hw : BytesWf xs) (hao : ao = none → cap = 0) (hcap : xs.length ≤ cap) (hl : xs.length ≤ 1099511627776) :
    Calls Tryz.prog 36 #[.slice ao xs.length cap] w (ScanPost xs w) := by
  obtain ⟨i0, hi, hz0, hz1, hz2⟩ := info_parts infoFrame
  have HX := Lib.hid hx
  have HA := Lib.hid hao
  have HC := Lib.hid hcap
  clear hx hao
  go_enter Tryz.func36, Tryz.ntmps36
  go_wp2_with fail
  go_loopw [5, 6, 7, 8, 9, 10, 11] (fun v u _ _ _ _ _ wr => ∃ (frs : List Fr) (used : Nat) (vv : Value), vv = v ∧ u = .int .i64 used ∧ frs.length ≤ used ∧ used ≤ xs.length ∧ FramesOwn wr w.heap.size vv frs ∧ scanS xs = joinS (frs.map Fr.pair) used (scanS (xs.drop used)) ∧ Below w.heap.size w wr) (fun _ u _ _ _ _ _ _ => xs.length - (intOf u).toNat)
  case atStart => exact ⟨[], 0, _, rfl, rfl, by simp, by omega, FramesOwn.nil _ _, by simp [joinS], Below.refl _ _⟩
  case round =>
    obtain ⟨frs, used, v, hv, rfl, hfl, hul, hfo, hsc, hbel⟩ := hrel
    subst hv
    have HF := Lib.hid hfo
    have HS := Lib.hid hsc
    clear hfo hsc
    have hs := hbel.size
    obtain ⟨m, hm⟩ : ∃ m, m + used = xs.length := ⟨xs.length - used, by omega⟩
    obtain ⟨left, hleft⟩ : ∃ left, left = xs.drop used := ⟨_, rfl⟩
    have hwl : BytesWf left := by rw [hleft]; exact hw.drop used
    have HM := Lib.hid (show left.length = m by rw [hleft, List.length_drop]; omega)
    have hbi := (HX.out.below hbel (Nat.le_refl _)).drop used HC.out
    rw [← hleft] at hbi
    have HD := Lib.hid hleft
    have hsl : ∀ w', (Instr.sliceAt 22 (.slice ao xs.length cap) (some (.int .i64 used)) none none).run Tryz.prog w' = .ok (.slice (subA ao cap used 1) m (cap - used)) w' := fun w' => by
      have h1 := run_sub_l sliceByte sizeByte ao xs.length cap used hul .i64 used rfl w'
      rwa [show xs.length - used = m by omega] at h1
    have hln : subA ao cap used 1 = none → cap - used = 0 := fun h => by have := HA.out (subA_eq_none h); omega
    generalize subA ao cap used 1 = lo at hsl hbi hln
    have hmc : m ≤ cap - used := by omega
    generalize cap - used = c at hsl hln hmc
    have HM2 := Lib.hid hm
    have HLN := Lib.hid hln
    clear hleft hm hln
    by_cases h4 : m < 4
    · have i1 : ¬ (4 : Int) ≤ (xs.length : Int) - used := by have := HM2.out; omega
      have hj := join_stop (s := false) (by rw [← HD.out]; exact step_a (by rw [HM.out]; exact h4)) HS.out
      have HJ := Lib.hid hj
      clear hj hsl
      go_wp2_with fail
      go_ret3
      exact scan_post HJ.out HF.out hbel
    · have i1 : (4 : Int) ≤ (xs.length : Int) - used := by have := HM2.out; omega
      have hsn := said_nat hwl (by rw [HM.out]; omega)
      obtain ⟨n, hn⟩ : ∃ n, saidS left = n := ⟨_, rfl⟩
      have hn32 : n < 4294967296 := hn ▸ said_lt hwl
      rw [hn] at hsn
      have HN := Lib.hid hn
      clear hn
      have hHM := HM.out
      rcases hbi with h0 | ⟨b, off, rfl, hb, hc⟩
      · rw [h0] at hHM; simp at hHM; omega
      have c0 := hc 0 (by omega)
      rw [Nat.add_zero] at c0
      have c1 := hc 1 (by omega)
      have c2 := hc 2 (by omega)
      have c3 := hc 3 (by omega)
      have hbi : BytesIn wr w.heap.size (some ⟨b, off, none⟩) left := Or.inr ⟨b, off, rfl, hb, hc⟩
      have w0 := hwl _ (bytes_mem (k := 0) (xs := left) (by omega))
      have w1 := hwl _ (bytes_mem (k := 1) (xs := left) (by omega))
      have w2 := hwl _ (bytes_mem (k := 2) (xs := left) (by omega))
      have w3 := hwl _ (bytes_mem (k := 3) (xs := left) (by omega))
      have HBI := Lib.hid hbi
      clear hc hbi hHM
      generalize left.getD 0 0 = x0 at c0 w0 hsn
      generalize left.getD 1 0 = x1 at c1 w1 hsn
      generalize left.getD 2 0 = x2 at c2 w2 hsn
      generalize left.getD 3 0 = x3 at c3 w3 hsn
      have hbits : bits .or .i64 (bits .or .i64 (bits .or .i64 (x0 * 16777216) (x1 * 65536)) (x2 * 256)) x3 = (n : Int) := by rw [hsn]; exact said_bits64Q w0 w1 w2 w3
      have l0 : (0 : Int) < m := by omega
      have l1 : (1 : Int) < m := by omega
      have l2 : (2 : Int) < m := by omega
      have l3 : (3 : Int) < m := by omega
      clear hsn
      go_wp2_with fail
      clear hsl
      go_quiet (fail)
      have hb1 : Below wr.heap.size wr (wr.drewN nq) := below_drewN (Below.refl _ _) _
      generalize wr.drewN nq = w4 at hb1 ⊢
      have HF1 := Lib.hid (HF.out.below hb1 (Nat.le_refl _))
      have HBI1 := Lib.hid (HBI.out.below hb1 hs)
      have hbel1 := hbel.trans (hb1.mono hs)
      have hs1 := hbel1.size
      clear HF HBI hbits c0 c1 c2 c3
      by_cases h5 : 1048576 < n
      · have i2 : (1048576 : Int) < n := by omega
        have hj := join_stop (s := true) (by rw [← HD.out]; exact step_b (by rw [HM.out]; omega) (by rw [HN.out]; exact h5)) HS.out
        have HJ := Lib.hid hj
        clear hj
        go_wp2_with fail
        go_ret3
        exact scan_post HJ.out HF1.out hbel1
      have i2 : ¬ (1048576 : Int) < n := by omega
      by_cases h6 : m < 9 + n
      · have i3 : (m : Int) < 9 + (n : Int) := by omega
        have hj := join_stop (s := false) (by rw [← HD.out]; exact step_c (by rw [HM.out]; omega) (by rw [HN.out]; omega) (by rw [HM.out, HN.out]; exact h6)) HS.out
        have HJ := Lib.hid hj
        clear hj
        go_wp2_with fail
        go_ret3
        exact scan_post HJ.out HF1.out hbel1
      have i3 : ¬ (m : Int) < 9 + (n : Int) := by omega
      rcases HBI1.out with h0 | ⟨b1, off1, hbo, hb, hc⟩
      · have := HM.out; rw [h0] at this; simp at this; omega
      cases hbo
      have hHM := HM.out
      have c4 := hc 4 (by omega)
      have k4 := hwl _ (bytes_mem (k := 4) (xs := left) (by omega))
      have hd9 := HBI1.out.sub (cap := c) 9 n (by omega)
      have hsl9 : ∀ w, (Instr.sliceAt 22 (.slice (some ⟨b, off, none⟩) m c) (some (.int .i64 9)) (some (.int .i64 (9 + (n : Int)))) none).run Tryz.prog w = .ok (.slice (subA (some ⟨b, off, none⟩) c 9 1) n (c - 9)) w := fun w => by
        have := run_sub_lh sliceByte sizeByte (some ⟨b, off, none⟩) m c 9 (9 + n) (by omega) (by omega) .i64 .i64 9 (9 + (n : Int)) rfl (by omega) w
        rwa [Nat.add_sub_cancel_left] at this
      have hslh : ∀ w, (Instr.sliceAt 22 (.slice (some ⟨b, off, none⟩) m c) none (some (.int .i64 (9 + (n : Int)))) none).run Tryz.prog w = .ok (.slice (some ⟨b, off, none⟩) (9 + n) c) w := fun w' => by
        have h1 := run_sub_h sliceByte sizeByte (some ⟨b, off, none⟩) m c (9 + n) (by omega) .i64 (9 + (n : Int)) (by omega) w'
        rwa [subA_zero _ _ _ (by intro a ha; cases ha; rfl)] at h1
      have h9n : subA (some ⟨b, off, none⟩) c 9 1 = none → c - 9 = 0 := fun h => by have := subA_eq_none h; cases this
      generalize subA (some ⟨b, off, none⟩) c 9 1 = a9 at hd9 hsl9 h9n
      have hks : kindF left = left.getD 4 0 := rfl
      have hds : dataS left = (left.drop 9).take n := by unfold dataS; rw [HN.out]
      have hdl : ((left.drop 9).take n).length = n := by rw [List.length_take, List.length_drop]; omega
      have hdw : BytesWf ((left.drop 9).take n) := (hwl.drop 9).take n
      obtain ⟨kd, hkd⟩ : ∃ kd, kd = left.getD 4 0 := ⟨_, rfl⟩
      rw [← hkd] at c4 k4 hks
      obtain ⟨dt, hdt⟩ : ∃ dt, dt = (left.drop 9).take n := ⟨_, rfl⟩
      rw [← hdt] at hd9 hds hdl hdw
      have HK := Lib.hid hks
      have HT := Lib.hid hds
      have H9 := Lib.hid h9n
      have HD9 := Lib.hid hd9
      have HSH := Lib.hid hslh
      have hS : ∀ w', Below w.heap.size w4 w' → w'.cell? ⟨b, off + 4, none⟩ = some (.int .u8 kd) := fun w' h => (h.cell (p := ⟨b, off + 4, none⟩) hb).trans c4
      have HSS := Lib.hid hS
      have hrf : Below w.heap.size w4 w4 := Below.refl _ _
      clear hkd hdt hks hds h9n hd9 hslh hc hHM hS
      subst hdl
      have n1 : IntKind.i64.wrap (9 + (dt.length : Int)) = 9 + (dt.length : Int) := IntWalk.i64_in _ (by omega)
      have n2 : IntKind.i64.wrap kd = kd := IntWalk.i64_in _ (by omega)
      have l4 : (4 : Int) < m := by omega
      go_wp2_with fail
      go_region_held3 (fun w' => w'.cell? ⟨b, off + 4, none⟩ = some (.int .u8 kd)) (((repeat (refine Eq.trans (World.cell?_setCell_far _ _ _ _ ?_) ?_; (first | (dsimp only; omega) | (simp; omega)))); refine HSS.out _ ?_; repeat (first | with_reducible assumption | with_reducible exact Below.refl _ _ | refine Below.alloc ?_ (by first | omega | (simp; omega)) _ | with_reducible refine Below.drew ?_))) (first | (refine step_append_bytes (by rfl) (.tmp 57) (.tmp 61) (by rfl) w4.heap.size _ [] (by rfl) (World.ownsRow_lit w4.drew #[] 0 (by simp) (by unfold maxLen; omega) rfl) a9 (c - 9) dt (by rfl) w.heap.size (HD9.out.below (((Below.refl w.heap.size w4).drew).alloc (by simp; try omega) _) (Nat.le_refl _)) H9.out (by simp; omega) (by simp; try omega) ?_; intro v5 w5 hown5 hg5; have hb5 : Below w4.heap.size w4 w5 := Below.grown (((Below.refl w4.heap.size w4).drew).alloc (by simp; try omega) _) hg5 (by simp; try omega) (fun k hk => by simp [Value.ownBlock] at hk; omega); have hb5' : Below w.heap.size w4 w5 := hb5.mono hs1; have hs5 := hb5.size; obtain ⟨a5, c5, hv5, _⟩ := own_bytes (l := dt) hown5; subst hv5) | (refine step_append_bytes (by rfl) (.tmp 57) (.tmp 61) (by rfl) w4.heap.size _ [] (by rfl) ((World.ownsRow_lit w4.drew #[] 0 (by simp) (by unfold maxLen; omega) rfl).alloc _) a9 (c - 9) dt (by rfl) w.heap.size (HD9.out.below ((((Below.refl w.heap.size w4).drew).alloc (by simp; try omega) _).alloc (by simp; try omega) _) (Nat.le_refl _)) H9.out (by simp; omega) (by simp; try omega) ?_; intro v5 w5 hown5 hg5; have hb5 : Below w4.heap.size w4 w5 := Below.grown ((((Below.refl w4.heap.size w4).drew).alloc (by simp; try omega) _).alloc (by simp; try omega) _) hg5 (by simp; try omega) (fun k hk => by simp [Value.ownBlock] at hk; omega); have hb5' : Below w.heap.size w4 w5 := hb5.mono hs1; have hs5 := hb5.size; obtain ⟨a5, c5, hv5, _⟩ := own_bytes (l := dt) hown5; subst hv5; have hF5 : w5.heap[w4.heap.size + 1]? = some (.cells #[.int .i64 0, .slice none 0 0] 83 (0, 0)) := grown_at hg5 (heap_two w4 _ _ _ _) (by simp); have d0 : w5.cell? ⟨w4.heap.size + 1, 0, none⟩ = some (.int .i64 0) := Go.Joins.cell_of_block hF5 0; have d1 : w5.cell? ⟨w4.heap.size + 1, 1, none⟩ = some (.slice none 0 0) := Go.Joins.cell_of_block hF5 1; have f0 : w5.frozen? ⟨w4.heap.size + 1, 0, none⟩ = false := Go.Joins.unfrozen_of_block hF5 0; have f1 : w5.frozen? ⟨w4.heap.size + 1, 1, none⟩ = false := Go.Joins.unfrozen_of_block hF5 1) | (refine step_append_bytes (by rfl) (.tmp 57) (.tmp 61) (by rfl) w4.heap.size (.slice (some ⟨w4.heap.size + 1, 0, none⟩) 0 0) [] (by rfl) (own_lit0 (w4.drew.alloc (.cells #[.int .i64 0, .slice none 0 0] 83)) (w4.heap.size + 1) _ (by simp) (by simp)) a9 (c - 9) dt (by rfl) w.heap.size (HD9.out.below ((((Below.refl w.heap.size w4).drew).alloc (by simp; try omega) _).alloc (by simp; try omega) _) (Nat.le_refl _)) H9.out (by simp; omega) (by simp; try omega) ?_; intro v5 w5 hown5 hg5; have hb5 : Below w4.heap.size w4 w5 := Below.grown ((((Below.refl w4.heap.size w4).drew).alloc (by simp; try omega) _).alloc (by simp; try omega) _) hg5 (by simp; try omega) (fun k hk => by simp [Value.ownBlock] at hk; omega); have hb5' : Below w.heap.size w4 w5 := hb5.mono hs1; have hs5 := hb5.size; obtain ⟨a5, c5, hv5, _⟩ := own_bytes (l := dt) hown5; subst hv5; have hF5 : w5.heap[w4.heap.size]? = some (.cells #[.int .i64 0, .slice none 0 0] 83 (0, 0)) := grown_at hg5 (heap_one w4 _ _ _ _) (by simp); have d0 : w5.cell? ⟨w4.heap.size, 0, none⟩ = some (.int .i64 0) := Go.Joins.cell_of_block hF5 0; have d1 : w5.cell? ⟨w4.heap.size, 1, none⟩ = some (.slice none 0 0) := Go.Joins.cell_of_block hF5 1; have f0 : w5.frozen? ⟨w4.heap.size, 0, none⟩ = false := Go.Joins.unfrozen_of_block hF5 0; have f1 : w5.frozen? ⟨w4.heap.size, 1, none⟩ = false := Go.Joins.unfrozen_of_block hF5 1))
      focus
        have hown7 := World.ownsRow.alloc (show w5.ownsRow w4.heap.size 5 1 (.slice a5 dt.length c5) dt.length (dt.map bv) from hown5) (.cells #[.int .i64 kd, .slice a5 dt.length c5] 83)
        have hF7 := heap_alloc_new w5 (.cells #[.int .i64 kd, .slice a5 dt.length c5] 83)
        have hb7 := hb5.alloc hs5 (.cells #[.int .i64 kd, .slice a5 dt.length c5] 83)
        have hfb := hs5
        clear hown5 hg5 hb5 hb5' hs5
        generalize w5.alloc (.cells #[.int .i64 kd, .slice a5 dt.length c5] 83) = w7 at hF7 hown7 hb7 ⊢
        generalize hfe : w5.heap.size = fb at hF7 hfb ⊢
        clear hfe
      rotate_left
      focus
        have hown5' : w5.ownsRow w4.heap.size 5 1 (.slice a5 dt.length c5) dt.length (dt.map bv) := hown5
        have hF7 : ((w5.setCell ⟨w4.heap.size + 1, 0, none⟩ (.int .i64 kd)).setCell ⟨w4.heap.size + 1, 1, none⟩ (.slice a5 dt.length c5)).heap[(w4.heap.size + 1)]? = some (.cells #[.int .i64 kd, .slice a5 dt.length c5] 83 (0, 0)) := Go.Joins.block_setCell (Go.Joins.block_setCell hF5 (.int .i64 kd)) (.slice a5 dt.length c5)
        have hne := own_ne_block hown5' hF5 (by decide)
        have hown7 := ownsRow_setCell_other (ownsRow_setCell_other hown5' (a := ⟨w4.heap.size + 1, 0, none⟩) hne (.int .i64 kd)) (a := ⟨w4.heap.size + 1, 1, none⟩) hne (.slice a5 dt.length c5)
        have hb7 : Below w4.heap.size w4 ((w5.setCell ⟨w4.heap.size + 1, 0, none⟩ (.int .i64 kd)).setCell ⟨w4.heap.size + 1, 1, none⟩ (.slice a5 dt.length c5)) := (hb5.setCell (p := ⟨w4.heap.size + 1, 0, none⟩) (by simp) _).setCell (p := ⟨w4.heap.size + 1, 1, none⟩) (by simp) _
        have hfb : w4.heap.size ≤ (w4.heap.size + 1) := by omega
        clear hown5 hg5 hb5 hb5' hs5 hown5' hne d0 d1 f0 f1 hF5
        generalize (w5.setCell ⟨w4.heap.size + 1, 0, none⟩ (.int .i64 kd)).setCell ⟨w4.heap.size + 1, 1, none⟩ (.slice a5 dt.length c5) = w7 at hF7 hown7 hb7 ⊢
        generalize hfe : (w4.heap.size + 1) = fb at hF7 hfb ⊢
        clear hfe
      rotate_left
      focus
        have hown5' : w5.ownsRow w4.heap.size 5 1 (.slice a5 dt.length c5) dt.length (dt.map bv) := hown5
        have hF7 : ((w5.setCell ⟨w4.heap.size, 0, none⟩ (.int .i64 kd)).setCell ⟨w4.heap.size, 1, none⟩ (.slice a5 dt.length c5)).heap[w4.heap.size]? = some (.cells #[.int .i64 kd, .slice a5 dt.length c5] 83 (0, 0)) := Go.Joins.block_setCell (Go.Joins.block_setCell hF5 (.int .i64 kd)) (.slice a5 dt.length c5)
        have hne := own_ne_block hown5' hF5 (by decide)
        have hown7 := ownsRow_setCell_other (ownsRow_setCell_other hown5' (a := ⟨w4.heap.size, 0, none⟩) hne (.int .i64 kd)) (a := ⟨w4.heap.size, 1, none⟩) hne (.slice a5 dt.length c5)
        have hb7 : Below w4.heap.size w4 ((w5.setCell ⟨w4.heap.size, 0, none⟩ (.int .i64 kd)).setCell ⟨w4.heap.size, 1, none⟩ (.slice a5 dt.length c5)) := (hb5.setCell (p := ⟨w4.heap.size, 0, none⟩) (by simp) _).setCell (p := ⟨w4.heap.size, 1, none⟩) (by simp) _
        clear hown5 hg5 hb5 hb5' hs5 hown5' hne d0 d1 f0 f1 hF5
        generalize (w5.setCell ⟨w4.heap.size, 0, none⟩ (.int .i64 kd)).setCell ⟨w4.heap.size, 1, none⟩ (.slice a5 dt.length c5) = w7 at hF7 hown7 hb7 ⊢
        obtain ⟨fb, hfe⟩ : ∃ fb, fb = w4.heap.size := ⟨_, rfl⟩
        rw [← hfe] at hF7
        simp only [← hfe]
        have hfb : w4.heap.size ≤ fb := by omega
        clear hfe
      rotate_left
      all_goals
        have hb7w : Below w.heap.size w w7 := hbel1.trans (hb7.mono hs1)
        have hs7 := hb7.size
        have hbi7 := HBI1.out.below hb7 hs1
        have e0 : w7.cell? ⟨fb, 0, none⟩ = some (.int .i64 kd) := Go.Joins.cell_of_block hF7 0
        have e1 : w7.cell? ⟨fb, 1, none⟩ = some (.slice a5 dt.length c5) := Go.Joins.cell_of_block hF7 1
        have hfl7 := (Array.getElem?_eq_some_iff.1 hF7).1
        have HBI7 := Lib.hid hbi7
        have HO7 := Lib.hid hown7
        have HN5 := Lib.hid (own_none hown7)
        have HFB := Lib.hid hF7
        clear hF7 hown7 n1 n2 hbi7 hrf hsl9 HD9 HSS
        go_wp2_with fail
        refine (rput_one kd a5 c5 dt w7 _ (own_dt HO7.out) (Nat.le_refl _) HN5.out k4 hdw (by omega)).mono ?_
        rintro e w8 ⟨a8, c8, rfl, hown8, hb8⟩
        have hs8 := hb8.size
        obtain ⟨g8, c8', hv8⟩ := own_pos_rp hown8 (by omega)
        cases hv8
        have hin8 := own_inF (by rw [frameB_len]) hown8
        have hbi8 := HBI7.out.below hb8 (by omega)
        have hb78 : Below w4.heap.size w4 w8 := hb7.trans (hb8.mono hs7)
        have hbel8 : Below w.heap.size w w8 := hbel1.trans (hb78.mono hs1)
        have hlen9 : (left.take (9 + dt.length)).length = 9 + dt.length := by rw [List.length_take, HM.out]; omega
        have cv1 : ∀ q, (convert 22 9 (.slice (some ⟨g8, 0, none⟩) (9 + dt.length) c8)).run Tryz.prog (w8.drewN q) = .ok (.string (strOfNums (frameB kd dt))) (w8.drewN q) := fun q => by
          rcases hin8 with h0 | ⟨b', o', h1, _, h3⟩
          · have := congrArg List.length h0; rw [frameB_len] at this; simp at this
          · cases h1
            exact run_convert_bytes_arg (P := Tryz.prog) (w8.drewN q) 22 5 Tryz.underlying22 (by kernel_rfl) g8 0 (9 + dt.length) c8 (frameB kd dt) (by rw [frameB_len]) (fun i hi => h3 i (by rw [frameB_len]; exact hi)) 9 (by kernel_rfl)
        have cv2 : ∀ q, (convert 22 9 (.slice (some ⟨b, off, none⟩) (9 + dt.length) c)).run Tryz.prog (w8.drewN q) = .ok (.string (strOfNums (left.take (9 + dt.length)))) (w8.drewN q) := fun q => by
          rcases hbi8 with h0 | ⟨b', o', h1, _, h3⟩
          · have := HM.out; rw [h0] at this; simp at this; omega
          · cases h1
            refine run_convert_bytes_arg (P := Tryz.prog) (w8.drewN q) 22 5 Tryz.underlying22 (by kernel_rfl) b off (9 + dt.length) c (left.take (9 + dt.length)) hlen9 (fun i hi => ?_) 9 (by kernel_rfl)
            have h4 := h3 i (by rw [HM.out]; omega)
            have e : (left.take (9 + dt.length)).getD i 0 = left.getD i 0 := by
              simp [List.getD, List.getElem?_take, hi]
            rw [e]
            exact h4
        have hsame := frame_same hwl (by rw [HM.out]; omega) (by rw [HN.out]; omega) (by rw [HM.out, HN.out]; omega)
        rw [HK.out, HT.out, HN.out] at hsame
        generalize strOfNums (frameB kd dt) = S1 at cv1 hsame
        generalize strOfNums (left.take (9 + dt.length)) = S2 at cv2 hsame
        have n1 : IntKind.i64.wrap (9 + (dt.length : Int)) = 9 + (dt.length : Int) := IntWalk.i64_in _ (by omega)
        have hslh := HSH.out
        have e0' : w8.cell? ⟨fb, 0, none⟩ = some (.int .i64 kd) := (hb8.cell (p := ⟨fb, 0, none⟩) hfl7).trans e0
        have e1' : w8.cell? ⟨fb, 1, none⟩ = some (.slice a5 dt.length c5) := (hb8.cell (p := ⟨fb, 1, none⟩) hfl7).trans e1
        clear hin8 hbi8 hown8 hlen9 e0 e1
        by_cases hz : saidS (left.drop 5) = sumS (kd :: dt)
        · have hq : (S1.toList == S2.toList) = true := by simp [hsame.2 hz]
          have hst : stepS (xs.drop used) = .one kd dt := by
            rw [← HD.out, HK.out.symm, HT.out.symm]
            exact step_e (by rw [HM.out]; omega) (by rw [HN.out]; omega) (by rw [HM.out, HN.out]; omega) (by rw [HK.out, HT.out]; exact hz)
          have hj := join_one hst HS.out
          have HJ := Lib.hid hj
          clear hsame hz hst hj
          go_wp2_with fail
          go_quiet (fail)
          clear cv1 cv2 hslh n1 hq
          have hb9 : Below w8.heap.size w8 (w8.drewN nq) := below_drewN (Below.refl _ _) _
          have e0 : (w8.drewN nq).cell? ⟨fb, 0, none⟩ = some (.int .i64 kd) := e0'
          have e1 : (w8.drewN nq).cell? ⟨fb, 1, none⟩ = some (.slice a5 dt.length c5) := e1'
          generalize w8.drewN nq = w9 at hb9 e0 e1 ⊢
          have hs9 := hb9.size
          have hb79 : Below w7.heap.size w7 w9 := hb8.trans (hb9.mono hs8)
          have hbel9 : Below w.heap.size w w9 := hbel8.trans (hb9.mono (by omega))
          have HFR := Lib.hid ((HF1.out.below hb78 (Nat.le_refl _)).below hb9 (Nat.le_refl _))
          clear e0' e1'
          go_wp2_with (at_builtin; refine wpList_append_own _ rfl (.tmp 80) (.tmp 82) 76 rfl w.heap.size 83 i0 (.agg #[.int .i64 0, .slice none 0 0]) 2 32 Tryz.underlying76 hi hz0 hz1 hz2 rfl (by decide) v frs.length (frs.flatMap frCells) rfl (World.ownsRow.alloc HFR.out.1 _) ⟨w9.heap.size, 0, none⟩ 1 1 [.int .i64 kd, .slice a5 dt.length c5] rfl rfl (frame_cells_new _ _ _ _) (by simp [Value.oneCell']) (by unfold maxLen; omega) (by omega) (by simp; omega) ?_)
          intro v10 w10 hown10 hg10 _
          have hfo10 := HF1.out.snoc (f := ⟨kd, a5, c5, dt⟩) hs1 hb7 HO7.out (hb79.trans ((Below.refl w9.heap.size w9).alloc (Nat.le_refl _) _ |>.mono (by omega))) hown10 hg10
          have hbel10 : Below w.heap.size w w10 := (hbel9.alloc (by omega) _).grown hg10 (by simp; omega) (fun k hk => (HFR.out.1.lt k hk).1)
          have HF10 := Lib.hid hfo10
          clear hown10 hg10 hfo10 e0 e1
          go_wp2_with fail
          go_roundw
          case rel => exact ⟨frs ++ [⟨kd, a5, c5, dt⟩], used + 9 + dt.length, v10, rfl, by go_num, by simp; omega, by have := HM2.out; omega, HF10.out, by rw [List.map_append]; exact HJ.out, hbel10⟩
          case measure => have := HM2.out; simp [intOf]; omega
        · have hq : (S1.toList == S2.toList) = false := by
            simp only [beq_eq_false_iff_ne, ne_eq]; exact fun h => hz (hsame.1 h)
          have hj := join_stop (s := true) (by rw [← HD.out]; exact step_d (by rw [HM.out]; omega) (by rw [HN.out]; omega) (by rw [HM.out, HN.out]; omega) (by rw [HK.out, HT.out]; exact hz)) HS.out
          have HJ := Lib.hid hj
          clear hsame hz hj
          go_wp2_with fail
          go_quiet (fail)
          clear cv1 cv2 hslh n1 hq
          have hb9 : Below w8.heap.size w8 (w8.drewN nq) := below_drewN (Below.refl _ _) _
          generalize w8.drewN nq = w9 at hb9 ⊢
          have HFR := Lib.hid ((HF1.out.below hb78 (Nat.le_refl _)).below hb9 (Nat.le_refl _))
          have hbel9 : Below w.heap.size w w9 := hbel8.trans (hb9.mono (by omega))
          go_wp2_with fail
          go_ret3
          exact scan_post HJ.out HFR.out hbel9
end Go.Proofs.YtnhnabcpkaeaaaaGreatDoor
/- The document's Read of a file. Conditions: the bytes lie as they read; they are not too many. -/
namespace Go.Proofs.YtnhnabcpkaeaaaaGreatDoor
open Go.RowKit
set_option maxRecDepth 20000
def RReadAt (bs : List Int) (w : World) (e : Ending) (w' : World) : Prop :=
  match doAll WP.zero (scanS bs).1 with
  | none => e = .returned (.tuple #[.pointer none, .int .i64 0, .bool false]) ∧ Below w.heap.size w w'
  | some t => ∃ sb, e = .returned (.tuple #[.pointer (some ⟨sb, 0, none⟩), .int .i64 ((scanS bs).2.1 : Nat), .bool (!(scanS bs).2.2)]) ∧ RSayIs w' w.heap.size sb t ∧ Below w.heap.size w w'
theorem rread_none {bs : List Int} {w w' : World} (h : doAll WP.zero (scanS bs).1 = none) (hb : Below w.heap.size w w') : RReadAt bs w (.returned (.tuple #[.pointer none, .int .i64 0, .bool false])) w' := by
  unfold RReadAt
  rw [h]
  exact ⟨rfl, hb⟩
theorem rread_some {bs : List Int} {w w' : World} {t : WP} {u : Nat} {sp : Bool} (sb : Nat) (h : doAll WP.zero (scanS bs).1 = some t) (hu : (scanS bs).2.1 = u) (hs : (scanS bs).2.2 = sp) (hr : RSayIs w' w.heap.size sb t) (hb : Below w.heap.size w w') : RReadAt bs w (.returned (.tuple #[.pointer (some ⟨sb, 0, none⟩), .int .i64 (u : Nat), .bool (!sp)])) w' := by
  unfold RReadAt
  rw [h, hu, hs]
  exact ⟨sb, rfl, hr, hb⟩
theorem RSayIs.ofW {w : World} {B sb : Nat} (hk : w.heap[sb]? = some (.cells #[.int .i64 0, .int .i64 0, .int .i64 0, .int .i64 0, .slice none 0 0] 63 (0, 0))) (hB : B ≤ sb) : RSayIs w B sb WP.zero := ⟨_, [], ⟨hk, EnsOwn.nil _ _, hB⟩, rfl⟩
set_option maxHeartbeats 4000000 in
theorem rread18_any (ao : Option Addr) (n cap : Nat) (bs : List Int) (w : World) (hn : bs.length = n) (hx : BytesIn w w.heap.size ao bs) (hw : BytesWf bs) (hnil : ao = none → cap = 0) (hcap : n ≤ cap) (hl : n ≤ 1000000) :
    Calls Tryz.prog 9 #[.slice ao n cap] w (RReadAt bs w) := by
  subst hn
  have HX := Lib.hid hx
  have HW := Lib.hid hw
  have HNIL := Lib.hid hnil
  clear hx hw hnil
  go_enter Tryz.func9, Tryz.ntmps9
  go_wp2_with fail
  refine (rscan_any ao cap bs w HX.out HW.out HNIL.out hcap (by omega)).mono ?_
  rintro e w2 ⟨v, frs, rfl, hfp, hfo, hb2⟩
  have hfrs := scan_frs HW.out hl hfp hfo
  obtain ⟨fa, fc, hv, hfc, hfn, hfi⟩ := hfo.lie
  subst hv
  obtain ⟨u, hu⟩ : ∃ u, (scanS bs).2.1 = u := ⟨_, rfl⟩
  obtain ⟨sp, hsp⟩ : ∃ sp, (scanS bs).2.2 = sp := ⟨_, rfl⟩
  have hda : ∀ f ∈ frs, f.data.length ≤ f.cap := fun f hf => own_capG (hfo.2.1 f hf)
  rw [hu, hsp]
  rw [hu] at hfrs
  have HU := Lib.hid hu
  have HSP := Lib.hid hsp
  have HFP := Lib.hid hfp
  have HFI := Lib.hid hfi
  have HFRS := Lib.hid hfrs
  have HDA := Lib.hid hda
  have HB2 := Lib.hid hb2
  have hb3 := (Below.refl w2.heap.size w2).alloc (Nat.le_refl _) (.cells #[.int .i64 0, .int .i64 0, .int .i64 0, .int .i64 0, .slice none 0 0] 63)
  have hk3 := heap_alloc_new w2 (.cells #[.int .i64 0, .int .i64 0, .int .i64 0, .int .i64 0, .slice none 0 0] 63)
  have hz2 := hb2.size
  clear hu hsp hfp hfi hfrs hfo hb2 hda
  go_upto_region 3 with fail
  generalize w2.alloc (.cells #[.int .i64 0, .int .i64 0, .int .i64 0, .int .i64 0, .slice none 0 0] 63) = w3 at hb3 hk3 ⊢
  have HS3 := Lib.hid (RSayIs.ofW hk3 hz2)
  have HFI3 := Lib.hid (HFI.out.below hb3 (Nat.le_refl _))
  have HB3 := Lib.hid (HB2.out.trans (hb3.mono hz2))
  have hsl : w2.heap.size < w3.heap.size := (Array.getElem?_eq_some_iff.1 hk3).1
  clear hb3 hk3 HFI HB2
  generalize w2.heap.size = sb at hz2 hsl HS3 HFI3 ⊢
  go_wp2_with fail
  go_loopw [9] (fun i wr => ∃ (k : Nat) (sk : WP), k ≤ frs.length ∧ i = .int .i64 k ∧ doAll WP.zero ((frs.map Fr.pair).take k) = some sk ∧ sk.Ok k ∧ RSayIs wr w.heap.size sb sk ∧ w3.grownBy wr (some sb)) (fun i _ => frs.length - (intOf i).toNat)
  case atStart => exact ⟨0, WP.zero, by omega, rfl, rfl, WP.Ok.zero 0, HS3.out, World.grownBy.refl _ _⟩
  case round =>
    obtain ⟨k, sk, hk, rfl, hdo, hok, hst, hg⟩ := hrel
    have HDO := Lib.hid hdo
    have HOKK := Lib.hid hok
    have HST := Lib.hid hst
    have HG := Lib.hid hg
    have hbw : ∀ w', w3.grownBy w' (some sb) → Below w.heap.size w w' := fun w' h => HB3.out.trans ((grown_atW h (Nat.le_of_lt hsl)).mono hz2)
    have HBW := Lib.hid hbw
    clear hdo hok hst hg hbw
    by_cases hlt : k < frs.length
    · rcases HFI3.out with h0 | ⟨bb, off, rfl, hb, hc⟩
      · rw [h0] at hlt; simp at hlt
      obtain ⟨c0, c1, hD⟩ := hc k hlt
      have hbel : Below sb w3 wr := grown_atW HG.out (Nat.le_of_lt hsl)
      rw [← hbel.cell (p := ⟨bb, _, none⟩) hb] at c0 c1
      have hD2 := (hD.below hbel (Nat.le_refl _)).mono (Nat.le_of_lt HST.out.lt)
      have hfk : frs[k]? = some (frs.getD k Fr.zero) := by simp [List.getD, List.getElem?_eq_getElem hlt]
      have hfw := HFRS.out.1 (frs.getD k Fr.zero) (List.mem_of_getElem? hfk)
      have hdc := HDA.out (frs.getD k Fr.zero) (List.mem_of_getElem? hfk)
      obtain ⟨f, hfe⟩ : ∃ f, f = frs.getD k Fr.zero := ⟨_, rfl⟩
      rw [← hfe] at c0 c1 hD2 hfw hfk hdc
      clear hfe hD hc hbel
      have hpk : (frs.map Fr.pair)[k]? = some f.pair := by rw [List.getElem?_map, hfk]; rfl
      have hnext : ∀ t, doW sk f.kind f.data = some t → doAll WP.zero ((frs.map Fr.pair).take (k + 1)) = some t := fun t ht => by
        obtain ⟨hkl, hkg⟩ := List.getElem?_eq_some_iff.1 hpk
        rw [List.take_succ_eq_append_getElem hkl, doAll_snoc, HDO.out, hkg]
        exact ht
      have hstop : doW sk f.kind f.data = none → doAll WP.zero (scanS bs).1 = none := fun hn => by rw [← HFP.out]; exact doAll_none HDO.out hpk hn
      have hokn : ∀ t, doW sk f.kind f.data = some t → t.Ok (k + 1) := fun t ht => doW_ok HOKK.out hfw.wf.2.2.1 hfw.len ht
      have HNEXT := Lib.hid hnext
      have HSTOP := Lib.hid hstop
      have HOKN := Lib.hid hokn
      have HD2 := Lib.hid hD2
      have HFW := Lib.hid hfw
      have hkl := HFRS.out.2.1
      clear hfk hpk hnext hstop hokn hD2 hfw
      obtain ⟨fk, fa2, fc2, fd⟩ := f
      dsimp only at c0 c1 HNEXT HSTOP HOKN HD2 hdc
      have i1 : (k : Int) < frs.length := by omega
      go_wp2_with fail
      refine (rdo18_any w.heap.size sb k fd.length fc2 sk fk fa2 fd wr HST.out HOKK.out (by omega) rfl HD2.out HFW.out.wf.2.2.1 HFW.out.wf.2.1 hdc HFW.out.wf.2.2.2).mono ?_
      obtain ⟨r, hr⟩ : ∃ r, doW sk fk fd = r := ⟨_, rfl⟩
      rw [hr]
      have HR := Lib.hid hr
      clear hr
      intro e w5 hda
      cases r with
      | none =>
        obtain ⟨rfl, hb5⟩ := hda
        have HB5 := Lib.hid (HBW.out w5 (HG.out.trans (grown_bel hb5 (some sb))))
        go_wp2_with fail
        exact bodyPost_ret (by simp [results, Tryz.results9, go_sem]) rfl (rread_none (HSTOP.out HR.out) HB5.out)
      | some t =>
        obtain ⟨rfl, hs5, hg5⟩ := hda
        have HS5 := Lib.hid hs5
        have HG5 := Lib.hid hg5
        clear hs5 hg5
        go_wp2_with fail
        go_roundw
        case rel => exact ⟨k + 1, t, by omega, by go_num, HNEXT.out t HR.out, HOKN.out t HR.out, HS5.out, HG.out.trans HG5.out⟩
        case measure => simp [intOf]; omega
    · obtain rfl : k = frs.length := by omega
      have hdo := HDO.out
      rw [List.take_of_length_le (by rw [List.length_map]; exact Nat.le_refl _), HFP.out] at hdo
      have HDO2 := Lib.hid hdo
      clear hdo
      go_wp2_with fail
      exact bodyPost_ret (v := .tuple #[.pointer (some ⟨sb, 0, none⟩), .int .i64 (u : Nat), .bool (!sp)]) (by simp [results, Tryz.results9, go_sem]) rfl (rread_some sb HDO2.out HU.out HSP.out HST.out (HBW.out wr HG.out))
end Go.Proofs.YtnhnabcpkaeaaaaGreatDoor
