/- The law CommitHeld: of any voters, matches and server it returns true, and nothing that was there is changed. No condition. -/
import Derived.Test.YtnkmhcimibjihaaCommit4
import Derived.Test.YtnkmhcimibjihaaPick
namespace Go.Proofs.Ytnkmhcimibjihaa
open Go.RowKit Go.Maps

theorem take_snoc {vs : List Int} {k : Nat} (h : k < vs.length) : vs.take (k + 1) = vs.take k ++ [vs.getD k 0] := by
  rw [List.take_succ_eq_append_getElem h]; simp [List.getD, List.getElem?_eq_getElem h]
theorem haveN_take {f : Int → Int} {n : Int} {vs : List Int} {k : Nat} (h : k < vs.length) : haveN (vs.take (k + 1)) f n = haveN (vs.take k) f n + if n ≤ max (f (vs.getD k 0)) 0 then 1 else 0 := by
  unfold haveN
  rw [take_snoc h, List.countP_append, List.countP_singleton]
  simp
theorem moreN_take {f : Int → Int} {n : Int} {vs : List Int} {k : Nat} (h : k < vs.length) : moreN (vs.take (k + 1)) f n = moreN (vs.take k) f n + if n < max (f (vs.getD k 0)) 0 then 1 else 0 := by
  unfold moreN
  rw [take_snoc h, List.countP_append, List.countP_singleton]
  simp
theorem someB_take {f : Int → Int} {n : Int} {vs : List Int} {k : Nat} (h : k < vs.length) : someB (vs.take (k + 1)) f n = (someB (vs.take k) f n || decide (max (f (vs.getD k 0)) 0 = n)) := by
  unfold someB
  rw [take_snoc h, List.any_append]
  simp
theorem haveN_le (f : Int → Int) (n : Int) (vs : List Int) (k : Nat) : haveN (vs.take k) f n ≤ k := Nat.le_trans List.countP_le_length (List.length_take_le _ _)
theorem moreN_le (f : Int → Int) (n : Int) (vs : List Int) (k : Nat) : moreN (vs.take k) f n ≤ k := Nat.le_trans List.countP_le_length (List.length_take_le _ _)
/-- Some voter's match, or 0. -/
def someO (vs : List Int) (f : Int → Int) (n : Int) (k : Nat) : Bool := decide (n = 0) || someB (vs.take k) f n
theorem someO_take {f : Int → Int} {n : Int} {vs : List Int} {k : Nat} (h : k < vs.length) : someO vs f n (k + 1) = (someO vs f n k || decide (max (f (vs.getD k 0)) 0 = n)) := by
  unfold someO; rw [someB_take h, Bool.or_assoc]
theorem wf_max {a b : Int} (ha : (Lit.int .i64 a).wf = true) (hb : (Lit.int .i64 b).wf = true) : (Lit.int .i64 (max a b)).wf = true := by
  rcases Int.le_total a b with h | h
  · rwa [Int.max_eq_right h]
  · rwa [Int.max_eq_left h]
theorem further_ge (ps : List (Int × Int)) (s t x : Int) : mget ps x ≤ mget (ps ++ [(s, max (mget ps s) t)]) x := by
  rw [mget_snoc]; split
  · next h => subst h; exact Int.le_max_left _ _
  · exact Int.le_refl _
theorem further_same (ps : List (Int × Int)) (s t : Int) (vs : List Int) (h : hasB vs s = false) : indexS vs (mget ps) = indexS vs (mget (ps ++ [(s, max (mget ps s) t)])) := by
  apply held_same
  intro x hx
  rw [mget_snoc, if_neg]
  rintro rfl
  unfold hasB at h
  have := List.contains_iff_mem.2 hx
  rw [h] at this; cases this

set_option maxHeartbeats 2000000 in
theorem held_any (W : World) (ao : Option Addr) (cap : Nat) (xs : List Int) (hx : IntsIn W W.heap.size ao xs) (hwx : WfAll xs) (hl : xs.length ≤ 1099511627776000) (co : Option Addr) (cap2 : Nat) (ps : List (Int × Int)) (hy : PairsIn W W.heap.size co ps) (hwp : PairsWf ps) (hl2 : ps.length ≤ 1099511627776000) (s t : Int) (hwt : (Lit.int .i64 t).wf = true) :
    Calls Try.prog 9 #[.slice ao xs.length cap, .slice co ps.length cap2, .int .i64 s, .int .i64 t] W fun e w' => e = .returned (.bool true) ∧ Below W.heap.size W w' := by
  have HX := Lib.hid hx
  have HY := Lib.hid hy
  clear hx hy
  go_enter Try.func9, Try.ntmps9
  go_wp2_with fail
  refine (awake25_any _).mono ?_
  rintro e w1 ⟨rfl, hb1⟩
  by_cases hbig2 : ps.length ≤ 300
  · have i2 : ¬ 300 < (ps.length : Int) := by omega
    have hX1 := (HX.out.below hb1 (Nat.le_refl _)).mono hb1.size
    cases hr : rightS xs
    · have HR := Lib.hid hr
      clear hr
      go_wp2_with fail
      refine (right_any ao cap xs _ _ hX1 (Nat.le_refl _) (by omega)).mono ?_
      rw [HR.out]
      rintro e w2 ⟨rfl, hW2⟩
      go_wp2_with fail
      go_ret
      exact ⟨rfl, hb1.trans (hW2.mono hb1.size)⟩
    · have hlen := ((right_iff xs).1 hr).2.2.2
      have HR := Lib.hid hr
      clear hr
      go_wp2_with fail
      refine (right_any ao cap xs _ _ hX1 (Nat.le_refl _) (by omega)).mono ?_
      rw [HR.out]
      rintro e w2 ⟨rfl, hW2⟩
      have B2 := hb1.trans (hW2.mono hb1.size)
      have hY2 := (HY.out.below B2 (Nat.le_refl _)).mono B2.size
      go_wp2_with fail
      refine (of_any co cap2 ps w2 hY2 hwp (by omega)).mono ?_
      rintro e w3 ⟨b3, rfl, hb3, hm3, hW3⟩
      have B3 := B2.trans (hW3.mono B2.size)
      have hX3 := (HX.out.below B3 (Nat.le_refl _)).mono B3.size
      go_wp2_with fail
      refine (index_any25 b3 _ _ xs ps w3 hX3 hm3 hwx (by omega)).mono ?_
      rintro e w4 ⟨rfl, hW4⟩
      have B4 := B3.trans (hW4.mono B3.size)
      have hm4 := hm3.below hW4 hm3.lt
      clear hX1 hY2 hX3 hm3
      have P1 := Lib.hid (held_some (vs := xs) (f := mget ps))
      have P2 := held_have (vs := xs) (f := mget ps) HR.out
      have P3 := held_more (vs := xs) (f := mget ps) HR.out
      have PG := Lib.hid (held_grows (vs := xs) (f := mget ps) HR.out (further_ge ps (s % 11) t))
      have hgn := index_nonneg xs (mget ps)
      generalize hn : indexS xs (mget ps) = n at P1 P2 P3 PG hgn ⊢
      go_wp2_with fail
      have hz0 : decide (n = 0) = someO xs (mget ps) n 0 := by simp [someO, someB]
      go_loopw [11, 12, 13, 14, 15] (fun v1 v2 v3 i _ wr => (∃ q, wr = w4.drewN q) ∧ ∃ k : Nat, k ≤ xs.length ∧ i = .int .i64 k ∧ v1 = .bool (someO xs (mget ps) n k) ∧ v2 = .int .i64 (haveN (xs.take k) (mget ps) n) ∧ v3 = .int .i64 (moreN (xs.take k) (mget ps) n)) (fun _ _ _ i _ _ => xs.length - (intOf i).toNat)
      case atStart => exact ⟨⟨0, rfl⟩, 0, by omega, rfl, by rw [← hz0]; exact congrArg Value.bool (by rw [Bool.eq_iff_iff]; simp), rfl, rfl⟩
      case round =>
        obtain ⟨hq, k, hk, rfl, rfl, rfl, rfl⟩ := hrel
        clear hz0
        have HQ := Lib.hid hq
        have hmr : MapIs wr b3 ps := by obtain ⟨q, rfl⟩ := hq; exact hm4
        have hBr : Below W.heap.size W wr := by obtain ⟨q, rfl⟩ := hq; exact below_drewN B4 q
        clear hq
        have l1 := haveN_le (mget ps) n xs k
        have l2 := moreN_le (mget ps) n xs k
        by_cases hlt : k < xs.length
        · rcases HX.out with h0 | ⟨bb, off, rfl, hb, hc⟩
          · rw [h0] at hlt; simp at hlt
          have c0 := hc k hlt
          rw [← hBr.cell (p := ⟨bb, _, none⟩) hb] at c0
          clear hc
          have e1 := haveN_take (f := mget ps) (n := n) hlt
          have e2 := moreN_take (f := mget ps) (n := n) hlt
          have e3 := someO_take (f := mget ps) (n := n) hlt
          have hwx := hwx _ (getD_mem hlt)
          obtain ⟨x, hxe⟩ : ∃ x, x = xs.getD k 0 := ⟨_, rfl⟩
          rw [← hxe] at c0 e1 e2 e3 hwx
          clear hxe
          have hlk := (hmr.look hwx).1
          generalize mget ps x = y at hlk e1 e2 e3
          generalize haveN (xs.take k) (mget ps) n = a1 at e1 l1
          generalize moreN (xs.take k) (mget ps) n = a2 at e2 l2
          generalize someO xs (mget ps) n k = a3 at e3 ⊢
          have HE := Lib.hid (And.intro e1 (And.intro e2 e3))
          clear e1 e2 e3
          go_wp2_with fail
          all_goals
            go_roundw
            case rel => exact ⟨HQ.out, k + 1, by omega, by go_num, by rw [HE.out.2.2]; grind, by rw [HE.out.1]; grind, by rw [HE.out.2.1]; grind⟩
            case measure => simp [intOf]; omega
        · obtain rfl : k = xs.length := by omega
          rw [List.take_length] at l1 l2 ⊢
          have hs : someO xs (mget ps) n xs.length = true := by unfold someO; rw [List.take_length]; exact P1.out
          rw [hs]
          generalize haveN xs (mget ps) n = a1 at l1 P2 ⊢
          generalize moreN xs (mget ps) n = a2 at l2 P3 ⊢
          clear hs HQ hm4
          have i3 : ¬ (2 * (a1 : Int) ≤ xs.length) := by omega
          have i4 : ¬ (xs.length : Int) < 2 * a2 := by omega
          go_wp2_with fail
          refine (pick_any s 11 (by decide) (by decide) _).mono ?_
          rintro e w' ⟨rfl, rfl⟩
          have hwp11 : (Lit.int .i64 (s % 11)).wf = true := by
            have h1 := Int.emod_nonneg s (show (11 : Int) ≠ 0 by decide)
            have h2 := Int.emod_lt_of_pos s (show (0 : Int) < 11 by decide)
            go_wf
          have hlk := (hmr.look hwp11).1
          have hB3 := B2.size
          obtain ⟨n0, hn0, hown⟩ := hmr
          have hwm := wf_max (MapIs.look ⟨n0, hn0, hown⟩ hwp11).2 hwt
          have hsame := further_same ps (s % 11) t xs
          rw [hn] at hsame
          have HF := Lib.hid hsame
          clear hsame
          go_wp2_with (at_mapUpdate; refine wpList_mapUpdate_own _ rfl _ _ _ 34 rfl 3 3 intLaw Try.underlying34 _ b3 n0 _ rfl hown (by unfold maxLen; omega) _ _ _ rfl rfl (keyOf_int_mk Try.underlying3 hwp11) _ [] (plainElem_int Try.underlying3 hwm) ?_)
          intro w5 hown5 hg5
          have B5 : Below W.heap.size W w5 := hBr.grown hg5 hBr.size (fun j hj => by cases hj; omega)
          have hm5 : MapIs w5 b3 (ps ++ [(s % 11, max (mget ps (s % 11)) t)]) := ⟨n0 + 1, by simp; omega, by rw [mapD_snoc]; exact hown5⟩
          clear hown hown5 hg5 hlk
          have hX5 := (HX.out.below B5 (Nat.le_refl _)).mono B5.size
          generalize ps ++ [(s % 11, max (mget ps (s % 11)) t)] = qs at hm5 PG HF
          go_wp2_with fail
          refine (index_any25 b3 _ _ xs qs w5 hX5 hm5 hwx (by omega)).mono ?_
          rintro e w6 ⟨rfl, hW6⟩
          have B6 := B5.trans (hW6.mono B5.size)
          have hX6 := (HX.out.below B6 (Nat.le_refl _)).mono B6.size
          have hge := PG.out
          generalize indexS xs (mget qs) = m at hge HF ⊢
          cases hh : hasB xs (s % 11)
          · have heq := HF.out hh
            subst heq
            have HH := Lib.hid hh
            clear hh
            go_wp2_with fail
            refine (has_any _ _ xs (s % 11) _ _ hX6 (by omega)).mono ?_
            rw [HH.out]
            rintro e w7 ⟨rfl, rfl⟩
            go_wp2_with fail
            go_ret
            exact ⟨rfl, B6⟩
          · have HH := Lib.hid hh
            clear hh
            go_wp2_with fail
            refine (has_any _ _ xs (s % 11) _ _ hX6 (by omega)).mono ?_
            rw [HH.out]
            rintro e w7 ⟨rfl, rfl⟩
            go_wp2_with fail
            go_ret
            exact ⟨rfl, B6⟩
  · have i2 : 300 < (ps.length : Int) := by omega
    go_wp2_with fail
    go_ret
    exact ⟨rfl, hb1⟩

theorem walk_CommitHeld {H : Type} {enc : TypeId × Value → H} {d : DataW H} {p : List MemPlace} (W : World) (ao : Option Addr) (cap : Nat) (xs : List Int) (hx : IntsIn W W.heap.size ao xs) (_ : ao = none → cap = 0) (hw : ∀ x ∈ xs, (Lit.int .i64 x).wf = true) (hl : xs.length * 8 ≤ 140737488351232)
    (co : Option Addr) (len cap2 : Nat) (h : DataW.Trod enc Try.prog W 0 (fun _ => true) true 33 (.slice co len cap2) d p) (hz : len * Try.prog.bytesOf 38 ≤ 140737488351232) (s : Int) (_ : (Lit.int .i64 s).wf = true) (t : Int) (ht : (Lit.int .i64 t).wf = true) :
    Calls Try.prog 9 #[.slice ao xs.length cap, .slice co len cap2, .int .i64 s, .int .i64 t] W fun e w' => e = .returned (.bool true) ∧ Below W.heap.size W w' := by
  obtain ⟨ps, rfl, hy, hwp⟩ := open_pairsIn h
  have hB : Try.prog.bytesOf 38 = 16 := by kernel_rfl
  rw [hB] at hz
  exact held_any W ao cap xs hx hw (by omega) co cap2 ps hy hwp (by omega) s t ht
end Go.Proofs.Ytnkmhcimibjihaa
