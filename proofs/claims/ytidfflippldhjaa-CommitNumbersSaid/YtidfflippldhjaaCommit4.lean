/- The law CommitIndex: of any voters and matches it returns true, and nothing that was there is changed. No condition. -/
import Derived.Test.YtidfflippldhjaaCommit3
namespace Go.Proofs.Ytidfflippldhjaa
open Go.RowKit Go.Maps

/-- A slice of pairs among the arguments. -/
theorem open_pairsIn {H : Type} {enc : TypeId × Value → H} {W : World} {sp : Nat → Bool} {hd : Bool} {ao : Option Addr} {len cap : Nat} {d : DataW H} {p : List MemPlace}
    (h : DataW.Trod enc Try.prog W 0 sp hd 24 (.slice ao len cap) d p) :
    ∃ ps : List (Int × Int), len = ps.length ∧ PairsIn W W.heap.size ao ps ∧ PairsWf ps := by
  have hC : Try.prog.cellsOf 26 = 2 := by kernel_rfl
  have hi : Try.prog.cellsOf 3 = 1 := by kernel_rfl
  obtain ⟨_, h0 | ⟨b, off, n, D, Pl, h1, _, hb, hx⟩⟩ := slice_cases Try.underlying24 hC (by decide) h
  · exact ⟨[], h0, Or.inl rfl, by intro p hp; cases hp⟩
  · obtain ⟨f, hf⟩ := Go.Deep.choose_lt (α := Int × Int) (n := len) (p := fun i z => W.cell? ⟨b, off + i * 2, none⟩ = some (.int .i64 z.1) ∧ W.cell? ⟨b, off + i * 2 + 1, none⟩ = some (.int .i64 z.2) ∧ (Lit.int .i64 z.1).wf = true ∧ (Lit.int .i64 z.2).wf = true) (fun i hi' => by
      obtain ⟨cs, hl, hc, ht'⟩ := hx i hi'
      obtain ⟨xs, m, rfl, _, _, hxs, hx'⟩ := DataW.trod_struct Try.underlying26 ht'
      match cs, hl with
      | [c0, c1], _ =>
        have q0 := hx' 0 _ rfl
        have q1 := hx' 1 _ rfl
        match xs, hxs with
        | [x0, x1], _ =>
          simp [hi] at q0 q1
          obtain ⟨a, ea, _, wa⟩ := DataW.trod_int Try.underlying3 q0
          obtain ⟨b', eb, _, wb⟩ := DataW.trod_int Try.underlying3 q1
          simp at ea eb
          subst ea eb
          exact ⟨(a, b'), hc 0 (by decide), hc 1 (by decide), wa, wb⟩)
    refine ⟨(List.range len).map f, by simp, Or.inr ⟨b, off, h1, hb, fun i hi => ?_⟩, ?_⟩
    · have hi' : i < len := by simpa using hi
      have e : ((List.range len).map f).getD i (0, 0) = f i := by simp [List.getD, hi']
      rw [e]
      exact ⟨(hf i hi').1, (hf i hi').2.1⟩
    · intro x hx'
      obtain ⟨i, hi, rfl⟩ := List.mem_map.1 hx'
      exact (hf i (List.mem_range.1 hi)).2.2

set_option maxHeartbeats 1000000 in
theorem commitIndex_any (W : World) (ao : Option Addr) (cap : Nat) (xs : List Int) (hx : IntsIn W W.heap.size ao xs) (hao : ao = none → cap = 0) (hwx : WfAll xs) (hl : xs.length ≤ 1099511627776000) (co : Option Addr) (cap2 : Nat) (ps : List (Int × Int)) (hy : PairsIn W W.heap.size co ps) (hwp : PairsWf ps) (hl2 : ps.length ≤ 1099511627776000) :
    Calls Try.prog 4 #[.slice ao xs.length cap, .slice co ps.length cap2] W fun e w' => e = .returned (.bool true) ∧ Below W.heap.size W w' := by
  have HX := Lib.hid hx
  have HY := Lib.hid hy
  clear hx hy
  by_cases hbig : xs.length ≤ 300
  · by_cases hbig2 : ps.length ≤ 300
    · have i1 : ¬ 300 < (xs.length : Int) := by omega
      have i2 : ¬ 300 < (ps.length : Int) := by omega
      go_enter Try.func4, Try.ntmps4
      go_wp2_with fail
      refine (lent_any ao cap xs W HX.out hao (by omega)).mono ?_
      rintro e w2 ⟨g, rfl, hg, hg2, hL, hb2⟩
      have hY2 := (HY.out.below hb2 (Nat.le_refl _)).mono hb2.size
      go_wp2_with fail
      refine (of_any co cap2 ps w2 hY2 hwp (by omega)).mono ?_
      rintro e w3 ⟨b3, rfl, hb3, hm3, hW3⟩
      have B3 := hb2.trans (hW3.mono hb2.size)
      have z3 := hW3.size
      have hL3 := hL.below hW3 hg2
      go_wp2_with fail
      refine (index_any25 b3 _ _ xs ps w3 (hL3.ints.mono (by omega)) hm3 hwx (by omega)).mono ?_
      rintro e w4 ⟨rfl, hW4⟩
      have B4 := B3.trans (hW4.mono B3.size)
      have hL4 := hL3.below hW4 (by omega)
      have hm4 := hm3.below hW4 hm3.lt
      have z4 := hW4.size
      have hY4 := (HY.out.below B4 (Nat.le_refl _)).mono B4.size
      go_wp2_with fail
      refine (of_any co cap2 ps w4 hY4 hwp (by omega)).mono ?_
      rintro e w5 ⟨b5, rfl, hb5, hm5, hW5⟩
      have B5 := B4.trans (hW5.mono B4.size)
      have hL5 := hL4.below hW5 (by omega)
      have hm45 := hm4.below hW5 hm4.lt
      have z5 := hW5.size
      go_wp2_with fail
      refine (rindex_any b5 _ _ xs ps w5 ((HX.out.below B5 (Nat.le_refl _)).mono B5.size) hm5 hwx (by omega)).mono ?_
      rintro e w6 ⟨rfl, hW6⟩
      have B6 := B5.trans (hW6.mono B5.size)
      have hL6 := hL5.below hW6 (by omega)
      have hm6 := hm45.below hW6 hm45.lt
      have z6 := hW6.size
      go_wp2_with fail
      refine (kept_any _ _ _ _ xs _ ((HX.out.below B6 (Nat.le_refl _)).mono B6.size) hL6 (by omega)).mono ?_
      rintro e w7 ⟨rfl, hW7⟩
      have B7 := B6.trans (hW7.mono B6.size)
      have hm7 := hm6.below hW7 hm6.lt
      have hY7 := (HY.out.below B7 (Nat.le_refl _)).mono B7.size
      go_wp2_with fail
      refine (of_any co cap2 ps w7 hY7 hwp (by omega)).mono ?_
      rintro e w8 ⟨b8, rfl, hb8, hm8, hW8⟩
      have B8 := B7.trans (hW8.mono B7.size)
      have hm78 := hm7.below hW8 hm7.lt
      clear hm3 hm4 hm5 hm45 hm6 hm7 hL hL3 hL4 hL5 hL6 hY2 hY4 hY7
      go_wp2_with fail
      go_loopw [8] (fun i wr => (∃ q, wr = w8.drewN q) ∧ ∃ k : Nat, k ≤ ps.length ∧ i = .int .i64 k) (fun i _ => ps.length - (intOf i).toNat)
      case atStart => exact ⟨⟨0, rfl⟩, 0, by omega, rfl⟩
      case round =>
        obtain ⟨hq, k, hk, rfl⟩ := hrel
        have HQ := Lib.hid hq
        have hmA : MapIs wr b3 ps := by obtain ⟨q, rfl⟩ := hq; exact hm78
        have hmB : MapIs wr b8 ps := by obtain ⟨q, rfl⟩ := hq; exact hm8
        have hBr : Below W.heap.size W wr := by obtain ⟨q, rfl⟩ := hq; exact below_drewN B8 q
        clear hq
        by_cases hlt : k < ps.length
        · rcases HY.out with h0 | ⟨b, off, rfl, hb, hc⟩
          · rw [h0] at hlt; simp at hlt
          obtain ⟨c0, c1⟩ := hc k hlt
          rw [← hBr.cell (p := ⟨b, _, none⟩) hb] at c0
          clear hc c1
          obtain ⟨w1, _⟩ := hwp _ (pair_mem hlt)
          generalize ps.getD k (0, 0) = q at c0 w1
          obtain ⟨x, y⟩ := q
          dsimp only at c0 w1
          have i1 : (k : Int) < ps.length := by omega
          have l1 : ∀ n, (Instr.lookup 31 (.map (some b3)) (.int .i64 x) false).run Try.prog (wr.drewN n) = .ok (.int .i64 (mget ps x)) (wr.drewN n) := fun n => (MapIs.look (w := wr.drewN n) hmA w1).1
          have l2 : ∀ n, (Instr.lookup 31 (.map (some b8)) (.int .i64 x) false).run Try.prog (wr.drewN n) = .ok (.int .i64 (mget ps x)) (wr.drewN n) := fun n => (MapIs.look (w := wr.drewN n) hmB w1).1
          go_wp2_with fail
          go_quiet (fail)
          clear l1 l2
          go_wp2_with fail
          go_roundw
          case rel => exact ⟨HQ.out.elim fun q hq => ⟨q + nq, by rw [hq, World.drewN_drewN]⟩, k + 1, by omega, by go_num⟩
          case measure => simp [intOf]; omega
        · obtain ⟨n1, _, hA⟩ := hmA
          obtain ⟨n2, _, hB⟩ := hmB
          have e1 := fun ty => hA.len Try.underlying31 ty
          have e2 := fun ty => hB.len Try.underlying31 ty
          clear hA hB
          go_wp2_with fail
          refine (awake25_any _).mono ?_
          rintro e w9 ⟨rfl, hW9⟩
          go_wp2_with fail
          go_ret
          exact ⟨rfl, hBr.trans (hW9.mono hBr.size)⟩
    · have i1 : ¬ 300 < (xs.length : Int) := by omega
      have i2 : 300 < (ps.length : Int) := by omega
      go_enter Try.func4, Try.ntmps4
      go_wp2_with fail
      refine (awake25_any _).mono ?_
      rintro e w2 ⟨rfl, hb2⟩
      go_wp2_with fail
      go_ret
      exact ⟨rfl, hb2⟩
  · have i1 : 300 < (xs.length : Int) := by omega
    go_enter Try.func4, Try.ntmps4
    go_wp2_with fail
    refine (awake25_any _).mono ?_
    rintro e w2 ⟨rfl, hb2⟩
    go_wp2_with fail
    go_ret
    exact ⟨rfl, hb2⟩

theorem walk_CommitIndex {H : Type} {enc : TypeId × Value → H} {d : DataW H} {p : List MemPlace} (W : World) (ao : Option Addr) (cap : Nat) (xs : List Int) (hx : IntsIn W W.heap.size ao xs) (hao : ao = none → cap = 0) (hw : ∀ x ∈ xs, (Lit.int .i64 x).wf = true) (hl : xs.length * 8 ≤ 140737488351232)
    (co : Option Addr) (len cap2 : Nat) (h : DataW.Trod enc Try.prog W 0 (fun _ => true) true 24 (.slice co len cap2) d p) (hz : len * Try.prog.bytesOf 26 ≤ 140737488351232) :
    Calls Try.prog 4 #[.slice ao xs.length cap, .slice co len cap2] W fun e w' => e = .returned (.bool true) ∧ Below W.heap.size W w' := by
  obtain ⟨ps, rfl, hy, hwp⟩ := open_pairsIn h
  have hB : Try.prog.bytesOf 26 = 16 := by kernel_rfl
  rw [hB] at hz
  exact commitIndex_any W ao cap xs hx hao hw (by omega) co cap2 ps hy hwp (by omega)
end Go.Proofs.Ytidfflippldhjaa
