/- The reference's Put: four bytes of a number; the frames' bytes, or that some is none. Conditions: the frames' cells lie as their reading says. -/
import Derived.Test.YtnkjoihnniiidaaGreatDoorGSnapGets5
import Derived.Deep.RegionHeld3
import Derived.Deep.AppendLies
import Derived.Maps.AppendAt
import Derived.Test.YtnkjoihnniiidaaGreatDoorGSnapGets2
import Derived.Test.YtnkjoihnniiidaaGreatDoorGSnapGets13
import Derived.Test.YtnkjoihnniiidaaGreatDoorGSnapGets17
set_option linter.unusedVariables false
set_option linter.unusedSimpArgs false
namespace Go.Proofs.YtnkjoihnniiidaaGreatDoor
open Go.RowKit
set_option maxRecDepth 20000
/-- An append to a row of bytes that is owned, whatever is appended, nil or not: at a step of a region that draws its order. -/
theorem step_append_bytes {w : World} {ops : Array Oper} {o : Oper} {a : Act} {K : Act → World → Prop} {Q : Exit → Act → World → Prop} {E : Prop} (hgd : o.guard = none) (s x : Operand)
    (ho : o.op = .call { callee := .builtin .append, args := #[s, x], argTypes := #[23, 23] })
    (base : Nat) (v : Value) (l : List Int) (hs : a.eval s = v) (hown : w.ownsRow base 5 1 v l.length (l.map bv))
    (ao : Option Addr) (cap : Nat) (xs : List Int) (hx : a.eval x = .slice ao xs.length cap) (B : Nat) (hin : BytesIn w B ao xs) (hao : ao = none → cap = 0) (hlim : l.length + xs.length ≤ 140737488351232) (hbase : base ≤ w.heap.size)
    (h : ∀ v' w', w'.ownsRow base 5 1 v' (l ++ xs).length ((l ++ xs).map bv) → w.grownBy w' v.ownBlock → K (a.put o.dst v') w') :
    if Region.wanted o (yielded ops a.tmps) = true then Oper.wp Tryz.prog o a w K Q else E := by
  have hw : Region.wanted o (yielded ops a.tmps) = true := by simp [Region.wanted, hgd]
  rw [if_pos hw]
  obtain ⟨i0, hi, hz0, hz1, hz2⟩ := info_parts infoByte
  cases ao with
  | none =>
    have hnil : xs = [] := by
      rcases hin with h | ⟨b, off, h1, _⟩
      · exact h
      · cases h1
    subst hnil
    rw [hao rfl] at hx
    have hrun := run_append_owned_none (P := Tryz.prog) (w := w) base 23 o.type 5 i0 1 Tryz.underlying23 hi v l.length _ hown
    unfold Oper.wp
    simp only [List.length_nil] at hx
    simp [execOp, ho, resolve, invoke, builtin, hs, hx, hrun, Result.andThen]
    exact h v w (by simpa using hown) (World.grownBy.refl _ _)
  | some ad =>
    obtain ⟨v', w', hrun, r1, r2, _⟩ := run_append_own (P := Tryz.prog) w base 23 o.type 5 i0 (.int .u8 0) 1 1 Tryz.underlying23 hi hz0 hz1 hz2 rfl (by decide) v l.length _ hown ad xs.length cap (xs.map bv) (by simp) (fun j u hu => cells_of_bytes hin (Below.refl _ _) rfl hu) (bytes_oneCell _) (by unfold maxLen; omega) (by omega) hbase
    unfold Oper.wp
    simp [execOp, ho, resolve, invoke, builtin, hs, hx, hrun, Result.andThen]
    refine h v' w' ?_ r2
    rw [List.length_append, List.map_append]
    exact r1
/-- An append to a row of bytes that is owned, in a plain region: where the new row lies, too. -/
theorem wpList_append_bytes_rp {w : World} {ops : Array Oper} {rest : List Oper} {o : Oper} {a : Act} {Q : Exit → Act → World → Prop} (hgd : o.guard = none) (s x : Operand)
    (ho : o.op = .call { callee := .builtin .append, args := #[s, x], argTypes := #[23, 23] })
    (base : Nat) (v : Value) (l : List Int) (hs : a.eval s = v) (hown : w.ownsRow base 5 1 v l.length (l.map bv))
    (ao : Option Addr) (cap : Nat) (xs : List Int) (hx : a.eval x = .slice ao xs.length cap) (B : Nat) (hin : BytesIn w B ao xs) (hao : ao = none → cap = 0) (hlim : l.length + xs.length ≤ 140737488351232) (hbase : base ≤ w.heap.size)
    (h : ∀ v' w' l', Hid (l' = l ++ xs) → w'.ownsRow base 5 1 v' l'.length (l'.map bv) → w.grownBy w' v.ownBlock → (v'.ownBlock = v.ownBlock ∨ v'.ownBlock = some w.heap.size) → wpList Tryz.prog ops Q rest (a.put o.dst v') w') : wpList Tryz.prog ops Q (o :: rest) a w := by
  obtain ⟨i0, hi, hz0, hz1, hz2⟩ := info_parts infoByte
  cases ao with
  | none =>
    have hnil : xs = [] := by
      rcases hin with h | ⟨b, off, h1, _⟩
      · exact h
      · cases h1
    subst hnil
    rw [hao rfl] at hx
    refine wpList_append_own_none hgd s x _ ho base 5 i0 1 Tryz.underlying23 hi v l.length _ hs hown hx ?_
    refine h v w l (Lib.hid (by simp)) hown (World.grownBy.refl _ _) (Or.inl rfl)
  | some ad =>
    refine wpList_append_own_at _ hgd s x _ ho base 5 i0 (.int .u8 0) 1 1 Tryz.underlying23 hi hz0 hz1 hz2 rfl (by decide) v l.length _ hs hown ad xs.length cap (xs.map bv) hx (by simp) ?_ (bytes_oneCell _) (by unfold maxLen; omega) (by omega) hbase ?_
    · intro j u hu
      exact cells_of_bytes hin (Below.refl _ _) rfl hu
    · intro v' w' h1 h2 _ h3
      refine h v' w' (l ++ xs) (Lib.hid rfl) ?_ h2 h3
      rw [List.length_append, List.map_append]
      exact h1
theorem rbytes_new (w : World) (T : TypeId) (xs : List Int) (cs : Array Value) (fr : Nat × Nat) (g B : Nat) (hcs : cs = (xs.map bv).toArray) (hg : g = w.heap.size) (hB : g < B) : BytesIn (w.alloc (.cells cs T fr)) B (some ⟨g, 0, none⟩) xs := by
  subst hcs hg
  refine Or.inr ⟨_, 0, rfl, hB, fun i hi => ?_⟩
  rw [Nat.zero_add, Go.Joins.cell_of_block (heap_alloc_new w _) i]
  simp [bv, List.getD, List.getElem?_eq_getElem hi]
theorem own_pos_rp {w : World} {base e size n : Nat} {v : Value} {xs : List Value} (h : w.ownsRow base e size v n xs) (hn : 0 < n) : ∃ g c, v = .slice (some ⟨g, 0, none⟩) n c := by
  rcases Go.Joins.ownsRow_forms h with ⟨_, hz⟩ | ⟨g, cap', rfl⟩
  · omega
  · exact ⟨g, cap', rfl⟩
theorem own_inF {w : World} {base g c : Nat} {l : List Int} {n : Nat} (hn : l.length = n) (h : w.ownsRow base 5 1 (.slice (some ⟨g, 0, none⟩) n c) n (l.map bv)) : BytesIn w w.heap.size (some ⟨g, 0, none⟩) l := by
  subst hn
  obtain ⟨ao, cap, hv, hB⟩ := own_bytes h
  cases hv
  exact hB
theorem ne_step {v v' : Value} {g n : Nat} (h : v.ownBlock ≠ some g) (hg : g < n) (hat : v'.ownBlock = v.ownBlock ∨ v'.ownBlock = some n) : v'.ownBlock ≠ some g := by
  rcases hat with e | e
  · rw [e]; exact h
  · rw [e]; intro h2; cases h2; omega
theorem sep_of_ne {v : Value} {g n c : Nat} (h : v.ownBlock ≠ some g) : (Value.slice (some ⟨g, 0, none⟩) n c).ownBlock = none ∨ (Value.slice (some ⟨g, 0, none⟩) n c).ownBlock ≠ v.ownBlock :=
  Or.inr fun e => h e.symm
theorem sub_in {w : World} {base g c n : Nat} {x : Int} {xs : List Int} (hn : xs.length + 1 = n) (h : w.ownsRow base 5 1 (.slice (some ⟨g, 0, none⟩) n c) n ((x :: xs).map bv)) : BytesIn w w.heap.size (subA (some ⟨g, 0, none⟩) c 1 1) xs := by
  have hc : n ≤ c := by
    rcases h.2 with ⟨h', _⟩ | ⟨g', cap', cur, h', _, _, h3, _⟩
    · cases h'
    · cases h'; exact h3
  by_cases h0 : xs = []
  · exact Or.inl h0
  · have hl : 0 < xs.length := List.length_pos_iff.2 h0
    rcases own_inF (by simpa using hn) h with h1 | ⟨b, off, h1, h2, h3⟩
    · cases h1
    · cases h1
      refine Or.inr ⟨g, 1, by unfold subA; rw [if_neg (by omega)]; rfl, h2, fun i hi => ?_⟩
      have := h3 (i + 1) (by simpa using hi)
      rw [Nat.zero_add, Nat.add_comm i 1] at this
      rw [this]
      simp [List.getD, Nat.add_comm 1 i]
theorem rfour_any (n : Nat) (hn : n < 4294967296) (w : World) :
    Calls Tryz.prog 76 #[.int .u32 (n : Int)] w fun e w' => e = .returned (.slice (some ⟨w.heap.size, 0, none⟩) 4 4) ∧ w'.ownsRow w.heap.size 5 1 (.slice (some ⟨w.heap.size, 0, none⟩) 4 4) 4 ((fourB n).map bv) ∧ Below w.heap.size w w' := by
  go_enter Tryz.func76, Tryz.ntmps76
  go_wp2_with fail
  go_ret
  exact ⟨rfl, World.ownsRow_lit w ((fourB n).map bv).toArray 4 (Nat.le_refl _) (by unfold maxLen; omega) rfl, (Below.refl _ _).alloc (Nat.le_refl _) _⟩
theorem rfour_at (a : Int) (n : Nat) (h : a = n) (hn : n < 4294967296) (w : World) :
    Calls Tryz.prog 76 #[.int .u32 a] w fun e w' => e = .returned (.slice (some ⟨w.heap.size, 0, none⟩) 4 4) ∧ w'.ownsRow w.heap.size 5 1 (.slice (some ⟨w.heap.size, 0, none⟩) 4 4) 4 ((fourB n).map bv) ∧ Below w.heap.size w w' := by
  subst h
  exact rfour_any n hn w
theorem rsum_put (ao : Option Addr) (n cap : Nat) (xs : List Int) (z : Nat) (w : World) (B : Nat) (hn : xs.length = n) (hz : sumS xs = z) (hx : BytesIn w B ao xs) (hw : BytesWf xs) (hl : n ≤ 4611686018427387904) :
    Calls Tryz.prog 77 #[.slice ao n cap] w fun e w' => e = .returned (.int .u32 z) ∧ w = w' := by
  subst hn hz
  exact rsum_any ao cap xs w B hx hw hl
def RPutPost (fs : List Fr) (w : World) (e : Ending) (w' : World) : Prop :=
  ∃ v, e = .returned (.tuple #[v, .int .i64 (putE fs)]) ∧ (putE fs = 0 → w'.ownsRow w.heap.size 5 1 v (putB fs).length ((putB fs).map bv)) ∧ (putE fs ≠ 0 → v = .slice none 0 0) ∧ Below w.heap.size w w'
set_option maxHeartbeats 2000000 in
theorem rput_any (ao : Option Addr) (cap : Nat) (fs : List Fr) (w : World) (hx : FramesIn w w.heap.size ao fs) (hw : ∀ f ∈ fs, FrWf f) (hl : (putB fs).length ≤ 140737488351232) (hn : fs.length ≤ 1099511627776) :
    Calls Tryz.prog 38 #[.slice ao fs.length cap] w (RPutPost fs w) := by
  have HX := Lib.hid hx
  clear hx
  go_enter Tryz.func38, Tryz.ntmps38
  go_wp2_with fail
  go_loopw [4, 5, 6] (fun v i _ wr => ∃ (k : Nat) (vv : Value), vv = v ∧ k ≤ fs.length ∧ i = .int .i64 k ∧ (∀ f ∈ fs.take k, okF f) ∧ wr.ownsRow w.heap.size 5 1 vv (putB (fs.take k)).length ((putB (fs.take k)).map bv) ∧ Below w.heap.size w wr) (fun _ i _ _ => fs.length - (intOf i).toNat)
  case atStart => exact ⟨0, _, rfl, by omega, rfl, by simp, by simpa [putB] using World.ownsRow_nil w w.heap.size 5 1, Below.refl _ _⟩
  case round =>
    obtain ⟨k, v, hv0, hk, rfl, hok, hown, hbel⟩ := hrel
    subst hv0
    have HOK := Lib.hid hok
    have HO := Lib.hid hown
    clear hok hown
    have hs := hbel.size
    by_cases hlt : k < fs.length
    · rcases HX.out with h0 | ⟨bb, off, rfl, hb, hc⟩
      · rw [h0] at hlt; simp at hlt
      obtain ⟨c0, c1, hD⟩ := hc k hlt
      rw [← hbel.cell (p := ⟨bb, _, none⟩) hb] at c0 c1
      clear hc
      have hfw := hw (fs.getD k Fr.zero) (by simp [List.getD, List.getElem?_eq_getElem hlt])
      have HE := Lib.hid (putE_at hlt HOK.out)
      have htk : fs.take (k + 1) = fs.take k ++ [fs.getD k Fr.zero] := by rw [List.take_succ_eq_append_getElem hlt]; simp [List.getD, List.getElem?_eq_getElem hlt]
      have HT := Lib.hid htk
      clear htk
      obtain ⟨f, hfe⟩ : ∃ f, f = fs.getD k Fr.zero := ⟨_, rfl⟩
      rw [← hfe] at c0 c1 hD hfw HE HT
      clear hfe
      obtain ⟨fk, fa, fc, fd⟩ := f
      obtain ⟨w1, hfa, hfd, hfl⟩ := hfw
      dsimp only at c0 c1 hD w1 hfa hfd hfl
      have i1 : (k : Int) < fs.length := by omega
      have hbig : (putB (fs.take (k + 1))).length ≤ (putB fs).length := putB_take fs (k + 1)
      rw [HT.out, putB_snoc, List.length_append, frameB_len] at hbig
      dsimp only at hbig
      have HD := Lib.hid hD
      have HFA := Lib.hid hfa
      have HBG := Lib.hid hbig
      clear hD hfa hbig
      by_cases hkk : fk < 0
      · have hE := HE.out (by unfold okF; dsimp only; omega)
        rw [if_pos (by dsimp only; omega)] at hE
        have HE' := Lib.hid hE
        clear hE
        go_wp2_with fail
        go_ret2
        exact ⟨_, by rw [HE'.out]; rfl, by rw [HE'.out]; omega, fun _ => rfl, hbel⟩
      · by_cases hkk2 : 255 < fk
        · have hE := HE.out (by unfold okF; dsimp only; omega)
          rw [if_pos (by dsimp only; omega)] at hE
          have HE' := Lib.hid hE
          clear hE
          go_wp2_with fail
          go_ret2
          exact ⟨_, by rw [HE'.out]; rfl, by rw [HE'.out]; omega, fun _ => rfl, hbel⟩
        · by_cases hlen : 1048576 < fd.length
          · have hE := HE.out (by unfold okF; dsimp only; omega)
            rw [if_neg (by dsimp only; omega)] at hE
            have HE' := Lib.hid hE
            clear hE
            have i2 : (1048576 : Int) < fd.length := by omega
            go_wp2_with fail
            go_ret2
            exact ⟨_, by rw [HE'.out]; rfl, by rw [HE'.out]; omega, fun _ => rfl, hbel⟩
          · have i2 : ¬ (1048576 : Int) < fd.length := by omega
            have hS : ∀ w', Below (w.heap.size) wr w' → w'.cell? ⟨bb, off + k * 2, none⟩ = some (.int .i64 fk) ∧ w'.cell? ⟨bb, off + k * 2 + 1, none⟩ = some (.slice fa fd.length fc) := fun w' h => ⟨(h.cell (p := ⟨bb, _, none⟩) hb).trans c0, (h.cell (p := ⟨bb, _, none⟩) hb).trans c1⟩
            have HSS := Lib.hid hS
            have hrf : Below w.heap.size wr wr := Below.refl _ _
            have n1 : IntKind.u8.wrap fk = fk := by unfold IntKind.wrap; simp [IntKind.signed, IntKind.bits]; omega
            clear hS
            go_wp2_with fail
            go_region_held3 (fun w' => w'.cell? ⟨bb, off + k * 2, none⟩ = some (.int .i64 fk) ∧ w'.cell? ⟨bb, off + k * 2 + 1, none⟩ = some (.slice fa fd.length fc)) ((refine HSS.out _ ?_; repeat (first | with_reducible assumption | with_reducible exact Below.refl _ _ | refine Below.alloc ?_ (by first | omega | (simp; omega)) _ | with_reducible refine Below.drew ?_))) ((refine step_append_bytes (by rfl) (.tmp 40) (.tmp 45) (by rfl) wr.heap.size _ [fk] (by rfl) (World.ownsRow_lit wr.drew #[.int .u8 fk] 1 (Nat.le_refl _) (by unfold maxLen; omega) rfl) fa fc fd (by rfl) w.heap.size ((HD.out.below hbel (Nat.le_refl _)).below (((Below.refl w.heap.size wr).drew).alloc (by simp; omega) _) (Nat.le_refl _)) HFA.out (by simp; omega) (by simp) ?_; intro v3 w3 hown3 hg3; have hb3 : Below w.heap.size wr w3 := ((Below.refl w.heap.size wr).alloc hs _).drew.grown hg3 (by simp; omega) (fun b hb => by simp [Value.ownBlock] at hb; omega)))
            obtain ⟨g4, c4, hv4⟩ := own_pos_rp hown3 (by simp)
            subst hv4
            have hbel3 : Below w.heap.size w w3 := hbel.trans hb3
            have hs3 := hbel3.size
            have hown4 := own_below HO.out (B := wr.heap.size) (w' := w3) (by
              refine ((Below.refl wr.heap.size wr).alloc (Nat.le_refl _) (.cells #[.int .u8 fk] 5)).drew.grown hg3 (by simp) (fun b hb => by simp [Value.ownBlock] at hb; omega)) (Nat.le_refl _)
            have hg4 := hown3.lt g4 rfl
            have hne4 : v.ownBlock ≠ some g4 := fun h => by have := (HO.out.lt g4 h).2; omega
            have hb33 := hb3.size
            have HO4 := Lib.hid hown4
            have HR4 := Lib.hid (show w3.ownsRow wr.heap.size 5 1 (.slice (some ⟨g4, 0, none⟩) (fd.length + 1) c4) (fd.length + 1) ((fk :: fd).map bv) from hown3)
            have HNE4 := Lib.hid hne4
            clear hown4 hown3 hg3 c0 c1 n1 hrf hne4
            obtain ⟨P, hP⟩ : ∃ P, P = putB (fs.take k) := ⟨_, rfl⟩
            have hPl2 : P.length + fd.length + 9 ≤ 140737488351232 := by have := HBG.out; rw [hP]; omega
            have HO5 := Lib.hid (show w3.ownsRow w.heap.size 5 1 v P.length (P.map bv) by rw [hP]; exact HO4.out)
            have HPP := Lib.hid hP
            clear HO4 hP
            have e1 := (HSS.out w3 hb3).2
            go_wp2_with fail
            refine (rfour_at _ fd.length (by omega) (by omega) w3).mono ?_
            rintro e w4 ⟨rfl, hown4, hb4⟩
            have hs4 := hb4.size
            have HO6 := Lib.hid (own_below HO5.out hb4 (Nat.le_refl _))
            have HR6 := Lib.hid (own_below HR4.out hb4 (Nat.le_refl _))
            have H46 := Lib.hid hown4
            clear hown4 e1 HO5 HR4
            go_wp2_with (at_builtin; refine wpList_append_bytes_rp rfl (.tmp 47) (.tmp 55) rfl w.heap.size v P rfl HO6.out (some ⟨w3.heap.size, 0, none⟩) 4 (fourB fd.length) rfl w4.heap.size (own_inF rfl H46.out) (by simp) (by simp [fourB]; omega) (by omega) ?_)
            intro v5 w5 P1 HP1e hown5 hg5 hat5
            have HNE5 := Lib.hid (ne_step HNE4.out (show g4 < w4.heap.size by omega) hat5)
            have HO7 := Lib.hid hown5
            have HR7 := Lib.hid (World.ownsRow.kept HR6.out hg5 (sep_of_ne HNE4.out))
            have hb5 : Below w.heap.size w w5 := ((hbel3.trans (hb4.mono hs3)).grown hg5 (by omega) (fun b hb => (HO6.out.lt b hb).1))
            have hs5 := hb5.size
            have hg45 := (HR7.out.lt g4 rfl).2
            have hwr5 := (HR7.out.lt g4 rfl).1
            have d0 : w5.cell? ⟨g4, 0, none⟩ = some (.int .u8 fk) := (World.ownsRow.cellAt HR7.out 0 (by omega)).trans rfl
            have i5 : (0 : Int) < (fd.length : Int) + 1 := by omega
            have i6 : 0 < fd.length + 1 := by omega
            have hP1 : P1.length = P.length + 4 := by rw [HP1e.out]; simp [fourB]
            have HP1 := Lib.hid hP1
            clear hown5 hg5 hat5 HO6 HR6 H46 HNE4 hP1
            go_wp2_with (at_builtin; refine wpList_append_bytes_rp rfl (.tmp 57) (.tmp 61) rfl w.heap.size v5 P1 rfl (HO7.out.alloc _) (some ⟨w5.heap.size, 0, none⟩) 1 [fk] rfl (w5.heap.size + 1) (rbytes_new w5 _ [fk] _ _ _ _ rfl rfl (by omega)) (by simp) (by rw [HP1.out]; simp; omega) (by simp; omega) ?_)
            intro v6 w6 P2 HP2e hown6 hg6 hat6
            have HNE6 := Lib.hid (ne_step HNE5.out (show g4 < w5.heap.size + 1 by omega) hat6)
            have HO8 := Lib.hid hown6
            have HR8 := Lib.hid (World.ownsRow.kept (HR7.out.alloc _) hg6 (sep_of_ne HNE5.out))
            have hb6 : Below w.heap.size w w6 := ((hb5.alloc hs5 _).grown hg6 (by simp; omega) (fun b hb => (HO7.out.lt b hb).1))
            have hs6 := hb6.size
            have hg46 := (HR8.out.lt g4 rfl).2
            have hP2 : P2.length = P.length + 5 := by have := HP1.out; rw [HP2e.out]; simp; omega
            have HP2 := Lib.hid hP2
            have hwf4 : BytesWf (fk :: fd) := by
              intro y hy
              rcases List.mem_cons.1 hy with rfl | hy
              · omega
              · exact hfd y hy
            have hz4 := sumS_lt hwf4
            obtain ⟨z, hz⟩ : ∃ z, sumS (fk :: fd) = z := ⟨_, rfl⟩
            rw [hz] at hz4
            have HZ := Lib.hid hz
            have HW4 := Lib.hid hwf4
            clear hown6 hg6 hat6 HO7 HR7 HNE5 hP2 hz hwf4 d0
            go_wp2_with fail
            refine (rsum_put _ _ _ (fk :: fd) z w6 _ rfl HZ.out (own_inF rfl HR8.out) HW4.out (by simp; omega)).mono ?_
            rintro e w' ⟨rfl, rfl⟩
            go_wp2_with fail
            refine (rfour_at _ z rfl hz4 w6).mono ?_
            rintro e w7 ⟨rfl, hown7, hb7⟩
            have hs7 := hb7.size
            have HO9 := Lib.hid (own_below HO8.out hb7 (Nat.le_refl _))
            have HR9 := Lib.hid (own_below HR8.out hb7 (Nat.le_refl _))
            have H47 := Lib.hid hown7
            have hb7' : Below w.heap.size w w7 := hb6.trans (hb7.mono hs6)
            clear hown7 HO8 HR8
            go_wp2_with (at_builtin; refine wpList_append_bytes_rp rfl (.tmp 63) (.tmp 66) rfl w.heap.size v6 P2 rfl HO9.out (some ⟨w6.heap.size, 0, none⟩) 4 (fourB z) rfl w7.heap.size (own_inF rfl H47.out) (by simp) (by rw [HP2.out]; simp [fourB]; omega) (by omega) ?_)
            intro v8 w8 P3 HP3e hown8 hg8 hat8
            have HNE8 := Lib.hid (ne_step HNE6.out (show g4 < w7.heap.size by omega) hat8)
            have HO10 := Lib.hid hown8
            have HR10 := Lib.hid (World.ownsRow.kept HR9.out hg8 (sep_of_ne HNE6.out))
            have hb8 : Below w.heap.size w w8 := (hb7'.grown hg8 (by omega) (fun b hb => (HO9.out.lt b hb).1))
            have hs8 := hb8.size
            have hP3 : P3.length = P.length + 9 := by have := HP2.out; rw [HP3e.out]; simp [fourB]; omega
            have HP3 := Lib.hid hP3
            have hsl : ∀ w', (Instr.sliceAt 23 (.slice (some ⟨g4, 0, none⟩) (fd.length + 1) c4) (some (.int .i64 1)) none none).run Tryz.prog w' = .ok (.slice (subA (some ⟨g4, 0, none⟩) c4 1 1) fd.length (c4 - 1)) w' := fun w' => by
              have h1 := run_sub_l sliceByte sizeByte (some ⟨g4, 0, none⟩) (fd.length + 1) c4 1 (by omega) .i64 1 rfl w'
              rwa [show fd.length + 1 - 1 = fd.length by omega] at h1
            have hsn : subA (some ⟨g4, 0, none⟩) c4 1 1 = none → c4 - 1 = 0 := fun h => by have := subA_eq_none h; cases this
            have hsi := sub_in rfl HR10.out
            generalize subA (some ⟨g4, 0, none⟩) c4 1 1 = sa at hsl hsn hsi
            have HSN := Lib.hid hsn
            have HSI := Lib.hid hsi
            clear hown8 hg8 hat8 HO9 HR9 HNE6 hP3 hsn hsi H47
            go_wp2_with (at_builtin; refine wpList_append_bytes_rp rfl (.tmp 68) (.tmp 70) rfl w.heap.size v8 P3 rfl HO10.out sa (c4 - 1) fd rfl w8.heap.size HSI.out HSN.out (by rw [HP3.out]; omega) (by omega) ?_)
            intro v9 w9 P4 HP4e hown9 hg9 hat9
            have hb9 : Below w.heap.size w w9 := (hb8.grown hg9 (by omega) (fun b hb => (HO10.out.lt b hb).1))
            have hend : P4 = putB (fs.take (k + 1)) := by
              rw [HT.out, putB_snoc, HP4e.out, HP3e.out, HP2e.out, HP1e.out, HPP.out, ← HZ.out]
              simp [frameB, List.append_assoc]
            rw [hend] at hown9
            have HO11 := Lib.hid hown9
            clear hown9 hg9 hat9 hend hsl HO10
            go_wp2_with fail
            go_roundw
            case rel => exact ⟨k + 1, v9, rfl, by omega, by go_num, by rw [HT.out]; intro f hf; rcases List.mem_append.1 hf with hf | hf; exact HOK.out f hf; rw [List.mem_singleton.1 hf]; unfold okF; dsimp only; omega, HO11.out, hb9⟩
            case measure => simp [intOf]; omega
    · obtain rfl : k = fs.length := by omega
      have hok := HOK.out
      have hown := HO.out
      rw [List.take_length] at hok hown
      have H0 := Lib.hid (putE_ok hok)
      have HO2 := Lib.hid hown
      clear hok hown
      go_wp2_with fail
      go_ret2
      exact ⟨_, by rw [H0.out]; rfl, fun _ => HO2.out, fun h => absurd H0.out h, hbel⟩
end Go.Proofs.YtnkjoihnniiidaaGreatDoor
/- The document's answer for snaps: Right, Put. Conditions: as each says. -/
namespace Go.Proofs.YtnkjoihnniiidaaGreatDoor
open Go.RowKit
set_option maxRecDepth 20000
set_option maxHeartbeats 4000000 in
theorem rsright_any (x : Sn) (w : World) (hx : NumsIn w w.heap.size x.va x.vs) (hf : SnFine x) (g : Bool) (hg : snRight x.plain = g) :
    Calls Tryz.prog 36 #[snVal x] w fun e w' => e = .returned (.bool g) ∧ Below w.heap.size w w' := by
  obtain ⟨si, st, va, xs, vc, ia, im, ic⟩ := x
  have hl := hf.vn
  clear hf
  dsimp only [snVal, Sn.plain] at hx hg hl ⊢
  obtain ⟨n, hn⟩ : ∃ n, xs.length = n := ⟨_, rfl⟩
  rw [hn] at hl ⊢
  have hg2 : g = (upGo 0 xs && ((decide (1 ≤ si) && decide (si ≤ 1099511627776)) && ((decide (0 ≤ st) && decide (st ≤ 1099511627776)) && decide (n ≤ 7)))) := by
    rw [← hg, ← hn]; rfl
  have HX := Lib.hid hx
  have HN := Lib.hid hn
  obtain ⟨P, hP⟩ := pair_of g
  rw [hP] at hg2
  have HG := Lib.hid hg2
  rw [hP]
  clear hx hn hg hg2 hP
  go_enter Tryz.func36, Tryz.ntmps36
  go_upto_region 1 with fail
  have hb0 := (Below.refl w.heap.size w).alloc (Nat.le_refl _) (.cells #[.int .i64 si, .int .i64 st, .slice va n vc, .slice ia im.length ic] 25)
  have hk0 := heap_alloc_new w (.cells #[.int .i64 si, .int .i64 st, .slice va n vc, .slice ia im.length ic] 25)
  generalize w.alloc (.cells #[.int .i64 si, .int .i64 st, .slice va n vc, .slice ia im.length ic] 25) = w0 at hb0 hk0 ⊢
  have q0 : w0.cell? ⟨w.heap.size, 0, none⟩ = some (.int .i64 si) := Go.Joins.cell_of_block hk0 0
  have q1 : w0.cell? ⟨w.heap.size, 1, none⟩ = some (.int .i64 st) := Go.Joins.cell_of_block hk0 1
  have q2 : w0.cell? ⟨w.heap.size, 2, none⟩ = some (.slice va n vc) := Go.Joins.cell_of_block hk0 2
  have HB0 := Lib.hid hb0
  clear hk0 hb0
  by_cases h1 : si < 1
  · have hf : P.1 = false := by rw [HG.out, decide_eq_false (show ¬ 1 ≤ si by omega)]; simp only [Bool.false_and, Bool.and_false]
    have HF := Lib.hid hf
    clear hf
    go_wp2_with fail
    go_ret
    exact ⟨by rw [HF.out]; rfl, HB0.out⟩
  by_cases h2 : 1099511627776 < si
  · have hf : P.1 = false := by rw [HG.out, decide_eq_false (show ¬ si ≤ 1099511627776 by omega)]; simp only [Bool.false_and, Bool.and_false]
    have HF := Lib.hid hf
    clear hf
    go_wp2_with fail
    go_ret
    exact ⟨by rw [HF.out]; rfl, HB0.out⟩
  by_cases h3 : st < 0
  · have hf : P.1 = false := by rw [HG.out, decide_eq_false (show ¬ 0 ≤ st by omega)]; simp only [Bool.false_and, Bool.and_false]
    have HF := Lib.hid hf
    clear hf
    go_wp2_with fail
    go_ret
    exact ⟨by rw [HF.out]; rfl, HB0.out⟩
  by_cases h4 : 1099511627776 < st
  · have hf : P.1 = false := by rw [HG.out, decide_eq_false (show ¬ st ≤ 1099511627776 by omega)]; simp only [Bool.false_and, Bool.and_false]
    have HF := Lib.hid hf
    clear hf
    go_wp2_with fail
    go_ret
    exact ⟨by rw [HF.out]; rfl, HB0.out⟩
  by_cases h5 : (7 : Int) < (n : Int)
  · have hf : P.1 = false := by rw [HG.out, decide_eq_false (show ¬ n ≤ 7 by omega)]; simp only [Bool.false_and, Bool.and_false]
    have HF := Lib.hid hf
    clear hf
    go_wp2_with fail
    go_ret
    exact ⟨by rw [HF.out]; rfl, HB0.out⟩
  have hg3 : P.1 = upGo 0 xs := by rw [HG.out, decide_eq_true (show 1 ≤ si by omega), decide_eq_true (show si ≤ 1099511627776 by omega), decide_eq_true (show 0 ≤ st by omega), decide_eq_true (show st ≤ 1099511627776 by omega), decide_eq_true (show n ≤ 7 by omega)]; simp only [Bool.true_and, Bool.and_true]
  have HG3 := Lib.hid hg3
  clear hg3
  go_wp2_with fail
  clear h1 h2 h3 h4 h5
  go_loopw [3, 4] (fun m i wr => ∃ k : Nat, k ≤ n ∧ i = .int .i64 k ∧ m = .int .i64 ((xs.take k).getLastD 0) ∧ upGo 0 (xs.take k) = true ∧ w0 = wr) (fun _ i _ => n - (intOf i).toNat)
  case atStart => exact ⟨0, by omega, rfl, rfl, rfl, rfl⟩
  case round =>
    obtain ⟨k, hk, rfl, rfl, hall, rfl⟩ := hrel
    have HA := Lib.hid hall
    clear hall
    by_cases hlt : k < n
    · have i1 : (k : Int) < n := by omega
      have hkx : xs[k]? = some (xs[k]'(by rw [HN.out]; exact hlt)) := List.getElem?_eq_getElem _
      have htk : xs.take (k + 1) = xs.take k ++ [xs[k]'(by rw [HN.out]; exact hlt)] := List.take_succ_eq_append_getElem _
      obtain ⟨b, off, hao, hb, hc, _⟩ := HX.out.at hkx
      generalize xs[k]'(by rw [HN.out]; exact hlt) = x at hc hkx htk
      have c0 : w0.cell? ⟨b, off + k, none⟩ = some (.int .i64 x) := by
        have := hc 0 (by decide)
        rw [Nat.mul_one, Nat.add_zero] at this
        exact (HB0.out.cell (p := ⟨b, _, none⟩) hb).trans this
      subst hao
      have HT := Lib.hid htk
      have hbad : ¬ ((xs.take k).getLastD 0 < x ∧ x ≤ 9) → P.1 = false := fun h => by
        rw [HG3.out, up_last hkx HA.out h]
      have HBAD := Lib.hid hbad
      obtain ⟨q, hq⟩ : ∃ q, (xs.take k).getLastD 0 = q := ⟨_, rfl⟩
      rw [hq] at HBAD
      rw [hq]
      have HQ := Lib.hid hq
      clear hc hkx htk hbad hq
      by_cases h1 : x ≤ q
      · have hf := HBAD.out (by omega)
        go_wp2_with fail
        go_ret
        exact ⟨by first | rfl | (rw [hf]; rfl), HB0.out⟩
      · by_cases h2 : 9 < x
        · have hf := HBAD.out (by omega)
          go_wp2_with fail
          go_ret
          exact ⟨by first | rfl | (rw [hf]; rfl), HB0.out⟩
        · have hv : upGo 0 (xs.take (k + 1)) = true ∧ (xs.take (k + 1)).getLastD 0 = x := by
            rw [HT.out, upGo_snoc, HA.out, HQ.out]
            exact ⟨by simp; omega, by simp⟩
          have HV := Lib.hid hv
          clear hv
          go_wp2_with fail
          go_roundw
          case rel => exact ⟨k + 1, by omega, by go_num, by rw [HV.out.2], HV.out.1, by first | rfl | trivial⟩
          case measure => simp [intOf] <;> omega
    · have i1 : ¬ (k : Int) < n := by omega
      obtain rfl : k = n := by omega
      have hall : upGo 0 xs = true := by
        have := HA.out
        rwa [List.take_of_length_le (by rw [HN.out]; exact Nat.le_refl _)] at this
      have hfin := HG3.out
      rw [hall] at hfin
      have HF := Lib.hid hfin
      clear hall hfin
      go_wp2_with fail
      go_ret
      exact ⟨by rw [HF.out]; rfl, HB0.out⟩
end Go.Proofs.YtnkjoihnniiidaaGreatDoor
/- The document's answer for snaps: Put. Conditions: as each says. -/
namespace Go.Proofs.YtnkjoihnniiidaaGreatDoor
open Go.RowKit
set_option maxRecDepth 20000
theorem rfput1_any (b : Nat) (a : Option Addr) (n c : Nat) (D : List Int) (w : World) (k0 : w.cell? ⟨b, 0, none⟩ = some (.int .i64 1)) (k1 : w.cell? ⟨b, 1, none⟩ = some (.slice a n c)) (hb : b < w.heap.size) (hn : D.length = n) (hx : BytesIn w w.heap.size a D) (hnil : a = none → c = 0) (hw : BytesWf D) (hl : n ≤ 1048576)
    (r : List Int × Int) (hr : (frameB 1 D, 0) = r) :
    Calls Tryz.prog 38 #[.slice (some ⟨b, 0, none⟩) 1 1] w (BytesE r w) := by
  subst hn
  refine (rput_any (some ⟨b, 0, none⟩) 1 [⟨1, a, c, D⟩] w (Or.inr ⟨b, 0, rfl, hb, fun i hi => ?_⟩) (fun f hf => ?_) ?_ (by simp)).mono ?_
  · obtain rfl : i = 0 := by simpa using hi
    exact ⟨k0, k1, hx⟩
  · rw [List.mem_singleton] at hf
    subst hf
    exact ⟨(show (Lit.int .i64 1).wf = true by decide), hnil, hw, by dsimp only; omega⟩
  · simp only [putB, List.flatMap_cons, List.flatMap_nil, List.append_nil, frameB_len]
    omega
  · rintro e w' ⟨v, rfl, h1, h2, h3⟩
    have hg : ¬ 1048576 < D.length := by omega
    have he : putE [⟨1, a, c, D⟩] = 0 := by simp [putE, hg]
    subst hr
    rw [he] at h1 ⊢
    have hp : putB [⟨1, a, c, D⟩] = frameB 1 D := by simp [putB]
    rw [hp] at h1
    obtain ⟨a2, n2, c2, rfl, ho⟩ := own_value (h1 rfl)
    exact ⟨a2, n2, c2, rfl, ho, h3⟩
theorem ints_lit3 (w : World) (x y z : Int) : IntsOwn (w.alloc (.cells #[.int .i64 x, .int .i64 y, .int .i64 z] 3)) w.heap.size (some ⟨w.heap.size, 0, none⟩) 3 3 [x, y, z] :=
  World.ownsRow_lit w #[.int .i64 x, .int .i64 y, .int .i64 z] 3 (Nat.le_refl _) (by unfold maxLen; omega) rfl
set_option maxHeartbeats 8000000 in
theorem rsput_any (x : Sn) (w : World) (hx : snSub w w.heap.size x) (hf : SnFine x) (r : List Int × Int) (hr : snPut x.plain = r) :
    Calls Tryz.prog 10 #[snVal x] w (BytesE r w) := by
  obtain ⟨g, hg⟩ : ∃ g, snRight x.plain = g := ⟨_, rfl⟩
  have HRT := Lib.hid fun w hx => rsright_any x w hx hf g hg
  obtain ⟨si, st, va, xs, vc, ia, im, ic⟩ := x
  obtain ⟨f1, f2, f3, f4, f5, f6, f7, f8, f9, f10⟩ := hf
  dsimp only [snVal, Sn.plain, snSub] at hx hg hr HRT f1 f2 f3 f4 f5 f6 f7 f8 f9 f10 ⊢
  have HL := snData_len ⟨si, st, xs, im⟩
  have HD := Lib.hid (show ([si, st, (xs.length : Int)] ++ xs).flatMap (numB 8) ++ im = snData ⟨si, st, xs, im⟩ by simp [snData, snHead])
  have HDW := Lib.hid (snData_wf (s := ⟨si, st, xs, im⟩) f5)
  unfold snPut at hr
  rw [hg] at hr
  generalize snData ⟨si, st, xs, im⟩ = D at HL HD HDW hr
  dsimp only at HL
  obtain ⟨n, hn⟩ : ∃ n, xs.length = n := ⟨_, rfl⟩
  obtain ⟨m, hm⟩ : ∃ m, im.length = m := ⟨_, rfl⟩
  obtain ⟨dl, hdl⟩ : ∃ d, D.length = d := ⟨_, rfl⟩
  rw [hn] at HRT HL HD f4 f9 ⊢
  rw [hm] at HRT HL f6 f10 ⊢
  rw [hdl] at HL hr
  have HN := Lib.hid hn
  have HM := Lib.hid hm
  have HDL := Lib.hid hdl
  have HX := Lib.hid hx
  have HW := Lib.hid f5
  have HI := Lib.hid f8
  have HV := Lib.hid f7
  clear hn hm hdl hx f5 f7 f8 f3 f1 f2 hg f9 f10
  have hb0 := (Below.refl w.heap.size w).alloc (Nat.le_refl _) (.cells #[.int .i64 si, .int .i64 st, .slice va n vc, .slice ia m ic] 25)
  have hk0 := heap_alloc_new w (.cells #[.int .i64 si, .int .i64 st, .slice va n vc, .slice ia m ic] 25)
  have HB0 := Lib.hid hb0
  have HK0 := Lib.hid hk0
  clear hb0 hk0
  have HR := Lib.hid hr
  have HLE := Lib.hid HL
  clear hr HL
  go_enter Tryz.func10, Tryz.ntmps10
  go_upto_region 1 with fail
  generalize w.alloc (.cells #[.int .i64 si, .int .i64 st, .slice va n vc, .slice ia m ic] 25) = w0 at HB0 HK0 ⊢
  have g0 := Go.Joins.cell_of_block HK0.out 0
  have g1 := Go.Joins.cell_of_block HK0.out 1
  have g2 := Go.Joins.cell_of_block HK0.out 2
  have g3 := Go.Joins.cell_of_block HK0.out 3
  go_wp2_with fail
  refine (HRT.out w0 ((HX.out.1.below noSub_kept HB0.out (Nat.le_refl _)).mono noSub_rising HB0.out.size)).mono ?_
  rintro e w1 ⟨rfl, hb1⟩
  have hz0 := HB0.out.size
  have hlt0 := (Array.getElem?_eq_some_iff.1 HK0.out).1
  have HB1 := Lib.hid (HB0.out.trans (hb1.mono hz0))
  have HK1 := Lib.hid ((hb1.block _ hlt0).trans HK0.out)
  have hlt1 := (Array.getElem?_eq_some_iff.1 HK1.out).1
  clear hb1 HB0 HK0 HRT g0 g1 g2 g3
  cases g with
  | false =>
    go_wp2_with fail
    go_ret2
    rw [← HR.out]
    exact ⟨none, 0, 0, rfl, ⟨rfl, World.ownsRow_nil _ _ _ _⟩, HB1.out⟩
  | true =>
    have hr2 := HR.out
    rw [if_neg (by simp)] at hr2
    have HR2 := Lib.hid hr2
    clear hr2
    have g0 := Go.Joins.cell_of_block HK1.out 0
    have g1 := Go.Joins.cell_of_block HK1.out 1
    have g2 := Go.Joins.cell_of_block HK1.out 2
    have hz1 := HB1.out.size
    obtain ⟨N, hNN⟩ : ∃ N : Nat, 3 + n = N := ⟨_, rfl⟩
    have HNN := Lib.hid hNN
    have hN3 : N ≤ 1000003 := by omega
    clear hNN
    obtain ⟨ys, hys⟩ : ∃ ys : List Int, [si, st, (n : Int)] ++ xs = ys := ⟨_, rfl⟩
    have HYS := Lib.hid hys
    have hyl : ys.length = N := by rw [← hys, List.length_append, HN.out, ← HNN.out]; rfl
    have HYL := Lib.hid hyl
    rw [hys] at HD
    clear hys hyl
    go_wp2_with (at_builtin; refine wpList_append_rows (sub := noSub) Tryz.underlying22 infoI rfl (by decide) iCells_len iCells_one rfl (.tmp 17) (.tmp 19) rfl w1.heap.size (.slice (some ⟨w1.heap.size, 0, none⟩) 3 3) 3 _ rfl (ints_lit3 w1 si st n) va n vc xs HN.out rfl w.heap.size (HX.out.1.below noSub_kept (HB1.out.alloc hz1 _) (Nat.le_refl _)) HV.out (by unfold maxLen; omega) (by omega) (by simp) ?_)
    intro v2 w2 hown hg _
    obtain ⟨a2, c2, rfl⟩ := row_slice hown
    rw [HNN.out] at hown ⊢
    have hown2 : w2.ownsRow w1.heap.size 3 1 (.slice a2 N c2) N (ys.flatMap iCells) := by rw [← HYS.out]; simpa using hown
    have hg2 : w1.grownBy w2 (some w1.heap.size) := (World.grownBy_alloc w1 _ _).trans hg
    have hz2 := hg2.size
    have HB2 := Lib.hid (HB1.out.grown hg2 hz1 (fun q hq => by cases hq; exact hz1))
    have HK2 := Lib.hid ((hg2.block w.heap.size hlt1 (by simp; omega)).trans HK1.out)
    have HX2 := Lib.hid (ints_in HYL.out (show IntsOwn w2 w1.heap.size a2 N c2 ys from hown2))
    clear hown2 hown hg hg2 g0 g1 g2
    go_wp2_with fail
    go_loopw [5, 6] (fun v i wr => ∃ (k : Nat) (a : Option Addr) (c : Nat), k ≤ N ∧ i = .int .i64 k ∧ v = .slice a (8 * k) c ∧ BOwn wr w2.heap.size a (8 * k) c ((ys.take k).flatMap (numB 8)) ∧ Below w2.heap.size w2 wr) (fun _ i _ => N - (intOf i).toNat)
    case atStart => exact ⟨0, none, 0, by omega, rfl, rfl, ⟨rfl, World.ownsRow_nil _ _ _ _⟩, Below.refl _ _⟩
    case round =>
      obtain ⟨k, a, c, hk, rfl, rfl, hown, hbel⟩ := hrel
      have HO := Lib.hid hown
      have hsz := hbel.size
      clear hown
      by_cases hlt : k < N
      · have i1 : (k : Int) < N := by omega
        have hkx : ys[k]? = some (ys[k]'(by rw [HYL.out]; exact hlt)) := List.getElem?_eq_getElem _
        have htk : ys.take (k + 1) = ys.take k ++ [ys[k]'(by rw [HYL.out]; exact hlt)] := List.take_succ_eq_append_getElem _
        obtain ⟨b, off, hao, hb, hc, _⟩ := HX2.out.at hkx
        generalize ys[k]'(by rw [HYL.out]; exact hlt) = x at hc hkx htk
        have c0 : wr.cell? ⟨b, off + k, none⟩ = some (.int .i64 x) := by
          have := hc 0 (by decide)
          rw [Nat.mul_one, Nat.add_zero] at this
          exact (hbel.cell (p := ⟨b, _, none⟩) hb).trans this
        subst hao
        have HT := Lib.hid htk
        obtain ⟨m2, hm2⟩ : ∃ m2, 8 * k = m2 := ⟨_, rfl⟩
        have HM2 := Lib.hid hm2
        rw [hm2] at HO ⊢
        clear hc hkx htk hm2
        go_wp2_with fail
        refine (rNumber_any x _ wr rfl).mono ?_
        rintro e w3 ⟨a1, n1, c1, rfl, hbo1, hb1⟩
        obtain rfl : 8 = n1 := by have := hbo1.len; rw [numB_len] at this; exact this
        have HO1 := Lib.hid hbo1
        have hb2 := hbel.trans (hb1.mono hsz)
        have hz1 := hb1.size
        clear hbo1 c0
        go_wp2_with (at_builtin; refine wpList_append_bo rfl (.tmp 27) (.tmp 32) rfl w2.heap.size rfl (HO.out.below hb1 (Nat.le_refl _)) rfl (numB_len 8 x) _ HO1.out.in HO1.out.nil (by have := HM2.out; omega) (by omega) ?_)
        intro a4 n4 c4 w4 hown hg hn4
        have hb3 := hb2.grown hg (by omega) (fun k hk => (HO.out.lt k hk).1)
        have hn3 : n4 = 8 * (k + 1) := by rw [hn4, ← HM2.out]; omega
        subst hn3
        have HO2 := Lib.hid (show BOwn w4 w2.heap.size a4 (8 * (k + 1)) c4 ((ys.take (k + 1)).flatMap (numB 8)) by
          rw [HT.out, List.flatMap_append, List.flatMap_singleton]; exact hown)
        clear hown hg hn4
        go_wp2_with fail
        go_roundw
        case rel => exact ⟨k + 1, a4, c4, by omega, by go_num, rfl, HO2.out, hb3⟩
        case measure => simp [intOf] <;> omega
      · have i1 : ¬ (k : Int) < N := by omega
        obtain rfl : k = N := by omega
        have hown := HO.out
        rw [List.take_of_length_le (by rw [HYL.out]; exact Nat.le_refl _)] at hown
        obtain ⟨m2, hm2⟩ : ∃ m2, 8 * k = m2 := ⟨_, rfl⟩
        have hdm : m2 + m = dl := by have := HLE.out; have := HNN.out; omega
        have hdl2 : dl ≤ 100000000 := by have := HLE.out; omega
        rw [hm2] at hown ⊢
        have HO3 := Lib.hid hown
        have HDM := Lib.hid hdm
        have HBR := Lib.hid (HB2.out.trans (hbel.mono HB2.out.size))
        have HKR := Lib.hid ((hbel.block w.heap.size (by have := (Array.getElem?_eq_some_iff.1 HK2.out).1; omega)).trans HK2.out)
        have g3 := Go.Joins.cell_of_block HKR.out 3
        have ew : IntKind.i64.wrap ((m2 : Int) + (m : Int)) = (dl : Int) := by rw [IntWalk.i64_in _ (by omega)]; omega
        clear hown hm2 hdm HO HX2 HK2
        by_cases hbig : 1048576 < dl
        · have i2 : (1048576 : Int) < dl := by omega
          go_wp2_with fail
          go_ret2
          have hr3 := HR2.out
          rw [if_pos hbig] at hr3
          rw [← hr3]
          exact ⟨none, 0, 0, rfl, ⟨rfl, World.ownsRow_nil _ _ _ _⟩, HBR.out⟩
        · have i2 : ¬ (1048576 : Int) < dl := by omega
          have hr3 := HR2.out
          rw [if_neg hbig] at hr3
          have HR3 := Lib.hid hr3
          clear hr3
          go_wp2_with (at_builtin; refine wpList_append_bo rfl (.tmp 41) (.tmp 43) rfl w2.heap.size rfl HO3.out rfl HM.out w.heap.size (HX.out.2.below HBR.out (Nat.le_refl _)) HI.out (by have := HDM.out; omega) hsz ?_)
          intro a4 n4 c4 w4 hown hg hn4
          obtain rfl : dl = n4 := by rw [hn4]; exact HDM.out.symm
          rw [HD.out] at hown
          have HB4 := Lib.hid (HBR.out.grown hg HBR.out.size (fun q hq => by have := (HO3.out.lt q hq).1; omega))
          have HO4 := Lib.hid hown
          clear hown hg hn4 g3 ew
          have ba := (Below.refl w4.heap.size w4).alloc (Nat.le_refl _) (.cells #[.int .i64 1, .slice a4 dl c4] 61)
          have ka := heap_alloc_new w4 (.cells #[.int .i64 1, .slice a4 dl c4] 61)
          have HBA := Lib.hid ba
          have HKA := Lib.hid ka
          clear ba ka
          go_wp2_with fail
          generalize w4.alloc (.cells #[.int .i64 1, .slice a4 dl c4] 61) = w5 at HBA HKA ⊢
          refine (rfput1_any w4.heap.size a4 dl c4 D w5 (Go.Joins.cell_of_block HKA.out 0) (Go.Joins.cell_of_block HKA.out 1) (Array.getElem?_eq_some_iff.1 HKA.out).1 HDL.out (HO4.out.below HBA.out (Nat.le_refl _)).in HO4.out.nil HDW.out (by omega) r HR3.out).mono ?_
          rintro e w6 ⟨a6, n6, c6, rfl, ho6, b6⟩
          have HB5 := Lib.hid (HB4.out.trans (HBA.out.mono HB4.out.size))
          have hz5 := HB5.out.size
          have hb := HB5.out.trans (b6.mono hz5)
          have HO6 := Lib.hid (ho6.le hz5)
          clear b6 ho6
          go_wp2_with fail
          go_ret2
          exact ⟨a6, n6, c6, rfl, HO6.out, hb⟩
end Go.Proofs.YtnkjoihnniiidaaGreatDoor
