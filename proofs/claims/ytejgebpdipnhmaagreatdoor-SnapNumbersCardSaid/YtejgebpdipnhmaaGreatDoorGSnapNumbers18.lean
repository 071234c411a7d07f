/- Numbers that are brought into a kind have the same bytes. No program. Conditions: as each says. -/
import Derived.Test.YtejgebpdipnhmaaGreatDoorGSnapNumbers0
import Derived.Test.YtejgebpdipnhmaaGreatDoorGSnapNumbers3
import Derived.Test.YtejgebpdipnhmaaGreatDoorGSnapNumbers2
import Derived.Test.YtejgebpdipnhmaaGreatDoorGSnapNumbers17
import Derived.Lib.AppendStr
import Derived.Test.YtejgebpdipnhmaaGreatDoorGSnapNumbers4
import Derived.Deep.RegionHeld3
import Derived.Deep.AppendLies
import Derived.Maps.AppendAt
import Derived.Test.YtejgebpdipnhmaaGreatDoorGSnapNumbers1
import Derived.Test.YtejgebpdipnhmaaGreatDoorGSnapNumbers13
set_option linter.unusedVariables false
set_option linter.unusedSimpArgs false
namespace Go.Proofs.YtejgebpdipnhmaaGreatDoor
theorem numB_mod (n k : Int) : numB 8 (n + 18446744073709551616 * k) = numB 8 n := by
  unfold numB
  have e : List.range 8 = [0, 1, 2, 3, 4, 5, 6, 7] := rfl
  rw [e]
  simp only [List.map_cons, List.map_nil, Nat.reduceSub, Nat.reduceMul, Int.reducePow, List.cons.injEq, and_true]
  refine ⟨by omega, by omega, by omega, by omega, by omega, by omega, by omega, by omega⟩
theorem numB_wrap (n : Int) : numB 8 (IntKind.i64.wrap n) = numB 8 n := by
  have hw : IntKind.i64.wrap n = n + 18446744073709551616 * (-(n / 18446744073709551616)) ∨ IntKind.i64.wrap n = n + 18446744073709551616 * (-(n / 18446744073709551616) - 1) := by
    show (if (true && decide (n % 2 ^ 64 ≥ (2 ^ 63 : Int))) = true then n % 2 ^ 64 - 2 ^ 64 else n % 2 ^ 64) = _ ∨ (if (true && decide (n % 2 ^ 64 ≥ (2 ^ 63 : Int))) = true then n % 2 ^ 64 - 2 ^ 64 else n % 2 ^ 64) = _
    have e2 : (2 : Int) ^ 64 = 18446744073709551616 := by decide
    rw [e2]
    split
    · right; omega
    · left; omega
  rcases hw with h | h <;> rw [h, numB_mod]
theorem wrapU_eq (n : Int) : IntKind.u64.wrap n = n % 18446744073709551616 := by
  show (if (false && decide (n % 2 ^ 64 ≥ (2 ^ 63 : Int))) = true then n % 2 ^ 64 - 2 ^ 64 else n % 2 ^ 64) = _
  have e2 : (2 : Int) ^ 64 = 18446744073709551616 := by decide
  rw [e2]
  rfl
theorem wrapU_range (n : Int) : 0 ≤ IntKind.u64.wrap n ∧ IntKind.u64.wrap n < 18446744073709551616 := by
  rw [wrapU_eq]; omega
theorem numB_wrapU (n : Int) : numB 8 (IntKind.u64.wrap n) = numB 8 n := by
  have h : IntKind.u64.wrap n = n + 18446744073709551616 * (-(n / 18446744073709551616)) := by rw [wrapU_eq]; omega
  rw [h, numB_mod]
end Go.Proofs.YtejgebpdipnhmaaGreatDoor
/- The document's writers: the bytes of a number, a text, a value, a row of values. Conditions: what is written is not too long. -/
namespace Go.Proofs.YtejgebpdipnhmaaGreatDoor
open Go.RowKit
set_option maxRecDepth 20000
theorem oper_append_bo {w : World} {o : Oper} {a : Act} {K : Act → World → Prop} {Q : Exit → Act → World → Prop} (s x : Operand)
    (ho : o.op = .call { callee := .builtin .append, args := #[s, x], argTypes := #[24, 24] })
    (base : Nat) {a1 : Option Addr} {n1 c1 : Nat} {L1 : List Int} (hs : a.eval s = .slice a1 n1 c1) (hown : BOwn w base a1 n1 c1 L1)
    {ao : Option Addr} {n cap : Nat} {xs : List Int} (hx : a.eval x = .slice ao n cap) (hn : xs.length = n) (B : Nat) (hin : BytesIn w B ao xs) (hao : ao = none → cap = 0) (hlim : n1 + n ≤ 140737488351232) (hbase : base ≤ w.heap.size)
    (h : ∀ a2 n2 c2 w', BOwn w' base a2 n2 c2 (L1 ++ xs) → w.grownBy w' (Value.slice a1 n1 c1).ownBlock → n2 = n1 + n → K (a.put o.dst (.slice a2 n2 c2)) w') : Oper.wp Tryz.prog o a w K Q := by
  obtain ⟨rfl, hrow⟩ := hown
  refine oper_append_bytes s x ho base _ L1 _ rfl hs hrow ao n cap xs hn hx B hin hao hlim hbase fun v' w' h1 h2 => ?_
  obtain ⟨a2, c2, rfl⟩ := row_slice h1
  exact h a2 _ c2 w' ⟨by rw [List.length_append, hn], h1⟩ h2 rfl
theorem rnumber_any (n : Int) (size : Nat) (w : World) (hs : size ≤ 8) (hn : 0 ≤ n) (hn2 : n < 18446744073709551616) :
    Calls Tryz.prog 81 #[.int .u64 n, .int .i64 size] w (RNew (numB size n) w) := by
  have w0 : IntKind.i64.wrap ((size : Int) - 1) = (size : Int) - 1 := IntWalk.i64_in _ (by omega)
  go_enter Tryz.func81, Tryz.ntmps81
  go_wp2_with fail
  go_loopw [5, 6] (fun v i wr => ∃ (q : Nat) (a : Option Addr) (c : Nat), q ≤ size ∧ i = .int .i64 ((size : Int) - 1 - q) ∧ v = .slice a q c ∧ BOwn wr w.heap.size a q c ((numB size n).take q) ∧ Below w.heap.size w wr) (fun _ i _ => (intOf i + 1).toNat)
  case atStart => exact ⟨0, none, 0, by omega, by simp, rfl, ⟨rfl, World.ownsRow_nil _ _ _ _⟩, Below.refl _ _⟩
  case round =>
    clear w0
    obtain ⟨q, a, c, hq, rfl, rfl, hown, hbel⟩ := hrel
    have HO := Lib.hid hown
    clear hown
    by_cases hltq : q < size
    · obtain ⟨p, hp⟩ : ∃ p : Nat, p = size - 1 - q := ⟨_, rfl⟩
      have hpe : (size : Int) - 1 - q = p := by omega
      have hnt := numB_take size n q hltq
      rw [← hp] at hnt
      have HNT := Lib.hid hnt
      have hp8 : p ≤ 7 := by omega
      have w3 : IntKind.i64.wrap (8 * (p : Int)) = 8 * p := IntWalk.i64_in _ (by omega)
      have w4 : IntKind.u64.wrap (8 * (p : Int)) = 8 * p := IntWalk.u64_in _ (by omega)
      have n3 : ((8 : Int) * p).toNat = 8 * p := by omega
      have g3 : (0 : Int) ≤ 8 * p := by omega
      have HPE := Lib.hid hpe
      have hs2 := hbel.size
      rw [hpe]
      clear hnt hp hpe
      go_wp2_with (at_builtin; refine wpList_append_bo rfl (.tmp 13) (.tmp 20) rfl w.heap.size rfl (HO.out.below ((Below.refl wr.heap.size wr).alloc (Nat.le_refl _) _) (Nat.le_refl _)) rfl rfl _ (BOwn.lit wr [n / 2 ^ (8 * p) % 256] (by simp)).in (fun h => by cases h) (by omega) (by simp; omega) ?_)
      intro a2 n2 c2 w5 hown5 hg5 hn5
      have hb5 : Below w.heap.size w w5 := (hbel.alloc hs2 _).grown hg5 (by simp; omega) (fun k hk => (HO.out.lt k hk).1)
      rw [← HNT.out] at hown5
      have HO5 := Lib.hid hown5
      have HN5 := Lib.hid hn5
      clear hown5 hg5 hn5
      go_wp2_with fail
      go_roundw
      case rel => exact ⟨q + 1, a2, c2, by omega, by have := HPE.out; congr 1; push_cast; omega, by rw [HN5.out], by have := HO5.out; rw [HN5.out] at this; exact this, hb5⟩
      case measure => first | (simp [intOf]; done) | (have := HPE.out; simp [intOf]; omega)
    · have hqe : q = size := by omega
      have hown5 := HO.out
      rw [hqe, List.take_of_length_le (l := numB size n) (by rw [numB_len]; exact Nat.le_refl _)] at hown5
      have HO5 := Lib.hid hown5
      have g5 : (size : Int) - 1 - q < 0 := by omega
      subst hqe
      clear hown5
      go_wp2_with fail
      go_ret
      exact ⟨a, _, c, rfl, HO5.out, hbel⟩
theorem rNumber_any (n : Int) (L : List Int) (w : World) (hL : numB 8 n = L) :
    Calls Tryz.prog 45 #[.int .i64 n] w (RNew L w) := by
  have hw : numB 8 (IntKind.u64.wrap n) = L := by rw [← hL, numB_wrapU]
  have h0 : 0 ≤ IntKind.u64.wrap n ∧ IntKind.u64.wrap n < 18446744073709551616 := wrapU_range n
  obtain ⟨m, hm⟩ : ∃ m, IntKind.u64.wrap n = m := ⟨_, rfl⟩
  rw [hm] at hw h0
  subst hw
  clear hL
  go_enter Tryz.func45, Tryz.ntmps45
  go_wp2_with fail
  refine (rnumber_any m 8 w (by decide) h0.1 h0.2).mono ?_
  rintro e w2 ⟨a, k, c, rfl, ho, hb⟩
  have HO := Lib.hid ho
  clear ho
  go_wp2_with fail
  go_ret
  exact ⟨a, k, c, rfl, HO.out, hb⟩
end Go.Proofs.YtejgebpdipnhmaaGreatDoor
/- The reference's Put: four bytes of a number; the frames' bytes, or that some is none. Conditions: the frames' cells lie as their reading says. -/
namespace Go.Proofs.YtejgebpdipnhmaaGreatDoor
open Go.RowKit
set_option maxRecDepth 20000
/-- An append to a row of bytes that is owned, whatever is appended, nil or not: at a step of a region that draws its order. -/
theorem step_append_bytes {w : World} {ops : Array Oper} {o : Oper} {a : Act} {K : Act → World → Prop} {Q : Exit → Act → World → Prop} {E : Prop} (hgd : o.guard = none) (s x : Operand)
    (ho : o.op = .call { callee := .builtin .append, args := #[s, x], argTypes := #[24, 24] })
    (base : Nat) (v : Value) (l : List Int) (hs : a.eval s = v) (hown : w.ownsRow base 5 1 v l.length (l.map bv))
    (ao : Option Addr) (cap : Nat) (xs : List Int) (hx : a.eval x = .slice ao xs.length cap) (B : Nat) (hin : BytesIn w B ao xs) (hao : ao = none → cap = 0) (hlim : l.length + xs.length ≤ 140737488351232) (hbase : base ≤ w.heap.size)
    (h : ∀ v' w', w'.ownsRow base 5 1 v' (l ++ xs).length ((l ++ xs).map bv) → w.grownBy w' v.ownBlock → K (a.put o.dst v') w') :
    if Region.wanted o (yielded ops a.tmps) = true then Oper.wp Tryz.prog o a w K Q else E := by
  have hw : Region.wanted o (yielded ops a.tmps) = true := by simp [Region.wanted, hgd]
  rw [if_pos hw]
  obtain ⟨i0, hi, hz0, hz1, hz2⟩ := info_parts infoByte
  cases ao with
  | none =>
    have hnil : xs = [] := by
      rcases hin with h | ⟨b, off, h1, _⟩
      · exact h
      · cases h1
    subst hnil
    rw [hao rfl] at hx
    have hrun := run_append_owned_none (P := Tryz.prog) (w := w) base 24 o.type 5 i0 1 Tryz.underlying24 hi v l.length _ hown
    unfold Oper.wp
    simp only [List.length_nil] at hx
    simp [execOp, ho, resolve, invoke, builtin, hs, hx, hrun, Result.andThen]
    exact h v w (by simpa using hown) (World.grownBy.refl _ _)
  | some ad =>
    obtain ⟨v', w', hrun, r1, r2, _⟩ := run_append_own (P := Tryz.prog) w base 24 o.type 5 i0 (.int .u8 0) 1 1 Tryz.underlying24 hi hz0 hz1 hz2 rfl (by decide) v l.length _ hown ad xs.length cap (xs.map bv) (by simp) (fun j u hu => cells_of_bytes hin (Below.refl _ _) rfl hu) (bytes_oneCell _) (by unfold maxLen; omega) (by omega) hbase
    unfold Oper.wp
    simp [execOp, ho, resolve, invoke, builtin, hs, hx, hrun, Result.andThen]
    refine h v' w' ?_ r2
    rw [List.length_append, List.map_append]
    exact r1
/-- An append to a row of bytes that is owned, in a plain region: where the new row lies, too. -/
theorem wpList_append_bytes_rp {w : World} {ops : Array Oper} {rest : List Oper} {o : Oper} {a : Act} {Q : Exit → Act → World → Prop} (hgd : o.guard = none) (s x : Operand)
    (ho : o.op = .call { callee := .builtin .append, args := #[s, x], argTypes := #[24, 24] })
    (base : Nat) (v : Value) (l : List Int) (hs : a.eval s = v) (hown : w.ownsRow base 5 1 v l.length (l.map bv))
    (ao : Option Addr) (cap : Nat) (xs : List Int) (hx : a.eval x = .slice ao xs.length cap) (B : Nat) (hin : BytesIn w B ao xs) (hao : ao = none → cap = 0) (hlim : l.length + xs.length ≤ 140737488351232) (hbase : base ≤ w.heap.size)
    (h : ∀ v' w' l', Hid (l' = l ++ xs) → w'.ownsRow base 5 1 v' l'.length (l'.map bv) → w.grownBy w' v.ownBlock → (v'.ownBlock = v.ownBlock ∨ v'.ownBlock = some w.heap.size) → wpList Tryz.prog ops Q rest (a.put o.dst v') w') : wpList Tryz.prog ops Q (o :: rest) a w := by
  obtain ⟨i0, hi, hz0, hz1, hz2⟩ := info_parts infoByte
  cases ao with
  | none =>
    have hnil : xs = [] := by
      rcases hin with h | ⟨b, off, h1, _⟩
      · exact h
      · cases h1
    subst hnil
    rw [hao rfl] at hx
    refine wpList_append_own_none hgd s x _ ho base 5 i0 1 Tryz.underlying24 hi v l.length _ hs hown hx ?_
    refine h v w l (Lib.hid (by simp)) hown (World.grownBy.refl _ _) (Or.inl rfl)
  | some ad =>
    refine wpList_append_own_at _ hgd s x _ ho base 5 i0 (.int .u8 0) 1 1 Tryz.underlying24 hi hz0 hz1 hz2 rfl (by decide) v l.length _ hs hown ad xs.length cap (xs.map bv) hx (by simp) ?_ (bytes_oneCell _) (by unfold maxLen; omega) (by omega) hbase ?_
    · intro j u hu
      exact cells_of_bytes hin (Below.refl _ _) rfl hu
    · intro v' w' h1 h2 _ h3
      refine h v' w' (l ++ xs) (Lib.hid rfl) ?_ h2 h3
      rw [List.length_append, List.map_append]
      exact h1
theorem rbytes_new (w : World) (T : TypeId) (xs : List Int) (cs : Array Value) (fr : Nat × Nat) (g B : Nat) (hcs : cs = (xs.map bv).toArray) (hg : g = w.heap.size) (hB : g < B) : BytesIn (w.alloc (.cells cs T fr)) B (some ⟨g, 0, none⟩) xs := by
  subst hcs hg
  refine Or.inr ⟨_, 0, rfl, hB, fun i hi => ?_⟩
  rw [Nat.zero_add, Go.Joins.cell_of_block (heap_alloc_new w _) i]
  simp [bv, List.getD, List.getElem?_eq_getElem hi]
theorem own_pos_rp {w : World} {base e size n : Nat} {v : Value} {xs : List Value} (h : w.ownsRow base e size v n xs) (hn : 0 < n) : ∃ g c, v = .slice (some ⟨g, 0, none⟩) n c := by
  rcases Go.Joins.ownsRow_forms h with ⟨_, hz⟩ | ⟨g, cap', rfl⟩
  · omega
  · exact ⟨g, cap', rfl⟩
theorem own_inF {w : World} {base g c : Nat} {l : List Int} {n : Nat} (hn : l.length = n) (h : w.ownsRow base 5 1 (.slice (some ⟨g, 0, none⟩) n c) n (l.map bv)) : BytesIn w w.heap.size (some ⟨g, 0, none⟩) l := by
  subst hn
  obtain ⟨ao, cap, hv, hB⟩ := own_bytes h
  cases hv
  exact hB
theorem ne_step {v v' : Value} {g n : Nat} (h : v.ownBlock ≠ some g) (hg : g < n) (hat : v'.ownBlock = v.ownBlock ∨ v'.ownBlock = some n) : v'.ownBlock ≠ some g := by
  rcases hat with e | e
  · rw [e]; exact h
  · rw [e]; intro h2; cases h2; omega
theorem sep_of_ne {v : Value} {g n c : Nat} (h : v.ownBlock ≠ some g) : (Value.slice (some ⟨g, 0, none⟩) n c).ownBlock = none ∨ (Value.slice (some ⟨g, 0, none⟩) n c).ownBlock ≠ v.ownBlock :=
  Or.inr fun e => h e.symm
theorem sub_in {w : World} {base g c n : Nat} {x : Int} {xs : List Int} (hn : xs.length + 1 = n) (h : w.ownsRow base 5 1 (.slice (some ⟨g, 0, none⟩) n c) n ((x :: xs).map bv)) : BytesIn w w.heap.size (subA (some ⟨g, 0, none⟩) c 1 1) xs := by
  have hc : n ≤ c := by
    rcases h.2 with ⟨h', _⟩ | ⟨g', cap', cur, h', _, _, h3, _⟩
    · cases h'
    · cases h'; exact h3
  by_cases h0 : xs = []
  · exact Or.inl h0
  · have hl : 0 < xs.length := List.length_pos_iff.2 h0
    rcases own_inF (by simpa using hn) h with h1 | ⟨b, off, h1, h2, h3⟩
    · cases h1
    · cases h1
      refine Or.inr ⟨g, 1, by unfold subA; rw [if_neg (by omega)]; rfl, h2, fun i hi => ?_⟩
      have := h3 (i + 1) (by simpa using hi)
      rw [Nat.zero_add, Nat.add_comm i 1] at this
      rw [this]
      simp [List.getD, Nat.add_comm 1 i]
theorem rfour_any (n : Nat) (hn : n < 4294967296) (w : World) :
    Calls Tryz.prog 82 #[.int .u32 (n : Int)] w fun e w' => e = .returned (.slice (some ⟨w.heap.size, 0, none⟩) 4 4) ∧ w'.ownsRow w.heap.size 5 1 (.slice (some ⟨w.heap.size, 0, none⟩) 4 4) 4 ((fourB n).map bv) ∧ Below w.heap.size w w' := by
  go_enter Tryz.func82, Tryz.ntmps82
  go_wp2_with fail
  go_ret
  exact ⟨rfl, World.ownsRow_lit w ((fourB n).map bv).toArray 4 (Nat.le_refl _) (by unfold maxLen; omega) rfl, (Below.refl _ _).alloc (Nat.le_refl _) _⟩
theorem rfour_at (a : Int) (n : Nat) (h : a = n) (hn : n < 4294967296) (w : World) :
    Calls Tryz.prog 82 #[.int .u32 a] w fun e w' => e = .returned (.slice (some ⟨w.heap.size, 0, none⟩) 4 4) ∧ w'.ownsRow w.heap.size 5 1 (.slice (some ⟨w.heap.size, 0, none⟩) 4 4) 4 ((fourB n).map bv) ∧ Below w.heap.size w w' := by
  subst h
  exact rfour_any n hn w
theorem rsum_put (ao : Option Addr) (n cap : Nat) (xs : List Int) (z : Nat) (w : World) (B : Nat) (hn : xs.length = n) (hz : sumS xs = z) (hx : BytesIn w B ao xs) (hw : BytesWf xs) (hl : n ≤ 4611686018427387904) :
    Calls Tryz.prog 83 #[.slice ao n cap] w fun e w' => e = .returned (.int .u32 z) ∧ w = w' := by
  subst hn hz
  exact rsum_any ao cap xs w B hx hw hl
def RPutPost (fs : List Fr) (w : World) (e : Ending) (w' : World) : Prop :=
  ∃ v, e = .returned (.tuple #[v, .int .i64 (putE fs)]) ∧ (putE fs = 0 → w'.ownsRow w.heap.size 5 1 v (putB fs).length ((putB fs).map bv)) ∧ (putE fs ≠ 0 → v = .slice none 0 0) ∧ Below w.heap.size w w'
set_option maxHeartbeats 2000000 in
theorem rput_any (ao : Option Addr) (cap : Nat) (fs : List Fr) (w : World) (hx : FramesIn w w.heap.size ao fs) (hw : ∀ f ∈ fs, FrWf f) (hl : (putB fs).length ≤ 140737488351232) (hn : fs.length ≤ 1099511627776) :
    Calls Tryz.prog 46 #[.slice ao fs.length cap] w (RPutPost fs w) := by
  have HX := Lib.hid hx
  clear hx
  go_enter Tryz.func46, Tryz.ntmps46
  go_wp2_with fail
  go_loopw [4, 5, 6] (fun v i _ wr => ∃ (k : Nat) (vv : Value), vv = v ∧ k ≤ fs.length ∧ i = .int .i64 k ∧ (∀ f ∈ fs.take k, okF f) ∧ wr.ownsRow w.heap.size 5 1 vv (putB (fs.take k)).length ((putB (fs.take k)).map bv) ∧ Below w.heap.size w wr) (fun _ i _ _ => fs.length - (intOf i).toNat)
  case atStart => exact ⟨0, _, rfl, by omega, rfl, by simp, by simpa [putB] using World.ownsRow_nil w w.heap.size 5 1, Below.refl _ _⟩
  case round =>
    obtain ⟨k, v, hv0, hk, rfl, hok, hown, hbel⟩ := hrel
    subst hv0
    have HOK := Lib.hid hok
    have HO := Lib.hid hown
    clear hok hown
    have hs := hbel.size
    by_cases hlt : k < fs.length
    · rcases HX.out with h0 | ⟨bb, off, rfl, hb, hc⟩
      · rw [h0] at hlt; simp at hlt
      obtain ⟨c0, c1, hD⟩ := hc k hlt
      rw [← hbel.cell (p := ⟨bb, _, none⟩) hb] at c0 c1
      clear hc
      have hfw := hw (fs.getD k Fr.zero) (by simp [List.getD, List.getElem?_eq_getElem hlt])
      have HE := Lib.hid (putE_at hlt HOK.out)
      have htk : fs.take (k + 1) = fs.take k ++ [fs.getD k Fr.zero] := by rw [List.take_succ_eq_append_getElem hlt]; simp [List.getD, List.getElem?_eq_getElem hlt]
      have HT := Lib.hid htk
      clear htk
      obtain ⟨f, hfe⟩ : ∃ f, f = fs.getD k Fr.zero := ⟨_, rfl⟩
      rw [← hfe] at c0 c1 hD hfw HE HT
      clear hfe
      obtain ⟨fk, fa, fc, fd⟩ := f
      obtain ⟨w1, hfa, hfd, hfl⟩ := hfw
      dsimp only at c0 c1 hD w1 hfa hfd hfl
      have i1 : (k : Int) < fs.length := by omega
      have hbig : (putB (fs.take (k + 1))).length ≤ (putB fs).length := putB_take fs (k + 1)
      rw [HT.out, putB_snoc, List.length_append, frameB_len] at hbig
      dsimp only at hbig
      have HD := Lib.hid hD
      have HFA := Lib.hid hfa
      have HBG := Lib.hid hbig
      clear hD hfa hbig
      by_cases hkk : fk < 0
      · have hE := HE.out (by unfold okF; dsimp only; omega)
        rw [if_pos (by dsimp only; omega)] at hE
        have HE' := Lib.hid hE
        clear hE
        go_wp2_with fail
        go_ret2
        exact ⟨_, by rw [HE'.out]; rfl, by rw [HE'.out]; omega, fun _ => rfl, hbel⟩
      · by_cases hkk2 : 255 < fk
        · have hE := HE.out (by unfold okF; dsimp only; omega)
          rw [if_pos (by dsimp only; omega)] at hE
          have HE' := Lib.hid hE
          clear hE
          go_wp2_with fail
          go_ret2
          exact ⟨_, by rw [HE'.out]; rfl, by rw [HE'.out]; omega, fun _ => rfl, hbel⟩
        · by_cases hlen : 1048576 < fd.length
          · have hE := HE.out (by unfold okF; dsimp only; omega)
            rw [if_neg (by dsimp only; omega)] at hE
            have HE' := Lib.hid hE
            clear hE
            have i2 : (1048576 : Int) < fd.length := by omega
            go_wp2_with fail
            go_ret2
            exact ⟨_, by rw [HE'.out]; rfl, by rw [HE'.out]; omega, fun _ => rfl, hbel⟩
          · have i2 : ¬ (1048576 : Int) < fd.length := by omega
            have hS : ∀ w', Below (w.heap.size) wr w' → w'.cell? ⟨bb, off + k * 2, none⟩ = some (.int .i64 fk) ∧ w'.cell? ⟨bb, off + k * 2 + 1, none⟩ = some (.slice fa fd.length fc) := fun w' h => ⟨(h.cell (p := ⟨bb, _, none⟩) hb).trans c0, (h.cell (p := ⟨bb, _, none⟩) hb).trans c1⟩
            have HSS := Lib.hid hS
            have hrf : Below w.heap.size wr wr := Below.refl _ _
            have n1 : IntKind.u8.wrap fk = fk := by unfold IntKind.wrap; simp [IntKind.signed, IntKind.bits]; omega
            clear hS
            go_wp2_with fail
            go_region_held3 (fun w' => w'.cell? ⟨bb, off + k * 2, none⟩ = some (.int .i64 fk) ∧ w'.cell? ⟨bb, off + k * 2 + 1, none⟩ = some (.slice fa fd.length fc)) ((refine HSS.out _ ?_; repeat (first | with_reducible assumption | with_reducible exact Below.refl _ _ | refine Below.alloc ?_ (by first | omega | (simp; omega)) _ | with_reducible refine Below.drew ?_))) ((refine step_append_bytes (by rfl) (.tmp 40) (.tmp 45) (by rfl) wr.heap.size _ [fk] (by rfl) (World.ownsRow_lit wr.drew #[.int .u8 fk] 1 (Nat.le_refl _) (by unfold maxLen; omega) rfl) fa fc fd (by rfl) w.heap.size ((HD.out.below hbel (Nat.le_refl _)).below (((Below.refl w.heap.size wr).drew).alloc (by simp; omega) _) (Nat.le_refl _)) HFA.out (by simp; omega) (by simp) ?_; intro v3 w3 hown3 hg3; have hb3 : Below w.heap.size wr w3 := ((Below.refl w.heap.size wr).alloc hs _).drew.grown hg3 (by simp; omega) (fun b hb => by simp [Value.ownBlock] at hb; omega)))
            obtain ⟨g4, c4, hv4⟩ := own_pos_rp hown3 (by simp)
            subst hv4
            have hbel3 : Below w.heap.size w w3 := hbel.trans hb3
            have hs3 := hbel3.size
            have hown4 := own_below HO.out (B := wr.heap.size) (w' := w3) (by
              refine ((Below.refl wr.heap.size wr).alloc (Nat.le_refl _) (.cells #[.int .u8 fk] 5)).drew.grown hg3 (by simp) (fun b hb => by simp [Value.ownBlock] at hb; omega)) (Nat.le_refl _)
            have hg4 := hown3.lt g4 rfl
            have hne4 : v.ownBlock ≠ some g4 := fun h => by have := (HO.out.lt g4 h).2; omega
            have hb33 := hb3.size
            have HO4 := Lib.hid hown4
            have HR4 := Lib.hid (show w3.ownsRow wr.heap.size 5 1 (.slice (some ⟨g4, 0, none⟩) (fd.length + 1) c4) (fd.length + 1) ((fk :: fd).map bv) from hown3)
            have HNE4 := Lib.hid hne4
            clear hown4 hown3 hg3 c0 c1 n1 hrf hne4
            obtain ⟨P, hP⟩ : ∃ P, P = putB (fs.take k) := ⟨_, rfl⟩
            have hPl2 : P.length + fd.length + 9 ≤ 140737488351232 := by have := HBG.out; rw [hP]; omega
            have HO5 := Lib.hid (show w3.ownsRow w.heap.size 5 1 v P.length (P.map bv) by rw [hP]; exact HO4.out)
            have HPP := Lib.hid hP
            clear HO4 hP
            have e1 := (HSS.out w3 hb3).2
            go_wp2_with fail
            refine (rfour_at _ fd.length (by omega) (by omega) w3).mono ?_
            rintro e w4 ⟨rfl, hown4, hb4⟩
            have hs4 := hb4.size
            have HO6 := Lib.hid (own_below HO5.out hb4 (Nat.le_refl _))
            have HR6 := Lib.hid (own_below HR4.out hb4 (Nat.le_refl _))
            have H46 := Lib.hid hown4
            clear hown4 e1 HO5 HR4
            go_wp2_with (at_builtin; refine wpList_append_bytes_rp rfl (.tmp 47) (.tmp 55) rfl w.heap.size v P rfl HO6.out (some ⟨w3.heap.size, 0, none⟩) 4 (fourB fd.length) rfl w4.heap.size (own_inF rfl H46.out) (by simp) (by simp [fourB]; omega) (by omega) ?_)
            intro v5 w5 P1 HP1e hown5 hg5 hat5
            have HNE5 := Lib.hid (ne_step HNE4.out (show g4 < w4.heap.size by omega) hat5)
            have HO7 := Lib.hid hown5
            have HR7 := Lib.hid (World.ownsRow.kept HR6.out hg5 (sep_of_ne HNE4.out))
            have hb5 : Below w.heap.size w w5 := ((hbel3.trans (hb4.mono hs3)).grown hg5 (by omega) (fun b hb => (HO6.out.lt b hb).1))
            have hs5 := hb5.size
            have hg45 := (HR7.out.lt g4 rfl).2
            have hwr5 := (HR7.out.lt g4 rfl).1
            have d0 : w5.cell? ⟨g4, 0, none⟩ = some (.int .u8 fk) := (World.ownsRow.cellAt HR7.out 0 (by omega)).trans rfl
            have i5 : (0 : Int) < (fd.length : Int) + 1 := by omega
            have i6 : 0 < fd.length + 1 := by omega
            have hP1 : P1.length = P.length + 4 := by rw [HP1e.out]; simp [fourB]
            have HP1 := Lib.hid hP1
            clear hown5 hg5 hat5 HO6 HR6 H46 HNE4 hP1
            go_wp2_with (at_builtin; refine wpList_append_bytes_rp rfl (.tmp 57) (.tmp 61) rfl w.heap.size v5 P1 rfl (HO7.out.alloc _) (some ⟨w5.heap.size, 0, none⟩) 1 [fk] rfl (w5.heap.size + 1) (rbytes_new w5 _ [fk] _ _ _ _ rfl rfl (by omega)) (by simp) (by rw [HP1.out]; simp; omega) (by simp; omega) ?_)
            intro v6 w6 P2 HP2e hown6 hg6 hat6
            have HNE6 := Lib.hid (ne_step HNE5.out (show g4 < w5.heap.size + 1 by omega) hat6)
            have HO8 := Lib.hid hown6
            have HR8 := Lib.hid (World.ownsRow.kept (HR7.out.alloc _) hg6 (sep_of_ne HNE5.out))
            have hb6 : Below w.heap.size w w6 := ((hb5.alloc hs5 _).grown hg6 (by simp; omega) (fun b hb => (HO7.out.lt b hb).1))
            have hs6 := hb6.size
            have hg46 := (HR8.out.lt g4 rfl).2
            have hP2 : P2.length = P.length + 5 := by have := HP1.out; rw [HP2e.out]; simp; omega
            have HP2 := Lib.hid hP2
            have hwf4 : BytesWf (fk :: fd) := by
              intro y hy
              rcases List.mem_cons.1 hy with rfl | hy
              · omega
              · exact hfd y hy
            have hz4 := sumS_lt hwf4
            obtain ⟨z, hz⟩ : ∃ z, sumS (fk :: fd) = z := ⟨_, rfl⟩
            rw [hz] at hz4
            have HZ := Lib.hid hz
            have HW4 := Lib.hid hwf4
            clear hown6 hg6 hat6 HO7 HR7 HNE5 hP2 hz hwf4 d0
            go_wp2_with fail
            refine (rsum_put _ _ _ (fk :: fd) z w6 _ rfl HZ.out (own_inF rfl HR8.out) HW4.out (by simp; omega)).mono ?_
            rintro e w' ⟨rfl, rfl⟩
            go_wp2_with fail
            refine (rfour_at _ z rfl hz4 w6).mono ?_
            rintro e w7 ⟨rfl, hown7, hb7⟩
            have hs7 := hb7.size
            have HO9 := Lib.hid (own_below HO8.out hb7 (Nat.le_refl _))
            have HR9 := Lib.hid (own_below HR8.out hb7 (Nat.le_refl _))
            have H47 := Lib.hid hown7
            have hb7' : Below w.heap.size w w7 := hb6.trans (hb7.mono hs6)
            clear hown7 HO8 HR8
            go_wp2_with (at_builtin; refine wpList_append_bytes_rp rfl (.tmp 63) (.tmp 66) rfl w.heap.size v6 P2 rfl HO9.out (some ⟨w6.heap.size, 0, none⟩) 4 (fourB z) rfl w7.heap.size (own_inF rfl H47.out) (by simp) (by rw [HP2.out]; simp [fourB]; omega) (by omega) ?_)
            intro v8 w8 P3 HP3e hown8 hg8 hat8
            have HNE8 := Lib.hid (ne_step HNE6.out (show g4 < w7.heap.size by omega) hat8)
            have HO10 := Lib.hid hown8
            have HR10 := Lib.hid (World.ownsRow.kept HR9.out hg8 (sep_of_ne HNE6.out))
            have hb8 : Below w.heap.size w w8 := (hb7'.grown hg8 (by omega) (fun b hb => (HO9.out.lt b hb).1))
            have hs8 := hb8.size
            have hP3 : P3.length = P.length + 9 := by have := HP2.out; rw [HP3e.out]; simp [fourB]; omega
            have HP3 := Lib.hid hP3
            have hsl : ∀ w', (Instr.sliceAt 24 (.slice (some ⟨g4, 0, none⟩) (fd.length + 1) c4) (some (.int .i64 1)) none none).run Tryz.prog w' = .ok (.slice (subA (some ⟨g4, 0, none⟩) c4 1 1) fd.length (c4 - 1)) w' := fun w' => by
              have h1 := run_sub_l sliceByte sizeByte (some ⟨g4, 0, none⟩) (fd.length + 1) c4 1 (by omega) .i64 1 rfl w'
              rwa [show fd.length + 1 - 1 = fd.length by omega] at h1
            have hsn : subA (some ⟨g4, 0, none⟩) c4 1 1 = none → c4 - 1 = 0 := fun h => by have := subA_eq_none h; cases this
            have hsi := sub_in rfl HR10.out
            generalize subA (some ⟨g4, 0, none⟩) c4 1 1 = sa at hsl hsn hsi
            have HSN := Lib.hid hsn
            have HSI := Lib.hid hsi
            clear hown8 hg8 hat8 HO9 HR9 HNE6 hP3 hsn hsi H47
            go_wp2_with (at_builtin; refine wpList_append_bytes_rp rfl (.tmp 68) (.tmp 70) rfl w.heap.size v8 P3 rfl HO10.out sa (c4 - 1) fd rfl w8.heap.size HSI.out HSN.out (by rw [HP3.out]; omega) (by omega) ?_)
            intro v9 w9 P4 HP4e hown9 hg9 hat9
            have hb9 : Below w.heap.size w w9 := (hb8.grown hg9 (by omega) (fun b hb => (HO10.out.lt b hb).1))
            have hend : P4 = putB (fs.take (k + 1)) := by
              rw [HT.out, putB_snoc, HP4e.out, HP3e.out, HP2e.out, HP1e.out, HPP.out, ← HZ.out]
              simp [frameB, List.append_assoc]
            rw [hend] at hown9
            have HO11 := Lib.hid hown9
            clear hown9 hg9 hat9 hend hsl HO10
            go_wp2_with fail
            go_roundw
            case rel => exact ⟨k + 1, v9, rfl, by omega, by go_num, by rw [HT.out]; intro f hf; rcases List.mem_append.1 hf with hf | hf; exact HOK.out f hf; rw [List.mem_singleton.1 hf]; unfold okF; dsimp only; omega, HO11.out, hb9⟩
            case measure => simp [intOf]; omega
    · obtain rfl : k = fs.length := by omega
      have hok := HOK.out
      have hown := HO.out
      rw [List.take_length] at hok hown
      have H0 := Lib.hid (putE_ok hok)
      have HO2 := Lib.hid hown
      clear hok hown
      go_wp2_with fail
      go_ret2
      exact ⟨_, by rw [H0.out]; rfl, fun _ => HO2.out, fun h => absurd H0.out h, hbel⟩
end Go.Proofs.YtejgebpdipnhmaaGreatDoor
/- The document's answer for snaps: Right, Put. Conditions: as each says. -/
namespace Go.Proofs.YtejgebpdipnhmaaGreatDoor
open Go.RowKit
set_option maxRecDepth 20000
set_option maxHeartbeats 4000000 in
theorem rsright_any (x : Sn) (w : World) (hx : NumsIn w w.heap.size x.va x.vs) (hf : SnFine x) (g : Bool) (hg : snRight x.plain = g) :
    Calls Tryz.prog 44 #[snVal x] w fun e w' => e = .returned (.bool g) ∧ Below w.heap.size w w' := by
  obtain ⟨si, st, va, xs, vc, ia, im, ic⟩ := x
  have hl := hf.vn
  clear hf
  dsimp only [snVal, Sn.plain] at hx hg hl ⊢
  obtain ⟨n, hn⟩ : ∃ n, xs.length = n := ⟨_, rfl⟩
  rw [hn] at hl ⊢
  have hg2 : g = (upGo 0 xs && ((decide (1 ≤ si) && decide (si ≤ 1099511627776)) && ((decide (0 ≤ st) && decide (st ≤ 1099511627776)) && decide (n ≤ 7)))) := by
    rw [← hg, ← hn]; rfl
  have HX := Lib.hid hx
  have HN := Lib.hid hn
  obtain ⟨P, hP⟩ := pair_of g
  rw [hP] at hg2
  have HG := Lib.hid hg2
  rw [hP]
  clear hx hn hg hg2 hP
  go_enter Tryz.func44, Tryz.ntmps44
  go_upto_region 1 with fail
  have hb0 := (Below.refl w.heap.size w).alloc (Nat.le_refl _) (.cells #[.int .i64 si, .int .i64 st, .slice va n vc, .slice ia im.length ic] 26)
  have hk0 := heap_alloc_new w (.cells #[.int .i64 si, .int .i64 st, .slice va n vc, .slice ia im.length ic] 26)
  generalize w.alloc (.cells #[.int .i64 si, .int .i64 st, .slice va n vc, .slice ia im.length ic] 26) = w0 at hb0 hk0 ⊢
  have q0 : w0.cell? ⟨w.heap.size, 0, none⟩ = some (.int .i64 si) := Go.Joins.cell_of_block hk0 0
  have q1 : w0.cell? ⟨w.heap.size, 1, none⟩ = some (.int .i64 st) := Go.Joins.cell_of_block hk0 1
  have q2 : w0.cell? ⟨w.heap.size, 2, none⟩ = some (.slice va n vc) := Go.Joins.cell_of_block hk0 2
  have HB0 := Lib.hid hb0
  clear hk0 hb0
  by_cases h1 : si < 1
  · have hf : P.1 = false := by rw [HG.out, decide_eq_false (show ¬ 1 ≤ si by omega)]; simp only [Bool.false_and, Bool.and_false]
    have HF := Lib.hid hf
    clear hf
    go_wp2_with fail
    go_ret
    exact ⟨by rw [HF.out]; rfl, HB0.out⟩
  by_cases h2 : 1099511627776 < si
  · have hf : P.1 = false := by rw [HG.out, decide_eq_false (show ¬ si ≤ 1099511627776 by omega)]; simp only [Bool.false_and, Bool.and_false]
    have HF := Lib.hid hf
    clear hf
    go_wp2_with fail
    go_ret
    exact ⟨by rw [HF.out]; rfl, HB0.out⟩
  by_cases h3 : st < 0
  · have hf : P.1 = false := by rw [HG.out, decide_eq_false (show ¬ 0 ≤ st by omega)]; simp only [Bool.false_and, Bool.and_false]
    have HF := Lib.hid hf
    clear hf
    go_wp2_with fail
    go_ret
    exact ⟨by rw [HF.out]; rfl, HB0.out⟩
  by_cases h4 : 1099511627776 < st
  · have hf : P.1 = false := by rw [HG.out, decide_eq_false (show ¬ st ≤ 1099511627776 by omega)]; simp only [Bool.false_and, Bool.and_false]
    have HF := Lib.hid hf
    clear hf
    go_wp2_with fail
    go_ret
    exact ⟨by rw [HF.out]; rfl, HB0.out⟩
  by_cases h5 : (7 : Int) < (n : Int)
  · have hf : P.1 = false := by rw [HG.out, decide_eq_false (show ¬ n ≤ 7 by omega)]; simp only [Bool.false_and, Bool.and_false]
    have HF := Lib.hid hf
    clear hf
    go_wp2_with fail
    go_ret
    exact ⟨by rw [HF.out]; rfl, HB0.out⟩
  have hg3 : P.1 = upGo 0 xs := by rw [HG.out, decide_eq_true (show 1 ≤ si by omega), decide_eq_true (show si ≤ 1099511627776 by omega), decide_eq_true (show 0 ≤ st by omega), decide_eq_true (show st ≤ 1099511627776 by omega), decide_eq_true (show n ≤ 7 by omega)]; simp only [Bool.true_and, Bool.and_true]
  have HG3 := Lib.hid hg3
  clear hg3
  go_wp2_with fail
  clear h1 h2 h3 h4 h5
  go_loopw [3, 4] (fun m i wr => ∃ k : Nat, k ≤ n ∧ i = .int .i64 k ∧ m = .int .i64 ((xs.take k).getLastD 0) ∧ upGo 0 (xs.take k) = true ∧ w0 = wr) (fun _ i _ => n - (intOf i).toNat)
  case atStart => exact ⟨0, by omega, rfl, rfl, rfl, rfl⟩
  case round =>
    obtain ⟨k, hk, rfl, rfl, hall, rfl⟩ := hrel
    have HA := Lib.hid hall
    clear hall
    by_cases hlt : k < n
    · have i1 : (k : Int) < n := by omega
      have hkx : xs[k]? = some (xs[k]'(by rw [HN.out]; exact hlt)) := List.getElem?_eq_getElem _
      have htk : xs.take (k + 1) = xs.take k ++ [xs[k]'(by rw [HN.out]; exact hlt)] := List.take_succ_eq_append_getElem _
      obtain ⟨b, off, hao, hb, hc, _⟩ := HX.out.at hkx
      generalize xs[k]'(by rw [HN.out]; exact hlt) = x at hc hkx htk
      have c0 : w0.cell? ⟨b, off + k, none⟩ = some (.int .i64 x) := by
        have := hc 0 (by decide)
        rw [Nat.mul_one, Nat.add_zero] at this
        exact (HB0.out.cell (p := ⟨b, _, none⟩) hb).trans this
      subst hao
      have HT := Lib.hid htk
      have hbad : ¬ ((xs.take k).getLastD 0 < x ∧ x ≤ 9) → P.1 = false := fun h => by
        rw [HG3.out, up_last hkx HA.out h]
      have HBAD := Lib.hid hbad
      obtain ⟨q, hq⟩ : ∃ q, (xs.take k).getLastD 0 = q := ⟨_, rfl⟩
      rw [hq] at HBAD
      rw [hq]
      have HQ := Lib.hid hq
      clear hc hkx htk hbad hq
      by_cases h1 : x ≤ q
      · have hf := HBAD.out (by omega)
        go_wp2_with fail
        go_ret
        exact ⟨by first | rfl | (rw [hf]; rfl), HB0.out⟩
      · by_cases h2 : 9 < x
        · have hf := HBAD.out (by omega)
          go_wp2_with fail
          go_ret
          exact ⟨by first | rfl | (rw [hf]; rfl), HB0.out⟩
        · have hv : upGo 0 (xs.take (k + 1)) = true ∧ (xs.take (k + 1)).getLastD 0 = x := by
            rw [HT.out, upGo_snoc, HA.out, HQ.out]
            exact ⟨by simp; omega, by simp⟩
          have HV := Lib.hid hv
          clear hv
          go_wp2_with fail
          go_roundw
          case rel => exact ⟨k + 1, by omega, by go_num, by rw [HV.out.2], HV.out.1, by first | rfl | trivial⟩
          case measure => simp [intOf] <;> omega
    · have i1 : ¬ (k : Int) < n := by omega
      obtain rfl : k = n := by omega
      have hall : upGo 0 xs = true := by
        have := HA.out
        rwa [List.take_of_length_le (by rw [HN.out]; exact Nat.le_refl _)] at this
      have hfin := HG3.out
      rw [hall] at hfin
      have HF := Lib.hid hfin
      clear hall hfin
      go_wp2_with fail
      go_ret
      exact ⟨by rw [HF.out]; rfl, HB0.out⟩
end Go.Proofs.YtejgebpdipnhmaaGreatDoor
