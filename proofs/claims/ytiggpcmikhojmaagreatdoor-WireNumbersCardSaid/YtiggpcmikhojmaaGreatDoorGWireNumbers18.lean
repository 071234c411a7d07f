/- Numbers that are brought into a kind have the same bytes. No program. Conditions: as each says. -/
import Derived.Test.YtiggpcmikhojmaaGreatDoorGWireNumbers1
import Derived.Test.YtiggpcmikhojmaaGreatDoorGWireNumbers4
import Derived.Test.YtiggpcmikhojmaaGreatDoorGWireNumbers17
import Derived.Lib.AppendStr
import Derived.Test.YtiggpcmikhojmaaGreatDoorGWireNumbers7
set_option linter.unusedVariables false
namespace Go.Proofs.YtiggpcmikhojmaaGreatDoor
theorem numB_mod (n k : Int) : numB 8 (n + 18446744073709551616 * k) = numB 8 n := by
  unfold numB
  have e : List.range 8 = [0, 1, 2, 3, 4, 5, 6, 7] := rfl
  rw [e]
  simp only [List.map_cons, List.map_nil, Nat.reduceSub, Nat.reduceMul, Int.reducePow, List.cons.injEq, and_true]
  refine ⟨by omega, by omega, by omega, by omega, by omega, by omega, by omega, by omega⟩
theorem numB_wrap (n : Int) : numB 8 (IntKind.i64.wrap n) = numB 8 n := by
  have hw : IntKind.i64.wrap n = n + 18446744073709551616 * (-(n / 18446744073709551616)) ∨ IntKind.i64.wrap n = n + 18446744073709551616 * (-(n / 18446744073709551616) - 1) := by
    show (if (true && decide (n % 2 ^ 64 ≥ (2 ^ 63 : Int))) = true then n % 2 ^ 64 - 2 ^ 64 else n % 2 ^ 64) = _ ∨ (if (true && decide (n % 2 ^ 64 ≥ (2 ^ 63 : Int))) = true then n % 2 ^ 64 - 2 ^ 64 else n % 2 ^ 64) = _
    have e2 : (2 : Int) ^ 64 = 18446744073709551616 := by decide
    rw [e2]
    split
    · right; omega
    · left; omega
  rcases hw with h | h <;> rw [h, numB_mod]
theorem wrapU_eq (n : Int) : IntKind.u64.wrap n = n % 18446744073709551616 := by
  show (if (false && decide (n % 2 ^ 64 ≥ (2 ^ 63 : Int))) = true then n % 2 ^ 64 - 2 ^ 64 else n % 2 ^ 64) = _
  have e2 : (2 : Int) ^ 64 = 18446744073709551616 := by decide
  rw [e2]
  rfl
theorem wrapU_range (n : Int) : 0 ≤ IntKind.u64.wrap n ∧ IntKind.u64.wrap n < 18446744073709551616 := by
  rw [wrapU_eq]; omega
theorem numB_wrapU (n : Int) : numB 8 (IntKind.u64.wrap n) = numB 8 n := by
  have h : IntKind.u64.wrap n = n + 18446744073709551616 * (-(n / 18446744073709551616)) := by rw [wrapU_eq]; omega
  rw [h, numB_mod]
end Go.Proofs.YtiggpcmikhojmaaGreatDoor
/- The document's writers: the bytes of a number, a text, a value, a row of values. Conditions: what is written is not too long. -/
namespace Go.Proofs.YtiggpcmikhojmaaGreatDoor
open Go.RowKit
set_option maxRecDepth 20000
/-- Bytes of a call's own. -/
structure BOwn (w : World) (base : Nat) (a : Option Addr) (n c : Nat) (L : List Int) : Prop where
  len : L.length = n
  row : w.ownsRow base 5 1 (.slice a n c) n (L.map bv)
theorem BOwn.below {w w' : World} {base n c B : Nat} {a : Option Addr} {L : List Int} (h : BOwn w base a n c L) (hb : Below B w w') (hB : w.heap.size ≤ B) : BOwn w' base a n c L := ⟨h.len, own_below h.row hb hB⟩
theorem BOwn.le {w : World} {base base' n c : Nat} {a : Option Addr} {L : List Int} (h : BOwn w base a n c L) (hB : base' ≤ base) : BOwn w base' a n c L := ⟨h.len, Go.Joins.ownsRow_le h.row hB⟩
theorem BOwn.in {w : World} {base n c : Nat} {a : Option Addr} {L : List Int} (h : BOwn w base a n c L) : BytesIn w w.heap.size a L := own_in h.len h.row
theorem BOwn.nil {w : World} {base n c : Nat} {a : Option Addr} {L : List Int} (h : BOwn w base a n c L) : a = none → c = 0 := by
  intro ha
  rcases Go.Joins.ownsRow_forms h.row with ⟨h1, _⟩ | ⟨g, c', h1⟩
  · cases h1; rfl
  · rw [ha] at h1; cases h1
theorem BOwn.lt {w : World} {base n c : Nat} {a : Option Addr} {L : List Int} (h : BOwn w base a n c L) : ∀ g, (Value.slice a n c).ownBlock = some g → base ≤ g ∧ g < w.heap.size := fun g hg => World.ownsRow.lt h.row g hg
theorem BOwn.kept {w w' : World} {base n c : Nat} {a : Option Addr} {L : List Int} {row : Option Nat} (h : BOwn w base a n c L) (hg : w.grownBy w' row) (hr : (Value.slice a n c).ownBlock = none ∨ (Value.slice a n c).ownBlock ≠ row) : BOwn w' base a n c L := ⟨h.len, h.row.kept hg hr⟩
theorem BOwn.lit (w : World) (xs : List Int) (h : xs.length ≤ 1000) : BOwn (w.alloc (.cells (xs.map bv).toArray 5)) w.heap.size (some ⟨w.heap.size, 0, none⟩) xs.length xs.length xs :=
  ⟨rfl, by have h2 : xs.length ≤ maxLen := by (unfold maxLen; omega)
           exact World.ownsRow_lit w (base := w.heap.size) (e := 5) (size := 1) (xs.map bv).toArray xs.length (Nat.le_refl _) h2 (by simp)⟩
def RNew (L : List Int) (w : World) (e : Ending) (w' : World) : Prop := ∃ a n c, e = .returned (.slice a n c) ∧ BOwn w' w.heap.size a n c L ∧ Below w.heap.size w w'
theorem wpList_append_bo {w : World} {ops : Array Oper} {rest : List Oper} {o : Oper} {a : Act} {Q : Exit → Act → World → Prop} (hgd : o.guard = none) (s x : Operand)
    (ho : o.op = .call { callee := .builtin .append, args := #[s, x], argTypes := #[43, 43] })
    (base : Nat) {a1 : Option Addr} {n1 c1 : Nat} {L1 : List Int} (hs : a.eval s = .slice a1 n1 c1) (hown : BOwn w base a1 n1 c1 L1)
    {ao : Option Addr} {n cap : Nat} {xs : List Int} (hx : a.eval x = .slice ao n cap) (hn : xs.length = n) (B : Nat) (hin : BytesIn w B ao xs) (hao : ao = none → cap = 0) (hlim : n1 + n ≤ 140737488351232) (hbase : base ≤ w.heap.size)
    (h : ∀ a2 n2 c2 w', BOwn w' base a2 n2 c2 (L1 ++ xs) → w.grownBy w' (Value.slice a1 n1 c1).ownBlock → n2 = n1 + n → wpList Tryz.prog ops Q rest (a.put o.dst (.slice a2 n2 c2)) w') : wpList Tryz.prog ops Q (o :: rest) a w := by
  obtain ⟨rfl, hrow⟩ := hown
  subst hn
  refine wpList_append_bytes hgd s x ho base _ L1 hs hrow ao cap xs hx B hin hao hlim hbase fun v' w' h1 h2 => ?_
  obtain ⟨a2, c2, rfl⟩ := row_slice h1
  exact h a2 _ c2 w' ⟨rfl, h1⟩ h2 (by rw [List.length_append])
theorem oper_append_bo {w : World} {o : Oper} {a : Act} {K : Act → World → Prop} {Q : Exit → Act → World → Prop} (s x : Operand)
    (ho : o.op = .call { callee := .builtin .append, args := #[s, x], argTypes := #[43, 43] })
    (base : Nat) {a1 : Option Addr} {n1 c1 : Nat} {L1 : List Int} (hs : a.eval s = .slice a1 n1 c1) (hown : BOwn w base a1 n1 c1 L1)
    {ao : Option Addr} {n cap : Nat} {xs : List Int} (hx : a.eval x = .slice ao n cap) (hn : xs.length = n) (B : Nat) (hin : BytesIn w B ao xs) (hao : ao = none → cap = 0) (hlim : n1 + n ≤ 140737488351232) (hbase : base ≤ w.heap.size)
    (h : ∀ a2 n2 c2 w', BOwn w' base a2 n2 c2 (L1 ++ xs) → w.grownBy w' (Value.slice a1 n1 c1).ownBlock → n2 = n1 + n → K (a.put o.dst (.slice a2 n2 c2)) w') : Oper.wp Tryz.prog o a w K Q := by
  obtain ⟨rfl, hrow⟩ := hown
  refine oper_append_bytes s x ho base _ L1 _ rfl hs hrow ao n cap xs hn hx B hin hao hlim hbase fun v' w' h1 h2 => ?_
  obtain ⟨a2, c2, rfl⟩ := row_slice h1
  exact h a2 _ c2 w' ⟨by rw [List.length_append, hn], h1⟩ h2 rfl
theorem rnumber_any (n : Int) (size : Nat) (w : World) (hs : size ≤ 8) (hn : 0 ≤ n) (hn2 : n < 18446744073709551616) :
    Calls Tryz.prog 42 #[.int .u64 n, .int .i64 size] w (RNew (numB size n) w) := by
  have w0 : IntKind.i64.wrap ((size : Int) - 1) = (size : Int) - 1 := IntWalk.i64_in _ (by omega)
  go_enter Tryz.func42, Tryz.ntmps42
  go_wp2_with fail
  go_loopw [5, 6] (fun v i wr => ∃ (q : Nat) (a : Option Addr) (c : Nat), q ≤ size ∧ i = .int .i64 ((size : Int) - 1 - q) ∧ v = .slice a q c ∧ BOwn wr w.heap.size a q c ((numB size n).take q) ∧ Below w.heap.size w wr) (fun _ i _ => (intOf i + 1).toNat)
  case atStart => exact ⟨0, none, 0, by omega, by simp, rfl, ⟨rfl, World.ownsRow_nil _ _ _ _⟩, Below.refl _ _⟩
  case round =>
    clear w0
    obtain ⟨q, a, c, hq, rfl, rfl, hown, hbel⟩ := hrel
    have HO := Lib.hid hown
    clear hown
    by_cases hltq : q < size
    · obtain ⟨p, hp⟩ : ∃ p : Nat, p = size - 1 - q := ⟨_, rfl⟩
      have hpe : (size : Int) - 1 - q = p := by omega
      have hnt := numB_take size n q hltq
      rw [← hp] at hnt
      have HNT := Lib.hid hnt
      have hp8 : p ≤ 7 := by omega
      have w3 : IntKind.i64.wrap (8 * (p : Int)) = 8 * p := IntWalk.i64_in _ (by omega)
      have w4 : IntKind.u64.wrap (8 * (p : Int)) = 8 * p := IntWalk.u64_in _ (by omega)
      have n3 : ((8 : Int) * p).toNat = 8 * p := by omega
      have g3 : (0 : Int) ≤ 8 * p := by omega
      have HPE := Lib.hid hpe
      have hs2 := hbel.size
      rw [hpe]
      clear hnt hp hpe
      go_wp2_with (at_builtin; refine wpList_append_bo rfl (.tmp 13) (.tmp 20) rfl w.heap.size rfl (HO.out.below ((Below.refl wr.heap.size wr).alloc (Nat.le_refl _) _) (Nat.le_refl _)) rfl rfl _ (BOwn.lit wr [n / 2 ^ (8 * p) % 256] (by simp)).in (fun h => by cases h) (by omega) (by simp; omega) ?_)
      intro a2 n2 c2 w5 hown5 hg5 hn5
      have hb5 : Below w.heap.size w w5 := (hbel.alloc hs2 _).grown hg5 (by simp; omega) (fun k hk => (HO.out.lt k hk).1)
      rw [← HNT.out] at hown5
      have HO5 := Lib.hid hown5
      have HN5 := Lib.hid hn5
      clear hown5 hg5 hn5
      go_wp2_with fail
      go_roundw
      case rel => exact ⟨q + 1, a2, c2, by omega, by have := HPE.out; congr 1; push_cast; omega, by rw [HN5.out], by have := HO5.out; rw [HN5.out] at this; exact this, hb5⟩
      case measure => first | (simp [intOf]; done) | (have := HPE.out; simp [intOf]; omega)
    · have hqe : q = size := by omega
      have hown5 := HO.out
      rw [hqe, List.take_of_length_le (l := numB size n) (by rw [numB_len]; exact Nat.le_refl _)] at hown5
      have HO5 := Lib.hid hown5
      have g5 : (size : Int) - 1 - q < 0 := by omega
      subst hqe
      clear hown5
      go_wp2_with fail
      go_ret
      exact ⟨a, _, c, rfl, HO5.out, hbel⟩
theorem rcountW_any (n : Nat) (w : World) (hn : n ≤ 140737488355328) :
    Calls Tryz.prog 43 #[.int .i64 n] w (RNew (numB 4 n) w) := by
  have w1 : IntKind.u64.wrap (n : Int) = n := IntWalk.u64_in _ (by omega)
  go_enter Tryz.func43, Tryz.ntmps43
  go_wp2_with fail
  refine (rnumber_any n 4 w (by decide) (by omega) (by omega)).mono ?_
  rintro e w2 ⟨a, m, c, rfl, ho, hb⟩
  have HO := Lib.hid ho
  clear ho
  go_wp2_with fail
  go_ret
  exact ⟨a, m, c, rfl, HO.out, hb⟩
theorem rNumber_any (n : Int) (L : List Int) (w : World) (hL : numB 8 n = L) :
    Calls Tryz.prog 6 #[.int .i64 n] w (RNew L w) := by
  have hw : numB 8 (IntKind.u64.wrap n) = L := by rw [← hL, numB_wrapU]
  have h0 : 0 ≤ IntKind.u64.wrap n ∧ IntKind.u64.wrap n < 18446744073709551616 := wrapU_range n
  obtain ⟨m, hm⟩ : ∃ m, IntKind.u64.wrap n = m := ⟨_, rfl⟩
  rw [hm] at hw h0
  subst hw
  clear hL
  go_enter Tryz.func6, Tryz.ntmps6
  go_wp2_with fail
  refine (rnumber_any m 8 w (by decide) h0.1 h0.2).mono ?_
  rintro e w2 ⟨a, k, c, rfl, ho, hb⟩
  have HO := Lib.hid ho
  clear ho
  go_wp2_with fail
  go_ret
  exact ⟨a, k, c, rfl, HO.out, hb⟩
theorem strCells_bv (s : ByteArray) : Lib.strCells s = (strB s).map bv := by
  simp [Lib.strCells, strB, bv, Function.comp_def]
theorem rText_any (s : ByteArray) (L : List Int) (w : World) (hL : textB s = L) (hl : s.size ≤ 1099511627776) :
    Calls Tryz.prog 7 #[.string s] w (RNew L w) := by
  obtain ⟨i0, hi, hz0, hz1, hz2⟩ := info_parts infoByte
  have HL := Lib.hid hL
  clear hL
  go_enter Tryz.func7, Tryz.ntmps7
  go_wp2_with fail
  refine (rcountW_any s.size w (by omega)).mono ?_
  rintro e w2 ⟨a, m, c, rfl, ho, hb⟩
  have hm : m = 4 := by rw [← ho.len, numB_len]
  subst hm
  have HO := Lib.hid ho
  have hsz := hb.size
  clear ho
  go_wp2_with (at_builtin; refine Lib.wpList_append_own_string _ rfl (.tmp 5) (.tmp 6) 43 9 rfl w.heap.size 5 i0 Tryz.underlying43 Tryz.underlying9 hi hz0 hz1 hz2 _ 4 _ rfl HO.out.row s rfl (by unfold maxLen; omega) (by omega) hsz ?_)
  intro v' w3 hown hg _
  obtain ⟨a3, c3, rfl⟩ := row_slice hown
  have hb3 := hb.grown hg hsz (fun k hk => (HO.out.lt k hk).1)
  have hown2 : BOwn w3 w.heap.size a3 (4 + s.size) c3 L := ⟨by rw [← HL.out, textB_len], by rw [← HL.out]; unfold textB; rw [List.map_append, ← strCells_bv]; exact hown⟩
  have HO2 := Lib.hid hown2
  clear hown hg hown2
  go_wp2_with fail
  go_ret
  exact ⟨a3, _, c3, rfl, HO2.out, hb3⟩
theorem rValue_any (kd num : Int) (text : ByteArray) (L : List Int) (w : World) (hL : valueB ⟨kd, num, text⟩ = L) (hl : text.size ≤ 1099511627776) :
    Calls Tryz.prog 8 #[.agg #[.int .u8 kd, .int .i64 num, .string text]] w (RNew L w) := by
  have hb0 := (Below.refl w.heap.size w).alloc (Nat.le_refl _) (.cells #[.int .u8 kd, .int .i64 num, .string text] 24)
  have hk0 := heap_alloc_new w (.cells #[.int .u8 kd, .int .i64 num, .string text] 24)
  have hs0 : (w.alloc (.cells #[.int .u8 kd, .int .i64 num, .string text] 24)).heap.size = w.heap.size + 1 := by simp
  have HB0 := Lib.hid hb0
  have HK0 := Lib.hid hk0
  have HS0 := Lib.hid hs0
  have HL := Lib.hid hL
  clear hb0 hk0 hs0 hL
  go_enter Tryz.func8, Tryz.ntmps8
  have hlit : BOwn ((w.alloc (.cells #[.int .u8 kd, .int .i64 num, .string text] 24)).alloc (.cells #[.int .u8 kd] 5)) (w.heap.size + 1) (some ⟨w.heap.size + 1, 0, none⟩) 1 1 [kd] := HS0.out ▸ BOwn.lit (w.alloc (.cells #[.int .u8 kd, .int .i64 num, .string text] 24)) [kd] (by simp)
  have hb1 : Below w.heap.size w ((w.alloc (.cells #[.int .u8 kd, .int .i64 num, .string text] 24)).alloc (.cells #[.int .u8 kd] 5)) := HB0.out.alloc (by rw [HS0.out]; omega) _
  have hs1 : ((w.alloc (.cells #[.int .u8 kd, .int .i64 num, .string text] 24)).alloc (.cells #[.int .u8 kd] 5)).heap.size = w.heap.size + 2 := by simp
  have HLIT := Lib.hid hlit
  have HB1 := Lib.hid hb1
  have HS1 := Lib.hid hs1
  clear hlit hb1 hs1 HB0 HK0 HS0
  by_cases h1 : kd = 1
  · subst h1
    go_wp2_with fail
    have hlit := HLIT.out
    have hb1 := HB1.out
    have hs1 := HS1.out
    generalize (w.alloc (.cells #[.int .u8 1, .int .i64 num, .string text] 24)).alloc (.cells #[.int .u8 1] 5) = w1 at hlit hb1 hs1 ⊢
    clear HLIT HB1 HS1
    have HLIT := Lib.hid hlit
    clear hlit
    refine (rNumber_any num _ w1 rfl).mono ?_
    rintro e w2 ⟨a, m, c, rfl, ho, hb⟩
    obtain rfl : m = 8 := by rw [← ho.len, numB_len]
    have HO := Lib.hid ho
    have hb2 := hb1.trans (hb.mono (by omega))
    have hsz := hb.size
    clear ho
    go_wp2_with (at_builtin; refine wpList_append_bo rfl (.tmp 11) (.tmp 14) rfl (w.heap.size + 1) rfl (HLIT.out.below hb (Nat.le_refl _)) rfl HO.out.len _ HO.out.in HO.out.nil (by omega) (by omega) ?_)
    intro a2 n2 c2 w3 hown hg hn2
    have hb3 := hb2.grown hg (by omega) (fun k hk => by have := (HLIT.out.lt k hk).1; omega)
    have hown2 : BOwn w3 w.heap.size a2 n2 c2 L := by rw [← HL.out]; exact hown.le (Nat.le_succ _)
    have HO2 := Lib.hid hown2
    clear hown hg hown2 hn2
    go_wp2_with fail
    go_ret
    exact ⟨a2, n2, c2, rfl, HO2.out, hb3⟩
  · by_cases h2 : kd = 2
    · subst h2
      go_wp2_with fail
      have hlit := HLIT.out
      have hb1 := HB1.out
      have hs1 := HS1.out
      generalize (w.alloc (.cells #[.int .u8 2, .int .i64 num, .string text] 24)).alloc (.cells #[.int .u8 2] 5) = w1 at hlit hb1 hs1 ⊢
      clear HLIT HB1 HS1
      have HLIT := Lib.hid hlit
      clear hlit
      refine (rText_any text _ w1 rfl hl).mono ?_
      rintro e w2 ⟨a, m, c, rfl, ho, hb⟩
      have HO := Lib.hid ho
      have hm : m = 4 + text.size := by rw [← ho.len, textB_len]
      have hb2 := hb1.trans (hb.mono (by omega))
      have hsz := hb.size
      have HM := Lib.hid hm
      clear ho hm
      go_wp2_with (at_builtin; refine wpList_append_bo rfl (.tmp 18) (.tmp 21) rfl (w.heap.size + 1) rfl (HLIT.out.below hb (Nat.le_refl _)) rfl HO.out.len _ HO.out.in HO.out.nil (by have := HM.out; omega) (by omega) ?_)
      intro a2 n2 c2 w3 hown hg hn2
      have hb3 := hb2.grown hg (by omega) (fun k hk => by have := (HLIT.out.lt k hk).1; omega)
      have hown2 : BOwn w3 w.heap.size a2 n2 c2 L := by rw [← HL.out]; exact hown.le (Nat.le_succ _)
      have HO2 := Lib.hid hown2
      clear hown hg hown2 hn2
      go_wp2_with fail
      go_ret
      exact ⟨a2, n2, c2, rfl, HO2.out, hb3⟩
    · have h1' : decide (kd = 1) = false := by simpa using h1
      have h2' : decide (kd = 2) = false := by simpa using h2
      have hL2 : [kd] = L := by rw [← HL.out]; unfold valueB; dsimp only; rw [if_neg h1, if_neg h2]
      have HL2 := Lib.hid hL2
      clear hL2
      go_wp2_with fail
      go_ret
      exact ⟨_, _, _, rfl, by rw [← HL2.out]; exact HLIT.out.le (Nat.le_succ _), HB1.out⟩
set_option maxHeartbeats 1000000 in
theorem rValues_any (ao : Option Addr) (n cap : Nat) (xs : List Va) (L : List Int) (w : World) (hL : valuesB xs = L) (hn : xs.length = n) (hx : ValsIn w w.heap.size ao xs) (htx : ∀ v ∈ xs, v.text.size ≤ 1099511627776) (hl : L.length ≤ 100000000000) (hnl : n ≤ 1099511627776) :
    Calls Tryz.prog 9 #[.slice ao n cap] w (RNew L w) := by
  have HX := Lib.hid hx
  have HN := Lib.hid hn
  have HTX := Lib.hid htx
  have HL := Lib.hid hL
  clear hx hn htx hL
  go_enter Tryz.func9, Tryz.ntmps9
  go_wp2_with fail
  refine (rcountW_any n w (by omega)).mono ?_
  rintro e w1 ⟨a, m, c, rfl, ho, hb⟩
  have HO := Lib.hid ho
  clear ho
  go_wp2_with fail
  go_loopw [3, 4] (fun v i wr => ∃ (k m : Nat) (a : Option Addr) (c : Nat), k ≤ n ∧ i = .int .i64 k ∧ v = .slice a m c ∧ BOwn wr w.heap.size a m c (numB 4 n ++ (xs.take k).flatMap valueB) ∧ Below w.heap.size w wr) (fun _ i _ => n - (intOf i).toNat)
  case atStart => exact ⟨0, m, a, c, by omega, rfl, rfl, by simpa using HO.out, hb⟩
  case round =>
    clear HO hb
    obtain ⟨k, m, a, c, hk, rfl, rfl, hown, hbel⟩ := hrel
    have HO := Lib.hid hown
    have hsz := hbel.size
    clear hown
    by_cases hlt : k < n
    · have hkx : xs[k]? = some (xs[k]'(by rw [HN.out]; exact hlt)) := List.getElem?_eq_getElem _
      have htk : xs.take (k + 1) = xs.take k ++ [xs[k]'(by rw [HN.out]; exact hlt)] := List.take_succ_eq_append_getElem _
      have hle := flatMap_at_le valueB xs k _ hkx
      have htx := HTX.out _ (List.getElem_mem (l := xs) (n := k) (by rw [HN.out]; exact hlt))
      obtain ⟨b, off, hao, hbb, hc, _⟩ := HX.out.at hkx
      generalize xs[k]'(by rw [HN.out]; exact hlt) = x at hc hkx htk htx hle
      have hLl : (xs.flatMap valueB).length + 4 = L.length := by rw [← HL.out]; unfold valuesB; rw [List.length_append, numB_len]; omega
      have hml : m = 4 + ((xs.take k).flatMap valueB).length := by rw [← HO.out.len, List.length_append, numB_len]
      obtain ⟨q, hq⟩ : ∃ q, valueB x = q := ⟨_, rfl⟩
      rw [hq] at hle
      obtain ⟨kd, num, text⟩ := x
      dsimp only at htx
      have c0 : wr.cell? ⟨b, off + k * 3, none⟩ = some (.int .u8 kd) := (hbel.cell (p := ⟨b, _, none⟩) hbb).trans (hc 0 (by decide))
      have c1 : wr.cell? ⟨b, off + k * 3 + 1, none⟩ = some (.int .i64 num) := (hbel.cell (p := ⟨b, _, none⟩) hbb).trans (hc 1 (by decide))
      have c2 : wr.cell? ⟨b, off + k * 3 + 1 + 1, none⟩ = some (.string text) := (hbel.cell (p := ⟨b, _, none⟩) hbb).trans (hc 2 (by decide))
      have c3 : wr.cell? ⟨b, off + k * 3 + 2, none⟩ = some (.string text) := c2
      have i1 : (k : Int) < n := by omega
      have hnew : numB 4 n ++ ((xs.take k).flatMap valueB ++ q) = numB 4 n ++ (xs.take (k + 1)).flatMap valueB := by rw [htk, List.flatMap_append, ← hq]; simp
      have hmq : m + q.length ≤ 100000000000 := by omega
      have HNEW := Lib.hid hnew
      have HMQ := Lib.hid hmq
      have HQ := Lib.hid hq
      subst hao
      clear hc hkx htk hle hLl hml hnew hmq hq
      go_wp2_with fail
      refine (rValue_any kd num text q wr HQ.out htx).mono ?_
      rintro e w2 ⟨a1, m1, c1', rfl, ho1, hb1⟩
      have HO1 := Lib.hid ho1
      have hb2 := hbel.trans (hb1.mono hsz)
      have hsz1 := hb1.size
      have hm1 : m + m1 ≤ 100000000000 := by have := HMQ.out; have := ho1.len; omega
      have HM1 := Lib.hid hm1
      clear ho1 c0 c1 c2 c3 hm1
      go_wp2_with (at_builtin; refine wpList_append_bo rfl (.tmp 14) (.tmp 19) rfl w.heap.size rfl (HO.out.below hb1 (Nat.le_refl _)) rfl HO1.out.len _ HO1.out.in HO1.out.nil (by have := HM1.out; omega) (by omega) ?_)
      intro a2 n2 c2 w3 hown hg hn2
      have hb3 := hb2.grown hg (by omega) (fun k hk => (HO.out.lt k hk).1)
      try rw [List.append_assoc] at hown
      rw [HNEW.out] at hown
      have HO2 := Lib.hid hown
      clear hown hg hn2
      go_wp2_with fail
      go_roundw
      case rel => exact ⟨k + 1, n2, a2, c2, by omega, by go_num, rfl, HO2.out, hb3⟩
      case measure => simp [intOf]; omega
    · obtain rfl : k = n := by omega
      have hown := HO.out
      rw [List.take_of_length_le (l := xs) (by rw [HN.out]; exact Nat.le_refl _)] at hown
      have hown2 : BOwn wr w.heap.size a m c L := by rw [← HL.out]; unfold valuesB; rw [HN.out]; exact hown
      have HO2 := Lib.hid hown2
      clear hown hown2
      go_wp2_with fail
      go_ret
      exact ⟨a, m, c, rfl, HO2.out, hbel⟩
end Go.Proofs.YtiggpcmikhojmaaGreatDoor
/- Fact, Command of wire: the bytes of a form. Conditions: what is written is not too long. -/
namespace Go.Proofs.YtiggpcmikhojmaaGreatDoor
open Go.RowKit
set_option maxRecDepth 20000
/-- A block that lay under the writer's. -/
theorem heap_alloc_keep {w : World} {g : Nat} {x : Obj} (h : w.heap[g]? = some x) (o : Obj) : (w.alloc o).heap[g]? = some x :=
  ((World.grownBy_alloc w o none).block g (Array.getElem?_eq_some_iff.1 h).1 (by simp)).trans h
set_option maxHeartbeats 1000000 in
theorem wfact_any (id ty : Int) (ao : Option Addr) (n cap : Nat) (args : List Va) (w : World) (hn : args.length = n) (hx : ValsIn w w.heap.size ao args) (htx : ∀ v ∈ args, v.text.size ≤ 1099511627776) (hnl : n ≤ 1099511627776) (hlim : (valuesB args).length + 20 ≤ 100000000000) :
    Calls Tryz.prog 31 #[.agg #[.int .i64 id, .int .i64 ty, .slice ao n cap]] w (BytesNew (factB ⟨id, ty, args⟩) w.heap.size w) := by
  have hfl : (factB ⟨id, ty, args⟩).length = 16 + (valuesB args).length := by simp only [factB, List.length_append, numB_len]; omega
  have H := Lib.hid (buf_new (w.alloc (.cells #[.int .i64 id, .int .i64 ty, .slice ao n cap] 27)))
  have hb := ((Below.refl w.heap.size w).alloc (Nat.le_refl _) (.cells #[.int .i64 id, .int .i64 ty, .slice ao n cap] 27)).alloc (by simp) (.cells #[.slice none 0 0, .int .i64 0, .int .i8 0] 101)
  have HB := Lib.hid hb
  have hsz : (w.alloc (.cells #[.int .i64 id, .int .i64 ty, .slice ao n cap] 27)).heap.size = w.heap.size + 1 := by simp
  rw [hsz] at H
  have HX := Lib.hid hx
  have HN := Lib.hid hn
  have HTX := Lib.hid htx
  have HFL := Lib.hid hfl
  clear hb hsz hx hn htx hfl
  go_enter Tryz.func31, Tryz.ntmps31
  go_wp2_with fail
  refine (fact_any (w.heap.size + 1) (w.heap.size + 1) [] id ty ao n cap args _ HN.out ((HX.out.below noSub_kept HB.out (Nat.le_refl _)).mono noSub_rising (Nat.le_succ _)) HTX.out H.out (by simp) hnl (by simp; omega)).mono ?_
  rintro e w1 ⟨rfl, hw⟩
  rw [List.nil_append] at hw
  have HW := Lib.hid hw
  have hb1 := HB.out.trans (hw.2.1.mono (Nat.le_succ _))
  have hs1 : w.heap.size + 1 ≤ w1.heap.size := by have := hw.2.1.size; simp at this; omega
  clear hw
  go_wp2_with fail
  refine (told_any (w.heap.size + 1) (w.heap.size + 1) _ w1 HW.out.1 hs1 (by have := HFL.out; omega)).mono ?_
  rintro e w2 ⟨a, c, rfl, ho, hb2⟩
  have HO := Lib.hid (Go.Joins.ownsRow_le ho hb1.size)
  have hb3 := hb1.trans (hb2.mono hb1.size)
  clear ho hb1 hb2
  go_wp2_with fail
  go_ret
  exact ⟨a, c, rfl, HO.out, hb3⟩
theorem wtext_any (s : ByteArray) (w : World) (hl : s.size ≤ 1099511627776) :
    Calls Tryz.prog 28 #[.string s] w (BytesNew (textB s) w.heap.size w) := by
  have H := Lib.hid (buf_new w)
  have hb := (Below.refl w.heap.size w).alloc (Nat.le_refl _) (.cells #[.slice none 0 0, .int .i64 0, .int .i8 0] 101)
  have HB := Lib.hid hb
  clear hb
  go_enter Tryz.func28, Tryz.ntmps28
  go_wp2_with fail
  refine (text_any w.heap.size w.heap.size [] s _ H.out (by simp) (by simp; omega)).mono ?_
  rintro e w1 ⟨rfl, hw⟩
  rw [List.nil_append] at hw
  have HW := Lib.hid hw
  have hb1 := HB.out.trans hw.2.1
  clear hw
  go_wp2_with fail
  refine (told_any w.heap.size w.heap.size _ w1 HW.out.1 hb1.size (by rw [textB_len]; omega)).mono ?_
  rintro e w2 ⟨a, c, rfl, ho, hb2⟩
  have HO := Lib.hid (Go.Joins.ownsRow_le ho hb1.size)
  have hb3 := hb1.trans (hb2.mono hb1.size)
  clear ho hb1 hb2
  go_wp2_with fail
  go_ret
  exact ⟨a, c, rfl, HO.out, hb3⟩
theorem commandB_len (ck : Int) (text : ByteArray) (num : Int) (args : List Va) : (commandB ck text num args).length = 13 + text.size + (valuesB args).length := by
  simp only [commandB, List.length_append, List.length_cons, numB_len, textB_len]; omega
set_option maxHeartbeats 1000000 in
theorem wcommand_any (ck : Int) (text : ByteArray) (ao : Option Addr) (n cap : Nat) (num : Int) (args : List Va) (w : World) (hn : args.length = n) (hx : ValsIn w w.heap.size ao args) (htx : ∀ v ∈ args, v.text.size ≤ 1099511627776) (hnl : n ≤ 1099511627776) (hlim : text.size + (valuesB args).length + 40 ≤ 100000000000) :
    Calls Tryz.prog 32 #[.agg #[.int .u8 ck, .string text, .slice ao n cap, .int .i64 num]] w (BytesNew (commandB ck text num args) w.heap.size w) := by
  have hfl := commandB_len ck text num args
  have H := Lib.hid (buf_new (w.alloc (.cells #[.int .u8 ck, .string text, .slice ao n cap, .int .i64 num] 30)))
  have hb := ((Below.refl w.heap.size w).alloc (Nat.le_refl _) (.cells #[.int .u8 ck, .string text, .slice ao n cap, .int .i64 num] 30)).alloc (by simp) (.cells #[.slice none 0 0, .int .i64 0, .int .i8 0] 101)
  have HB := Lib.hid hb
  have hsz : (w.alloc (.cells #[.int .u8 ck, .string text, .slice ao n cap, .int .i64 num] 30)).heap.size = w.heap.size + 1 := by simp
  rw [hsz] at H
  have HX := Lib.hid hx
  have HN := Lib.hid hn
  have HTX := Lib.hid htx
  have HFL := Lib.hid hfl
  clear hb hsz hx hn htx hfl
  go_enter Tryz.func32, Tryz.ntmps32
  go_wp2_with fail
  refine (command_any (w.heap.size + 1) (w.heap.size + 1) [] ck text ao n cap num args _ HN.out ((HX.out.below noSub_kept HB.out (Nat.le_refl _)).mono noSub_rising (Nat.le_succ _)) HTX.out H.out (by simp) hnl (by simp; omega)).mono ?_
  rintro e w1 ⟨rfl, hw⟩
  rw [List.nil_append] at hw
  have HW := Lib.hid hw
  have hb1 := HB.out.trans (hw.2.1.mono (Nat.le_succ _))
  have hs1 : w.heap.size + 1 ≤ w1.heap.size := by have := hw.2.1.size; simp at this; omega
  clear hw
  go_wp2_with fail
  refine (told_any (w.heap.size + 1) (w.heap.size + 1) _ w1 HW.out.1 hs1 (by have := HFL.out; omega)).mono ?_
  rintro e w2 ⟨a, c, rfl, ho, hb2⟩
  have HO := Lib.hid (Go.Joins.ownsRow_le ho hb1.size)
  have hb3 := hb1.trans (hb2.mono hb1.size)
  clear ho hb1 hb2
  go_wp2_with fail
  go_ret
  exact ⟨a, c, rfl, HO.out, hb3⟩
end Go.Proofs.YtiggpcmikhojmaaGreatDoor
