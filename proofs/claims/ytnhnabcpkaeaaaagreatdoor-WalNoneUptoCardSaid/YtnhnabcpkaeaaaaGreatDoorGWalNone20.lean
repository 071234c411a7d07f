/- Wals that are not there: each method; a disk that is not there. Conditions: the pointer is nil, or points to a wal that nobody made. -/
import Derived.Test.YtnhnabcpkaeaaaaGreatDoorGWalNone19
import Derived.Test.YtnhnabcpkaeaaaaGreatDoorGWalNone5
import Derived.Test.YtnhnabcpkaeaaaaGreatDoorGWalNone6
import Derived.Test.YtnhnabcpkaeaaaaGreatDoorGWalNone2
import Derived.Maps.AppendAt
import Derived.Test.YtnhnabcpkaeaaaaGreatDoorGWalNone10
import Derived.Test.YtnhnabcpkaeaaaaGreatDoorGWalNone4
import Derived.Lib.AppendStr
set_option linter.unusedVariables false
set_option linter.unusedSimpArgs false
namespace Go.Proofs.YtnhnabcpkaeaaaaGreatDoor
open Go.RowKit
set_option maxRecDepth 20000
/-- A pointer to no wal. -/
def WGone (w : World) (v : Value) : Prop := v = .pointer none ∨ ∃ b, v = .pointer (some ⟨b, 0, none⟩) ∧ b < w.heap.size ∧ w.cell? ⟨b, 0, none⟩ = some (.pointer none)
theorem WGone.below {w w' : World} {v : Value} (h : WGone w v) (hb : Below w.heap.size w w') : WGone w' v := by
  rcases h with h | ⟨b, h1, h2, h3⟩
  · exact Or.inl h
  · exact Or.inr ⟨b, h1, Nat.lt_of_lt_of_le h2 hb.size, (hb.cell (p := ⟨b, 0, none⟩) h2).trans h3⟩
theorem wthere_gone (v : Value) (w : World) (h : WGone w v) : Calls Tryz.prog 44 #[v] w fun e w' => e = .returned (.bool false) ∧ w = w' := by
  rcases h with rfl | ⟨b, rfl, _, hc⟩
  · exact wthere_nil w
  · exact wthere_none b w hc
theorem voted_gone (v : Value) (w : World) (h : WGone w v) : Calls Tryz.prog 14 #[v] w fun e w' => e = .returned (.tuple #[.int .i64 0, .int .i64 0]) ∧ Below w.heap.size w w' := by
  have HC := Lib.hid (wthere_gone v w h)
  clear h
  go_enter Tryz.func14, Tryz.ntmps14
  go_wp2_with fail
  refine HC.out.mono ?_
  rintro e w' ⟨rfl, rfl⟩
  go_wp2_with fail
  go_ret2
  exact ⟨rfl, Below.refl _ _⟩
theorem base_gone (v : Value) (w : World) (h : WGone w v) : Calls Tryz.prog 15 #[v] w fun e w' => e = .returned (.tuple #[.int .i64 0, .int .i64 0]) ∧ Below w.heap.size w w' := by
  have HC := Lib.hid (wthere_gone v w h)
  clear h
  go_enter Tryz.func15, Tryz.ntmps15
  go_wp2_with fail
  refine HC.out.mono ?_
  rintro e w' ⟨rfl, rfl⟩
  go_wp2_with fail
  go_ret2
  exact ⟨rfl, Below.refl _ _⟩
theorem entries_gone (v : Value) (w : World) (h : WGone w v) : Calls Tryz.prog 16 #[v] w fun e w' => e = .returned (.slice none 0 0) ∧ Below w.heap.size w w' := by
  have HC := Lib.hid (wthere_gone v w h)
  clear h
  go_enter Tryz.func16, Tryz.ntmps16
  go_wp2_with fail
  refine HC.out.mono ?_
  rintro e w' ⟨rfl, rfl⟩
  go_wp2_with fail
  go_ret
  exact ⟨rfl, Below.refl _ _⟩
theorem sync_gone (v : Value) (w : World) (h : WGone w v) : Calls Tryz.prog 19 #[v] w fun e w' => e = .returned (.int .i64 1) ∧ Below w.heap.size w w' := by
  have HC := Lib.hid (wthere_gone v w h)
  clear h
  go_enter Tryz.func19, Tryz.ntmps19
  go_wp2_with fail
  refine HC.out.mono ?_
  rintro e w' ⟨rfl, rfl⟩
  go_wp2_with fail
  go_ret
  exact ⟨rfl, Below.refl _ _⟩
theorem vote_gone (v : Value) (a b : Int) (w : World) (h : WGone w v) : Calls Tryz.prog 17 #[v, .int .i64 a, .int .i64 b] w fun e w' => e = .returned (.int .i64 1) ∧ Below w.heap.size w w' := by
  have HC := Lib.hid (wthere_gone v w h)
  clear h
  go_enter Tryz.func17, Tryz.ntmps17
  go_wp2_with fail
  refine HC.out.mono ?_
  rintro e w' ⟨rfl, rfl⟩
  go_wp2_with fail
  go_ret
  exact ⟨rfl, Below.refl _ _⟩
theorem append_gone (v : Value) (a : Int) (ao : Option Addr) (n c : Nat) (w : World) (h : WGone w v) : Calls Tryz.prog 18 #[v, .int .i64 a, .slice ao n c] w fun e w' => e = .returned (.int .i64 1) ∧ Below w.heap.size w w' := by
  have HC := Lib.hid (wthere_gone v w h)
  clear h
  go_enter Tryz.func18, Tryz.ntmps18
  go_wp2_with fail
  refine HC.out.mono ?_
  rintro e w' ⟨rfl, rfl⟩
  go_wp2_with fail
  go_ret
  exact ⟨rfl, Below.refl _ _⟩
theorem compact_gone (p : Option Addr) (a b : Int) (w : World) (h : WGone w (.pointer p)) : Calls Tryz.prog 20 #[.pointer p, .int .i64 a, .int .i64 b] w fun e w' => e = .returned (.int .i64 1) ∧ Below w.heap.size w w' := by
  have hb := (Below.refl w.heap.size w).alloc (Nat.le_refl _) (.cells #[.pointer p] 28)
  have hk := heap_alloc_new w (.cells #[.pointer p] 28)
  have HC := Lib.hid (wthere_gone (.pointer p) _ (h.below hb))
  have HB := Lib.hid hb
  have c0 := Go.Joins.cell_of_block hk 0
  clear h hb hk
  go_enter Tryz.func20, Tryz.ntmps20
  go_upto_region 1 with fail
  generalize w.alloc (.cells #[.pointer p] 28) = w1 at HC HB c0 ⊢
  go_wp2_with fail
  refine HC.out.mono ?_
  rintro e w' ⟨rfl, rfl⟩
  go_wp2_with fail
  go_ret
  exact ⟨rfl, HB.out⟩
theorem open_nilW (w : World) : Calls Tryz.prog 8 #[.pointer none] w fun e w' => e = .returned (.tuple #[.pointer none, .int .i64 1]) ∧ Below w.heap.size w w' := by
  go_enter Tryz.func8, Tryz.ntmps8
  go_wp2_with fail
  refine (read_nil w walS).mono ?_
  rintro e w1 ⟨rfl, hb⟩
  go_wp2_with fail
  go_ret2
  exact ⟨rfl, hb⟩
end Go.Proofs.YtnhnabcpkaeaaaaGreatDoor
/- The reader of the document's answer: bytes. Conditions: its bytes lie as their reading says. -/
namespace Go.Proofs.YtnhnabcpkaeaaaaGreatDoor
open Go.RowKit
set_option maxRecDepth 20000
/-- Which bytes a reader reads. -/
structure RefZ where
  ao : Option Addr
  m : Nat
  cap : Nat
  xs : List Int
variable {Z : RefZ}
theorem oper_append_bytes {w : World} {o : Oper} {a : Act} {K : Act → World → Prop} {Q : Exit → Act → World → Prop} (s x : Operand)
    (ho : o.op = .call { callee := .builtin .append, args := #[s, x], argTypes := #[22, 22] })
    (base : Nat) (v : Value) (l : List Int) (m : Nat) (hm : l.length = m) (hs : a.eval s = v) (hown : w.ownsRow base 5 1 v m (l.map bv))
    (ao : Option Addr) (n cap : Nat) (xs : List Int) (hn : xs.length = n) (hx : a.eval x = .slice ao n cap) (B : Nat) (hin : BytesIn w B ao xs) (hao : ao = none → cap = 0) (hlim : m + n ≤ 140737488351232) (hbase : base ≤ w.heap.size)
    (h : ∀ v' w', w'.ownsRow base 5 1 v' (m + n) ((l ++ xs).map bv) → w.grownBy w' v.ownBlock → K (a.put o.dst v') w') :
    Oper.wp Tryz.prog o a w K Q := by
  obtain ⟨i0, hi, hz0, hz1, hz2⟩ := info_parts infoByte
  subst hm hn
  cases ao with
  | none =>
    have hnil : xs = [] := by
      rcases hin with h | ⟨b, off, h1, _⟩
      · exact h
      · cases h1
    subst hnil
    rw [hao rfl, List.length_nil] at hx
    have hr := run_append_owned_none (P := Tryz.prog) (w := w) base 22 o.type 5 i0 1 Tryz.underlying22 hi v l.length _ hown
    unfold Oper.wp execOp
    simp only [ho, resolve, invoke, builtin, Sem.run_bind, Sem.run_pure, Result.andThen_ok, List.map_toArray, List.map_cons, List.map_nil, hs, hx, hr]
    exact h v w (by simpa using hown) (World.grownBy.refl _ _)
  | some ad =>
    obtain ⟨v', w', hr, h2, h3, _⟩ := run_append_own_at (P := Tryz.prog) w base 22 o.type 5 i0 (.int .u8 0) 1 1 Tryz.underlying22 hi hz0 hz1 hz2 rfl (by decide) v l.length _ hown ad xs.length cap (xs.map bv) (by simp) (fun j u hu => cells_of_bytes hin (Below.refl _ _) rfl hu) (bytes_oneCell _) (by unfold maxLen; omega) (by omega) hbase
    unfold Oper.wp execOp
    simp only [ho, resolve, invoke, builtin, Sem.run_bind, Sem.run_pure, Result.andThen_ok, List.map_toArray, List.map_cons, List.map_nil, hs, hx, hr]
    exact h v' w' (by rw [List.map_append]; exact h2) h3
/- The reader of the document's answer: said, count, Number, Text. Conditions: its bytes lie as their reading says. -/
/- The reader of the document's answer: Value. Conditions: its bytes lie as their reading says. -/
/- The reader of the document's answer: Values. Conditions: its bytes lie as their reading says. -/
end Go.Proofs.YtnhnabcpkaeaaaaGreatDoor
/- The document's writers: the bytes of a number, a text, a value, a row of values. Conditions: what is written is not too long. -/
namespace Go.Proofs.YtnhnabcpkaeaaaaGreatDoor
open Go.RowKit
set_option maxRecDepth 20000
theorem oper_append_bo {w : World} {o : Oper} {a : Act} {K : Act → World → Prop} {Q : Exit → Act → World → Prop} (s x : Operand)
    (ho : o.op = .call { callee := .builtin .append, args := #[s, x], argTypes := #[22, 22] })
    (base : Nat) {a1 : Option Addr} {n1 c1 : Nat} {L1 : List Int} (hs : a.eval s = .slice a1 n1 c1) (hown : BOwn w base a1 n1 c1 L1)
    {ao : Option Addr} {n cap : Nat} {xs : List Int} (hx : a.eval x = .slice ao n cap) (hn : xs.length = n) (B : Nat) (hin : BytesIn w B ao xs) (hao : ao = none → cap = 0) (hlim : n1 + n ≤ 140737488351232) (hbase : base ≤ w.heap.size)
    (h : ∀ a2 n2 c2 w', BOwn w' base a2 n2 c2 (L1 ++ xs) → w.grownBy w' (Value.slice a1 n1 c1).ownBlock → n2 = n1 + n → K (a.put o.dst (.slice a2 n2 c2)) w') : Oper.wp Tryz.prog o a w K Q := by
  obtain ⟨rfl, hrow⟩ := hown
  refine oper_append_bytes s x ho base _ L1 _ rfl hs hrow ao n cap xs hn hx B hin hao hlim hbase fun v' w' h1 h2 => ?_
  obtain ⟨a2, c2, rfl⟩ := row_slice h1
  exact h a2 _ c2 w' ⟨by rw [List.length_append, hn], h1⟩ h2 rfl
theorem rnumber_any (n : Int) (size : Nat) (w : World) (hs : size ≤ 8) (hn : 0 ≤ n) (hn2 : n < 18446744073709551616) :
    Calls Tryz.prog 133 #[.int .u64 n, .int .i64 size] w (RNew (numB size n) w) := by
  have w0 : IntKind.i64.wrap ((size : Int) - 1) = (size : Int) - 1 := IntWalk.i64_in _ (by omega)
  go_enter Tryz.func133, Tryz.ntmps133
  go_wp2_with fail
  go_loopw [5, 6] (fun v i wr => ∃ (q : Nat) (a : Option Addr) (c : Nat), q ≤ size ∧ i = .int .i64 ((size : Int) - 1 - q) ∧ v = .slice a q c ∧ BOwn wr w.heap.size a q c ((numB size n).take q) ∧ Below w.heap.size w wr) (fun _ i _ => (intOf i + 1).toNat)
  case atStart => exact ⟨0, none, 0, by omega, by simp, rfl, ⟨rfl, World.ownsRow_nil _ _ _ _⟩, Below.refl _ _⟩
  case round =>
    clear w0
    obtain ⟨q, a, c, hq, rfl, rfl, hown, hbel⟩ := hrel
    have HO := Lib.hid hown
    clear hown
    by_cases hltq : q < size
    · obtain ⟨p, hp⟩ : ∃ p : Nat, p = size - 1 - q := ⟨_, rfl⟩
      have hpe : (size : Int) - 1 - q = p := by omega
      have hnt := numB_take size n q hltq
      rw [← hp] at hnt
      have HNT := Lib.hid hnt
      have hp8 : p ≤ 7 := by omega
      have w3 : IntKind.i64.wrap (8 * (p : Int)) = 8 * p := IntWalk.i64_in _ (by omega)
      have w4 : IntKind.u64.wrap (8 * (p : Int)) = 8 * p := IntWalk.u64_in _ (by omega)
      have n3 : ((8 : Int) * p).toNat = 8 * p := by omega
      have g3 : (0 : Int) ≤ 8 * p := by omega
      have HPE := Lib.hid hpe
      have hs2 := hbel.size
      rw [hpe]
      clear hnt hp hpe
      go_wp2_with (at_builtin; refine wpList_append_bo rfl (.tmp 13) (.tmp 20) rfl w.heap.size rfl (HO.out.below ((Below.refl wr.heap.size wr).alloc (Nat.le_refl _) _) (Nat.le_refl _)) rfl rfl _ (BOwn.lit wr [n / 2 ^ (8 * p) % 256] (by simp)).in (fun h => by cases h) (by omega) (by simp; omega) ?_)
      intro a2 n2 c2 w5 hown5 hg5 hn5
      have hb5 : Below w.heap.size w w5 := (hbel.alloc hs2 _).grown hg5 (by simp; omega) (fun k hk => (HO.out.lt k hk).1)
      rw [← HNT.out] at hown5
      have HO5 := Lib.hid hown5
      have HN5 := Lib.hid hn5
      clear hown5 hg5 hn5
      go_wp2_with fail
      go_roundw
      case rel => exact ⟨q + 1, a2, c2, by omega, by have := HPE.out; congr 1; push_cast; omega, by rw [HN5.out], by have := HO5.out; rw [HN5.out] at this; exact this, hb5⟩
      case measure => first | (simp [intOf]; done) | (have := HPE.out; simp [intOf]; omega)
    · have hqe : q = size := by omega
      have hown5 := HO.out
      rw [hqe, List.take_of_length_le (l := numB size n) (by rw [numB_len]; exact Nat.le_refl _)] at hown5
      have HO5 := Lib.hid hown5
      have g5 : (size : Int) - 1 - q < 0 := by omega
      subst hqe
      clear hown5
      go_wp2_with fail
      go_ret
      exact ⟨a, _, c, rfl, HO5.out, hbel⟩
theorem rcountW_any (n : Nat) (w : World) (hn : n ≤ 140737488355328) :
    Calls Tryz.prog 113 #[.int .i64 n] w (RNew (numB 4 n) w) := by
  have w1 : IntKind.u64.wrap (n : Int) = n := IntWalk.u64_in _ (by omega)
  go_enter Tryz.func113, Tryz.ntmps113
  go_wp2_with fail
  refine (rnumber_any n 4 w (by decide) (by omega) (by omega)).mono ?_
  rintro e w2 ⟨a, m, c, rfl, ho, hb⟩
  have HO := Lib.hid ho
  clear ho
  go_wp2_with fail
  go_ret
  exact ⟨a, m, c, rfl, HO.out, hb⟩
theorem rNumber_any (n : Int) (L : List Int) (w : World) (hL : numB 8 n = L) :
    Calls Tryz.prog 111 #[.int .i64 n] w (RNew L w) := by
  have hw : numB 8 (IntKind.u64.wrap n) = L := by rw [← hL, numB_wrapU]
  have h0 : 0 ≤ IntKind.u64.wrap n ∧ IntKind.u64.wrap n < 18446744073709551616 := wrapU_range n
  obtain ⟨m, hm⟩ : ∃ m, IntKind.u64.wrap n = m := ⟨_, rfl⟩
  rw [hm] at hw h0
  subst hw
  clear hL
  go_enter Tryz.func111, Tryz.ntmps111
  go_wp2_with fail
  refine (rnumber_any m 8 w (by decide) h0.1 h0.2).mono ?_
  rintro e w2 ⟨a, k, c, rfl, ho, hb⟩
  have HO := Lib.hid ho
  clear ho
  go_wp2_with fail
  go_ret
  exact ⟨a, k, c, rfl, HO.out, hb⟩
theorem strCells_bv (s : ByteArray) : Lib.strCells s = (strB s).map bv := by
  simp [Lib.strCells, strB, bv, Function.comp_def]
theorem rText_any (s : ByteArray) (L : List Int) (w : World) (hL : textB s = L) (hl : s.size ≤ 1099511627776) :
    Calls Tryz.prog 134 #[.string s] w (RNew L w) := by
  obtain ⟨i0, hi, hz0, hz1, hz2⟩ := info_parts infoByte
  have HL := Lib.hid hL
  clear hL
  go_enter Tryz.func134, Tryz.ntmps134
  go_wp2_with fail
  refine (rcountW_any s.size w (by omega)).mono ?_
  rintro e w2 ⟨a, m, c, rfl, ho, hb⟩
  have hm : m = 4 := by rw [← ho.len, numB_len]
  subst hm
  have HO := Lib.hid ho
  have hsz := hb.size
  clear ho
  go_wp2_with (at_builtin; refine Lib.wpList_append_own_string _ rfl (.tmp 5) (.tmp 6) 22 9 rfl w.heap.size 5 i0 Tryz.underlying22 Tryz.underlying9 hi hz0 hz1 hz2 _ 4 _ rfl HO.out.row s rfl (by unfold maxLen; omega) (by omega) hsz ?_)
  intro v' w3 hown hg _
  obtain ⟨a3, c3, rfl⟩ := row_slice hown
  have hb3 := hb.grown hg hsz (fun k hk => (HO.out.lt k hk).1)
  have hown2 : BOwn w3 w.heap.size a3 (4 + s.size) c3 L := ⟨by rw [← HL.out, textB_len], by rw [← HL.out]; unfold textB; rw [List.map_append, ← strCells_bv]; exact hown⟩
  have HO2 := Lib.hid hown2
  clear hown hg hown2
  go_wp2_with fail
  go_ret
  exact ⟨a3, _, c3, rfl, HO2.out, hb3⟩
theorem rValue_any (kd num : Int) (text : ByteArray) (L : List Int) (w : World) (hL : valueB ⟨kd, num, text⟩ = L) (hl : text.size ≤ 1099511627776) :
    Calls Tryz.prog 144 #[.agg #[.int .u8 kd, .int .i64 num, .string text]] w (RNew L w) := by
  have hb0 := (Below.refl w.heap.size w).alloc (Nat.le_refl _) (.cells #[.int .u8 kd, .int .i64 num, .string text] 132)
  have hk0 := heap_alloc_new w (.cells #[.int .u8 kd, .int .i64 num, .string text] 132)
  have hs0 : (w.alloc (.cells #[.int .u8 kd, .int .i64 num, .string text] 132)).heap.size = w.heap.size + 1 := by simp
  have HB0 := Lib.hid hb0
  have HK0 := Lib.hid hk0
  have HS0 := Lib.hid hs0
  have HL := Lib.hid hL
  clear hb0 hk0 hs0 hL
  go_enter Tryz.func144, Tryz.ntmps144
  have hlit : BOwn ((w.alloc (.cells #[.int .u8 kd, .int .i64 num, .string text] 132)).alloc (.cells #[.int .u8 kd] 5)) (w.heap.size + 1) (some ⟨w.heap.size + 1, 0, none⟩) 1 1 [kd] := HS0.out ▸ BOwn.lit (w.alloc (.cells #[.int .u8 kd, .int .i64 num, .string text] 132)) [kd] (by simp)
  have hb1 : Below w.heap.size w ((w.alloc (.cells #[.int .u8 kd, .int .i64 num, .string text] 132)).alloc (.cells #[.int .u8 kd] 5)) := HB0.out.alloc (by rw [HS0.out]; omega) _
  have hs1 : ((w.alloc (.cells #[.int .u8 kd, .int .i64 num, .string text] 132)).alloc (.cells #[.int .u8 kd] 5)).heap.size = w.heap.size + 2 := by simp
  have HLIT := Lib.hid hlit
  have HB1 := Lib.hid hb1
  have HS1 := Lib.hid hs1
  clear hlit hb1 hs1 HB0 HK0 HS0
  by_cases h1 : kd = 1
  · subst h1
    go_wp2_with fail
    have hlit := HLIT.out
    have hb1 := HB1.out
    have hs1 := HS1.out
    generalize (w.alloc (.cells #[.int .u8 1, .int .i64 num, .string text] 132)).alloc (.cells #[.int .u8 1] 5) = w1 at hlit hb1 hs1 ⊢
    clear HLIT HB1 HS1
    have HLIT := Lib.hid hlit
    clear hlit
    refine (rNumber_any num _ w1 rfl).mono ?_
    rintro e w2 ⟨a, m, c, rfl, ho, hb⟩
    obtain rfl : m = 8 := by rw [← ho.len, numB_len]
    have HO := Lib.hid ho
    have hb2 := hb1.trans (hb.mono (by omega))
    have hsz := hb.size
    clear ho
    go_wp2_with (at_builtin; refine wpList_append_bo rfl (.tmp 11) (.tmp 14) rfl (w.heap.size + 1) rfl (HLIT.out.below hb (Nat.le_refl _)) rfl HO.out.len _ HO.out.in HO.out.nil (by omega) (by omega) ?_)
    intro a2 n2 c2 w3 hown hg hn2
    have hb3 := hb2.grown hg (by omega) (fun k hk => by have := (HLIT.out.lt k hk).1; omega)
    have hown2 : BOwn w3 w.heap.size a2 n2 c2 L := by rw [← HL.out]; exact hown.le (Nat.le_succ _)
    have HO2 := Lib.hid hown2
    clear hown hg hown2 hn2
    go_wp2_with fail
    go_ret
    exact ⟨a2, n2, c2, rfl, HO2.out, hb3⟩
  · by_cases h2 : kd = 2
    · subst h2
      go_wp2_with fail
      have hlit := HLIT.out
      have hb1 := HB1.out
      have hs1 := HS1.out
      generalize (w.alloc (.cells #[.int .u8 2, .int .i64 num, .string text] 132)).alloc (.cells #[.int .u8 2] 5) = w1 at hlit hb1 hs1 ⊢
      clear HLIT HB1 HS1
      have HLIT := Lib.hid hlit
      clear hlit
      refine (rText_any text _ w1 rfl hl).mono ?_
      rintro e w2 ⟨a, m, c, rfl, ho, hb⟩
      have HO := Lib.hid ho
      have hm : m = 4 + text.size := by rw [← ho.len, textB_len]
      have hb2 := hb1.trans (hb.mono (by omega))
      have hsz := hb.size
      have HM := Lib.hid hm
      clear ho hm
      go_wp2_with (at_builtin; refine wpList_append_bo rfl (.tmp 18) (.tmp 21) rfl (w.heap.size + 1) rfl (HLIT.out.below hb (Nat.le_refl _)) rfl HO.out.len _ HO.out.in HO.out.nil (by have := HM.out; omega) (by omega) ?_)
      intro a2 n2 c2 w3 hown hg hn2
      have hb3 := hb2.grown hg (by omega) (fun k hk => by have := (HLIT.out.lt k hk).1; omega)
      have hown2 : BOwn w3 w.heap.size a2 n2 c2 L := by rw [← HL.out]; exact hown.le (Nat.le_succ _)
      have HO2 := Lib.hid hown2
      clear hown hg hown2 hn2
      go_wp2_with fail
      go_ret
      exact ⟨a2, n2, c2, rfl, HO2.out, hb3⟩
    · have h1' : decide (kd = 1) = false := by simpa using h1
      have h2' : decide (kd = 2) = false := by simpa using h2
      have hL2 : [kd] = L := by rw [← HL.out]; unfold valueB; dsimp only; rw [if_neg h1, if_neg h2]
      have HL2 := Lib.hid hL2
      clear hL2
      go_wp2_with fail
      go_ret
      exact ⟨_, _, _, rfl, by rw [← HL2.out]; exact HLIT.out.le (Nat.le_succ _), HB1.out⟩
set_option maxHeartbeats 1000000 in
theorem rValues_any (ao : Option Addr) (n cap : Nat) (xs : List Va) (L : List Int) (w : World) (hL : valuesB xs = L) (hn : xs.length = n) (hx : ValsIn w w.heap.size ao xs) (htx : ∀ v ∈ xs, v.text.size ≤ 1099511627776) (hl : L.length ≤ 100000000000) (hnl : n ≤ 1099511627776) :
    Calls Tryz.prog 135 #[.slice ao n cap] w (RNew L w) := by
  have HX := Lib.hid hx
  have HN := Lib.hid hn
  have HTX := Lib.hid htx
  have HL := Lib.hid hL
  clear hx hn htx hL
  go_enter Tryz.func135, Tryz.ntmps135
  go_wp2_with fail
  refine (rcountW_any n w (by omega)).mono ?_
  rintro e w1 ⟨a, m, c, rfl, ho, hb⟩
  have HO := Lib.hid ho
  clear ho
  go_wp2_with fail
  go_loopw [3, 4] (fun v i wr => ∃ (k m : Nat) (a : Option Addr) (c : Nat), k ≤ n ∧ i = .int .i64 k ∧ v = .slice a m c ∧ BOwn wr w.heap.size a m c (numB 4 n ++ (xs.take k).flatMap valueB) ∧ Below w.heap.size w wr) (fun _ i _ => n - (intOf i).toNat)
  case atStart => exact ⟨0, m, a, c, by omega, rfl, rfl, by simpa using HO.out, hb⟩
  case round =>
    clear HO hb
    obtain ⟨k, m, a, c, hk, rfl, rfl, hown, hbel⟩ := hrel
    have HO := Lib.hid hown
    have hsz := hbel.size
    clear hown
    by_cases hlt : k < n
    · have hkx : xs[k]? = some (xs[k]'(by rw [HN.out]; exact hlt)) := List.getElem?_eq_getElem _
      have htk : xs.take (k + 1) = xs.take k ++ [xs[k]'(by rw [HN.out]; exact hlt)] := List.take_succ_eq_append_getElem _
      have hle := flatMap_at_le valueB xs k _ hkx
      have htx := HTX.out _ (List.getElem_mem (l := xs) (n := k) (by rw [HN.out]; exact hlt))
      obtain ⟨b, off, hao, hbb, hc, _⟩ := HX.out.at hkx
      generalize xs[k]'(by rw [HN.out]; exact hlt) = x at hc hkx htk htx hle
      have hLl : (xs.flatMap valueB).length + 4 = L.length := by rw [← HL.out]; unfold valuesB; rw [List.length_append, numB_len]; omega
      have hml : m = 4 + ((xs.take k).flatMap valueB).length := by rw [← HO.out.len, List.length_append, numB_len]
      obtain ⟨q, hq⟩ : ∃ q, valueB x = q := ⟨_, rfl⟩
      rw [hq] at hle
      obtain ⟨kd, num, text⟩ := x
      dsimp only at htx
      have c0 : wr.cell? ⟨b, off + k * 3, none⟩ = some (.int .u8 kd) := (hbel.cell (p := ⟨b, _, none⟩) hbb).trans (hc 0 (by decide))
      have c1 : wr.cell? ⟨b, off + k * 3 + 1, none⟩ = some (.int .i64 num) := (hbel.cell (p := ⟨b, _, none⟩) hbb).trans (hc 1 (by decide))
      have c2 : wr.cell? ⟨b, off + k * 3 + 1 + 1, none⟩ = some (.string text) := (hbel.cell (p := ⟨b, _, none⟩) hbb).trans (hc 2 (by decide))
      have c3 : wr.cell? ⟨b, off + k * 3 + 2, none⟩ = some (.string text) := c2
      have i1 : (k : Int) < n := by omega
      have hnew : numB 4 n ++ ((xs.take k).flatMap valueB ++ q) = numB 4 n ++ (xs.take (k + 1)).flatMap valueB := by rw [htk, List.flatMap_append, ← hq]; simp
      have hmq : m + q.length ≤ 100000000000 := by omega
      have HNEW := Lib.hid hnew
      have HMQ := Lib.hid hmq
      have HQ := Lib.hid hq
      subst hao
      clear hc hkx htk hle hLl hml hnew hmq hq
      go_wp2_with fail
      refine (rValue_any kd num text q wr HQ.out htx).mono ?_
      rintro e w2 ⟨a1, m1, c1', rfl, ho1, hb1⟩
      have HO1 := Lib.hid ho1
      have hb2 := hbel.trans (hb1.mono hsz)
      have hsz1 := hb1.size
      have hm1 : m + m1 ≤ 100000000000 := by have := HMQ.out; have := ho1.len; omega
      have HM1 := Lib.hid hm1
      clear ho1 c0 c1 c2 c3 hm1
      go_wp2_with (at_builtin; refine wpList_append_bo rfl (.tmp 14) (.tmp 19) rfl w.heap.size rfl (HO.out.below hb1 (Nat.le_refl _)) rfl HO1.out.len _ HO1.out.in HO1.out.nil (by have := HM1.out; omega) (by omega) ?_)
      intro a2 n2 c2 w3 hown hg hn2
      have hb3 := hb2.grown hg (by omega) (fun k hk => (HO.out.lt k hk).1)
      try rw [List.append_assoc] at hown
      rw [HNEW.out] at hown
      have HO2 := Lib.hid hown
      clear hown hg hn2
      go_wp2_with fail
      go_roundw
      case rel => exact ⟨k + 1, n2, a2, c2, by omega, by go_num, rfl, HO2.out, hb3⟩
      case measure => simp [intOf]; omega
    · obtain rfl : k = n := by omega
      have hown := HO.out
      rw [List.take_of_length_le (l := xs) (by rw [HN.out]; exact Nat.le_refl _)] at hown
      have hown2 : BOwn wr w.heap.size a m c L := by rw [← HL.out]; unfold valuesB; rw [HN.out]; exact hown
      have HO2 := Lib.hid hown2
      clear hown hown2
      go_wp2_with fail
      go_ret
      exact ⟨a, m, c, rfl, HO2.out, hbel⟩
end Go.Proofs.YtnhnabcpkaeaaaaGreatDoor
