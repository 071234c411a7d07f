/- CopyBytes: bytes of a call's own, and stores among them. Conditions: as each says. -/
import Derived.Test.YtiggpcmikhojmaaGreatDoorGWireNumbers30
import Derived.Test.YtiggpcmikhojmaaGreatDoorGWireNumbers2
import Derived.Test.YtiggpcmikhojmaaGreatDoorGWireNumbers9
import Derived.Test.YtiggpcmikhojmaaGreatDoorGWireNumbers4
import Derived.Test.YtiggpcmikhojmaaGreatDoorGWireNumbers7
import Derived.Test.YtiggpcmikhojmaaGreatDoorGWireNumbers3
import Derived.Test.YtiggpcmikhojmaaGreatDoorGWireNumbers18
import Derived.Test.YtiggpcmikhojmaaGreatDoorGWireNumbers24
set_option linter.unusedVariables false
namespace Go.Proofs.YtiggpcmikhojmaaGreatDoor
open Go.RowKit
set_option maxRecDepth 20000
theorem own_at {w : World} {base n c : Nat} {ao : Option Addr} {l : List Int} (hn : l.length = n) (h : w.ownsRow base 5 1 (.slice ao n c) n (l.map bv)) : BytesIn w w.heap.size ao l := by
  subst hn
  obtain ⟨a', c', hv, hB⟩ := own_bytes h
  cases hv
  exact hB
theorem own_pos {w : World} {base e size n : Nat} {v : Value} {xs : List Value} (h : w.ownsRow base e size v n xs) (hn : 0 < n) : ∃ g c, v = .slice (some ⟨g, 0, none⟩) n c := by
  rcases Go.Joins.ownsRow_forms h with ⟨_, hz⟩ | ⟨g, cap', rfl⟩
  · omega
  · exact ⟨g, cap', rfl⟩
theorem copyB_any (ao : Option Addr) (n cap : Nat) (xs : List Int) (w : World) (B : Nat) (hn : xs.length = n) (hx : BytesIn w B ao xs) (hB : B ≤ w.heap.size) (hao : ao = none → cap = 0) (hl : n ≤ 1099511627776) :
    Calls Tryz.prog 15 #[.slice ao n cap] w fun e w' => ∃ a c, e = .returned (.slice a n c) ∧ w'.ownsRow w.heap.size 5 1 (.slice a n c) n (xs.map bv) ∧ Below w.heap.size w w' := by
  subst hn
  have HX := Lib.hid hx
  have HA := Lib.hid hao
  clear hx hao
  go_enter Tryz.func15, Tryz.ntmps15
  go_wp2_with (at_builtin; refine wpList_append_bytes_at rfl (.tmp 4) (.tmp 5) rfl w.heap.size (.slice none 0 0) [] 0 rfl rfl (World.ownsRow_nil _ _ _ _) ao xs.length cap xs rfl rfl B HX.out HA.out (by omega) (Nat.le_refl _) ?_)
  intro v2 w2 hown hg _
  have hb : Below w.heap.size w w2 := (Below.refl w.heap.size w).grown hg (Nat.le_refl _) (fun k hk => by cases hk)
  obtain ⟨a, c, hv, _⟩ := own_bytes hown
  subst hv
  have HO := Lib.hid hown
  clear hown hg
  go_wp2_with fail
  go_ret
  exact ⟨a, c, rfl, HO.out, hb⟩
/-- The same, at an operation that is guarded, and wanted. -/
theorem wpList_append_bytes_g {w : World} {ops : Array Oper} {rest : List Oper} {o : Oper} {a : Act} {Q : Exit → Act → World → Prop} (hgd : Region.wanted o (yielded ops a.tmps) = true) (s x : Operand)
    (ho : o.op = .call { callee := .builtin .append, args := #[s, x], argTypes := #[43, 43] })
    (base : Nat) (v : Value) (l : List Int) (hs : a.eval s = v) (hown : w.ownsRow base 5 1 v l.length (l.map bv))
    (ad : Addr) (cap : Nat) (xs : List Int) (hx : a.eval x = .slice (some ad) xs.length cap) (B : Nat) (hin : BytesIn w B (some ad) xs) (hlim : l.length + xs.length ≤ 140737488351232) (hbase : base ≤ w.heap.size)
    (h : ∀ v' w' l', Hid (l' = l ++ xs) → w'.ownsRow base 5 1 v' l'.length (l'.map bv) → w.grownBy w' v.ownBlock → wpList Tryz.prog ops Q rest (a.put o.dst v') w') : wpList Tryz.prog ops Q (o :: rest) a w := by
  obtain ⟨i0, hi, hz0, hz1, hz2⟩ := info_parts infoByte
  unfold wpList
  rw [if_pos hgd]
  left
  obtain ⟨v', w', hrun, r1, r2, _⟩ := run_append_own (P := Tryz.prog) w base 43 o.type 5 i0 (.int .u8 0) 1 1 Tryz.underlying43 hi hz0 hz1 hz2 rfl (by decide) v l.length _ hown ad xs.length cap (xs.map bv) (by simp) (fun j u hu => cells_of_bytes hin (Below.refl _ _) rfl hu) (bytes_oneCell _) (by unfold maxLen; omega) (by omega) hbase
  unfold Oper.wp
  simp [execOp, ho, resolve, invoke, builtin, hs, hx, hrun, Result.andThen]
  refine h v' w' (l ++ xs) (Lib.hid rfl) ?_ r2
  rw [List.length_append, List.map_append]
  exact r1
theorem wf_append {l m : List Int} (h : BytesWf l) (h2 : BytesWf m) : BytesWf (l ++ m) := fun x hx => (List.mem_append.1 hx).elim (h x) (h2 x)
theorem made_in (w : World) (n B : Nat) (g : Nat) (hg : g = w.heap.size) (hB : g < B) : BytesIn (w.alloc (.cells (madeCells #[.int .u8 0] n) 5)) B (some ⟨g, 0, none⟩) (List.replicate n 0) := by
  subst hg
  refine Or.inr ⟨_, 0, rfl, hB, fun i hi => ?_⟩
  have hi' : i < n := by simpa using hi
  rw [Nat.zero_add, Go.Joins.cell_of_block (heap_alloc_new w _) i, ← Array.getElem?_toList, made_list, List.getElem?_map, List.getElem?_range hi']
  simp [List.getD, hi']
theorem rep_wf (n : Nat) : BytesWf (List.replicate n 0) := by
  intro x hx
  rw [List.eq_of_mem_replicate hx]; omega
theorem u8_xor {x : Int} (hx : 0 ≤ x ∧ x < 256) : 0 ≤ bits .xor .u8 x 128 ∧ bits .xor .u8 x 128 < 256 := by
  show 0 ≤ IntKind.u8.wrap _ ∧ IntKind.u8.wrap _ < 256
  unfold IntKind.wrap
  simp [IntKind.signed, IntKind.bits]
  omega
theorem wf_set {l : List Int} {k : Nat} {y : Int} (h : BytesWf l) (hy : 0 ≤ y ∧ y < 256) : BytesWf (l.set k y) := by
  intro x hx
  rcases List.mem_or_eq_of_mem_set hx with hx | hx
  · exact h x hx
  · rw [hx]; exact hy
end Go.Proofs.YtiggpcmikhojmaaGreatDoor
/- What readers tell of great texts and of counts that nothing follows. Plain. Conditions: none. -/
namespace Go.Proofs.YtiggpcmikhojmaaGreatDoor
open Go.RowKit
theorem countS_over (n : Nat) (rest : List Int) (h : 65536 < n) (h2 : n < 4294967296) : countS false (numB 4 n ++ rest) = (0, true, rest) := by
  unfold countS
  rw [takeS_back 4 _ _ (numB_len 4 n)]
  dsimp only
  rw [getN_numB]
  have e1 : (256 : Int) ^ 4 = 4294967296 := by decide
  have e : (n : Int) % 256 ^ 4 = n := by rw [e1]; omega
  rw [e, if_pos (by right; omega)]
theorem textS_over (s : ByteArray) (rest : List Int) (h : 65536 < s.size) (h2 : s.size < 4294967296) : ∃ l, textS false (textB s ++ rest) = (⟨#[]⟩, true, l) := by
  unfold textS textB
  rw [List.append_assoc, countS_over _ _ h h2]
  refine ⟨strB s ++ rest, ?_⟩
  simp [takeS, strN, strOfNums]
theorem values_short (m : Nat) (h1 : 0 < m) (h2 : m < 4294967296) : ∃ l, valuesS false (numB 4 m) = ([], true, l) := by
  rcases Nat.lt_or_ge 65536 m with h | h
  · have e := countS_over m [] h h2
    rw [List.append_nil] at e
    unfold valuesS rowsS
    rw [e]
    exact ⟨[], rfl⟩
  · have e := countS_back m [] h
    rw [List.append_nil] at e
    unfold valuesS rowsS
    rw [e]
    dsimp only
    rw [Int.toNat_natCast]
    obtain ⟨p, rfl⟩ : ∃ p, m = p + 1 := ⟨m - 1, by omega⟩
    have ev : valueS false [] = (Va.none, true, []) := rfl
    refine ⟨[], ?_⟩
    simp [rowS, ev, rowS_bad]
theorem numB_3 : numB 4 (65535 : Nat) = [0] ++ [0, 255, 255] ∧ numB 4 (65536 : Nat) = [0] ++ [1, 0, 0] ∧ numB 4 (65537 : Nat) = [0] ++ [1, 0, 1] := ⟨rfl, rfl, rfl⟩
theorem strN_size (l : List Int) : (strN l).size = l.length := by
  show ((l.map fun n : Int => UInt8.ofNat n.toNat).toArray).size = l.length
  simp
/-- A beginning of a row of a call's own. -/
theorem own_head {w : World} {base n m : Nat} {a : Option Addr} {c : Nat} {l : List Int} (h : w.ownsRow base 5 1 (.slice a n c) n (l.map bv)) (hl : l.length = n) (hm : m ≤ n) (hm0 : 0 < m) : w.ownsRow base 5 1 (.slice a m c) m ((l.take m).map bv) := by
  refine ⟨by simp; omega, ?_⟩
  rcases h.2 with ⟨h1, h2⟩ | ⟨g, cap, cur, h1, h2, h3, h4, h5, h6, h7⟩
  · omega
  · cases h1
    refine Or.inr ⟨g, c, cur, rfl, h2, h3, by omega, h5, h6, ?_⟩
    rw [Nat.mul_one] at h7 ⊢
    rw [List.map_take, ← h7, List.take_take, Nat.min_eq_left hm]
theorem made_conv (w : World) (n : Nat) (s : ByteArray) (hs : strN (List.replicate n 0) = s) : (convert 43 9 (.slice (some ⟨w.heap.size, 0, none⟩) n n)).run Tryz.prog (w.alloc (.cells (madeCells #[.int .u8 0] n) 5)) = .ok (.string s) (w.alloc (.cells (madeCells #[.int .u8 0] n) 5)) := by
  have ho : BytesOff (w.alloc (.cells (madeCells #[.int .u8 0] n) 5)) (w.heap.size + 1) (w.heap.size + 1) (some ⟨w.heap.size, 0, none⟩) (List.replicate n 0) := by
    rcases made_in w n (w.heap.size + 1) w.heap.size rfl (by omega) with h | ⟨b, off, h1, h2, h3⟩
    · exact Or.inl h
    · exact Or.inr ⟨b, off, h1, h2, by omega, h3⟩
  have := conv_text (c := n) ho (by simp)
  rw [List.length_replicate, hs] at this
  exact this
theorem text_told (s : ByteArray) (n : Nat) (L : List Int) (hs : s.size = n) (h : n < 4294967296) (hL : textB s ++ [7] = L) : (n ≤ 65536 ∧ ∃ l, textS false L = (s, false, l)) ∨ (65536 < n ∧ ∃ l, textS false L = (⟨#[]⟩, true, l)) := by
  subst hs hL
  rcases Nat.lt_or_ge 65536 s.size with h1 | h1
  · exact Or.inr ⟨h1, textS_over s _ h1 h⟩
  · exact Or.inl ⟨h1, _, textS_back s _ h1⟩
theorem numB_said (n : Nat) (h0 : 65535 ≤ n) (h1 : n < 65538) : [0, (n : Int) / 65536, (n : Int) / 256 % 256, (n : Int) % 256] = numB 4 n ∧ BytesWf (numB 4 n) := by
  refine ⟨?_, numB_wf 4 n⟩
  obtain rfl | rfl | rfl : n = 65535 ∨ n = 65536 ∨ n = 65537 := by omega
  all_goals decide
theorem own_cap8 {w : World} {base n c : Nat} {a : Option Addr} {l : List Int} (h : BOwn w base a n c l) : n ≤ c := own_cap' h.row
end Go.Proofs.YtiggpcmikhojmaaGreatDoor
