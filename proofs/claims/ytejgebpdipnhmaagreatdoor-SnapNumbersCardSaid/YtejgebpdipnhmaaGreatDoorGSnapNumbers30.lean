/- What SnapNumbers calls beside: copies of bytes, guarded appends, bytes that were made. Conditions: as each says. -/
import Derived.Test.YtejgebpdipnhmaaGreatDoorGSnapNumbers21
import Derived.Test.YtejgebpdipnhmaaGreatDoorGSnapNumbers29
set_option linter.unusedVariables false
set_option linter.unusedSimpArgs false
namespace Go.Proofs.YtejgebpdipnhmaaGreatDoor
open Go.RowKit
set_option maxRecDepth 20000
theorem copyB_snj (ao : Option Addr) (n cap : Nat) (xs : List Int) (w : World) (hn : xs.length = n) (hx : BytesIn w w.heap.size ao xs) (hao : ao = none → cap = 0) (hl : n ≤ 1099511627776) :
    Calls Tryz.prog 8 #[.slice ao n cap] w fun e w' => ∃ a c, e = .returned (.slice a n c) ∧ BOwn w' w.heap.size a n c xs ∧ Below w.heap.size w w' := by
  have HX := Lib.hid hx
  have HA := Lib.hid hao
  have HN := Lib.hid hn
  clear hx hao hn
  go_enter Tryz.func8, Tryz.ntmps8
  go_wp2_with (at_builtin; refine wpList_append_bo rfl (.tmp 4) (.tmp 5) rfl w.heap.size rfl (⟨rfl, World.ownsRow_nil _ _ _ _⟩ : BOwn w w.heap.size none 0 0 []) rfl HN.out w.heap.size HX.out HA.out (by omega) (Nat.le_refl _) ?_)
  intro a2 n2 c2 w2 hown hg hn2
  obtain rfl : n2 = n := by omega
  have hb : Below w.heap.size w w2 := (Below.refl w.heap.size w).grown hg (Nat.le_refl _) (fun k hk => by cases hk)
  have HO := Lib.hid hown
  clear hown hg hn2
  go_wp2_with fail
  go_ret
  exact ⟨a2, c2, rfl, HO.out, hb⟩
theorem wpList_append_bytes_snj {w : World} {ops : Array Oper} {rest : List Oper} {o : Oper} {a : Act} {Q : Exit → Act → World → Prop} (hgd : Region.wanted o (yielded ops a.tmps) = true) (s x : Operand)
    (ho : o.op = .call { callee := .builtin .append, args := #[s, x], argTypes := #[24, 24] })
    (base : Nat) (v : Value) (l : List Int) (hs : a.eval s = v) (hown : w.ownsRow base 5 1 v l.length (l.map bv))
    (ad : Addr) (cap : Nat) (xs : List Int) (hx : a.eval x = .slice (some ad) xs.length cap) (B : Nat) (hin : BytesIn w B (some ad) xs) (hlim : l.length + xs.length ≤ 140737488351232) (hbase : base ≤ w.heap.size)
    (h : ∀ v' w' l', Hid (l' = l ++ xs) → w'.ownsRow base 5 1 v' l'.length (l'.map bv) → w.grownBy w' v.ownBlock → wpList Tryz.prog ops Q rest (a.put o.dst v') w') : wpList Tryz.prog ops Q (o :: rest) a w := by
  obtain ⟨i0, hi, hz0, hz1, hz2⟩ := info_parts infoByte
  unfold wpList
  rw [if_pos hgd]
  left
  obtain ⟨v', w', hrun, r1, r2, _⟩ := run_append_own (P := Tryz.prog) w base 24 o.type 5 i0 (.int .u8 0) 1 1 Tryz.underlying24 hi hz0 hz1 hz2 rfl (by decide) v l.length _ hown ad xs.length cap (xs.map bv) (by simp) (fun j u hu => cells_of_bytes hin (Below.refl _ _) rfl hu) (bytes_oneCell _) (by unfold maxLen; omega) (by omega) hbase
  unfold Oper.wp
  simp [execOp, ho, resolve, invoke, builtin, hs, hx, hrun, Result.andThen]
  refine h v' w' (l ++ xs) (Lib.hid rfl) ?_ r2
  rw [List.length_append, List.map_append]
  exact r1
theorem made_snj (w : World) (n B : Nat) (g : Nat) (hg : g = w.heap.size) (hB : g < B) : BytesIn (w.alloc (.cells (madeCells #[.int .u8 0] n) 5)) B (some ⟨g, 0, none⟩) (List.replicate n 0) := by
  subst hg
  refine Or.inr ⟨_, 0, rfl, hB, fun i hi => ?_⟩
  have hi' : i < n := by simpa using hi
  rw [Nat.zero_add, Go.Joins.cell_of_block (heap_alloc_new w _) i, ← Array.getElem?_toList, made_list, List.getElem?_map, List.getElem?_range hi']
  simp [List.getD, hi']
end Go.Proofs.YtejgebpdipnhmaaGreatDoor
