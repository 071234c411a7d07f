/- Rows of bytes that lie apart are found to do so. Conditions: each row is the call's own, in a block of its own. -/
import Derived.Test.YtpjaghaapmbanaaDoorFlat
import Derived.Test.YtpjaghaapmbanaaDoorLentBytes
import Derived.StillTailTactics
namespace Go.Proofs.YtpjaghaapmbanaaDoor
open Go.RowKit
set_option maxRecDepth 20000

def markN (k i : Nat) : Int := 1000003 * ((k : Int) + 7) + i
def markBK (k i : Nat) : Int := IntKind.u64.wrap (markN k i * 11400714819323198485) / 72057594037927936 % 256
theorem mark_at (a b : Int) (k i : Nat) (ha : a = k) (hb : b = i) (hk : k ≤ 1000000) (hi : i ≤ 2000000000000) (w : World) :
    Calls Tryd.prog 81 #[.int .i64 a, .int .i64 b] w fun e w' => e = .returned (.int .i64 (markN k i)) ∧ w = w' := by
  subst ha hb
  go_enter Tryd.func81, Tryd.ntmps81
  go_wp2_with fail
  go_ret
  exact ⟨rfl, rfl⟩
theorem markBK_at (a b : Int) (k i : Nat) (ha : a = k) (hb : b = i) (hk : k ≤ 1000000) (hi : i ≤ 2000000000000) (w : World) :
    Calls Tryd.prog 42 #[.int .i64 a, .int .i64 b] w fun e w' => e = .returned (.int .u8 (markBK k i)) ∧ w = w' := by
  have hm : 0 ≤ markN k i ∧ markN k i ≤ 4000000000000 := by unfold markN; omega
  have HM := Lib.hid (show markBK k i = IntKind.u64.wrap (markN k i * 11400714819323198485) / 72057594037927936 % 256 from rfl)
  have hc := mark_at a b k i ha hb hk hi
  generalize markN k i = m at hm HM hc
  have HC := Lib.hid hc
  clear hc ha hb
  go_enter Tryd.func42, Tryd.ntmps42
  go_wp2_with fail
  refine (HC.out _).mono ?_
  rintro e w' ⟨rfl, rfl⟩
  go_wp2_with fail
  go_ret
  exact ⟨ret_int (by rw [HM.out]), rfl⟩
def mkB (k i : Nat) : List Value := [.int .u8 (markBK k i)]
theorem mkB_len (k i : Nat) : (mkB k i).length = 1 := rfl
theorem take_set_succ {l : List Value} {q : Nat} {u : Value} (h : q < l.length) : (l.set q u).take (q + 1) = l.take q ++ [u] := by
  rw [List.take_succ_eq_append_getElem (by simpa using h)]
  congr 1
  · exact List.take_set_of_le (Nat.le_refl _)
  · simp
theorem own_cap' {w : World} {base e size n m cap : Nat} {ao : Option Addr} {xs : List Value} (h : w.ownsRow base e size (.slice ao m cap) n xs) : m ≤ cap := by
  rcases h.2 with ⟨h', _⟩ | ⟨g, cap', cur, h', _, _, h3, _⟩
  · cases h'; omega
  · cases h'; exact h3
theorem infoRowB : (Tryd.prog.info? 23).map (fun i => (i.zero, i.size, i.bytes)) = some (some (.slice none 0 0), 1, 24) := by kernel_rfl
theorem made_list (z : Value) (n : Nat) : (madeCells #[z] n).toList = (List.range n).map fun _ => z := by
  apply List.ext_getElem?
  intro i
  rw [List.getElem?_map, Array.getElem?_toList]
  by_cases hi : i < n
  · rw [List.getElem?_range hi]; simp [madeCells, hi, Nat.mod_one]
  · rw [List.getElem?_eq_none (by simpa using hi), Array.getElem?_eq_none (by simp [size_madeCells]; omega)]; rfl
/-- A row that lies apart from the one that is grown. -/
theorem grow_other {w : World} {B E SZ B2 E2 S2 k hs n n2 q g c : Nat} {mk : Nat → Nat → List Value} {r u : Value} {xs : List Value} (h : GrowAt B E SZ mk k hs r n q (.slice (some ⟨g, 0, none⟩) (n + q) c) w) (hu : w.ownsRow B2 E2 S2 u n2 xs) (hs2 : ∀ b, u.ownBlock = some b → b < hs) (hsep : Sep u r) : u.ownBlock = none ∨ u.ownBlock ≠ some g := by
  cases hub : u.ownBlock with
  | none => exact Or.inl rfl
  | some b =>
    right
    intro he
    cases he
    rcases h.2.2 with h1 | h1
    · exact hsep g hub h1.symm
    · have := h1 g rfl
      have := hs2 g hub
      omega
/-- A row's slice, as it looks. -/
theorem row_form {w : World} {B E SZ n : Nat} {v : Value} {xs : List Value} (h : w.ownsRow B E SZ v n xs) : ∃ a c, v = .slice a n c ∧ (a = none → n = 0 ∧ c = 0) ∧ (0 < c → ∃ g, a = some ⟨g, 0, none⟩) ∧ n ≤ c := by
  have h0 := h
  rcases Go.Joins.ownsRow_forms h with ⟨rfl, hz⟩ | ⟨g, c, rfl⟩
  · exact ⟨none, 0, by rw [hz], fun _ => ⟨hz, rfl⟩, fun h => by omega, by omega⟩
  · exact ⟨_, c, rfl, by simp, fun _ => ⟨g, rfl⟩, own_cap' h0⟩
theorem sizeRowB : ∀ w, (sizeOf (Tryd.prog.elem 22)).run Tryd.prog w = .ok 1 w := fun _ => by kernel_rfl

end Go.Proofs.YtpjaghaapmbanaaDoor
