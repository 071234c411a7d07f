/- The marks of ropewalkkit/lent.go: numbers, values, entries. Conditions: the places are not too great. -/
import Derived.Test.YtknnbnmogjkcnaaGreatFlatB
import Derived.Test.YtknnbnmogjkcnaaGreatFlatG
import Derived.Test.YtknnbnmogjkcnaaGreatEnSame
namespace Go.Proofs.YtknnbnmogjkcnaaGreat
open Go.RowKit
set_option maxRecDepth 20000

def mkI (k i : Nat) : List Value := [.int .i64 (markN k i)]
theorem mkI_len (k i : Nat) : (mkI k i).length = 1 := rfl
def mkV (k i : Nat) : List Value := [.int .u8 0, .int .i64 (markN k i), .string ByteArray.empty]
theorem mkV_len (k i : Nat) : (mkV k i).length = 3 := rfl
def mkE (k i : Nat) : List Value := [.int .i64 (markN k i), .int .u8 0, .int .i64 0, .int .i64 0, .int .u8 0, .string ByteArray.empty, .slice none 0 0, .int .i64 0, .slice none 0 0]
theorem mkE_len (k i : Nat) : (mkE k i).length = 9 := rfl
theorem markI_at (a b : Int) (k i : Nat) (ha : a = k) (hb : b = i) (hk : k ≤ 1000000) (hi : i ≤ 2000000000000) (w : World) :
    Calls Tryz.prog 54 #[.int .i64 a, .int .i64 b] w fun e w' => e = .returned (.int .i64 (markN k i)) ∧ Below w.heap.size w w' :=
  (mark_at a b k i ha hb hk hi w).mono fun _ _ ⟨h1, h2⟩ => ⟨h1, h2 ▸ Below.refl _ _⟩
theorem markV_at (a b : Int) (k i : Nat) (ha : a = k) (hb : b = i) (hk : k ≤ 1000000) (hi : i ≤ 2000000000000) (w : World) :
    Calls Tryz.prog 57 #[.int .i64 a, .int .i64 b] w fun e w' => e = .returned (.agg #[.int .u8 0, .int .i64 (markN k i), .string ByteArray.empty]) ∧ Below w.heap.size w w' := by
  have hm : 0 ≤ markN k i ∧ markN k i ≤ 4000000000000 := by unfold markN; omega
  have hc := mark_at a b k i ha hb hk hi
  generalize markN k i = m at hm hc
  have HC := Lib.hid hc
  clear hc ha hb
  go_enter Tryz.func57, Tryz.ntmps57
  go_wp2_with fail
  refine (HC.out _).mono ?_
  rintro e w' ⟨rfl, rfl⟩
  go_wp2_with fail
  exact bodyPost_ret (v := .agg #[.int .u8 0, .int .i64 m, .string ByteArray.empty]) (by simp [results, Tryz.results57, go_sem]; rfl) rfl ⟨rfl, (Below.refl _ _).alloc (Nat.le_refl _) _⟩
theorem markE_at (a b : Int) (k i : Nat) (ha : a = k) (hb : b = i) (hk : k ≤ 1000000) (hi : i ≤ 2000000000000) (w : World) :
    Calls Tryz.prog 81 #[.int .i64 a, .int .i64 b] w fun e w' => e = .returned (.agg #[.int .i64 (markN k i), .int .u8 0, .int .i64 0, .int .i64 0, .int .u8 0, .string ByteArray.empty, .slice none 0 0, .int .i64 0, .slice none 0 0]) ∧ Below w.heap.size w w' := by
  have hm : 0 ≤ markN k i ∧ markN k i ≤ 4000000000000 := by unfold markN; omega
  have hc := mark_at a b k i ha hb hk hi
  generalize markN k i = m at hm hc
  have HC := Lib.hid hc
  clear hc ha hb
  go_enter Tryz.func81, Tryz.ntmps81
  go_wp2_with fail
  refine (HC.out _).mono ?_
  rintro e w' ⟨rfl, rfl⟩
  go_wp2_with fail
  exact bodyPost_ret (v := .agg #[.int .i64 m, .int .u8 0, .int .i64 0, .int .i64 0, .int .u8 0, .string ByteArray.empty, .slice none 0 0, .int .i64 0, .slice none 0 0]) (by simp [results, Tryz.results81, go_sem]; rfl) rfl ⟨rfl, (Below.refl _ _).alloc (Nat.le_refl _) _⟩
theorem markI_is (a b : Int) (k i : Nat) (m : Int) (hm : markN k i = m) (ha : a = k) (hb : b = i) (hk : k ≤ 1000000) (hi : i ≤ 2000000000000) (w : World) :
    Calls Tryz.prog 54 #[.int .i64 a, .int .i64 b] w fun e w' => e = .returned (.int .i64 m) ∧ Below w.heap.size w w' := hm ▸ markI_at a b k i ha hb hk hi w
theorem markV_is (a b : Int) (k i : Nat) (m : Int) (hm : markN k i = m) (ha : a = k) (hb : b = i) (hk : k ≤ 1000000) (hi : i ≤ 2000000000000) (w : World) :
    Calls Tryz.prog 57 #[.int .i64 a, .int .i64 b] w fun e w' => e = .returned (.agg #[.int .u8 0, .int .i64 m, .string ByteArray.empty]) ∧ Below w.heap.size w w' := hm ▸ markV_at a b k i ha hb hk hi w
theorem markE_is (a b : Int) (k i : Nat) (m : Int) (hm : markN k i = m) (ha : a = k) (hb : b = i) (hk : k ≤ 1000000) (hi : i ≤ 2000000000000) (w : World) :
    Calls Tryz.prog 81 #[.int .i64 a, .int .i64 b] w fun e w' => e = .returned (.agg #[.int .i64 m, .int .u8 0, .int .i64 0, .int .i64 0, .int .u8 0, .string ByteArray.empty, .slice none 0 0, .int .i64 0, .slice none 0 0]) ∧ Below w.heap.size w w' := hm ▸ markE_at a b k i ha hb hk hi w
/-- Equal marks are equal values. -/
theorem eql_mark (t : TypeId) (h : t = 86) (n : Int) (w : World) : (binOp .eql t (.agg #[.int .u8 0, .int .i64 n, .string ByteArray.empty]) (.agg #[.int .u8 0, .int .i64 n, .string ByteArray.empty])).run Tryz.prog w = .ok (.bool true) w := by
  subst h
  simp [go_sem, Tryz.underlying86]
/-- Equal marks are the same entries. -/
theorem sameMarkE (n : Int) (w : World) : Calls Tryz.prog 82 #[.agg #[.int .i64 n, .int .u8 0, .int .i64 0, .int .i64 0, .int .u8 0, .string ByteArray.empty, .slice none 0 0, .int .i64 0, .slice none 0 0], .agg #[.int .i64 n, .int .u8 0, .int .i64 0, .int .i64 0, .int .u8 0, .string ByteArray.empty, .slice none 0 0, .int .i64 0, .slice none 0 0]] w fun e w' => e = .returned (.bool true) ∧ Below w.heap.size w w' :=
  sameE_any ⟨n, 0, 0, 0, 0, ByteArray.empty, none, [], 0, 0, none, [], 0⟩ ⟨n, 0, 0, 0, 0, ByteArray.empty, none, [], 0, 0, none, [], 0⟩ w w.heap.size rfl ⟨Or.inl rfl, Or.inl rfl⟩ ⟨Or.inl rfl, Or.inl rfl⟩ (Nat.le_refl _) (by simp) (by simp)
end Go.Proofs.YtknnbnmogjkcnaaGreat
