/- The reader of wire: said, kind, count. Conditions: the reader is one that was made. -/
import Derived.Test.YtnfldkebjeigiaaDoorRdr
namespace Go.Proofs.YtnfldkebjeigiaaDoor
open Go.RowKit
set_option maxRecDepth 20000

theorem or_byte (V x : Int) (h0 : 0 ≤ x) (h1 : x < 256) : bits .or .i64 (wrap64 (V * 256)) x = IntKind.i64.wrap (V * 256 + x) := by
  obtain ⟨y, rfl⟩ : ∃ y : Nat, x = y := ⟨x.toNat, by omega⟩
  have e1 : wrap64 (V * 256) = IntKind.i64.wrap (V * 256) := by simp only [wrap64, IntKind.wrap_i64]
  rw [e1]
  obtain ⟨m, hm⟩ : ∃ m : Nat, (m : Int) = (V * 256) % 18446744073709551616 := ⟨((V * 256) % 18446744073709551616).toNat, by omega⟩
  have h256 : m % 256 = 0 := by omega
  have hml : m < 18446744073709551616 := by omega
  have g1 : (BitVec.ofInt 64 (IntKind.i64.wrap (V * 256))).toNat = m := by
    rw [BitVec.toNat_ofInt, IntKind.wrap_i64]
    omega
  have g2 : (BitVec.ofInt 64 (y : Int)).toNat = y := by
    rw [BitVec.ofInt_natCast, BitVec.toNat_ofNat]; exact Nat.mod_eq_of_lt (by omega)
  show IntKind.i64.wrap ((BitVec.ofInt 64 (IntKind.i64.wrap (V * 256)) ||| BitVec.ofInt 64 (y : Int)).toNat : Int) = _
  rw [BitVec.toNat_or, g1, g2]
  have h := Nat.two_pow_add_eq_or_of_lt (i := 8) (b := y) (by omega) (m / 256)
  have e : 2 ^ 8 * (m / 256) = m := by omega
  rw [e] at h
  rw [← h, IntKind.wrap_i64, IntKind.wrap_i64]
  omega
def SaidAt (M rb : Nat) (v : Int) (bad : Bool) (left : List Int) (w : World) (e : Ending) (w' : World) : Prop :=
  e = .returned (.int .i64 v) ∧ Rdr w' M rb bad left ∧ Only rb w w'
set_option maxHeartbeats 1000000 in
theorem said_any (M rb n : Nat) (bad : Bool) (left : List Int) (w : World) (h : Rdr w M rb bad left) (hw : BytesWf left) (hl : left.length ≤ 140737488351232) (hn : n ≤ 8) :
    Calls Tryd.prog 52 #[.pointer (some ⟨rb, 0, none⟩), .int .i64 n] w (SaidAt M rb (IntKind.i64.wrap (getN (takeS n bad left).1)) (takeS n bad left).2.1 (takeS n bad left).2.2 w) := by
  have H := Lib.hid h
  obtain ⟨got, bad2, left2, hts⟩ : ∃ got bad2 left2, takeS n bad left = (got, bad2, left2) := ⟨_, _, _, rfl⟩
  have hgw : BytesWf got := by
    intro x hx
    unfold takeS at hts
    split at hts
    · obtain ⟨rfl, _⟩ := Prod.mk.injEq .. ▸ hts
      cases hx
    · obtain ⟨rfl, _⟩ := Prod.mk.injEq .. ▸ hts
      exact hw x (List.mem_of_mem_take hx)
  have hgl : got.length ≤ n := by
    unfold takeS at hts
    split at hts
    · obtain ⟨rfl, _⟩ := Prod.mk.injEq .. ▸ hts
      simp
    · obtain ⟨rfl, _⟩ := Prod.mk.injEq .. ▸ hts
      exact List.length_take_le _ _
  rw [hts]
  dsimp only
  have HT := Lib.hid hts
  have HGW := Lib.hid hgw
  clear h hts hgw hw
  go_enter Tryd.func52, Tryd.ntmps52
  go_wp2_with fail
  refine (take_any M rb n bad left w H.out hl (by omega)).mono ?_
  rintro e w1 ht
  rw [HT.out] at ht
  obtain ⟨a, c, rfl, ho, hnil, hc, hr, hon⟩ := ht
  dsimp only at ho hr hc ⊢
  obtain ⟨g, hg⟩ : ∃ g, got.length = g := ⟨_, rfl⟩
  rw [hg] at hc hgl ⊢
  have HG := Lib.hid hg
  have HO := Lib.hid ho
  have HR := Lib.hid hr
  have HON := Lib.hid hon
  clear hg ho hr hon hnil
  go_wp2_with fail
  go_loopw [5, 12] (fun v i wr => ∃ k : Nat, k ≤ g ∧ i = .int .i64 k ∧ v = .int .i64 (IntKind.i64.wrap (getN (got.take k))) ∧ wr = w1) (fun _ i _ => g - (intOf i).toNat)
  case atStart => exact ⟨0, by omega, rfl, by rfl, rfl⟩
  case round =>
    obtain ⟨k, hk, rfl, rfl, rfl⟩ := hrel
    by_cases hlt : k < g
    · rcases HO.out with h0 | ⟨b, off, hao, hb, _, hcell⟩
      · have := HG.out; rw [h0] at this; simp at this; omega
      have hkx : k < got.length := by rw [HG.out]; exact hlt
      have c0 := hcell k hkx
      have hx := HGW.out (got.getD k 0) (by simp [List.getD, List.getElem?_eq_getElem hkx])
      have hsn : getN (got.take (k + 1)) = getN (got.take k) * 256 + got.getD k 0 := by
        rw [List.take_succ_eq_append_getElem hkx, getN_snoc]
        simp [List.getD, List.getElem?_eq_getElem hkx]
      generalize got.getD k 0 = x at c0 hx hsn
      obtain ⟨N, hN⟩ : ∃ N, getN (got.take k) = N := ⟨_, rfl⟩
      rw [hN] at hsn ⊢
      obtain ⟨V, hV⟩ : ∃ V, IntKind.i64.wrap N = V := ⟨_, rfl⟩
      rw [hV]
      have HSN := Lib.hid hsn
      have HN := Lib.hid hN
      have HV := Lib.hid hV
      have i1 : (k : Int) < g := by omega
      subst hao
      obtain ⟨hx0, hx1⟩ := hx
      clear hcell hsn hN hV
      go_wp2_with fail
      go_roundw
      case rel =>
        refine ⟨k + 1, by omega, by go_num, ?_, by trivial⟩
        rw [HSN.out, or_byte V x hx0 hx1, ← HV.out]
        congr 1
        rw [IntKind.wrap_i64, IntKind.wrap_i64, IntKind.wrap_i64]
        omega
      case measure => simp [intOf]; omega
    · obtain rfl : k = g := by omega
      have hf : got.take k = got := List.take_of_length_le (by rw [HG.out]; exact Nat.le_refl _)
      rw [hf]
      clear hf
      go_wp2_with fail
      go_ret
      exact ⟨rfl, HR.out, HON.out⟩
end Go.Proofs.YtnfldkebjeigiaaDoor
