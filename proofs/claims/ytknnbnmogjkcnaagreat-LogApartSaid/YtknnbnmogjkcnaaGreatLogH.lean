/- The law's own cap on entries. Conditions: the entries are read as the row reads them. -/
import Derived.Test.YtknnbnmogjkcnaaGreatLogG
import Derived.Test.YtknnbnmogjkcnaaGreatEnts
namespace Go.Proofs.YtknnbnmogjkcnaaGreat
open Go.RowKit
set_option maxRecDepth 20000

def light1 (e : En) : Bool := decide (e.vs.length + e.args.length + e.text.size ≤ 100)
def plainB (es : List En) : Bool := es.all light1
theorem plainB_take {es : List En} {k : Nat} (hk : k < es.length) : plainB (es.take (k + 1)) = (plainB (es.take k) && light1 es[k]) := by
  unfold plainB
  rw [List.take_succ_eq_append_getElem hk, List.all_append]; simp
set_option maxHeartbeats 1000000 in
theorem plain_any (ao : Option Addr) (n cap : Nat) (es : List En) (w : World) (hn : es.length = n) (hx : EnsIn w w.heap.size ao es) (hq : ∀ e ∈ es, EnWf e) (hl : n ≤ 1099511627776000) :
    Calls Tryz.prog 5 #[.slice ao n cap] w fun e w' => e = .returned (.bool (plainB es)) ∧ Below w.heap.size w w' := by
  have HX := Lib.hid hx
  have HN := Lib.hid hn
  have HQ := Lib.hid hq
  clear hx hn hq
  go_enter Tryz.func5, Tryz.ntmps5
  go_wp2_with fail
  go_loopw [3] (fun i wr => ∃ k : Nat, k ≤ n ∧ i = .int .i64 k ∧ plainB (es.take k) = true ∧ Below w.heap.size w wr) (fun i _ => n - (intOf i).toNat)
  case atStart => exact ⟨0, by omega, rfl, rfl, Below.refl _ _⟩
  case round =>
    obtain ⟨k, hk, rfl, hpl, hbel⟩ := hrel
    have HPL := Lib.hid hpl
    clear hpl
    by_cases hlt : k < n
    · have hkl : k < es.length := by rw [HN.out]; exact hlt
      have hkx : es[k]? = some es[k] := List.getElem?_eq_getElem hkl
      have hwf := HQ.out _ (List.getElem_mem hkl)
      have htk := plainB_take hkl
      obtain ⟨b, off, hao, hb, hc, _⟩ := HX.out.at hkx
      have hfin : light1 es[k] = false → plainB es = false := fun h => by
        unfold plainB
        rw [List.all_eq_false]
        exact ⟨es[k], List.getElem_mem hkl, by simp [h]⟩
      generalize es[k] = x at hc hwf htk hfin
      obtain ⟨t, kd, s, q, ck, text, aao, args, acap, num, vao, vs, vcap⟩ := x
      have z1 := hwf.text
      have z2 := hwf.argn
      have z3 := hwf.vn
      dsimp only at z1 z2 z3
      obtain ⟨an, han⟩ : ∃ an, args.length = an := ⟨_, rfl⟩
      obtain ⟨vn, hvn⟩ : ∃ vn, vs.length = vn := ⟨_, rfl⟩
      obtain ⟨tn, htn⟩ : ∃ tn, text.size = tn := ⟨_, rfl⟩
      rw [han] at z2
      rw [hvn] at z3
      rw [htn] at z1
      have c5 : wr.cell? ⟨b, off + k * 9 + 4 + 1, none⟩ = some (.string text) := (hbel.cell (p := ⟨b, _, none⟩) hb).trans (hc 5 (by decide))
      have c6 : wr.cell? ⟨b, off + k * 9 + 4 + 2, none⟩ = some (.slice aao an acap) := (hbel.cell (p := ⟨b, _, none⟩) hb).trans (han ▸ hc 6 (by decide))
      have c8 : wr.cell? ⟨b, off + k * 9 + 8, none⟩ = some (.slice vao vn vcap) := (hbel.cell (p := ⟨b, _, none⟩) hb).trans (hvn ▸ hc 8 (by decide))
      have i1 : (k : Int) < n := by omega
      have w1 : IntKind.i64.wrap ((vn : Int) + an) = (vn : Int) + an := IntWalk.i64_in _ (by omega)
      have w2 : IntKind.i64.wrap ((vn : Int) + an + (text.size : Int)) = (vn : Int) + an + (text.size : Int) := IntWalk.i64_in _ (by omega)
      have hls : light1 ⟨t, kd, s, q, ck, text, aao, args, acap, num, vao, vs, vcap⟩ = decide (vn + an + tn ≤ 100) := by unfold light1; dsimp only; rw [han, hvn, htn]
      rw [hls] at htk hfin
      have HTK := Lib.hid htk
      have HF := Lib.hid hfin
      have HTN := Lib.hid htn
      subst hao
      clear hc hkx hwf htk hfin hls htn han hvn
      by_cases hgt : 100 < vn + an + tn
      · have d1 : (100 : Int) < (vn : Int) + an + (text.size : Int) := by have := HTN.out; omega
        go_wp2_with fail
        go_quiet (fail)
        go_wp2_with fail
        go_ret
        exact ⟨ret_bool (HF.out (by simp; omega)).symm, below_drewN hbel _⟩
      · have d1 : ¬ (100 : Int) < (vn : Int) + an + (text.size : Int) := by have := HTN.out; omega
        have d2 : decide ((100 : Int) < (vn : Int) + an + (text.size : Int)) = false := by simpa using d1
        go_wp2_with fail
        go_quiet (fail)
        go_wp2_with fail
        go_roundw
        case rel => exact ⟨k + 1, by omega, by go_num, by rw [HTK.out, HPL.out]; simp; omega, below_drewN hbel _⟩
        case measure => simp [intOf]; omega
    · have hk2 : k = n := by omega
      subst hk2
      have hfin : plainB es = true := by have := HPL.out; rwa [List.take_of_length_le (by rw [HN.out]; exact Nat.le_refl _)] at this
      have HF := Lib.hid hfin
      clear hfin
      go_wp2_with fail
      go_ret
      exact ⟨ret_bool HF.out.symm, hbel⟩
end Go.Proofs.YtknnbnmogjkcnaaGreat
