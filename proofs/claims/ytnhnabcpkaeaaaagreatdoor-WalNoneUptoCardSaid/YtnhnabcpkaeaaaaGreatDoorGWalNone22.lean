/- The law's own cap on deeds of chapter 18. Conditions: the deeds are read as the row reads them, all of them is small. -/
import Derived.Test.YtnhnabcpkaeaaaaGreatDoorGWalNone1
import Derived.Test.YtnhnabcpkaeaaaaGreatDoorGWalNone20
import Derived.Test.YtnhnabcpkaeaaaaGreatDoorGWalNone21
import Derived.Test.YtnhnabcpkaeaaaaGreatDoorGWalNone19
import Derived.Test.YtnhnabcpkaeaaaaGreatDoorGWalNone6
import Derived.Test.YtnhnabcpkaeaaaaGreatDoorGWalNone16
set_option linter.unusedVariables false
set_option linter.unusedSimpArgs false
namespace Go.Proofs.YtnhnabcpkaeaaaaGreatDoor
open Go.RowKit
set_option maxRecDepth 20000
def SomeBool (e : Ending) : Prop := ∃ b : Bool, e = .returned (.bool b)
theorem someBool (b : Bool) : SomeBool (.returned (.bool b)) := ⟨b, rfl⟩
def light1 (e : En) : Bool := decide (e.vs.length + e.args.length + e.text.size ≤ 100)
def plainB (es : List En) : Bool := es.all light1
theorem plainB_take {es : List En} {k : Nat} (hk : k < es.length) : plainB (es.take (k + 1)) = (plainB (es.take k) && light1 es[k]) := by
  unfold plainB
  rw [List.take_succ_eq_append_getElem hk, List.all_append]; simp
set_option maxHeartbeats 1000000 in
theorem plain18_any (ao : Option Addr) (n cap : Nat) (es : List En) (w : World) (hn : es.length = n) (hx : EnsIn w w.heap.size ao es) (hq : ∀ e ∈ es, EnWfU e) (hl : n ≤ 1048576) :
    Calls Tryz.prog 42 #[.slice ao n cap] w fun e w' => e = .returned (.bool (plainB es && decide (n ≤ 20))) ∧ Below w.heap.size w w' := by
  have HX := Lib.hid hx
  have HN := Lib.hid hn
  have HQ := Lib.hid hq
  clear hx hn hq
  go_enter Tryz.func42, Tryz.ntmps42
  go_wp2_with fail
  go_loopw [3] (fun i wr => ∃ k : Nat, k ≤ n ∧ i = .int .i64 k ∧ plainB (es.take k) = true ∧ Below w.heap.size w wr) (fun i _ => n - (intOf i).toNat)
  case atStart => exact ⟨0, by omega, rfl, rfl, Below.refl _ _⟩
  case round =>
    obtain ⟨k, hk, rfl, hpl, hbel⟩ := hrel
    have HPL := Lib.hid hpl
    clear hpl
    by_cases hlt : k < n
    · have hkl : k < es.length := by rw [HN.out]; exact hlt
      have hkx : es[k]? = some es[k] := List.getElem?_eq_getElem hkl
      have hwf := HQ.out _ (List.getElem_mem hkl)
      have htk := plainB_take hkl
      obtain ⟨b, off, hao, hb, hc, _⟩ := HX.out.at hkx
      have hfin : light1 es[k] = false → plainB es = false := fun h => by
        unfold plainB
        rw [List.all_eq_false]
        exact ⟨es[k], List.getElem_mem hkl, by simp [h]⟩
      generalize es[k] = x at hc hwf htk hfin
      obtain ⟨t, kd, s, q, ck, text, aao, args, acap, num, vao, vs, vcap⟩ := x
      have z1 := hwf.text
      have z2 := hwf.argn
      have z3 := hwf.vn
      dsimp only at z1 z2 z3
      obtain ⟨an, han⟩ : ∃ an, args.length = an := ⟨_, rfl⟩
      obtain ⟨vn, hvn⟩ : ∃ vn, vs.length = vn := ⟨_, rfl⟩
      obtain ⟨tn, htn⟩ : ∃ tn, text.size = tn := ⟨_, rfl⟩
      rw [han] at z2
      rw [hvn] at z3
      rw [htn] at z1
      have c5 : wr.cell? ⟨b, off + k * 9 + 4 + 1, none⟩ = some (.string text) := (hbel.cell (p := ⟨b, _, none⟩) hb).trans (hc 5 (by decide))
      have c6 : wr.cell? ⟨b, off + k * 9 + 4 + 2, none⟩ = some (.slice aao an acap) := (hbel.cell (p := ⟨b, _, none⟩) hb).trans (han ▸ hc 6 (by decide))
      have c8 : wr.cell? ⟨b, off + k * 9 + 8, none⟩ = some (.slice vao vn vcap) := (hbel.cell (p := ⟨b, _, none⟩) hb).trans (hvn ▸ hc 8 (by decide))
      have i1 : (k : Int) < n := by omega
      have w1 : IntKind.i64.wrap ((vn : Int) + an) = (vn : Int) + an := IntWalk.i64_in _ (by omega)
      have w2 : IntKind.i64.wrap ((vn : Int) + an + (text.size : Int)) = (vn : Int) + an + (text.size : Int) := IntWalk.i64_in _ (by omega)
      have hls : light1 ⟨t, kd, s, q, ck, text, aao, args, acap, num, vao, vs, vcap⟩ = decide (vn + an + tn ≤ 100) := by unfold light1; dsimp only; rw [han, hvn, htn]
      rw [hls] at htk hfin
      have HTK := Lib.hid htk
      have HF := Lib.hid hfin
      have HTN := Lib.hid htn
      subst hao
      clear hc hkx hwf htk hfin hls htn han hvn
      by_cases hgt : 100 < vn + an + tn
      · have d1 : (100 : Int) < (vn : Int) + an + (text.size : Int) := by have := HTN.out; omega
        go_wp2_with fail
        go_quiet (fail)
        go_wp2_with fail
        go_ret
        exact ⟨ret_bool (by rw [HF.out (by simp; omega)]; rfl), wdrewN hbel _⟩
      · have d1 : ¬ (100 : Int) < (vn : Int) + an + (text.size : Int) := by have := HTN.out; omega
        have d2 : decide ((100 : Int) < (vn : Int) + an + (text.size : Int)) = false := by simpa using d1
        go_wp2_with fail
        go_quiet (fail)
        go_wp2_with fail
        go_roundw
        case rel => exact ⟨k + 1, by omega, by go_num, by rw [HTK.out, HPL.out]; simp; omega, wdrewN hbel _⟩
        case measure => simp [intOf]; omega
    · have hk2 : k = n := by omega
      subst hk2
      have hfin : plainB es = true := by have := HPL.out; rwa [List.take_of_length_le (by rw [HN.out]; exact Nat.le_refl _)] at this
      have HF := Lib.hid hfin
      clear hfin
      have HBE := Lib.hid hbel
      by_cases h20 : k ≤ 20
      · have d1 : (k : Int) ≤ 20 := by omega
        have d2 : decide ((k : Int) ≤ 20) = true := by simpa using d1
        go_wp2_with fail
        go_ret
        exact ⟨ret_bool (by rw [HF.out]; simp [h20]), HBE.out⟩
      · have d1 : ¬ (k : Int) ≤ 20 := by omega
        have d2 : decide ((k : Int) ≤ 20) = false := by simpa using d1
        go_wp2_with fail
        go_ret
        exact ⟨ret_bool (by simp [h20]), HBE.out⟩
theorem valuesB_bound {l : List Va} (h : ∀ v ∈ l, v.text.size ≤ 1048576) : (valuesB l).length ≤ 4 + l.length * 1048585 := by
  unfold valuesB
  rw [List.length_append, numB_len]
  have : (l.flatMap valueB).length ≤ l.length * 1048585 := by
    induction l with
    | nil => simp
    | cons x r ih =>
      have h1 := valueB_len x
      have h2 := h x List.mem_cons_self
      have h3 := ih (fun v hv => h v (List.mem_cons_of_mem _ hv))
      rw [List.flatMap_cons, List.length_append, List.length_cons, Nat.succ_mul]
      omega
  omega
set_option maxHeartbeats 2000000 in
theorem heavy18_any (ao : Option Addr) (n cap : Nat) (es : List En) (w : World) (hn : es.length = n) (hx : EnsIn w w.heap.size ao es) (hq : ∀ e ∈ es, EnWfU e) (hp : plainB es = true) (hl : n ≤ 20) :
    Calls Tryz.prog 43 #[.slice ao n cap] w fun e w' => (∃ h : Nat, e = .returned (.int .i64 h) ∧ h ≤ 100000000000) ∧ Below w.heap.size w w' := by
  have HX := Lib.hid hx
  have HN := Lib.hid hn
  have HQ := Lib.hid hq
  have HP := Lib.hid hp
  clear hx hn hq hp
  go_enter Tryz.func43, Tryz.ntmps43
  go_wp2_with fail
  go_loopw [3, 4] (fun u i wr => ∃ k h : Nat, k ≤ n ∧ i = .int .i64 k ∧ u = .int .i64 h ∧ h ≤ k * 200000000 ∧ Below w.heap.size w wr) (fun _ i _ => n - (intOf i).toNat)
  case atStart => exact ⟨0, 0, by omega, rfl, rfl, by omega, Below.refl _ _⟩
  case round =>
    obtain ⟨k, h, hk, rfl, rfl, hh, hbel⟩ := hrel
    have HBEL := Lib.hid hbel
    have hzr := hbel.size
    by_cases hlt : k < n
    · have hkl : k < es.length := by rw [HN.out]; exact hlt
      have hkx : es[k]? = some es[k] := List.getElem?_eq_getElem hkl
      have hwf := HQ.out _ (List.getElem_mem hkl)
      have h1 : light1 es[k] = true := List.all_eq_true.1 HP.out _ (List.getElem_mem hkl)
      obtain ⟨b, off, hao, hb, hc, hsub⟩ := HX.out.at hkx
      generalize es[k] = x at hc hwf h1 hsub
      obtain ⟨t, kd, s, q, ck, text, aao, args, acap, num, vao, vs, vcap⟩ := x
      unfold light1 at h1
      dsimp only at h1
      have h2 : vs.length + args.length + text.size ≤ 100 := by simpa using h1
      obtain ⟨an, han⟩ : ∃ an, args.length = an := ⟨_, rfl⟩
      obtain ⟨vn, hvn⟩ : ∃ vn, vs.length = vn := ⟨_, rfl⟩
      rw [han, hvn] at h2
      have htx : ∀ v ∈ args, v.text.size ≤ 1048576 := fun v hv => (hwf.args v hv).2.2
      have hvb := valuesB_bound htx
      rw [han] at hvb
      obtain ⟨L, hL⟩ : ∃ L, entryB ⟨t, kd, s, q, ck, text, args, num, vs⟩ = L := ⟨_, rfl⟩
      have hLl : L.length ≤ 150000000 := by
        rw [← hL]
        have h3 := entryB_len ⟨t, kd, s, q, ck, text, args, num, vs⟩
        dsimp only at h3
        rw [hvn] at h3
        have : an ≤ 100 := by omega
        have : an * 1048585 ≤ 100 * 1048585 := Nat.mul_le_mul_right _ this
        omega
      have c0 := (hbel.cell (p := ⟨b, off + k * 9 + 0, none⟩) hb).trans (hc 0 (by decide))
      have c1 := (hbel.cell (p := ⟨b, off + k * 9 + 1, none⟩) hb).trans (hc 1 (by decide))
      have c2 := (hbel.cell (p := ⟨b, off + k * 9 + 2, none⟩) hb).trans (hc 2 (by decide))
      have c3 := (hbel.cell (p := ⟨b, off + k * 9 + 3, none⟩) hb).trans (hc 3 (by decide))
      have c4 := (hbel.cell (p := ⟨b, off + k * 9 + 4, none⟩) hb).trans (hc 4 (by decide))
      have c5 := (hbel.cell (p := ⟨b, off + k * 9 + 5, none⟩) hb).trans (hc 5 (by decide))
      have c6 := (hbel.cell (p := ⟨b, off + k * 9 + 6, none⟩) hb).trans (hc 6 (by decide))
      have c7 := (hbel.cell (p := ⟨b, off + k * 9 + 7, none⟩) hb).trans (hc 7 (by decide))
      have c8 := (hbel.cell (p := ⟨b, off + k * 9 + 8, none⟩) hb).trans (hc 8 (by decide))
      simp only [enCells, List.getElem?_cons_zero, List.getElem?_cons_succ, Nat.add_zero, han, hvn] at c0 c1 c2 c3 c4 c5 c6 c7 c8
      have i1 : (k : Int) < n := by omega
      have w1 : IntKind.i64.wrap ((h : Int) + 40) = (h : Int) + 40 := IntWalk.i64_in _ (by omega)
      have w2 : IntKind.i64.wrap ((h : Int) + 40 + (L.length : Int)) = (h : Int) + 40 + (L.length : Int) := IntWalk.i64_in _ (by omega)
      have HE := Lib.hid (rEntry_any t kd s q ck text aao an acap num args vao vn vcap vs L wr hL han hvn ((hsub.1.below noSub_kept hbel (Nat.le_refl _)).mono noSub_rising hzr) ((hsub.2.below noSub_kept hbel (Nat.le_refl _)).mono noSub_rising hzr) (fun v hv => by have := htx v hv; omega) (by omega) (by omega) (by omega) (by omega))
      subst hao
      clear hc hkx hwf hL htx hsub hbel han hvn hvb h1
      go_wp2_with fail
      refine HE.out.mono ?_
      rintro e w5 ⟨a5, n5, cz, rfl, hbo, hb5⟩
      obtain rfl : L.length = n5 := hbo.len
      have HB5 := Lib.hid (HBEL.out.trans (hb5.mono hzr))
      clear hbo hb5 c0 c1 c2 c3 c4 c5
      go_wp2_with fail
      go_roundw
      case rel => exact ⟨k + 1, h + 40 + L.length, by omega, by go_num, by simp, by rw [Nat.succ_mul]; omega, HB5.out⟩
      case measure => simp [intOf]; omega
    · have hk2 : k = n := by omega
      subst hk2
      go_wp2_with fail
      go_ret
      exact ⟨⟨h, rfl, by have : k * 200000000 ≤ 20 * 200000000 := Nat.mul_le_mul_right _ hl; omega⟩, HBEL.out⟩
set_option maxHeartbeats 2000000 in
theorem light18_any (g : Nat) (d : De) (w : World) (hk : w.heap[g]? = some (.cells #[.int .i64 d.kind, .int .i64 d.index, .int .i64 d.term, .bool d.same, .slice d.eo d.ents.length d.ec] 40 (0, 0))) (hx : EnsIn w w.heap.size d.eo d.ents) (hq : DeWf d) :
    Calls Tryz.prog 13 #[.slice (some ⟨g, 0, none⟩) 1 1] w fun e w' => SomeBool e ∧ Below w.heap.size w w' := by
  have c4 := Go.Joins.cell_of_block hk 4
  have HX := Lib.hid hx
  have HQ := Lib.hid hq
  obtain ⟨n, hn⟩ : ∃ n, d.ents.length = n := ⟨_, rfl⟩
  have hl := hq.len
  rw [hn] at c4 hl
  have HN := Lib.hid hn
  have hgl : g < w.heap.size := (Array.getElem?_eq_some_iff.1 hk).1
  have c4' : ∀ w', Below w.heap.size w w' → w'.cell? ⟨g, 4, none⟩ = some (.slice d.eo n d.ec) := fun w' hb => (hb.cell (p := ⟨g, 4, none⟩) hgl).trans c4
  have HC := Lib.hid c4'
  clear hk hx hq hn c4'
  go_enter Tryz.func13, Tryz.ntmps13
  go_wp2_with fail
  refine wp_loop_rounds 2 ?_
  rw [rounds_succ]
  go_wp2_with fail
  refine (plain18_any d.eo n d.ec d.ents w HN.out HX.out HQ.out.ents hl).mono ?_
  rintro e w1 ⟨rfl, hb1⟩
  have c5 := HC.out w1 hb1
  have HB1 := Lib.hid hb1
  clear c4
  cases hp : (plainB d.ents && decide (n ≤ 20)) with
  | false =>
    go_wp2_with fail
    go_ret
    exact ⟨someBool _, HB1.out⟩
  | true =>
    simp only [Bool.and_eq_true, decide_eq_true_eq] at hp
    have HP := Lib.hid hp
    clear hp hb1
    go_wp2_with fail
    refine (heavy18_any d.eo n d.ec d.ents w1 HN.out ((HX.out.below enSub_kept HB1.out (Nat.le_refl _)).mono enSub_rising HB1.out.size) HQ.out.ents HP.out.1 HP.out.2).mono ?_
    rintro e w2 ⟨⟨h, rfl, hh⟩, hb2⟩
    have HB2 := Lib.hid (HB1.out.trans (hb2.mono HB1.out.size))
    clear hb2 c5
    have w1' : IntKind.i64.wrap (h : Int) = (h : Int) := IntWalk.i64_in _ (by omega)
    go_wp2_with fail
    rw [rounds_succ]
    by_cases h3 : h ≤ 300000
    · have d1 : (h : Int) ≤ 300000 := by omega
      have d2 : decide ((h : Int) ≤ 300000) = true := by simpa using d1
      go_wp2_with fail
      go_ret
      exact ⟨someBool _, HB2.out⟩
    · have d1 : ¬ (h : Int) ≤ 300000 := by omega
      have d2 : decide ((h : Int) ≤ 300000) = false := by simpa using d1
      go_wp2_with fail
      go_ret
      exact ⟨someBool _, HB2.out⟩
end Go.Proofs.YtnhnabcpkaeaaaaGreatDoor
/- Compact of a new wal whose disk has no room. Conditions: they lie so. -/
namespace Go.Proofs.YtnhnabcpkaeaaaaGreatDoor
open Go.RowKit
set_option maxRecDepth 20000
theorem full_append (k : List UInt8) (hk : goodName k = true) (b : List Int) (h0 : 0 < b.length) (h1 : b.length ≤ 4194304) : dAppend 0 [] k b = ([], 5) := by
  have hg : dGet [] k = none := rfl
  have h3 : (Fi.none).all.length = 0 := rfl
  have h4 : dUsed [] = 0 := rfl
  unfold dAppend
  dsimp only
  rw [hg, Option.getD_none, h3, h4, if_neg (by rw [hk]; simp), if_neg (by omega), if_pos (by omega)]
/-- The closure that puts the bytes into the next file. -/
theorem compact1_any {w : World} {B wb sb db mb room n q g : Nat} {s : WP} {L : Dk} (h : WalDk w B wb sb db mb room n s L) (hn : n ≤ 999990) (hq : w.cell? ⟨q, 0, none⟩ = some (.pointer (some ⟨wb, 0, none⟩))) (hql : q < w.heap.size ∧ mb < q) (a : Option Addr) (m c : Nat) (hg : w.cell? ⟨g, 0, none⟩ = some (.slice a m c)) (hgl : g < w.heap.size ∧ mb < g) (bs : List Int) (hb : bs.length = m) (hx : BytesIn w w.heap.size a bs) (hw : BytesWf bs) (hnil : a = none → c = 0) (hl : m ≤ 1000000000) (r : Dk × Int) (hr : dAppend room L nextS.data.toList bs = r) :
    Calls Tryz.prog 55 #[.pointer (some ⟨q, 0, none⟩), .pointer (some ⟨g, 0, none⟩)] w (DkAt r db mb room (n + 1) w) := by
  have hS : w.cell? ⟨q, 0, none⟩ = some (.pointer (some ⟨wb, 0, none⟩)) ∧ w.cell? ⟨wb, 1, none⟩ = some (.pointer (some ⟨db, 0, none⟩)) ∧ w.cell? ⟨g, 0, none⟩ = some (.slice a m c) := ⟨hq, Go.Joins.cell_of_block h.wal.blk 1, hg⟩
  have HWB := Lib.hid (And.intro h.wal.lt (show mb < wb from Nat.lt_of_lt_of_le h.mlo h.wal.low))
  have HDK := Lib.hid (h.dk.belowT (Below.refl w.heap.size w).drew)
  have HX := Lib.hid hx
  have HW := Lib.hid hw
  have HN := Lib.hid hnil
  have HR := Lib.hid hr
  have HB := Lib.hid hb
  clear h hq hg hx hw hnil hr hb
  go_enter Tryz.func55, Tryz.ntmps55
  go_upto_region 1 with fail
  refine heldS_begin (fun w' => w'.cell? ⟨q, 0, none⟩ = some (.pointer (some ⟨wb, 0, none⟩)) ∧ w'.cell? ⟨wb, 1, none⟩ = some (.pointer (some ⟨db, 0, none⟩)) ∧ w'.cell? ⟨g, 0, none⟩ = some (.slice a m c)) (by kernel_rfl) (hS) ?_
  intro hS0
  (first | (refine takeS_no 0 rfl (by kernel_rfl) (by kernel_rfl) (by kernel_rfl) (fun _ _ _ h => h) (by rfl) (by assumption) ?_) | (refine takeS_yes (v := ?_) 0 rfl (by kernel_rfl) (by kernel_rfl) (by kernel_rfl) (fun _ _ _ h => h) (by rfl) (by assumption) ?_ ?_; rotate_left; focus (intro wS hSw; obtain ⟨q0, q1, q2⟩ := hSw; go_simp; first | done | with_reducible rfl)))
  (try simp only [Act.put, List.setIfInBounds_toArray, List.set_cons_zero, List.set_cons_succ])
  (first | (refine takeS_no 1 rfl (by kernel_rfl) (by kernel_rfl) (by kernel_rfl) (fun _ _ _ h => h) (by rfl) (by assumption) ?_) | (refine takeS_yes (v := ?_) 1 rfl (by kernel_rfl) (by kernel_rfl) (by kernel_rfl) (fun _ _ _ h => h) (by rfl) (by assumption) ?_ ?_; rotate_left; focus (intro wS hSw; obtain ⟨q0, q1, q2⟩ := hSw; go_simp; first | done | with_reducible rfl)))
  (try simp only [Act.put, List.setIfInBounds_toArray, List.set_cons_zero, List.set_cons_succ])
  (first | (refine takeS_no 2 rfl (by kernel_rfl) (by kernel_rfl) (by kernel_rfl) (fun _ _ _ h => h) (by rfl) (by assumption) ?_) | (refine takeS_yes (v := ?_) 2 rfl (by kernel_rfl) (by kernel_rfl) (by kernel_rfl) (fun _ _ _ h => h) (by rfl) (by assumption) ?_ ?_; rotate_left; focus (intro wS hSw; obtain ⟨q0, q1, q2⟩ := hSw; go_simp; first | done | with_reducible rfl)))
  (try simp only [Act.put, List.setIfInBounds_toArray, List.set_cons_zero, List.set_cons_succ])
  (first | (refine takeS_no 3 rfl (by kernel_rfl) (by kernel_rfl) (by kernel_rfl) (fun _ _ _ h => h) (by rfl) (by assumption) ?_) | (refine takeS_yes (v := ?_) 3 rfl (by kernel_rfl) (by kernel_rfl) (by kernel_rfl) (fun _ _ _ h => h) (by rfl) (by assumption) ?_ ?_; rotate_left; focus (intro wS hSw; obtain ⟨q0, q1, q2⟩ := hSw; go_simp; first | done | with_reducible rfl)))
  (try simp only [Act.put, List.setIfInBounds_toArray, List.set_cons_zero, List.set_cons_succ])
  (first | (refine takeS_no 4 rfl (by kernel_rfl) (by kernel_rfl) (by kernel_rfl) (fun _ _ _ h => h) (by rfl) (by assumption) ?_) | (refine takeS_yes (v := ?_) 4 rfl (by kernel_rfl) (by kernel_rfl) (by kernel_rfl) (fun _ _ _ h => h) (by rfl) (by assumption) ?_ ?_; rotate_left; focus (intro wS hSw; obtain ⟨q0, q1, q2⟩ := hSw; go_simp; first | done | with_reducible rfl)))
  (try simp only [Act.put, List.setIfInBounds_toArray, List.set_cons_zero, List.set_cons_succ])
  refine takeS_alone 5 rfl (by kernel_rfl) (by rfl) (fun K hK => ?_)
  go_simp
  (refine (append_any HDK.out (by omega) nextS next_named a m c bs HB.out (HX.out.below (Below.refl w.heap.size w).drew (Nat.le_refl _)) HW.out HN.out hl r HR.out).mono ?_; rintro e w5 ⟨rfl, hd5, hg5⟩; have hS5 := And.intro ((cell_block (hg5.block q hql.1 (fun e => by injection e; omega))).trans hS0.1) (And.intro ((cell_block (hg5.block wb HWB.out.1 (fun e => by injection e with e; have := HWB.out.2; omega))).trans hS0.2.1) ((cell_block (hg5.block g hgl.1 (fun e => by injection e; omega))).trans hS0.2.2)); have HE := Lib.hid (And.intro hd5 hg5); clear hd5 hg5)
  refine hK.out _ _ (by assumption) ?_
  clear hK K
  (try simp only [Act.put, List.setIfInBounds_toArray, List.set_cons_zero, List.set_cons_succ])
  (first | (refine takeS_no 6 rfl (by kernel_rfl) (by kernel_rfl) (by kernel_rfl) (fun _ _ _ h => h) (by rfl) (by assumption) ?_) | (refine takeS_yes (v := ?_) 6 rfl (by kernel_rfl) (by kernel_rfl) (by kernel_rfl) (fun _ _ _ h => h) (by rfl) (by assumption) ?_ ?_; rotate_left; focus (intro wS hSw; obtain ⟨q0, q1, q2⟩ := hSw; go_simp; first | done | with_reducible rfl)))
  (try simp only [Act.put, List.setIfInBounds_toArray, List.set_cons_zero, List.set_cons_succ])
  refine wpAnyH_done (by kernel_rfl) ?_ _
  (try simp only [Exit.then])
  (try (rename (∀ (_ : Act) (_ : World), _ → _) => hK0; refine hK0 _ _ ?_; clear hK0))
  clear hS5 hS0 hS
  go_wp2_with fail
  go_ret
  exact ⟨rfl, HE.out.1, (grown_bel (Below.refl w.heap.size w).drew (some mb)).trans HE.out.2⟩
theorem two_hi {w : World} {g lo : Nat} {k1 k2 : Int} {a1 a2 : Option Addr} {c1 c2 : Nat} {D1 D2 : List Int} {T : TypeId} (hk : w.heap[g]? = some (.cells #[.int .i64 k1, .slice a1 D1.length c1, .int .i64 k2, .slice a2 D2.length c2] T (0, 0))) (hlo : lo ≤ g) (hx1 : BytesIn w w.heap.size a1 D1) (hq1 : ∀ ad, a1 = some ad → lo ≤ ad.block) (hx2 : BytesIn w w.heap.size a2 D2) (hq2 : ∀ ad, a2 = some ad → lo ≤ ad.block) : FramesHi w lo (some ⟨g, 0, none⟩) [⟨k1, a1, c1, D1⟩, ⟨k2, a2, c2, D2⟩] := by
  refine Or.inr ⟨g, 0, rfl, hlo, (Array.getElem?_eq_some_iff.1 hk).1, fun i hi => ?_⟩
  match i, hi with
  | 0, _ => exact ⟨Go.Joins.cell_of_block hk 0, Go.Joins.cell_of_block hk 1, hx1, hq1⟩
  | 1, _ => exact ⟨Go.Joins.cell_of_block hk 2, Go.Joins.cell_of_block hk 3, hx2, hq2⟩
  | i + 2, hi => simp at hi; omega
set_option maxHeartbeats 8000000 in
theorem wcompact0_any {w : World} {B wb sb db mb n : Nat} (h : WalDk w B wb sb db mb 0 n WP.zero []) (hn : n ≤ 999000) (hmb : mb < sb) :
    Calls Tryz.prog 20 #[.pointer (some ⟨wb, 0, none⟩), .int .i64 0, .int .i64 0] w fun e w' => e = .returned (.int .i64 5) ∧ WalDk w' B wb sb db mb 0 (n + 2) WP.zero [] ∧ Below mb w w' := by
  have hmw : mb < w.heap.size := Nat.lt_of_lt_of_le h.dk.mlt h.dk.le
  have hb0 := (Below.refl w.heap.size w).alloc (Nat.le_refl _) (.cells #[.pointer (some ⟨wb, 0, none⟩)] 28)
  have hk0 := heap_alloc_new w (.cells #[.pointer (some ⟨wb, 0, none⟩)] 28)
  have H := Lib.hid h
  clear h
  go_enter Tryz.func20, Tryz.ntmps20
  go_upto_region 1 with fail
  generalize w.alloc (.cells #[.pointer (some ⟨wb, 0, none⟩)] 28) = w1 at hb0 hk0 ⊢
  have H1 := Lib.hid (H.out.below hb0)
  have HB1 := Lib.hid hb0
  have HK1 := Lib.hid hk0
  have t0 := Go.Joins.cell_of_block hk0 0
  have hz1 : w.heap.size < w1.heap.size := (Array.getElem?_eq_some_iff.1 hk0).1
  clear hb0 hk0
  obtain ⟨v, es, hs, hm⟩ := H1.out.wal.say
  have hes : es = [] := by simpa [WP.zero] using hm
  subst hes
  have hsb := hs.blk
  obtain ⟨a, c, hv, _, hnil, _⟩ := hs.ens.lie
  rw [hv] at hsb
  simp only [WP.zero, List.length_nil] at hsb
  have HSB := Lib.hid hsb
  have u0 := Go.Joins.cell_of_block H1.out.wal.blk 0
  have u1 := Go.Joins.cell_of_block hsb 2
  clear hs hm hv hsb
  go_wp2_with fail
  refine (wthere_any wb sb w1 u0).mono ?_
  rintro e w' ⟨rfl, rfl⟩
  go_upto_region 5 with fail
  have hwl := H1.out.wal.lt
  have hsl := H1.out.wal.say.lt
  have HC := Lib.hid (fun (wS : World) (hb : Below w1.heap.size w1 wS) => (show wS.cell? ⟨w.heap.size, 0, none⟩ = some (.pointer (some ⟨wb, 0, none⟩)) ∧ wS.cell? ⟨wb, 0, none⟩ = some (.pointer (some ⟨sb, 0, none⟩)) ∧ wS.cell? ⟨sb, 0, none⟩ = some (.int .i64 0) ∧ wS.cell? ⟨sb, 1, none⟩ = some (.int .i64 0) from
    ⟨Go.Joins.cell_of_block ((hb.block _ hz1).trans HK1.out) 0, Go.Joins.cell_of_block ((hb.block wb hwl).trans H1.out.wal.blk) 0, Go.Joins.cell_of_block ((hb.block sb hsl).trans HSB.out) 0, Go.Joins.cell_of_block ((hb.block sb hsl).trans HSB.out) 1⟩))
  clear t0 u0 u1
  refine heldS_begin (fun (w' : World) => Below w1.heap.size w1 w') (by kernel_rfl) ((Below.refl _ _).drew) ?_
  intro hS0
  (first | (refine takeS_no 0 rfl (by kernel_rfl) (by kernel_rfl) (by kernel_rfl) (fun _ _ _ h => h) (by rfl) (by assumption) ?_) | (refine takeS_yes (v := ?_) 0 rfl (by kernel_rfl) (by kernel_rfl) (by kernel_rfl) (fun _ _ _ h => h) (by rfl) (by assumption) ?_ ?_; rotate_left; focus (intro wS hSw; obtain ⟨q0, q1, q2, q3⟩ := HC.out wS hSw; go_simp; first | done | with_reducible rfl)))
  (try simp only [Act.put, List.setIfInBounds_toArray, List.set_cons_zero, List.set_cons_succ])
  (first | (refine takeS_no 1 rfl (by kernel_rfl) (by kernel_rfl) (by kernel_rfl) (fun _ _ _ h => h) (by rfl) (by assumption) ?_) | (refine takeS_yes (v := ?_) 1 rfl (by kernel_rfl) (by kernel_rfl) (by kernel_rfl) (fun _ _ _ h => h) (by rfl) (by assumption) ?_ ?_; rotate_left; focus (intro wS hSw; obtain ⟨q0, q1, q2, q3⟩ := HC.out wS hSw; go_simp; first | done | with_reducible rfl)))
  (try simp only [Act.put, List.setIfInBounds_toArray, List.set_cons_zero, List.set_cons_succ])
  (first | (refine takeS_no 3 rfl (by kernel_rfl) (by kernel_rfl) (by kernel_rfl) (fun _ _ _ h => h) (by rfl) (by assumption) ?_) | (refine takeS_yes (v := ?_) 3 rfl (by kernel_rfl) (by kernel_rfl) (by kernel_rfl) (fun _ _ _ h => h) (by rfl) (by assumption) ?_ ?_; rotate_left; focus (intro wS hSw; obtain ⟨q0, q1, q2, q3⟩ := HC.out wS hSw; go_simp; first | done | with_reducible rfl)))
  (try simp only [Act.put, List.setIfInBounds_toArray, List.set_cons_zero, List.set_cons_succ])
  (first | (refine takeS_no 4 rfl (by kernel_rfl) (by kernel_rfl) (by kernel_rfl) (fun _ _ _ h => h) (by rfl) (by assumption) ?_) | (refine takeS_yes (v := ?_) 4 rfl (by kernel_rfl) (by kernel_rfl) (by kernel_rfl) (fun _ _ _ h => h) (by rfl) (by assumption) ?_ ?_; rotate_left; focus (intro wS hSw; obtain ⟨q0, q1, q2, q3⟩ := HC.out wS hSw; go_simp; first | done | with_reducible rfl)))
  (try simp only [Act.put, List.setIfInBounds_toArray, List.set_cons_zero, List.set_cons_succ])
  (first | (refine takeS_no 5 rfl (by kernel_rfl) (by kernel_rfl) (by kernel_rfl) (fun _ _ _ h => h) (by rfl) (by assumption) ?_) | (refine takeS_yes (v := ?_) 5 rfl (by kernel_rfl) (by kernel_rfl) (by kernel_rfl) (fun _ _ _ h => h) (by rfl) (by assumption) ?_ ?_; rotate_left; focus (intro wS hSw; obtain ⟨q0, q1, q2, q3⟩ := HC.out wS hSw; go_simp; first | done | with_reducible rfl)))
  (try simp only [Act.put, List.setIfInBounds_toArray, List.set_cons_zero, List.set_cons_succ])
  (first | (refine takeS_no 6 rfl (by kernel_rfl) (by kernel_rfl) (by kernel_rfl) (fun _ _ _ h => h) (by rfl) (by assumption) ?_) | (refine takeS_yes (v := ?_) 6 rfl (by kernel_rfl) (by kernel_rfl) (by kernel_rfl) (fun _ _ _ h => h) (by rfl) (by assumption) ?_ ?_; rotate_left; focus (intro wS hSw; obtain ⟨q0, q1, q2, q3⟩ := HC.out wS hSw; go_simp; first | done | with_reducible rfl)))
  (try simp only [Act.put, List.setIfInBounds_toArray, List.set_cons_zero, List.set_cons_succ])
  (first | (refine takeS_no 7 rfl (by kernel_rfl) (by kernel_rfl) (by kernel_rfl) (fun _ _ _ h => h) (by rfl) (by assumption) ?_) | (refine takeS_yes (v := ?_) 7 rfl (by kernel_rfl) (by kernel_rfl) (by kernel_rfl) (fun _ _ _ h => h) (by rfl) (by assumption) ?_ ?_; rotate_left; focus (intro wS hSw; obtain ⟨q0, q1, q2, q3⟩ := HC.out wS hSw; go_simp; first | done | with_reducible rfl)))
  (try simp only [Act.put, List.setIfInBounds_toArray, List.set_cons_zero, List.set_cons_succ])
  (first | (refine takeS_no 8 rfl (by kernel_rfl) (by kernel_rfl) (by kernel_rfl) (fun _ _ _ h => h) (by rfl) (by assumption) ?_) | (refine takeS_yes (v := ?_) 8 rfl (by kernel_rfl) (by kernel_rfl) (by kernel_rfl) (fun _ _ _ h => h) (by rfl) (by assumption) ?_ ?_; rotate_left; focus (intro wS hSw; obtain ⟨q0, q1, q2, q3⟩ := HC.out wS hSw; go_simp; first | done | with_reducible rfl)))
  (try simp only [Act.put, List.setIfInBounds_toArray, List.set_cons_zero, List.set_cons_succ])
  (first | (refine takeS_no 9 rfl (by kernel_rfl) (by kernel_rfl) (by kernel_rfl) (fun _ _ _ h => h) (by rfl) (by assumption) ?_) | (refine takeS_yes (v := ?_) 9 rfl (by kernel_rfl) (by kernel_rfl) (by kernel_rfl) (fun _ _ _ h => h) (by rfl) (by assumption) ?_ ?_; rotate_left; focus (intro wS hSw; obtain ⟨q0, q1, q2, q3⟩ := HC.out wS hSw; go_simp; first | done | with_reducible rfl)))
  (try simp only [Act.put, List.setIfInBounds_toArray, List.set_cons_zero, List.set_cons_succ])
  (first | (refine takeS_no 10 rfl (by kernel_rfl) (by kernel_rfl) (by kernel_rfl) (fun _ _ _ h => h) (by rfl) (by assumption) ?_) | (refine takeS_yes (v := ?_) 10 rfl (by kernel_rfl) (by kernel_rfl) (by kernel_rfl) (fun _ _ _ h => h) (by rfl) (by assumption) ?_ ?_; rotate_left; focus (intro wS hSw; obtain ⟨q0, q1, q2, q3⟩ := HC.out wS hSw; go_simp; first | done | with_reducible rfl)))
  (try simp only [Act.put, List.setIfInBounds_toArray, List.set_cons_zero, List.set_cons_succ])
  (first | (refine takeS_no 11 rfl (by kernel_rfl) (by kernel_rfl) (by kernel_rfl) (fun _ _ _ h => h) (by rfl) (by assumption) ?_) | (refine takeS_yes (v := ?_) 11 rfl (by kernel_rfl) (by kernel_rfl) (by kernel_rfl) (fun _ _ _ h => h) (by rfl) (by assumption) ?_ ?_; rotate_left; focus (intro wS hSw; obtain ⟨q0, q1, q2, q3⟩ := HC.out wS hSw; go_simp; first | done | with_reducible rfl)))
  (try simp only [Act.put, List.setIfInBounds_toArray, List.set_cons_zero, List.set_cons_succ])
  (first | (refine takeS_no 12 rfl (by kernel_rfl) (by kernel_rfl) (by kernel_rfl) (fun _ _ _ h => h) (by rfl) (by assumption) ?_) | (refine takeS_yes (v := ?_) 12 rfl (by kernel_rfl) (by kernel_rfl) (by kernel_rfl) (fun _ _ _ h => h) (by rfl) (by assumption) ?_ ?_; rotate_left; focus (intro wS hSw; obtain ⟨q0, q1, q2, q3⟩ := HC.out wS hSw; go_simp; first | done | with_reducible rfl)))
  (try simp only [Act.put, List.setIfInBounds_toArray, List.set_cons_zero, List.set_cons_succ])
  (first | (refine takeS_no 13 rfl (by kernel_rfl) (by kernel_rfl) (by kernel_rfl) (fun _ _ _ h => h) (by rfl) (by assumption) ?_) | (refine takeS_yes (v := ?_) 13 rfl (by kernel_rfl) (by kernel_rfl) (by kernel_rfl) (fun _ _ _ h => h) (by rfl) (by assumption) ?_ ?_; rotate_left; focus (intro wS hSw; obtain ⟨q0, q1, q2, q3⟩ := HC.out wS hSw; go_simp; first | done | with_reducible rfl)))
  (try simp only [Act.put, List.setIfInBounds_toArray, List.set_cons_zero, List.set_cons_succ])
  (first | (refine takeS_no 14 rfl (by kernel_rfl) (by kernel_rfl) (by kernel_rfl) (fun _ _ _ h => h) (by rfl) (by assumption) ?_) | (refine takeS_yes (v := ?_) 14 rfl (by kernel_rfl) (by kernel_rfl) (by kernel_rfl) (fun _ _ _ h => h) (by rfl) (by assumption) ?_ ?_; rotate_left; focus (intro wS hSw; obtain ⟨q0, q1, q2, q3⟩ := HC.out wS hSw; go_simp; first | done | with_reducible rfl)))
  (try simp only [Act.put, List.setIfInBounds_toArray, List.set_cons_zero, List.set_cons_succ])
  (first | (refine takeS_no 15 rfl (by kernel_rfl) (by kernel_rfl) (by kernel_rfl) (fun _ _ _ h => h) (by rfl) (by assumption) ?_) | (refine takeS_yes (v := ?_) 15 rfl (by kernel_rfl) (by kernel_rfl) (by kernel_rfl) (fun _ _ _ h => h) (by rfl) (by assumption) ?_ ?_; rotate_left; focus (intro wS hSw; obtain ⟨q0, q1, q2, q3⟩ := HC.out wS hSw; go_simp; first | done | with_reducible rfl)))
  (try simp only [Act.put, List.setIfInBounds_toArray, List.set_cons_zero, List.set_cons_succ])
  (first | (refine takeS_no 16 rfl (by kernel_rfl) (by kernel_rfl) (by kernel_rfl) (fun _ _ _ h => h) (by rfl) (by assumption) ?_) | (refine takeS_yes (v := ?_) 16 rfl (by kernel_rfl) (by kernel_rfl) (by kernel_rfl) (fun _ _ _ h => h) (by rfl) (by assumption) ?_ ?_; rotate_left; focus (intro wS hSw; obtain ⟨q0, q1, q2, q3⟩ := HC.out wS hSw; go_simp; first | done | with_reducible rfl)))
  (try simp only [Act.put, List.setIfInBounds_toArray, List.set_cons_zero, List.set_cons_succ])
  refine takeS_alone 2 rfl (by kernel_rfl) (by rfl) (fun K hK => ?_)
  go_simp
  (refine (pair_any 3 0 0 _ _ (pairD 0 0) w1.drew rfl rfl rfl).mono ?_; rintro e w2 ⟨a2, c2, rfl, hx2, hn2, _, hq2, hb2⟩; have hS2 : Below w1.heap.size w1 w2 := (Below.refl _ _).drew.trans hb2; have HP2 := Lib.hid (And.intro hx2 (And.intro hn2 hq2)); clear hx2 hn2 hq2 hb2)
  refine hK.out _ _ (by assumption) ?_
  clear hK K
  (try simp only [Act.put, List.setIfInBounds_toArray, List.set_cons_zero, List.set_cons_succ])
  refine takeS_alone 17 rfl (by kernel_rfl) (by rfl) (fun K hK => ?_)
  go_simp
  (refine (pair_any 1 0 0 _ _ (pairD 0 0) w2 rfl rfl rfl).mono ?_; rintro e w3 ⟨a3, c3, rfl, hx3, hn3, _, hq3, hb3⟩; have hS3 : Below w1.heap.size w1 w3 := hS2.trans (hb3.mono hS2.size); have HP3 := Lib.hid (And.intro hx3 (And.intro hn3 hq3)); have HB3 := Lib.hid hb3; clear hx3 hn3 hq3 hb3)
  refine hK.out _ _ (by assumption) ?_
  clear hK K
  (try simp only [Act.put, List.setIfInBounds_toArray, List.set_cons_zero, List.set_cons_succ])
  refine takeS_alone 18 rfl (by kernel_rfl) (by rfl) (fun K hK => ?_)
  go_simp
  (have hba := (Below.refl w3.heap.size w3).alloc (Nat.le_refl _) (.cells #[.int .i64 3, .slice a2 16 c2, .int .i64 1, .slice a3 16 c3] 83); have hka := heap_alloc_new w3 (.cells #[.int .i64 3, .slice a2 16 c2, .int .i64 1, .slice a3 16 c3] 83); have hS4 : Below w1.heap.size w1 (w3.alloc (.cells #[.int .i64 3, .slice a2 16 c2, .int .i64 1, .slice a3 16 c3] 83)) := hS3.trans (hba.mono hS3.size))
  refine hK.out _ _ (by assumption) ?_
  clear hK K
  (try simp only [Act.put, List.setIfInBounds_toArray, List.set_cons_zero, List.set_cons_succ])
  (first | (refine takeS_no 19 rfl (by kernel_rfl) (by kernel_rfl) (by kernel_rfl) (fun _ _ _ h => h) (by rfl) (by assumption) ?_) | (refine takeS_yes (v := ?_) 19 rfl (by kernel_rfl) (by kernel_rfl) (by kernel_rfl) (fun _ _ _ h => h) (by rfl) (by assumption) ?_ ?_; rotate_left; focus (intro wS hSw; obtain ⟨q0, q1, q2, q3⟩ := HC.out wS hSw; go_simp; first | done | with_reducible rfl)))
  (try simp only [Act.put, List.setIfInBounds_toArray, List.set_cons_zero, List.set_cons_succ])
  refine wpAnyH_done (by kernel_rfl) ?_ _
  (try simp only [Exit.then])
  (try (rename (∀ (_ : Act) (_ : World), _ → _) => hK0; refine hK0 _ _ ?_; clear hK0))
  have hz13 := hS3.size
  generalize w3.alloc (.cells #[.int .i64 3, .slice a2 16 c2, .int .i64 1, .slice a3 16 c3] 83) = w4 at hba hka hS4 ⊢
  have hx2 : BytesIn w4 w4.heap.size a2 (pairD 0 0) := (((HP2.out.1.below HB3.out (Nat.le_refl _)).mono HB3.out.size).below hba (Nat.le_refl _)).mono hba.size
  have hx3 : BytesIn w4 w4.heap.size a3 (pairD 0 0) := (HP3.out.1.below hba (Nat.le_refl _)).mono hba.size
  have hhi : FramesHi w4 w1.heap.size (some ⟨w3.heap.size, 0, none⟩) [⟨3, a2, c2, pairD 0 0⟩, ⟨1, a3, c3, pairD 0 0⟩] := two_hi (T := 83) (by rw [pairD_len]; exact hka) hz13 hx2 (fun ad had => Nat.le_trans (by simp) (HP2.out.2.2 ad had)) hx3 (fun ad had => Nat.le_trans hS2.size (HP3.out.2.2 ad had))
  have H4 := Lib.hid (H1.out.below hS4)
  have HS4 := Lib.hid hS4
  have HHI := Lib.hid hhi
  have hk4 := (hS4.block _ hz1).trans HK1.out
  have hs4 := (hS4.block sb hsl).trans HSB.out
  have t0 := Go.Joins.cell_of_block hk4 0
  have u0 := Go.Joins.cell_of_block H4.out.wal.blk 0
  have u1 := Go.Joins.cell_of_block H4.out.wal.blk 1
  have s2 := Go.Joins.cell_of_block hs4 2
  have s3 := Go.Joins.cell_of_block hs4 3
  have s4 := Go.Joins.cell_of_block hs4 4
  have HN2 := Lib.hid (And.intro HP2.out.2.1 HP3.out.2.1)
  have hsl0 : ∀ w', (Instr.sliceAt 38 (.slice a 0 c) (some (.int .i64 0)) none none).run Tryz.prog w' = .ok (.slice (subA a c 0 9) (0 - 0) (c - 0)) w' := fun w' => run_sub_l sliceEnW sizeEnW a 0 c 0 (by omega) .i64 0 rfl w'
  clear hba hka hx2 hx3 hhi hS4 hS3 hS2 hS0 HP2 HP3
  go_wp2_with fail
  refine wp_loop_rounds 1 ?_
  rw [rounds_succ]
  go_wp2_with fail
  refine (remove_any H4.out.dk (by omega) nextS next_small ([], 6) rfl).mono ?_
  rintro e w5 ⟨rfl, hd5, hg5⟩
  have hmb4 : mb < w4.heap.size := Nat.lt_of_lt_of_le H4.out.dk.mlt H4.out.dk.le
  have H5 := Lib.hid (H4.out.disked hg5 hd5)
  have HHI5 := Lib.hid (HHI.out.grown hg5 (by omega))
  have HB5 := Lib.hid (((HB1.out.trans (HS4.out.mono (Nat.le_of_lt hz1))).mono (Nat.le_of_lt hmw)).trans (grown_atW hg5 (Nat.le_of_lt hmb4)))
  have hk5 := (hg5.block _ (Array.getElem?_eq_some_iff.1 hk4).1 (fun e => by injection e; omega)).trans hk4
  have hmb5 : mb < w5.heap.size := Nat.lt_of_lt_of_le hmb4 hg5.size
  clear hd5 hg5 hk4 hs4 t0 u0 u1 s2 s3 s4 hsl0
  go_wp2_with fail
  refine (putF_any (some ⟨w3.heap.size, 0, none⟩) 2 [⟨3, a2, c2, pairD 0 0⟩, ⟨1, a3, c3, pairD 0 0⟩] w5 HHI5.out.toIn (fun f hf => by
    simp only [List.mem_cons, List.not_mem_nil, or_false] at hf
    rcases hf with rfl | rfl
    · exact ⟨rfl, HN2.out.1, pairD_wf 0 0, by show (pairD 0 0).length ≤ _; rw [pairD_len]; omega⟩
    · exact ⟨rfl, HN2.out.2, pairD_wf 0 0, by show (pairD 0 0).length ≤ _; rw [pairD_len]; omega⟩) (by rw [putB_pairs]; show (putP [(3, pairD 0 0), (1, pairD 0 0)]).length ≤ _; rw [putP_cons, putP_cons, List.length_append, List.length_append, frameB_len, frameB_len, pairD_len]; simp [putP]) (by simp)).mono ?_
  have hpe : putE [(⟨3, a2, c2, pairD 0 0⟩ : Fr), ⟨1, a3, c3, pairD 0 0⟩] = 0 := by
    rw [putE_pairs]
    show putEP [(3, pairD 0 0), (1, pairD 0 0)] = 0
    unfold putEP putEP putEP
    dsimp only
    rw [if_neg (by decide), if_neg (by rw [pairD_len]; omega), if_neg (by decide), if_neg (by rw [pairD_len]; omega)]
  obtain ⟨D, hD⟩ : ∃ D, putB [(⟨3, a2, c2, pairD 0 0⟩ : Fr), ⟨1, a3, c3, pairD 0 0⟩] = D := ⟨_, rfl⟩
  have hDl : D.length = 50 := by
    rw [← hD, putB_pairs]
    show (putP [(3, pairD 0 0), (1, pairD 0 0)]).length = 50
    rw [putP_cons, putP_cons, List.length_append, List.length_append, frameB_len, frameB_len, pairD_len]
    rfl
  have hDw : BytesWf D := by
    rw [← hD]
    refine bytesWf_put (fun f hf => ?_) hpe
    simp only [List.mem_cons, List.not_mem_nil, or_false] at hf
    rcases hf with rfl | rfl
    · exact ⟨rfl, HN2.out.1, pairD_wf 0 0, by show (pairD 0 0).length ≤ _; rw [pairD_len]; omega⟩
    · exact ⟨rfl, HN2.out.2, pairD_wf 0 0, by show (pairD 0 0).length ≤ _; rw [pairD_len]; omega⟩
  rintro e w6 ⟨v6, rfl, hv0, _, hb6⟩
  rw [hpe]
  have ho6 := hv0 hpe
  rw [hD, hDl] at ho6
  obtain ⟨a6, c6, hv6⟩ := row_slice ho6
  subst hv6
  have HDW := Lib.hid (And.intro hDl hDw)
  have HO6 := Lib.hid ho6
  have H6 := Lib.hid (H5.out.below hb6)
  have HB6 := Lib.hid (HB5.out.trans (hb6.mono (Nat.le_of_lt hmb5)))
  have hk6 := (hb6.block _ (Array.getElem?_eq_some_iff.1 hk5).1).trans hk5
  have hmb6 : mb < w6.heap.size := Nat.lt_of_lt_of_le hmb5 hb6.size
  have hb7 := (Below.refl w6.heap.size w6).alloc (Nat.le_refl _) (.cells #[.slice a6 50 c6] 22)
  have hk7 := heap_alloc_new w6 (.cells #[.slice a6 50 c6] 22)
  clear hv0 ho6 hb6 hk5 hpe hD hDl hDw
  go_upto_region 17 with fail
  generalize w6.alloc (.cells #[.slice a6 50 c6] 22) = w7 at hb7 hk7 ⊢
  have H7 := Lib.hid (H6.out.below hb7)
  have HB7 := Lib.hid (HB6.out.trans (hb7.mono (Nat.le_of_lt hmb6)))
  have HK7 := Lib.hid hk7
  have HQ7 := Lib.hid ((hb7.block _ (Array.getElem?_eq_some_iff.1 hk6).1).trans hk6)
  have HX7 := Lib.hid ((own_bytes' (show w6.ownsRow w5.heap.size 5 1 (.slice a6 D.length c6) D.length (D.map bv) from by rw [HDW.out.1]; exact HO6.out)).below hb7 (Nat.le_refl _))
  have hz67 : w6.heap.size < w7.heap.size := (Array.getElem?_eq_some_iff.1 hk7).1
  have hmf : ∀ (fn : Fn) (first cap : Array Value) (w : World), (Instr.makeFunc fn first cap).run Tryz.prog w = .ok (.func fn first cap) w := fun _ _ _ _ => rfl
  have hfn : ∀ args w, (callFunc 55 args).run Tryz.prog w = .ok (.enter 55 args) w := fun _ _ => rfl
  clear hb7 hk7 hk6
  have hb8 := (Below.refl w7.heap.size w7).alloc (Nat.le_refl _) (.cells #[.func (.func 55) #[] #[.pointer (some ⟨w.heap.size, 0, none⟩), .pointer (some ⟨w6.heap.size, 0, none⟩)], .func (.func 56) #[] #[.pointer (some ⟨w.heap.size, 0, none⟩)], .func (.func 57) #[] #[.pointer (some ⟨w.heap.size, 0, none⟩)]] 52)
  have hk8 := heap_alloc_new w7 (.cells #[.func (.func 55) #[] #[.pointer (some ⟨w.heap.size, 0, none⟩), .pointer (some ⟨w6.heap.size, 0, none⟩)], .func (.func 56) #[] #[.pointer (some ⟨w.heap.size, 0, none⟩)], .func (.func 57) #[] #[.pointer (some ⟨w.heap.size, 0, none⟩)]] 52)
  go_wp2_with fail
  generalize w7.alloc (.cells #[.func (.func 55) #[] #[.pointer (some ⟨w.heap.size, 0, none⟩), .pointer (some ⟨w6.heap.size, 0, none⟩)], .func (.func 56) #[] #[.pointer (some ⟨w.heap.size, 0, none⟩)], .func (.func 57) #[] #[.pointer (some ⟨w.heap.size, 0, none⟩)]] 52) = w8 at hb8 hk8 ⊢
  have y0 := Go.Joins.cell_of_block hk8 0
  have hb7' := HB7.out
  have h78 := (hb8.block _ (Array.getElem?_eq_some_iff.1 HQ7.out).1).trans HQ7.out
  have h79 := (hb8.block _ hz67).trans HK7.out
  have H8 := Lib.hid (H7.out.below hb8)
  have HX8 := Lib.hid ((HX7.out.below hb8 (Nat.le_of_lt hz67)).mono (Nat.le_trans (Nat.le_of_lt hz67) hb8.size))
  have hmb7 : mb < w7.heap.size := by omega
  have HB8 := Lib.hid (HB7.out.trans (hb8.mono (Nat.le_of_lt hmb7)))
  have z0 := Go.Joins.cell_of_block h78 0
  have z1 := Go.Joins.cell_of_block h79 0
  have hz8 := hb8.size
  have HL8 := Lib.hid (And.intro (Array.getElem?_eq_some_iff.1 h78).1 (Array.getElem?_eq_some_iff.1 h79).1)
  have HZZ := Lib.hid (And.intro z0 z1)
  clear hb8 hk8 hb7' h78 h79 z0 z1
  refine wp_loop_rounds 1 ?_
  rw [rounds_succ]
  go_wp2_with fail
  refine (compact1_any H8.out (by omega) HZZ.out.1 ⟨HL8.out.1, hmw⟩ a6 50 c6 HZZ.out.2 ⟨HL8.out.2, hmb6⟩ D HDW.out.1 (HX8.out.mono (Nat.le_refl _)) HDW.out.2 (own_none HO6.out) (by omega) ([], 5) (full_append _ next_named.good D (by rw [HDW.out.1]; omega) (by rw [HDW.out.1]; omega))).mono ?_
  rintro e w9 ⟨rfl, hd9, hg9⟩
  have H9 := Lib.hid (H8.out.disked hg9 hd9)
  have HB9 := Lib.hid (HB8.out.trans (grown_atW hg9 (by omega)))
  clear hd9 hg9
  go_wp2_with fail
  go_ret
  exact ⟨rfl, H9.out, HB9.out⟩
end Go.Proofs.YtnhnabcpkaeaaaaGreatDoor
/- The document's wal as it lies in memory. Conditions: as each says. -/
namespace Go.Proofs.YtnhnabcpkaeaaaaGreatDoor
open Go.RowKit
set_option maxRecDepth 20000
/-- Block sb is the document's wal: a term, a vote, a base, its term, entries. -/
structure RSayAt (w : World) (B sb : Nat) (term vote base before : Int) (v : Value) (es : List En) : Prop where
  blk : w.heap[sb]? = some (.cells #[.int .i64 term, .int .i64 vote, .int .i64 base, .int .i64 before, v] 63 (0, 0))
  ens : EnsOwn w B v es
  low : B ≤ sb
theorem RSayAt.lt {w : World} {B sb : Nat} {term vote base before : Int} {v : Value} {es : List En} (h : RSayAt w B sb term vote base before v es) : sb < w.heap.size := (Array.getElem?_eq_some_iff.1 h.blk).1
def RSayIs (w : World) (B sb : Nat) (s : WP) : Prop := ∃ v es, RSayAt w B sb s.term s.vote s.base s.before v es ∧ es.map En.plain = s.L
theorem RSayIs.ofW {w : World} {B sb : Nat} (hk : w.heap[sb]? = some (.cells #[.int .i64 0, .int .i64 0, .int .i64 0, .int .i64 0, .slice none 0 0] 63 (0, 0))) (hB : B ≤ sb) : RSayIs w B sb WP.zero := ⟨_, [], ⟨hk, EnsOwn.nil _ _, hB⟩, rfl⟩
end Go.Proofs.YtnhnabcpkaeaaaaGreatDoor
