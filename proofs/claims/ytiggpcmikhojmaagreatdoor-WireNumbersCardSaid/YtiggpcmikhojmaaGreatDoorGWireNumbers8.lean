/- How much a thing is: the law's helper great, walked. Conditions: the thing lies in memory as it is read. -/
import Derived.Test.YtiggpcmikhojmaaGreatDoorGWireNumbers7
import Derived.Deep.MidRow
import Derived.BigFrame
import Derived.Test.YtiggpcmikhojmaaGreatDoorGWireNumbers3
import Derived.Test.YtiggpcmikhojmaaGreatDoorGWireNumbers0
import Derived.ArgAppend
import Derived.Deep.OwnRows
set_option linter.unusedVariables false
namespace Go.Proofs.YtiggpcmikhojmaaGreatDoor
open Go.RowKit
set_option maxRecDepth 20000
def thVal (t : Th) : Value := .agg #[.int .i64 t.number, .string t.text, .int .u8 t.value.kind, .int .i64 t.value.num, .string t.value.text, .slice t.vo t.values.length t.vcap, .int .i64 t.fact.id, .int .i64 t.fact.ty, .slice t.fact.ao t.fact.args.length t.fact.cap, .int .u8 t.command.kind, .string t.command.text, .slice t.command.ao t.command.args.length t.command.cap, .int .i64 t.command.num, .int .i64 t.reply.err, .int .i64 t.reply.num, .slice t.reply.fo t.reply.facts.length t.reply.fcap, .slice t.reply.so t.reply.said.length t.reply.scap, .int .i64 t.entry.term, .int .u8 t.entry.kind, .int .i64 t.entry.session, .int .i64 t.entry.seq, .int .u8 t.entry.ck, .string t.entry.text, .slice t.entry.aao t.entry.args.length t.entry.acap, .int .i64 t.entry.num, .slice t.entry.vao t.entry.vs.length t.entry.vcap]
def thObj (t : Th) : Obj := .cells #[.int .i64 t.number, .string t.text, .int .u8 t.value.kind, .int .i64 t.value.num, .string t.value.text, .slice t.vo t.values.length t.vcap, .int .i64 t.fact.id, .int .i64 t.fact.ty, .slice t.fact.ao t.fact.args.length t.fact.cap, .int .u8 t.command.kind, .string t.command.text, .slice t.command.ao t.command.args.length t.command.cap, .int .i64 t.command.num, .int .i64 t.reply.err, .int .i64 t.reply.num, .slice t.reply.fo t.reply.facts.length t.reply.fcap, .slice t.reply.so t.reply.said.length t.reply.scap, .int .i64 t.entry.term, .int .u8 t.entry.kind, .int .i64 t.entry.session, .int .i64 t.entry.seq, .int .u8 t.entry.ck, .string t.entry.text, .slice t.entry.aao t.entry.args.length t.entry.acap, .int .i64 t.entry.num, .slice t.entry.vao t.entry.vs.length t.entry.vcap] 40 (0, 0)
theorem VasWf.small {ao : Option Addr} {xs : List Va} {cap : Nat} (h : VasWf ao xs cap) : xs.length ≤ 4398046511104 ∧ ∀ v ∈ xs, v.text.size ≤ 140737488351232 := by
  have := h.len
  exact ⟨by omega, fun v hv => (h.all v hv).2.2⟩
theorem VasWf.cost {ao : Option Addr} {xs : List Va} {cap : Nat} (h : VasWf ao xs cap) : 0 ≤ valuesN xs ∧ valuesN xs ≤ 7036874420000 := ⟨valuesN_nn xs, valuesN_le xs h.small.1 h.small.2⟩
theorem lvalues_wf {ao : Option Addr} {cap : Nat} {xs : List Va} {w : World} {B : Nat} (hw : VasWf ao xs cap) (hx : ValsIn w B ao xs) (hB : B ≤ w.heap.size) (N : Int) (hN : valuesN xs = N) :
    Calls Tryz.prog 60 #[.slice ao xs.length cap] w fun e w' => e = .returned (.int .i64 N) ∧ Below w.heap.size w w' := hN ▸ lvalues_any ao _ cap xs w B rfl hx hB hw.small.2 hw.small.1
theorem EnWf.vargs {e : En} (h : EnWf e) : VasWf e.aao e.args e.acap := ⟨h.args, h.argn, h.anil, h.acap⟩
theorem RpWf.small {r : Rp} (h : RpWf r) : r.facts.length ≤ 3518437208781 := by have := h.flen; omega
set_option maxHeartbeats 2000000 in
theorem great_any (t : Th) (w : World) (hx : ThIn w w.heap.size t) (hw : ThWf t) :
    Calls Tryz.prog 21 #[thVal t] w fun e w' => e = .returned (.bool (decide (2000 < greatN t))) ∧ Below w.heap.size w w' := by
  have hb0 := (Below.refl w.heap.size w).alloc (Nat.le_refl _) (thObj t)
  have hk := heap_alloc_new w (thObj t)
  have hs0 : (w.alloc (thObj t)).heap.size = w.heap.size + 1 := by simp
  have HB0 := Lib.hid hb0
  have HK := Lib.hid hk
  have HS0 := Lib.hid hs0
  have HX := Lib.hid hx
  have HW := Lib.hid hw
  clear hb0 hk hs0 hx hw
  unfold thVal
  go_enter Tryz.func21, Tryz.ntmps21
  go_wp2_with fail
  have hb0 := HB0.out
  have hk := HK.out
  have hs0 := HS0.out
  clear HB0 HK HS0
  unfold thObj at hb0 hk hs0
  generalize w.alloc (.cells #[.int .i64 t.number, .string t.text, .int .u8 t.value.kind, .int .i64 t.value.num, .string t.value.text, .slice t.vo t.values.length t.vcap, .int .i64 t.fact.id, .int .i64 t.fact.ty, .slice t.fact.ao t.fact.args.length t.fact.cap, .int .u8 t.command.kind, .string t.command.text, .slice t.command.ao t.command.args.length t.command.cap, .int .i64 t.command.num, .int .i64 t.reply.err, .int .i64 t.reply.num, .slice t.reply.fo t.reply.facts.length t.reply.fcap, .slice t.reply.so t.reply.said.length t.reply.scap, .int .i64 t.entry.term, .int .u8 t.entry.kind, .int .i64 t.entry.session, .int .i64 t.entry.seq, .int .u8 t.entry.ck, .string t.entry.text, .slice t.entry.aao t.entry.args.length t.entry.acap, .int .i64 t.entry.num, .slice t.entry.vao t.entry.vs.length t.entry.vcap] 40) = w0 at hb0 hk hs0 ⊢
  have hc : ∀ (x' : Calm (w.heap.size + 1) w0) (i : Nat) (v : Value), (#[.int .i64 t.number, .string t.text, .int .u8 t.value.kind, .int .i64 t.value.num, .string t.value.text, .slice t.vo t.values.length t.vcap, .int .i64 t.fact.id, .int .i64 t.fact.ty, .slice t.fact.ao t.fact.args.length t.fact.cap, .int .u8 t.command.kind, .string t.command.text, .slice t.command.ao t.command.args.length t.command.cap, .int .i64 t.command.num, .int .i64 t.reply.err, .int .i64 t.reply.num, .slice t.reply.fo t.reply.facts.length t.reply.fcap, .slice t.reply.so t.reply.said.length t.reply.scap, .int .i64 t.entry.term, .int .u8 t.entry.kind, .int .i64 t.entry.session, .int .i64 t.entry.seq, .int .u8 t.entry.ck, .string t.entry.text, .slice t.entry.aao t.entry.args.length t.entry.acap, .int .i64 t.entry.num, .slice t.entry.vao t.entry.vs.length t.entry.vcap] : Array Value)[i]? = some v → x'.1.cell? ⟨w.heap.size, i, none⟩ = some v := fun x' i v h =>
    (Go.Joins.cell_of_block ((x'.2.block _ (show w.heap.size < w.heap.size + 1 by omega)).trans hk) i).trans h
  have hX : ∀ x' : Calm (w.heap.size + 1) w0, ThIn x'.1 w.heap.size t := fun x' => by
    have hh := hb0.trans (x'.2.mono (Nat.le_succ _))
    exact ⟨HX.out.values.below noSub_kept hh (Nat.le_refl _), HX.out.fact.below noSub_kept hh (Nat.le_refl _), HX.out.command.below noSub_kept hh (Nat.le_refl _), rpSub_kept _ _ _ _ _ HX.out.reply hh (Nat.le_refl _), enSub_kept _ _ _ _ _ HX.out.entry hh (Nat.le_refl _)⟩
  have hBw : ∀ x' : Calm (w.heap.size + 1) w0, w.heap.size ≤ x'.1.heap.size := fun x' => by have := x'.2.size; omega
  obtain ⟨N0, hN0⟩ : ∃ N, costV t.value = N := ⟨_, rfl⟩
  obtain ⟨N1, hN1⟩ : ∃ N, valuesN t.values = N := ⟨_, rfl⟩
  obtain ⟨N2, hN2⟩ : ∃ N, valuesN t.fact.args = N := ⟨_, rfl⟩
  obtain ⟨N3, hN3⟩ : ∃ N, valuesN t.command.args = N := ⟨_, rfl⟩
  obtain ⟨N4, hN4⟩ : ∃ N, valuesN t.reply.said = N := ⟨_, rfl⟩
  obtain ⟨N5, hN5⟩ : ∃ N, valuesN t.entry.args = N := ⟨_, rfl⟩
  have b0 : 1 ≤ N0 ∧ N0 ≤ 7036874417563 := by have : t.value.text.size ≤ 140737488351232 := HW.out.value.2.2; rw [← hN0]; exact ⟨costV_pos _, by unfold costV; omega⟩
  have b1 := hN1 ▸ HW.out.values.cost
  have b2 := hN2 ▸ HW.out.fact.args.cost
  have b3 := hN3 ▸ HW.out.command.args.cost
  have b4 := hN4 ▸ HW.out.reply.said.cost
  have b5 := hN5 ▸ HW.out.entry.vargs.cost
  have C0 := Lib.hid fun x' : Calm (w.heap.size + 1) w0 => (hN0 ▸ lvalue_any t.value.kind t.value.num t.value.text x'.1 HW.out.value.2.2 : Calls Tryz.prog 59 #[.agg #[.int .u8 t.value.kind, .int .i64 t.value.num, .string t.value.text]] x'.1 fun e w' => e = .returned (.int .i64 N0) ∧ Below x'.1.heap.size x'.1 w')
  have C1 := Lib.hid fun x' : Calm (w.heap.size + 1) w0 => lvalues_wf HW.out.values (hX x').values (hBw x') N1 hN1
  have C2 := Lib.hid fun x' : Calm (w.heap.size + 1) w0 => lvalues_wf HW.out.fact.args (hX x').fact (hBw x') N2 hN2
  have C3 := Lib.hid fun x' : Calm (w.heap.size + 1) w0 => lvalues_wf HW.out.command.args (hX x').command (hBw x') N3 hN3
  have C4 := Lib.hid fun x' : Calm (w.heap.size + 1) w0 => lvalues_wf HW.out.reply.said (hX x').reply.2 (hBw x') N4 hN4
  have C5 := Lib.hid fun x' : Calm (w.heap.size + 1) w0 => lvalues_wf HW.out.entry.vargs (hX x').entry.1 (hBw x') N5 hN5
  have l1 := HW.out.text
  have l2 := HW.out.command.text
  have l3 := HW.out.entry.text
  have l4 := HW.out.reply.small
  have l5 : t.entry.vs.length ≤ 17592186043904 := by have := HW.out.entry.vn; omega
  obtain ⟨G0, hG0⟩ : ∃ G, great0 t = G := ⟨_, rfl⟩
  have hg0 : great0 t = (t.text.size : Int) / 20 + N0 + N1 + N2 + (t.command.text.size : Int) / 20 + N3 + N4 := by rw [great0, hN0, hN1, hN2, hN3, hN4]
  have hg1 : great1 t = great0 t + (t.entry.text.size : Int) / 20 + N5 + t.entry.vs.length + t.reply.facts.length := by rw [great1, hN5]
  have HG0 := Lib.hid hg0
  have HG1 := Lib.hid hg1
  have HC := Lib.hid hc
  have HXX := Lib.hid hX
  clear hN0 hN1 hN2 hN3 hN4 hN5 hg0 hg1 hG0 G0
  have d1 := fun x' => hc x' 1 _ rfl
  have d2 := fun x' => hc x' 2 _ rfl
  have d3 := fun x' => hc x' 3 _ rfl
  have d4 := fun x' => hc x' 4 _ rfl
  have d5 := fun x' => hc x' 5 _ rfl
  have d8 := fun x' => hc x' 8 _ rfl
  have d10 := fun x' => hc x' 10 _ rfl
  have d11 := fun x' => hc x' 11 _ rfl
  have d16 := fun x' => hc x' 16 _ rfl
  clear hc hX hBw
  have hsz : w.heap.size + 1 ≤ w0.heap.size := by omega
  refine wp_region_calm (B := w.heap.size + 1) (W0 := w0) (Below.refl _ _) (by kernel_rfl) (by kernel_rfl) ?_
  repeat (go_big_quiet_step (first | (go_at_call 59; exact Calm.call hsz (C0.out _)) | (go_at_call 60; first | (with_reducible exact Calm.call hsz (C1.out _)) | (with_reducible exact Calm.call hsz (C2.out _)) | (with_reducible exact Calm.call hsz (C3.out _)) | (with_reducible exact Calm.call hsz (C4.out _)))))
  refine wpQuiet_nil ?_
  intro w1 hb1
  clear d1 d2 d3 d4 d5 d8 d10 d11 d16 C0 C1 C2 C3 C4
  have g0b : 0 ≤ great0 t ∧ great0 t ≤ 100000000000000 := by rw [HG0.out]; omega
  rw [← HG0.out]
  obtain ⟨G0, hG0⟩ : ∃ G, great0 t = G := ⟨_, rfl⟩
  have hg1 := HG1.out
  rw [hG0] at g0b hg1 ⊢
  have HG1 := Lib.hid hg1
  clear hG0 HG0 hg1
  have d22 := fun x' => HC.out x' 22 _ rfl
  have d23 := fun x' => HC.out x' 23 _ rfl
  have d25 := fun x' => HC.out x' 25 _ rfl
  have d15 := fun x' => HC.out x' 15 _ rfl
  go_wp2_with fail
  refine wp_region_calm (B := w.heap.size + 1) (W0 := w0) hb1 (by kernel_rfl) (by kernel_rfl) ?_
  repeat (go_big_quiet_step ((go_at_call 60; exact Calm.call hsz (C5.out _))))
  refine wpQuiet_nil ?_
  intro w2 hb2
  clear d22 d23 d25 d15 C5 hb1
  have g1b : 0 ≤ great1 t ∧ great1 t ≤ 1000000000000000 := by rw [HG1.out]; omega
  rw [← HG1.out]
  have hfin : costsF (great1 t) t.reply.facts = greatN t := rfl
  obtain ⟨G1, hG1⟩ : ∃ G, great1 t = G := ⟨_, rfl⟩
  rw [hG1] at g1b hfin ⊢
  obtain ⟨G, hG⟩ : ∃ G, greatN t = G := ⟨_, rfl⟩
  rw [hG] at hfin
  have HF := Lib.hid hfin
  have HGG := Lib.hid hG
  clear hG1 HG1 hfin hG b0 b1 b2 b3 b4 b5 l1 l2 l3 l5
  obtain ⟨n, hn⟩ : ∃ n, t.reply.facts.length = n := ⟨_, rfl⟩
  rw [hn] at l4
  have HN := Lib.hid hn
  have hd15 : ∀ x' : Calm (w.heap.size + 1) w0, x'.1.cell? ⟨w.heap.size, 15, none⟩ = some (.slice t.reply.fo n t.reply.fcap) := fun x' => (HC.out x' 15 _ rfl).trans (by rw [← hn]; rfl)
  have HD15 := Lib.hid hd15
  clear hn hd15 HC
  go_wp2_with fail
  go_loopw [3, 4] (fun m i wr => ∃ (k : Nat) (c : Int), k ≤ n ∧ i = .int .i64 k ∧ m = .int .i64 c ∧ 0 ≤ c ∧ c ≤ 1000000000000000 ∧ costsF c (t.reply.facts.drop k) = G ∧ Below (w.heap.size + 1) w0 wr) (fun _ i _ => n - (intOf i).toNat)
  case atStart => exact ⟨0, G1, by omega, rfl, rfl, g1b.1, g1b.2, HF.out, hb2⟩
  case round =>
    clear HF hb2
    obtain ⟨k, c, hk, rfl, rfl, hc0, hc1, hcs, hbel⟩ := hrel
    have HCS := Lib.hid hcs
    clear hcs
    have c15 : wr.cell? ⟨w.heap.size, 15, none⟩ = some (.slice t.reply.fo n t.reply.fcap) := HD15.out ⟨wr, hbel⟩
    by_cases hlt : k < n
    · have i1 : (k : Int) < n := by omega
      by_cases hc2 : c ≤ 2000
      · have hkx : t.reply.facts[k]? = some (t.reply.facts[k]'(by rw [HN.out]; exact hlt)) := List.getElem?_eq_getElem _
        have hdr : t.reply.facts.drop k = (t.reply.facts[k]'(by rw [HN.out]; exact hlt)) :: t.reply.facts.drop (k + 1) := List.drop_eq_getElem_cons _
        have hfw := HW.out.reply.facts _ (List.getElem_mem (l := t.reply.facts) (n := k) (by rw [HN.out]; exact hlt))
        obtain ⟨b, off, hao, hb, hc, hsub⟩ := (HXX.out ⟨wr, hbel⟩).reply.1.at hkx
        generalize t.reply.facts[k]'(by rw [HN.out]; exact hlt) = x at hc hkx hdr hfw hsub
        have hbw : w.heap.size ≤ wr.heap.size := by have := hbel.size; omega
        obtain ⟨q, hq⟩ : ∃ q, valuesN x.args = q := ⟨_, rfl⟩
        have hqb := hq ▸ hfw.args.cost
        have hcall := lvalues_wf hfw.args hsub hbw q hq
        have hnew : costsF (c + q) (t.reply.facts.drop (k + 1)) = G := by
          have := HCS.out
          rw [hdr] at this
          unfold costsF at this
          rwa [if_pos hc2, hq] at this
        obtain ⟨id, ty, ao, args, cap⟩ := x
        dsimp only at hcall
        obtain ⟨an, han⟩ : ∃ an, args.length = an := ⟨_, rfl⟩
        rw [han] at hcall
        have HCALL := Lib.hid hcall
        have HNEW := Lib.hid hnew
        have c2 : wr.cell? ⟨b, off + k * 3 + 2, none⟩ = some (.slice ao an cap) := han ▸ hc 2 (by decide)
        have w1 : IntKind.i64.wrap (c + q) = c + q := IntWalk.i64_in _ (by omega)
        have i2 : decide (c ≤ 2000) = true := by simpa using hc2
        have HAO := Lib.hid hao
        have hao' : t.reply.fo = some ⟨b, off, none⟩ := hao
        rw [hao] at c15
        clear hc hkx hdr hcall hnew hfw hsub hq han hao hao'
        go_wp2_with fail
        refine HCALL.out.mono ?_
        rintro e w2 ⟨rfl, hb2⟩
        have hb3 := hbel.trans (hb2.mono (Nat.le_trans hsz hbel.size))
        clear c2 hb2 c15
        go_wp2_with fail
        go_roundw
        case rel => exact ⟨k + 1, c + q, by omega, by go_num, by first | rfl | go_num, by omega, by omega, HNEW.out, hb3⟩
        case measure => simp [intOf]; omega
      · have hfin : G = c := by rw [← HCS.out]; exact costsF_big _ _ (by omega)
        have i2 : decide (c ≤ 2000) = false := by simpa using hc2
        have i3 : 2000 < c := by omega
        have HF := Lib.hid hfin
        clear hfin
        have hb4 := hb0.trans (hbel.mono (Nat.le_succ _))
        go_wp2_with fail
        go_ret
        exact ⟨by (rw [HGG.out, HF.out]); first | done | (simp; omega) | rfl, hb4⟩
    · obtain rfl : k = n := by omega
      have hfin : G = c := by
        rw [← HCS.out, List.drop_eq_nil_of_le (by rw [HN.out]; exact Nat.le_refl _)]
        rfl
      have HF := Lib.hid hfin
      clear hfin
      have hb4 := hb0.trans (hbel.mono (Nat.le_succ _))
      go_wp2_with fail
      go_ret
      exact ⟨by (rw [HGG.out, HF.out]); first | done | rfl | simp, hb4⟩
end Go.Proofs.YtiggpcmikhojmaaGreatDoor
/- A thing's cells, one by one, in every world in which its block stays. Conditions: the block lies as it is read. -/
namespace Go.Proofs.YtiggpcmikhojmaaGreatDoor
open Go.RowKit
set_option maxRecDepth 20000
structure ThCells (t : Th) (g : Nat) (w : World) : Prop where
  d0 : w.cell? ⟨g, 0, none⟩ = some (.int .i64 t.number)
  d1 : w.cell? ⟨g, 1, none⟩ = some (.string t.text)
  d2 : w.cell? ⟨g, 2, none⟩ = some (.int .u8 t.value.kind)
  d3 : w.cell? ⟨g, 3, none⟩ = some (.int .i64 t.value.num)
  d4 : w.cell? ⟨g, 4, none⟩ = some (.string t.value.text)
  d5 : w.cell? ⟨g, 5, none⟩ = some (.slice t.vo t.values.length t.vcap)
  d6 : w.cell? ⟨g, 6, none⟩ = some (.int .i64 t.fact.id)
  d7 : w.cell? ⟨g, 7, none⟩ = some (.int .i64 t.fact.ty)
  d8 : w.cell? ⟨g, 8, none⟩ = some (.slice t.fact.ao t.fact.args.length t.fact.cap)
  d9 : w.cell? ⟨g, 9, none⟩ = some (.int .u8 t.command.kind)
  d10 : w.cell? ⟨g, 10, none⟩ = some (.string t.command.text)
  d11 : w.cell? ⟨g, 11, none⟩ = some (.slice t.command.ao t.command.args.length t.command.cap)
  d12 : w.cell? ⟨g, 12, none⟩ = some (.int .i64 t.command.num)
  d13 : w.cell? ⟨g, 13, none⟩ = some (.int .i64 t.reply.err)
  d14 : w.cell? ⟨g, 14, none⟩ = some (.int .i64 t.reply.num)
  d15 : w.cell? ⟨g, 15, none⟩ = some (.slice t.reply.fo t.reply.facts.length t.reply.fcap)
  d16 : w.cell? ⟨g, 16, none⟩ = some (.slice t.reply.so t.reply.said.length t.reply.scap)
  d17 : w.cell? ⟨g, 17, none⟩ = some (.int .i64 t.entry.term)
  d18 : w.cell? ⟨g, 18, none⟩ = some (.int .u8 t.entry.kind)
  d19 : w.cell? ⟨g, 19, none⟩ = some (.int .i64 t.entry.session)
  d20 : w.cell? ⟨g, 20, none⟩ = some (.int .i64 t.entry.seq)
  d21 : w.cell? ⟨g, 21, none⟩ = some (.int .u8 t.entry.ck)
  d22 : w.cell? ⟨g, 22, none⟩ = some (.string t.entry.text)
  d23 : w.cell? ⟨g, 23, none⟩ = some (.slice t.entry.aao t.entry.args.length t.entry.acap)
  d24 : w.cell? ⟨g, 24, none⟩ = some (.int .i64 t.entry.num)
  d25 : w.cell? ⟨g, 25, none⟩ = some (.slice t.entry.vao t.entry.vs.length t.entry.vcap)
theorem th_cells {t : Th} {g : Nat} {w0 w : World} (h : w0.heap[g]? = some (thObj t)) (hb : Below (g + 1) w0 w) : ThCells t g w := by
  have hk : w.heap[g]? = some (thObj t) := (hb.block g (Nat.lt_succ_self _)).trans h
  unfold thObj at hk
  have hc := fun i => Go.Joins.cell_of_block hk i
  exact ⟨hc 0, hc 1, hc 2, hc 3, hc 4, hc 5, hc 6, hc 7, hc 8, hc 9, hc 10, hc 11, hc 12, hc 13, hc 14, hc 15, hc 16, hc 17, hc 18, hc 19, hc 20, hc 21, hc 22, hc 23, hc 24, hc 25⟩
/-- A thing's cells as one array. -/
def thArr (t : Th) : Array Value := (thCells t).toArray
theorem thVal_arr (t : Th) : .agg (thArr t) = thVal t := rfl
theorem thObj_arr (t : Th) : .cells (thArr t) 40 (0, 0) = thObj t := rfl
theorem thArr_size (t : Th) : (thArr t).toList.length = 26 := rfl
theorem range_block {w : World} {g : Nat} {A : Array Value} {T : TypeId} {fz : Nat × Nat} (h : w.heap[g]? = some (.cells A T fz)) : w.rangeAt g 0 A.toList := fun j v hv => by
  rw [Nat.zero_add, Go.Joins.cell_of_block h j, ← Array.getElem?_toList, hv]
theorem range_new {w : World} {g o : Nat} : w.rangeAt g o [] := fun j v hv => by cases j <;> cases hv
theorem range_cons {w : World} {g o : Nat} {v : Value} {vs : List Value} (h : w.cell? ⟨g, o, none⟩ = some v) (h2 : w.rangeAt g (o + 1) vs) : w.rangeAt g o (v :: vs) := fun j u hu => by
  cases j with
  | zero => simp at hu; subst hu; exact h
  | succ j =>
    have := h2 j u (by simpa using hu)
    rw [show o + (j + 1) = o + 1 + j by omega]
    exact this
/-- The parts of a thing, as they are loaded. -/
structure ThRanges (t : Th) (g : Nat) (w : World) : Prop where
  value : w.rangeAt g 2 [.int .u8 t.value.kind, .int .i64 t.value.num, .string t.value.text]
  fact : w.rangeAt g 6 [.int .i64 t.fact.id, .int .i64 t.fact.ty, .slice t.fact.ao t.fact.args.length t.fact.cap]
  command : w.rangeAt g 9 [.int .u8 t.command.kind, .string t.command.text, .slice t.command.ao t.command.args.length t.command.cap, .int .i64 t.command.num]
  reply : w.rangeAt g 13 [.int .i64 t.reply.err, .int .i64 t.reply.num, .slice t.reply.fo t.reply.facts.length t.reply.fcap, .slice t.reply.so t.reply.said.length t.reply.scap]
  entry : w.rangeAt g 17 [.int .i64 t.entry.term, .int .u8 t.entry.kind, .int .i64 t.entry.session, .int .i64 t.entry.seq, .int .u8 t.entry.ck, .string t.entry.text, .slice t.entry.aao t.entry.args.length t.entry.acap, .int .i64 t.entry.num, .slice t.entry.vao t.entry.vs.length t.entry.vcap]
theorem th_ranges {t : Th} {g : Nat} {w : World} (h : ThCells t g w) : ThRanges t g w := by
  obtain ⟨d0, d1, d2, d3, d4, d5, d6, d7, d8, d9, d10, d11, d12, d13, d14, d15, d16, d17, d18, d19, d20, d21, d22, d23, d24, d25⟩ := h
  exact ⟨range_cons d2 (range_cons d3 (range_cons d4 range_new)), range_cons d6 (range_cons d7 (range_cons d8 range_new)), range_cons d9 (range_cons d10 (range_cons d11 (range_cons d12 range_new))), range_cons d13 (range_cons d14 (range_cons d15 (range_cons d16 range_new))),
    range_cons d17 (range_cons d18 (range_cons d19 (range_cons d20 (range_cons d21 (range_cons d22 (range_cons d23 (range_cons d24 (range_cons d25 range_new))))))))⟩
/-- A load of a struct, where the operation is guarded, and wanted. -/
theorem wpList_load_want {P : Program} {ops : Array Oper} {rest : List Oper} {op : Oper} {a : Act} {w : World} {Q : Exit → Act → World → Prop} (hw : Region.wanted op (yielded ops a.tmps) = true) (ty : TypeId) (x : Operand) (ho : op.op = .load ty x)
    (b o : Nat) (hx : a.eval x = .pointer (some ⟨b, o, none⟩)) (cs : List Value) (d : TypeDesc) (hc : w.rangeAt b o cs)
    (hu : P.underlying ty = some d) (hd : d.isRow = true) (hi : (P.info? ty).map (·.size) = some cs.length)
    (h : wpList P ops Q rest (a.put op.dst (.agg cs.toArray)) w) : wpList P ops Q (op :: rest) a w :=
  Go.BigFrame.wpList_want hw fun _ hK => wp_load_mid ty x ho b o hx cs d hc hu hd hi (hK _ _ h)
theorem info_th : (Tryz.prog.info? 40).map (·.size) = some 26 := by kernel_rfl
theorem info_va : (Tryz.prog.info? 24).map (·.size) = some 3 := by kernel_rfl
theorem info_fa : (Tryz.prog.info? 27).map (·.size) = some 3 := by kernel_rfl
theorem info_cm : (Tryz.prog.info? 30).map (·.size) = some 4 := by kernel_rfl
theorem info_rp : (Tryz.prog.info? 34).map (·.size) = some 4 := by kernel_rfl
theorem info_en : (Tryz.prog.info? 38).map (·.size) = some 9 := by kernel_rfl
theorem ThIn.below {t : Th} {g : Nat} {w w' : World} (h : ThIn w g t) (hb : Below g w w') : ThIn w' g t :=
  ⟨h.values.below noSub_kept hb (Nat.le_refl _), h.fact.below noSub_kept hb (Nat.le_refl _), h.command.below noSub_kept hb (Nat.le_refl _), rpSub_kept _ _ _ _ _ h.reply hb (Nat.le_refl _), enSub_kept _ _ _ _ _ h.entry hb (Nat.le_refl _)⟩
theorem ThIn.mono {t : Th} {g g' : Nat} {w : World} (h : ThIn w g t) (hg : g ≤ g') : ThIn w g' t :=
  ⟨h.values.mono noSub_rising hg, h.fact.mono noSub_rising hg, h.command.mono noSub_rising hg, rpSub_rising _ _ _ _ h.reply hg, enSub_rising _ _ _ _ h.entry hg⟩
/-- The rows that a call made, read. -/
theorem VasOwn.vals {w : World} {base n c : Nat} {a : Option Addr} {xs : List Va} (hn : xs.length = n) (h : VasOwn w base a n c xs) : ValsIn w w.heap.size a xs := own_rowsIn vaCells_len hn h (fun _ _ => trivial)
theorem IntsOwn.nums {w : World} {base n c : Nat} {a : Option Addr} {xs : List Int} (hn : xs.length = n) (h : IntsOwn w base a n c xs) : NumsIn w w.heap.size a xs := own_rowsIn iCells_len hn h (fun _ _ => trivial)
theorem FasOwn.fas {w : World} {base n c : Nat} {a : Option Addr} {xs : List Fa} (h : FasOwn w base a n c xs) : FasIn w w.heap.size a xs := own_rowsIn faCells_len h.len h.row (fun f hf => VasOwn.vals rfl (h.own f hf))
/-- Parts that lie anywhere. -/
def Parts (w : World) (ps : List Pt) : Prop := ∀ p ∈ ps, ptSub w w.heap.size p
theorem Parts.add {w w' : World} {ps : List Pt} {a : Option Addr} {c : Nat} {L : List Int} (h : Parts w ps) (ho : w'.ownsRow w.heap.size 5 1 (.slice a L.length c) L.length (L.map bv)) (hb : Below w.heap.size w w') : Parts w' (ps ++ [⟨a, c, L⟩]) := by
  intro p hp
  rcases List.mem_append.1 hp with hp | hp
  · exact ((h p hp).below hb (Nat.le_refl _)).mono hb.size
  · rw [List.mem_singleton.1 hp]
    exact own_bytes' ho
theorem Parts.alloc {w : World} {ps : List Pt} (h : Parts w ps) (o : Obj) : Parts (w.alloc o) ps := by
  intro p hp
  have hb := (Below.refl w.heap.size w).alloc (Nat.le_refl _) o
  exact ((h p hp).below hb (Nat.le_refl _)).mono hb.size
end Go.Proofs.YtiggpcmikhojmaaGreatDoor
/- Steps of a region that draws its order, guarded operations and loads included, each taken by its number, in worlds of which something is kept. Any program. Conditions: as each says. -/
namespace Go.Proofs.YtiggpcmikhojmaaGreatDoor
open Go.RowKit
variable {P : Program} {md : Region.Mode} {ops : Array Oper} {Q : Exit → Act → World → Prop} {S : World → Prop}
theorem takeS_no (i : Nat) {oi : Oper} {fuel : Nat} {listed : Array Bool} {a : Act} {w : World} (hi : ops.toList[i]? = some oi) (hs : Region.noSelect ops = true) (hf : Region.free md ops listed i = true) (hr : (Region.ready md ops listed).contains i = true)
    (hQ : ∀ c a w, Q (.panic c) (a.put oi.dst undef) w → Q (.panic c) a w) (hw : Region.wanted oi (yielded ops a.tmps) = false) (hS : S w) (h : wpAnyH P md ops Q S fuel (listed.setIfInBounds i true) (a.put oi.dst undef) w) : wpAnyH P md ops Q S (fuel + 1) listed a w :=
  wpAnyH_take (by rw [← Array.getElem?_toList]; exact hi) hs hf hr hQ (Or.inr ⟨hw, rfl⟩) hS h
/-- An operation that yields the same in whatever world of the kind. -/
theorem takeS_yes (i : Nat) {oi : Oper} {v : Value} {fuel : Nat} {listed : Array Bool} {a : Act} {w : World} (hi : ops.toList[i]? = some oi) (hs : Region.noSelect ops = true) (hf : Region.free md ops listed i = true) (hr : (Region.ready md ops listed).contains i = true)
    (hQ : ∀ c a w, Q (.panic c) (a.put oi.dst v) w → Q (.panic c) a w) (hw : Region.wanted oi (yielded ops a.tmps) = true) (hS : S w) (hy : ∀ w, S w → (execOp a.eval oi).run P w = .ok (.value v) w) (h : wpAnyH P md ops Q S fuel (listed.setIfInBounds i true) (a.put oi.dst v) w) : wpAnyH P md ops Q S (fuel + 1) listed a w :=
  wpAnyH_take (by rw [← Array.getElem?_toList]; exact hi) hs hf hr hQ (Or.inl ⟨hw, hy⟩) hS h
/-- An operation that alone may come up. -/
theorem takeS_alone (i : Nat) {oi : Oper} {fuel : Nat} {listed : Array Bool} {a : Act} {w : World} (hi : ops.toList[i]? = some oi) (hr : Region.ready md ops listed = [i]) (hw : Region.wanted oi (yielded ops a.tmps) = true)
    (h : ∀ K' : Act → World → Prop, Shut (∀ a w, S w → wpAnyH P md ops Q S fuel (listed.setIfInBounds i true) a w → K' a w) → Oper.wp P oi a w K' Q) : wpAnyH P md ops Q S (fuel + 1) listed a w :=
  wpAnyH_ready (rs := [i]) hr (by simp) (AllReadyH.cons (by rw [← Array.getElem?_toList]; exact hi) (fun K hK => by rw [if_pos hw]; exact h K (fun a w hS hW => hK.out a w hS (fun _ => hW))) AllReadyH.nil)
theorem heldS_begin {id : Nat} {a : Act} {w : World} (S : World → Prop) (hm : P.follows .mixedOrders = true) (hS : S w.drew) (h : S w.drew → wpAnyH P .any ops Q S ops.size (Array.replicate ops.size false) a w.drew) : (Code.region id ops true).wp P Q a w :=
  wp_region_held_drew hm hS h
end Go.Proofs.YtiggpcmikhojmaaGreatDoor
/- Two operations of a region that may come up in either order. Any program. Conditions: as each says. -/
namespace Go.Proofs.YtiggpcmikhojmaaGreatDoor
open Go.RowKit
theorem takeS_two {P : Program} {md : Region.Mode} {ops : Array Oper} {Q : Exit → Act → World → Prop} {S : World → Prop} (i j : Nat) {oi oj : Oper} {fuel : Nat} {listed : Array Bool} {a : Act} {w : World} (hi : ops.toList[i]? = some oi) (hj : ops.toList[j]? = some oj) (hr : Region.ready md ops listed = [i, j]) (hwi : Region.wanted oi (yielded ops a.tmps) = true) (hwj : Region.wanted oj (yielded ops a.tmps) = true)
    (h1 : ∀ K' : Act → World → Prop, Shut (∀ a w, S w → wpAnyH P md ops Q S fuel (listed.setIfInBounds i true) a w → K' a w) → Oper.wp P oi a w K' Q)
    (h2 : ∀ K' : Act → World → Prop, Shut (∀ a w, S w → wpAnyH P md ops Q S fuel (listed.setIfInBounds j true) a w → K' a w) → Oper.wp P oj a w K' Q) : wpAnyH P md ops Q S (fuel + 1) listed a w :=
  wpAnyH_ready (rs := [i, j]) hr (by simp) (AllReadyH.cons (by rw [← Array.getElem?_toList]; exact hi) (fun K hK => by rw [if_pos hwi]; exact h1 K (fun a w hS hW => hK.out a w hS (fun _ => hW)))
    (AllReadyH.cons (by rw [← Array.getElem?_toList]; exact hj) (fun K hK => by rw [if_pos hwj]; exact h2 K (fun a w hS hW => hK.out a w hS (fun _ => hW))) AllReadyH.nil))
end Go.Proofs.YtiggpcmikhojmaaGreatDoor
/- Rows of a call's own: what one of them is where another one grows or is written. No program. Conditions: as each says. -/
namespace Go.Proofs.YtiggpcmikhojmaaGreatDoor
open Go.RowKit
/-- Two slices lie in blocks of their own. -/
def Sep (u v : Value) : Prop := ∀ b, u.ownBlock = some b → v.ownBlock ≠ some b
theorem Sep.symm {u v : Value} (h : Sep u v) : Sep v u := fun b hv hu => h b hu hv
theorem Sep.ne {u v : Value} (h : Sep u v) : u.ownBlock = none ∨ u.ownBlock ≠ v.ownBlock := by
  cases hu : u.ownBlock with
  | none => exact Or.inl rfl
  | some b => exact Or.inr fun he => h b hu he.symm
theorem own_prefix {w : World} {B E SZ g c n m : Nat} {xs : List Value} (h : w.ownsRow B E SZ (.slice (some ⟨g, 0, none⟩) m c) m xs) (hn : n ≤ m) : w.ownsRow B E SZ (.slice (some ⟨g, 0, none⟩) n c) n (xs.take (n * SZ)) := by
  have hm := Nat.mul_le_mul_right SZ hn
  rcases h.2 with ⟨h', _⟩ | ⟨g', c', cur, h', h1, h2, h3, h4, h5, h6⟩
  · cases h'
  · cases h'
    refine ⟨?_, Or.inr ⟨g, c, cur, rfl, h1, h2, by omega, h4, h5, ?_⟩⟩
    · rw [List.length_take, h.1]; omega
    · rw [← h6, List.take_take]; congr 1; omega
theorem own_same {w : World} {B E SZ g c c2 n m : Nat} {xs ys : List Value} (h : w.ownsRow B E SZ (.slice (some ⟨g, 0, none⟩) m c) m xs) (h2 : w.ownsRow B E SZ (.slice (some ⟨g, 0, none⟩) n c2) n ys) (hz : 0 < SZ) : c = c2 := by
  rcases h.2 with ⟨h', _⟩ | ⟨_, _, cur, h', _, k2, _, _, k5, _⟩
  · cases h'
  · cases h'
    rcases h2.2 with ⟨h', _⟩ | ⟨_, _, cur', h', _, l2, _, _, l5, _⟩
    · cases h'
    · cases h'
      rw [k2] at l2
      simp only [Option.some.injEq, Obj.cells.injEq] at l2
      rw [l2.1, l5] at k5
      exact Nat.eq_of_mul_eq_mul_right hz k5.symm
/-- The marks of a row's first places. -/
def mks (mk : Nat → Nat → List Value) (k n : Nat) : List Value := (List.range n).flatMap (mk k)
theorem mks_succ (mk : Nat → Nat → List Value) (k n : Nat) : mks mk k (n + 1) = mks mk k n ++ mk k n := by
  unfold mks; rw [List.range_succ, List.flatMap_append]; simp
theorem mks_len {mk : Nat → Nat → List Value} {SZ : Nat} (h : ∀ k i, (mk k i).length = SZ) (k n : Nat) : (mks mk k n).length = n * SZ := by
  unfold mks; rw [flat_len (h k), List.length_range]
theorem mks_take {mk : Nat → Nat → List Value} {SZ : Nat} (h : ∀ k i, (mk k i).length = SZ) (k n d : Nat) : (mks mk k (n + d)).take (n * SZ) = mks mk k n := by
  induction d with
  | zero => rw [Nat.add_zero, List.take_of_length_le (by rw [mks_len h]; exact Nat.le_refl _)]
  | succ d ih => rw [← Nat.add_assoc, mks_succ, List.take_append_of_le_length (by rw [mks_len h]; exact Nat.mul_le_mul_right _ (by omega)), ih]
theorem mks_get {mk : Nat → Nat → List Value} {SZ : Nat} (h : ∀ k i, (mk k i).length = SZ) (k n i j : Nat) (hi : i < n) (hj : j < SZ) : (mks mk k n)[i * SZ + j]? = (mk k i)[j]? := by
  unfold mks
  exact flat_get (h k) (List.range n) i i (by simp [hi]) j hj
/-- While a row is grown one by one: what has been appended, and the row itself as it was. -/
def GrowAt (B E SZ : Nat) (mk : Nat → Nat → List Value) (k hs : Nat) (r : Value) (n q : Nat) (v : Value) (w : World) : Prop :=
  w.ownsRow B E SZ v (n + q) (mks mk k (n + q)) ∧ w.ownsRow B E SZ r n (mks mk k n) ∧ (v.ownBlock = r.ownBlock ∨ ∀ b, v.ownBlock = some b → hs ≤ b)
theorem grow_start {B E SZ : Nat} {mk : Nat → Nat → List Value} {k hs : Nat} {r : Value} {n : Nat} {w : World} (h : w.ownsRow B E SZ r n (mks mk k n)) : GrowAt B E SZ mk k hs r n 0 r w := ⟨h, h, Or.inl rfl⟩
theorem grow_alloc {B E SZ : Nat} {mk : Nat → Nat → List Value} {k hs : Nat} {r : Value} {n q : Nat} {v : Value} {w : World} (h : GrowAt B E SZ mk k hs r n q v w) (o : Obj) : GrowAt B E SZ mk k hs r n q v (w.alloc o) := ⟨h.1.alloc o, h.2.1.alloc o, h.2.2⟩
theorem grow_fits {B E SZ : Nat} {mk : Nat → Nat → List Value} (hmk : ∀ k i, (mk k i).length = SZ) (hz : 0 < SZ) {k hs : Nat} {r : Value} {n q g c : Nat} {w w' : World} (h : GrowAt B E SZ mk k hs r n q (.slice (some ⟨g, 0, none⟩) (n + q) c) w) (hr : ∀ b, r.ownBlock = some b → b < hs)
    (hown : w'.ownsRow B E SZ (.slice (some ⟨g, 0, none⟩) (n + q + 1) c) (n + q + 1) (mks mk k (n + q) ++ mk k (n + q))) (hg : w.grownBy w' (some g)) : GrowAt B E SZ mk k hs r n (q + 1) (.slice (some ⟨g, 0, none⟩) (n + q + 1) c) w' := by
  have hown' : w'.ownsRow B E SZ (.slice (some ⟨g, 0, none⟩) (n + q + 1) c) (n + q + 1) (mks mk k (n + q + 1)) := by rw [mks_succ]; exact hown
  refine ⟨hown', ?_, ?_⟩
  · rcases h.2.2 with hb | hb
    · have hb' : r.ownBlock = some g := hb.symm
      rcases Go.Joins.ownsRow_forms h.2.1 with ⟨hr0, _⟩ | ⟨g2, c2, hr2⟩
      · rw [hr0] at hb'; simp [Value.ownBlock] at hb'
      · rw [hr2] at hb'
        simp [Value.ownBlock] at hb'
        subst hb'
        have h2 := h.2.1
        rw [hr2] at h2 ⊢
        have hc := own_same h.1 h2 hz
        subst hc
        have h3 := own_prefix hown' (show n ≤ n + q + 1 by omega)
        rwa [show n + q + 1 = n + (q + 1) by omega, mks_take hmk] at h3
    · have hge := hb g rfl
      refine World.ownsRow.kept h.2.1 hg ?_
      cases hrb : r.ownBlock with
      | none => exact Or.inl rfl
      | some b => exact Or.inr fun he => by have := hr b hrb; cases he; omega
  · exact h.2.2
theorem grow_new {B E SZ : Nat} {mk : Nat → Nat → List Value} {k hs : Nat} {r : Value} {n q : Nat} {v v' : Value} {w w' : World} (h : GrowAt B E SZ mk k hs r n q v w) (hw : hs ≤ w.heap.size) (hB : B ≤ w.heap.size)
    (hown : w'.ownsRow w.heap.size E SZ v' (n + q + 1) (mks mk k (n + q) ++ mk k (n + q))) (hg : w.grownBy w' none) : GrowAt B E SZ mk k hs r n (q + 1) v' w' := by
  refine ⟨?_, World.ownsRow.kept h.2.1 hg (by cases r.ownBlock <;> simp), Or.inr fun b hb => ?_⟩
  · show w'.ownsRow B E SZ v' (n + (q + 1)) (mks mk k (n + (q + 1)))
    rw [← Nat.add_assoc, mks_succ]
    exact Go.Joins.ownsRow_le hown hB
  · have := (hown.lt b hb).1; omega
/-- Rows, by their numbers. -/
def RowsAt (B E SZ K : Nat) (R : Nat → Value) (n : Nat → Nat) (C : Nat → List Value) (w : World) : Prop := ∀ j, j < K → w.ownsRow B E SZ (R j) (n j) (C j)
def SepAll (K : Nat) (R : Nat → Value) : Prop := ∀ i j, i < K → j < K → i ≠ j → Sep (R i) (R j)
theorem RowsAt.kept {B E SZ K : Nat} {R : Nat → Value} {n : Nat → Nat} {C : Nat → List Value} {w w' : World} {row : Option Nat} (h : RowsAt B E SZ K R n C w) (hg : w.grownBy w' row) (hne : ∀ j, j < K → (R j).ownBlock = none ∨ (R j).ownBlock ≠ row) : RowsAt B E SZ K R n C w' := fun j hj => World.ownsRow.kept (h j hj) hg (hne j hj)
theorem RowsAt.upd {B E SZ K : Nat} {R : Nat → Value} {n : Nat → Nat} {C : Nat → List Value} {w w' : World} {k : Nat} {x : List Value} (h : RowsAt B E SZ K R n C w) (hs : SepAll K R) (hk : k < K) (hg : w.grownBy w' (R k).ownBlock) (hx : w'.ownsRow B E SZ (R k) (n k) x) : RowsAt B E SZ K R n (fun j => if j = k then x else C j) w' := by
  intro j hj
  by_cases e : j = k
  · subst e; simpa using hx
  · simp only [e, if_false]
    exact World.ownsRow.kept (h j hj) hg (hs j k hj hk e).ne
theorem RowsAt.congr {B E SZ K : Nat} {R : Nat → Value} {n : Nat → Nat} {C C' : Nat → List Value} {w : World} (h : RowsAt B E SZ K R n C w) (e : ∀ j, j < K → C j = C' j) : RowsAt B E SZ K R n C' w := fun j hj => e j hj ▸ h j hj
/-- A list by its places, one of them set. -/
theorem range_set {α : Type} (f : Nat → α) (K k : Nat) (u : α) : ((List.range K).map f).set k u = (List.range K).map fun j => if j = k then u else f j := by
  apply List.ext_getElem?
  intro i
  rw [List.getElem?_set, List.getElem?_map, List.getElem?_map]
  by_cases hi : i < K
  · rw [List.getElem?_range hi]
    by_cases e : k = i
    · subst e; simp [hi]
    · have e' : ¬ i = k := fun h => e h.symm
      simp [e, e']
  · rw [List.getElem?_eq_none (by simpa using hi)]
    simp
    omega
theorem range_get {α : Type} (f : Nat → α) (K k : Nat) (h : k < K) : ((List.range K).map f)[k]? = some (f k) := by
  rw [List.getElem?_map, List.getElem?_range h]; rfl
/-- The blocks of rows. -/
def ofRows (K : Nat) (R : Nat → Value) : Nat → Prop := fun b => ∃ j, j < K ∧ (R j).ownBlock = some b
/-- Below B nothing is changed, and of what was there no block of another type than U, nor one that is not in S. -/
structure Kb (S : Nat → Prop) (B U : Nat) (w w' : World) : Prop where
  below : Below B w w'
  other : ∀ (b : Nat) (cs : Array Value) (e : TypeId) (fz : Nat × Nat), w.heap[b]? = some (Obj.cells cs e fz) → e ≠ U → w'.heap[b]? = some (Obj.cells cs e fz)
  apart : ∀ b, b < w.heap.size → ¬ S b → w'.heap[b]? = w.heap[b]?
theorem Kb.refl (S : Nat → Prop) (B U : Nat) (w : World) : Kb S B U w w := ⟨Below.refl _ _, fun _ _ _ _ h _ => h, fun _ _ _ => rfl⟩
theorem Kb.size {S : Nat → Prop} {B U : Nat} {w w' : World} (h : Kb S B U w w') : w.heap.size ≤ w'.heap.size := h.below.size
theorem Kb.drew {S : Nat → Prop} {B U : Nat} {w w' : World} (h : Kb S B U w w') : Kb S B U w w'.drew := ⟨h.below.drew, h.other, h.apart⟩
theorem Kb.alloc {S : Nat → Prop} {B U : Nat} {w w' : World} (h : Kb S B U w w') (hB : B ≤ w'.heap.size) (o : Obj) : Kb S B U w (w'.alloc o) :=
  ⟨h.below.alloc hB o, fun b cs e fz hb he => by
    have h1 := h.other b cs e fz hb he
    rw [(World.grownBy_alloc w' o none).block b (Array.getElem?_eq_some_iff.1 h1).1 (by simp)]
    exact h1, fun b hb hs => ((World.grownBy_alloc w' o none).block b (Nat.lt_of_lt_of_le hb h.size) (by simp)).trans (h.apart b hb hs)⟩
theorem Kb.grownRow {S : Nat → Prop} {B U B2 SZ m n c g : Nat} {xs : List Value} {w w' w'' : World} (h : Kb S B U w w') (hg : w'.grownBy w'' (some g)) (hB : B ≤ w'.heap.size) (hown : w'.ownsRow B2 U SZ (.slice (some ⟨g, 0, none⟩) m c) n xs) (hB2 : B ≤ g) (hS : S g ∨ w.heap.size ≤ g) : Kb S B U w w'' :=
  ⟨h.below.grown hg hB (fun k hk => by cases hk; exact hB2), fun b cs e fz hb he => by
    have h1 := h.other b cs e fz hb he
    have hlt := (Array.getElem?_eq_some_iff.1 h1).1
    rw [hg.block b hlt ?_]
    · exact h1
    · intro hbg
      cases hbg
      rcases hown.2 with ⟨h', _⟩ | ⟨g', c', cur, h', _, h2, _⟩
      · cases h'
      · cases h'
        rw [h2] at h1
        simp only [Option.some.injEq, Obj.cells.injEq] at h1
        exact he h1.2.1.symm, fun b hb hs => (hg.block b (Nat.lt_of_lt_of_le hb h.size) (by intro e; cases e; rcases hS with h2 | h2; exact hs h2; omega)).trans (h.apart b hb hs)⟩
theorem Kb.grownNone {S : Nat → Prop} {B U : Nat} {w w' w'' : World} (h : Kb S B U w w') (hg : w'.grownBy w'' none) (hB : B ≤ w'.heap.size) : Kb S B U w w'' :=
  ⟨h.below.grown hg hB (fun k hk => by cases hk), fun b cs e fz hb he => by
    have h1 := h.other b cs e fz hb he
    rw [hg.block b (Array.getElem?_eq_some_iff.1 h1).1 (by simp)]
    exact h1, fun b hb hs => (hg.block b (Nat.lt_of_lt_of_le hb h.size) (by simp)).trans (h.apart b hb hs)⟩
theorem Kb.grownNew {S : Nat → Prop} {B U g : Nat} {w w' w'' : World} (h : Kb S B U w w') (hg : w'.grownBy w'' (some g)) (hB : B ≤ w'.heap.size) (hw : w.heap.size ≤ g) (hB2 : B ≤ g) : Kb S B U w w'' :=
  ⟨h.below.grown hg hB (fun k hk => by cases hk; exact hB2), fun b cs e fz hb he => by
    have h1 := h.other b cs e fz hb he
    have hlt := (Array.getElem?_eq_some_iff.1 hb).1
    rw [hg.block b (Array.getElem?_eq_some_iff.1 h1).1 (by intro hbg; cases hbg; omega)]
    exact h1, fun b hb hs => (hg.block b (Nat.lt_of_lt_of_le hb h.size) (by intro e; cases e; omega)).trans (h.apart b hb hs)⟩
theorem Kb.trans_below {S : Nat → Prop} {B U : Nat} {w w' w'' : World} (h : Kb S B U w w') (hb : Below w'.heap.size w' w'') (hB : B ≤ w'.heap.size) : Kb S B U w w'' :=
  ⟨h.below.trans (hb.mono hB), fun b cs e fz hb1 he => by
    have h1 := h.other b cs e fz hb1 he
    rw [hb.block b (Array.getElem?_eq_some_iff.1 h1).1]
    exact h1, fun b hb1 hs => (hb.block b (Nat.lt_of_lt_of_le hb1 h.size)).trans (h.apart b hb1 hs)⟩
end Go.Proofs.YtiggpcmikhojmaaGreatDoor
