/- How much a thing is: the law's helper great, walked. Conditions: the thing lies in memory as it is read. -/
import Derived.Test.YtnfldkebjeigiaaDoorBackL
namespace Go.Proofs.YtnfldkebjeigiaaDoor
open Go.RowKit
set_option maxRecDepth 20000

def thVal (t : Th) : Value := .agg #[.int .i64 t.number, .string t.text, .int .u8 t.value.kind, .int .i64 t.value.num, .string t.value.text, .slice t.vo t.values.length t.vcap, .int .i64 t.fact.id, .int .i64 t.fact.ty, .slice t.fact.ao t.fact.args.length t.fact.cap, .int .u8 t.command.kind, .string t.command.text, .slice t.command.ao t.command.args.length t.command.cap, .int .i64 t.command.num, .int .i64 t.reply.err, .int .i64 t.reply.num, .slice t.reply.fo t.reply.facts.length t.reply.fcap, .slice t.reply.so t.reply.said.length t.reply.scap, .int .i64 t.entry.term, .int .u8 t.entry.kind, .int .i64 t.entry.session, .int .i64 t.entry.seq, .int .u8 t.entry.ck, .string t.entry.text, .slice t.entry.aao t.entry.args.length t.entry.acap, .int .i64 t.entry.num, .slice t.entry.vao t.entry.vs.length t.entry.vcap]
def thObj (t : Th) : Obj := .cells #[.int .i64 t.number, .string t.text, .int .u8 t.value.kind, .int .i64 t.value.num, .string t.value.text, .slice t.vo t.values.length t.vcap, .int .i64 t.fact.id, .int .i64 t.fact.ty, .slice t.fact.ao t.fact.args.length t.fact.cap, .int .u8 t.command.kind, .string t.command.text, .slice t.command.ao t.command.args.length t.command.cap, .int .i64 t.command.num, .int .i64 t.reply.err, .int .i64 t.reply.num, .slice t.reply.fo t.reply.facts.length t.reply.fcap, .slice t.reply.so t.reply.said.length t.reply.scap, .int .i64 t.entry.term, .int .u8 t.entry.kind, .int .i64 t.entry.session, .int .i64 t.entry.seq, .int .u8 t.entry.ck, .string t.entry.text, .slice t.entry.aao t.entry.args.length t.entry.acap, .int .i64 t.entry.num, .slice t.entry.vao t.entry.vs.length t.entry.vcap] 40 (0, 0)
theorem VasWf.small {ao : Option Addr} {xs : List Va} {cap : Nat} (h : VasWf ao xs cap) : xs.length ≤ 4398046511104 ∧ ∀ v ∈ xs, v.text.size ≤ 140737488351232 := by
  have := h.len
  exact ⟨by omega, fun v hv => (h.all v hv).2.2⟩
theorem VasWf.cost {ao : Option Addr} {xs : List Va} {cap : Nat} (h : VasWf ao xs cap) : 0 ≤ valuesN xs ∧ valuesN xs ≤ 7036874420000 := ⟨valuesN_nn xs, valuesN_le xs h.small.1 h.small.2⟩
theorem lvalues_wf {ao : Option Addr} {cap : Nat} {xs : List Va} {w : World} {B : Nat} (hw : VasWf ao xs cap) (hx : ValsIn w B ao xs) (hB : B ≤ w.heap.size) (N : Int) (hN : valuesN xs = N) :
    Calls Tryd.prog 35 #[.slice ao xs.length cap] w fun e w' => e = .returned (.int .i64 N) ∧ Below w.heap.size w w' := hN ▸ lvalues_any ao _ cap xs w B rfl hx hB hw.small.2 hw.small.1
theorem EnWf.vargs {e : En} (h : EnWf e) : VasWf e.aao e.args e.acap := ⟨h.args, h.argn, h.anil, h.acap⟩
theorem RpWf.small {r : Rp} (h : RpWf r) : r.facts.length ≤ 3518437208781 := by have := h.flen; omega
set_option maxHeartbeats 2000000 in
theorem great_any (t : Th) (w : World) (hx : ThIn w w.heap.size t) (hw : ThWf t) :
    Calls Tryd.prog 5 #[thVal t] w fun e w' => e = .returned (.bool (decide (2000 < greatN t))) ∧ Below w.heap.size w w' := by
  have hb0 := (Below.refl w.heap.size w).alloc (Nat.le_refl _) (thObj t)
  have hk := heap_alloc_new w (thObj t)
  have hs0 : (w.alloc (thObj t)).heap.size = w.heap.size + 1 := by simp
  have HB0 := Lib.hid hb0
  have HK := Lib.hid hk
  have HS0 := Lib.hid hs0
  have HX := Lib.hid hx
  have HW := Lib.hid hw
  clear hb0 hk hs0 hx hw
  unfold thVal
  go_enter Tryd.func5, Tryd.ntmps5
  go_wp2_with fail
  have hb0 := HB0.out
  have hk := HK.out
  have hs0 := HS0.out
  clear HB0 HK HS0
  unfold thObj at hb0 hk hs0
  generalize w.alloc (.cells #[.int .i64 t.number, .string t.text, .int .u8 t.value.kind, .int .i64 t.value.num, .string t.value.text, .slice t.vo t.values.length t.vcap, .int .i64 t.fact.id, .int .i64 t.fact.ty, .slice t.fact.ao t.fact.args.length t.fact.cap, .int .u8 t.command.kind, .string t.command.text, .slice t.command.ao t.command.args.length t.command.cap, .int .i64 t.command.num, .int .i64 t.reply.err, .int .i64 t.reply.num, .slice t.reply.fo t.reply.facts.length t.reply.fcap, .slice t.reply.so t.reply.said.length t.reply.scap, .int .i64 t.entry.term, .int .u8 t.entry.kind, .int .i64 t.entry.session, .int .i64 t.entry.seq, .int .u8 t.entry.ck, .string t.entry.text, .slice t.entry.aao t.entry.args.length t.entry.acap, .int .i64 t.entry.num, .slice t.entry.vao t.entry.vs.length t.entry.vcap] 40) = w0 at hb0 hk hs0 ⊢
  have hc : ∀ (x' : Calm (w.heap.size + 1) w0) (i : Nat) (v : Value), (#[.int .i64 t.number, .string t.text, .int .u8 t.value.kind, .int .i64 t.value.num, .string t.value.text, .slice t.vo t.values.length t.vcap, .int .i64 t.fact.id, .int .i64 t.fact.ty, .slice t.fact.ao t.fact.args.length t.fact.cap, .int .u8 t.command.kind, .string t.command.text, .slice t.command.ao t.command.args.length t.command.cap, .int .i64 t.command.num, .int .i64 t.reply.err, .int .i64 t.reply.num, .slice t.reply.fo t.reply.facts.length t.reply.fcap, .slice t.reply.so t.reply.said.length t.reply.scap, .int .i64 t.entry.term, .int .u8 t.entry.kind, .int .i64 t.entry.session, .int .i64 t.entry.seq, .int .u8 t.entry.ck, .string t.entry.text, .slice t.entry.aao t.entry.args.length t.entry.acap, .int .i64 t.entry.num, .slice t.entry.vao t.entry.vs.length t.entry.vcap] : Array Value)[i]? = some v → x'.1.cell? ⟨w.heap.size, i, none⟩ = some v := fun x' i v h =>
    (Go.Joins.cell_of_block ((x'.2.block _ (show w.heap.size < w.heap.size + 1 by omega)).trans hk) i).trans h
  have hX : ∀ x' : Calm (w.heap.size + 1) w0, ThIn x'.1 w.heap.size t := fun x' => by
    have hh := hb0.trans (x'.2.mono (Nat.le_succ _))
    exact ⟨HX.out.values.below noSub_kept hh (Nat.le_refl _), HX.out.fact.below noSub_kept hh (Nat.le_refl _), HX.out.command.below noSub_kept hh (Nat.le_refl _), rpSub_kept _ _ _ _ _ HX.out.reply hh (Nat.le_refl _), enSub_kept _ _ _ _ _ HX.out.entry hh (Nat.le_refl _)⟩
  have hBw : ∀ x' : Calm (w.heap.size + 1) w0, w.heap.size ≤ x'.1.heap.size := fun x' => by have := x'.2.size; omega
  obtain ⟨N0, hN0⟩ : ∃ N, costV t.value = N := ⟨_, rfl⟩
  obtain ⟨N1, hN1⟩ : ∃ N, valuesN t.values = N := ⟨_, rfl⟩
  obtain ⟨N2, hN2⟩ : ∃ N, valuesN t.fact.args = N := ⟨_, rfl⟩
  obtain ⟨N3, hN3⟩ : ∃ N, valuesN t.command.args = N := ⟨_, rfl⟩
  obtain ⟨N4, hN4⟩ : ∃ N, valuesN t.reply.said = N := ⟨_, rfl⟩
  obtain ⟨N5, hN5⟩ : ∃ N, valuesN t.entry.args = N := ⟨_, rfl⟩
  have b0 : 1 ≤ N0 ∧ N0 ≤ 7036874417563 := by have : t.value.text.size ≤ 140737488351232 := HW.out.value.2.2; rw [← hN0]; exact ⟨costV_pos _, by unfold costV; omega⟩
  have b1 := hN1 ▸ HW.out.values.cost
  have b2 := hN2 ▸ HW.out.fact.args.cost
  have b3 := hN3 ▸ HW.out.command.args.cost
  have b4 := hN4 ▸ HW.out.reply.said.cost
  have b5 := hN5 ▸ HW.out.entry.vargs.cost
  have C0 := Lib.hid fun x' : Calm (w.heap.size + 1) w0 => (hN0 ▸ lvalue_any t.value.kind t.value.num t.value.text x'.1 HW.out.value.2.2 : Calls Tryd.prog 34 #[.agg #[.int .u8 t.value.kind, .int .i64 t.value.num, .string t.value.text]] x'.1 fun e w' => e = .returned (.int .i64 N0) ∧ Below x'.1.heap.size x'.1 w')
  have C1 := Lib.hid fun x' : Calm (w.heap.size + 1) w0 => lvalues_wf HW.out.values (hX x').values (hBw x') N1 hN1
  have C2 := Lib.hid fun x' : Calm (w.heap.size + 1) w0 => lvalues_wf HW.out.fact.args (hX x').fact (hBw x') N2 hN2
  have C3 := Lib.hid fun x' : Calm (w.heap.size + 1) w0 => lvalues_wf HW.out.command.args (hX x').command (hBw x') N3 hN3
  have C4 := Lib.hid fun x' : Calm (w.heap.size + 1) w0 => lvalues_wf HW.out.reply.said (hX x').reply.2 (hBw x') N4 hN4
  have C5 := Lib.hid fun x' : Calm (w.heap.size + 1) w0 => lvalues_wf HW.out.entry.vargs (hX x').entry.1 (hBw x') N5 hN5
  have l1 := HW.out.text
  have l2 := HW.out.command.text
  have l3 := HW.out.entry.text
  have l4 := HW.out.reply.small
  have l5 : t.entry.vs.length ≤ 17592186043904 := by have := HW.out.entry.vn; omega
  obtain ⟨G0, hG0⟩ : ∃ G, great0 t = G := ⟨_, rfl⟩
  have hg0 : great0 t = (t.text.size : Int) / 20 + N0 + N1 + N2 + (t.command.text.size : Int) / 20 + N3 + N4 := by rw [great0, hN0, hN1, hN2, hN3, hN4]
  have hg1 : great1 t = great0 t + (t.entry.text.size : Int) / 20 + N5 + t.entry.vs.length + t.reply.facts.length := by rw [great1, hN5]
  have HG0 := Lib.hid hg0
  have HG1 := Lib.hid hg1
  have HC := Lib.hid hc
  have HXX := Lib.hid hX
  clear hN0 hN1 hN2 hN3 hN4 hN5 hg0 hg1 hG0 G0
  have d1 := fun x' => hc x' 1 _ rfl
  have d2 := fun x' => hc x' 2 _ rfl
  have d3 := fun x' => hc x' 3 _ rfl
  have d4 := fun x' => hc x' 4 _ rfl
  have d5 := fun x' => hc x' 5 _ rfl
  have d8 := fun x' => hc x' 8 _ rfl
  have d10 := fun x' => hc x' 10 _ rfl
  have d11 := fun x' => hc x' 11 _ rfl
  have d16 := fun x' => hc x' 16 _ rfl
  clear hc hX hBw
  have hsz : w.heap.size + 1 ≤ w0.heap.size := by omega
  refine wp_region_calm (B := w.heap.size + 1) (W0 := w0) (Below.refl _ _) (by kernel_rfl) (by kernel_rfl) ?_
  repeat (go_big_quiet_step (first | (go_at_call 34; exact Calm.call hsz (C0.out _)) | (go_at_call 35; first | (with_reducible exact Calm.call hsz (C1.out _)) | (with_reducible exact Calm.call hsz (C2.out _)) | (with_reducible exact Calm.call hsz (C3.out _)) | (with_reducible exact Calm.call hsz (C4.out _)))))
  refine wpQuiet_nil ?_
  intro w1 hb1
  clear d1 d2 d3 d4 d5 d8 d10 d11 d16 C0 C1 C2 C3 C4
  have g0b : 0 ≤ great0 t ∧ great0 t ≤ 100000000000000 := by rw [HG0.out]; omega
  rw [← HG0.out]
  obtain ⟨G0, hG0⟩ : ∃ G, great0 t = G := ⟨_, rfl⟩
  have hg1 := HG1.out
  rw [hG0] at g0b hg1 ⊢
  have HG1 := Lib.hid hg1
  clear hG0 HG0 hg1
  have d22 := fun x' => HC.out x' 22 _ rfl
  have d23 := fun x' => HC.out x' 23 _ rfl
  have d25 := fun x' => HC.out x' 25 _ rfl
  have d15 := fun x' => HC.out x' 15 _ rfl
  go_wp2_with fail
  refine wp_region_calm (B := w.heap.size + 1) (W0 := w0) hb1 (by kernel_rfl) (by kernel_rfl) ?_
  repeat (go_big_quiet_step ((go_at_call 35; exact Calm.call hsz (C5.out _))))
  refine wpQuiet_nil ?_
  intro w2 hb2
  clear d22 d23 d25 d15 C5 hb1
  have g1b : 0 ≤ great1 t ∧ great1 t ≤ 1000000000000000 := by rw [HG1.out]; omega
  rw [← HG1.out]
  have hfin : costsF (great1 t) t.reply.facts = greatN t := rfl
  obtain ⟨G1, hG1⟩ : ∃ G, great1 t = G := ⟨_, rfl⟩
  rw [hG1] at g1b hfin ⊢
  obtain ⟨G, hG⟩ : ∃ G, greatN t = G := ⟨_, rfl⟩
  rw [hG] at hfin
  have HF := Lib.hid hfin
  have HGG := Lib.hid hG
  clear hG1 HG1 hfin hG b0 b1 b2 b3 b4 b5 l1 l2 l3 l5
  obtain ⟨n, hn⟩ : ∃ n, t.reply.facts.length = n := ⟨_, rfl⟩
  rw [hn] at l4
  have HN := Lib.hid hn
  have hd15 : ∀ x' : Calm (w.heap.size + 1) w0, x'.1.cell? ⟨w.heap.size, 15, none⟩ = some (.slice t.reply.fo n t.reply.fcap) := fun x' => (HC.out x' 15 _ rfl).trans (by rw [← hn]; rfl)
  have HD15 := Lib.hid hd15
  clear hn hd15 HC
  go_wp2_with fail
  go_loopw [3, 4] (fun m i wr => ∃ (k : Nat) (c : Int), k ≤ n ∧ i = .int .i64 k ∧ m = .int .i64 c ∧ 0 ≤ c ∧ c ≤ 1000000000000000 ∧ costsF c (t.reply.facts.drop k) = G ∧ Below (w.heap.size + 1) w0 wr) (fun _ i _ => n - (intOf i).toNat)
  case atStart => exact ⟨0, G1, by omega, rfl, rfl, g1b.1, g1b.2, HF.out, hb2⟩
  case round =>
    clear HF hb2
    obtain ⟨k, c, hk, rfl, rfl, hc0, hc1, hcs, hbel⟩ := hrel
    have HCS := Lib.hid hcs
    clear hcs
    have c15 : wr.cell? ⟨w.heap.size, 15, none⟩ = some (.slice t.reply.fo n t.reply.fcap) := HD15.out ⟨wr, hbel⟩
    by_cases hlt : k < n
    · have i1 : (k : Int) < n := by omega
      by_cases hc2 : c ≤ 2000
      · have hkx : t.reply.facts[k]? = some (t.reply.facts[k]'(by rw [HN.out]; exact hlt)) := List.getElem?_eq_getElem _
        have hdr : t.reply.facts.drop k = (t.reply.facts[k]'(by rw [HN.out]; exact hlt)) :: t.reply.facts.drop (k + 1) := List.drop_eq_getElem_cons _
        have hfw := HW.out.reply.facts _ (List.getElem_mem (l := t.reply.facts) (n := k) (by rw [HN.out]; exact hlt))
        obtain ⟨b, off, hao, hb, hc, hsub⟩ := (HXX.out ⟨wr, hbel⟩).reply.1.at hkx
        generalize t.reply.facts[k]'(by rw [HN.out]; exact hlt) = x at hc hkx hdr hfw hsub
        have hbw : w.heap.size ≤ wr.heap.size := by have := hbel.size; omega
        obtain ⟨q, hq⟩ : ∃ q, valuesN x.args = q := ⟨_, rfl⟩
        have hqb := hq ▸ hfw.args.cost
        have hcall := lvalues_wf hfw.args hsub hbw q hq
        have hnew : costsF (c + q) (t.reply.facts.drop (k + 1)) = G := by
          have := HCS.out
          rw [hdr] at this
          unfold costsF at this
          rwa [if_pos hc2, hq] at this
        obtain ⟨id, ty, ao, args, cap⟩ := x
        dsimp only at hcall
        obtain ⟨an, han⟩ : ∃ an, args.length = an := ⟨_, rfl⟩
        rw [han] at hcall
        have HCALL := Lib.hid hcall
        have HNEW := Lib.hid hnew
        have c2 : wr.cell? ⟨b, off + k * 3 + 2, none⟩ = some (.slice ao an cap) := han ▸ hc 2 (by decide)
        have w1 : IntKind.i64.wrap (c + q) = c + q := IntWalk.i64_in _ (by omega)
        have i2 : decide (c ≤ 2000) = true := by simpa using hc2
        have HAO := Lib.hid hao
        have hao' : t.reply.fo = some ⟨b, off, none⟩ := hao
        rw [hao] at c15
        clear hc hkx hdr hcall hnew hfw hsub hq han hao hao'
        go_wp2_with fail
        refine HCALL.out.mono ?_
        rintro e w2 ⟨rfl, hb2⟩
        have hb3 := hbel.trans (hb2.mono (Nat.le_trans hsz hbel.size))
        clear c2 hb2 c15
        go_wp2_with fail
        go_roundw
        case rel => exact ⟨k + 1, c + q, by omega, by go_num, by first | rfl | go_num, by omega, by omega, HNEW.out, hb3⟩
        case measure => simp [intOf]; omega
      · have hfin : G = c := by rw [← HCS.out]; exact costsF_big _ _ (by omega)
        have i2 : decide (c ≤ 2000) = false := by simpa using hc2
        have i3 : 2000 < c := by omega
        have HF := Lib.hid hfin
        clear hfin
        have hb4 := hb0.trans (hbel.mono (Nat.le_succ _))
        go_wp2_with fail
        go_ret
        exact ⟨by (rw [HGG.out, HF.out]); first | done | (simp; omega) | rfl, hb4⟩
    · obtain rfl : k = n := by omega
      have hfin : G = c := by
        rw [← HCS.out, List.drop_eq_nil_of_le (by rw [HN.out]; exact Nat.le_refl _)]
        rfl
      have HF := Lib.hid hfin
      clear hfin
      have hb4 := hb0.trans (hbel.mono (Nat.le_succ _))
      go_wp2_with fail
      go_ret
      exact ⟨by (rw [HGG.out, HF.out]); first | done | rfl | simp, hb4⟩
end Go.Proofs.YtnfldkebjeigiaaDoor
