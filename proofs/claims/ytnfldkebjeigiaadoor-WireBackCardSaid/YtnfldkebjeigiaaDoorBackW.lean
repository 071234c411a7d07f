/- The law WireBack, walked. Conditions: the thing lies in memory as it is read. -/
import Derived.Test.YtnfldkebjeigiaaDoorBackM
import Derived.Test.YtnfldkebjeigiaaDoorAwake02
import Derived.Test.YtnfldkebjeigiaaDoorHeldS
import Derived.Test.YtnfldkebjeigiaaDoorRdEntry
import Derived.Test.YtnfldkebjeigiaaDoorRdReply
import Derived.Test.YtnfldkebjeigiaaDoorRdCommand
namespace Go.Proofs.YtnfldkebjeigiaaDoor
open Go.RowKit
set_option maxRecDepth 20000

theorem wentry_w (e : En) (w : World) (L : List Int) (hL : entryB e.plain = L) (hx : enSub w w.heap.size e) (hw : EnWf e) (h1 : e.text.size ≤ 60000) (h2 : SmallV e.args) (h3 : e.vs.length ≤ 2000) :
    Calls Tryd.prog 10 #[.agg #[.int .i64 e.term, .int .u8 e.kind, .int .i64 e.session, .int .i64 e.seq, .int .u8 e.ck, .string e.text, .slice e.aao e.args.length e.acap, .int .i64 e.num, .slice e.vao e.vs.length e.vcap]] w (BytesNew L w.heap.size w) :=
  hL ▸ wentry_any e.term e.kind e.session e.seq e.ck e.text e.aao _ e.acap e.args e.num e.vao _ e.vcap e.vs w rfl rfl hx.1 hx.2 (fun v hv => by have := h2.2.1 v hv; omega) (by have := h2.1; omega) (by omega) (by have := h2.2.2; omega)
theorem wreply_w (r : Rp) (w : World) (L : List Int) (hL : replyB r.plain = L) (hx : rpSub w w.heap.size r) (h1 : r.facts.length ≤ 2000) (h2 : ∀ f ∈ r.facts, SmallV f.args) (h3 : SmallV r.said) :
    Calls Tryd.prog 13 #[.agg #[.int .i64 r.err, .int .i64 r.num, .slice r.fo r.facts.length r.fcap, .slice r.so r.said.length r.scap]] w (BytesNew L w.heap.size w) := by
  subst hL
  rw [replyB_rp]
  have h4 := factsB_small (r.facts.map Fa.plain) (fun f hf => by obtain ⟨g, hg, rfl⟩ := List.mem_map.1 hf; exact h2 g hg)
  rw [List.length_map, List.flatMap_map] at h4
  exact wreply_any r.err r.num r.fo _ r.fcap r.facts r.so _ r.scap r.said w rfl rfl hx.1 hx.2 (fun f hf => ⟨by have := (h2 f hf).1; omega, fun v hv => by have := (h2 f hf).2.1 v hv; omega⟩) (fun v hv => by have := h3.2.1 v hv; omega) (by omega) (by have := h3.1; omega) _ rfl (by have := h3.2.2; omega)
theorem wtext_w (s : ByteArray) (w : World) (L : List Int) (hL : textB s = L) (h : s.size ≤ 60000) : Calls Tryd.prog 12 #[.string s] w (BytesNew L w.heap.size w) := hL ▸ wtext_any s w (by omega)
theorem wvalues_w (ao : Option Addr) (cap : Nat) (xs : List Va) (w : World) (L : List Int) (hL : valuesB xs = L) (hx : ValsIn w w.heap.size ao xs) (h : SmallV xs) : Calls Tryd.prog 15 #[.slice ao xs.length cap] w (BytesNew L w.heap.size w) :=
  hL ▸ wvalues_any ao _ cap xs w rfl hx (fun v hv => by have := h.2.1 v hv; omega) (by have := h.2.2; omega) (by have := h.1; omega)
theorem wfact_w (f : Fa) (w : World) (L : List Int) (hL : factB f.plain = L) (hx : faSub w w.heap.size f) (h : SmallV f.args) : Calls Tryd.prog 16 #[.agg #[.int .i64 f.id, .int .i64 f.ty, .slice f.ao f.args.length f.cap]] w (BytesNew L w.heap.size w) :=
  hL ▸ wfact_any f.id f.ty f.ao _ f.cap f.args w rfl hx (fun v hv => by have := h.2.1 v hv; omega) (by have := h.1; omega) (by have := h.2.2; omega)
theorem wcommand_w (c : Cm) (w : World) (L : List Int) (hL : commandB c.kind c.text c.num c.args = L) (hx : ValsIn w w.heap.size c.ao c.args) (h0 : c.text.size ≤ 60000) (h : SmallV c.args) : Calls Tryd.prog 17 #[.agg #[.int .u8 c.kind, .string c.text, .slice c.ao c.args.length c.cap, .int .i64 c.num]] w (BytesNew L w.heap.size w) :=
  hL ▸ wcommand_any c.kind c.text c.ao _ c.cap c.num c.args w rfl hx (fun v hv => by have := h.2.1 v hv; omega) (by have := h.1; omega) (by have := h.2.2; omega)
theorem lall_wf {ao : Option Addr} {cap : Nat} {xs : List Va} {w : World} {B : Nat} (hw : VasWf ao xs cap) (hx : ValsIn w B ao xs) (hB : B ≤ w.heap.size) (g : Bool) (hg : xs.all bareB = g) :
    Calls Tryd.prog 7 #[.slice ao xs.length cap] w fun e w' => e = .returned (.bool g) ∧ Below w.heap.size w w' := lall_any ao _ cap xs w B rfl hx hB hw.small.1 g hg
theorem great_arr (t : Th) (A : Array Value) (hA : thArr t = A) (w : World) (hx : ThIn w w.heap.size t) (hw : ThWf t) (g : Bool) (hg : decide (2000 < greatN t) = g) :
    Calls Tryd.prog 5 #[.agg A] w fun e w' => e = .returned (.bool g) ∧ Below w.heap.size w w' := by
  subst hA hg
  exact great_any t w hx hw
theorem same_val_eq (t : TypeId) (h : t = 24) (a b : Int) (s : ByteArray) (w : World) : (binOp .eql t (.agg #[.int .u8 a, .int .i64 b, .string s]) (.agg #[.int .u8 a, .int .i64 b, .string s])).run Tryd.prog w = .ok (.bool true) w := by
  subst h
  simp [go_sem, Tryd.underlying24]
theorem wrap_succ {n : Int} (h : N64 n) : n ≠ wrap64 (n + 1) := by
  have h1 := h.1
  have h2 := h.2
  unfold wrap64
  omega
theorem sameE_no (x : En) (tm : Int) (w : World) (h : x.term ≠ tm) :
    Calls Tryd.prog 28 #[.agg #[.int .i64 x.term, .int .u8 x.kind, .int .i64 x.session, .int .i64 x.seq, .int .u8 x.ck, .string x.text, .slice x.aao x.args.length x.acap, .int .i64 x.num, .slice x.vao x.vs.length x.vcap], .agg #[.int .i64 tm, .int .u8 0, .int .i64 0, .int .i64 0, .int .u8 0, .string ⟨#[]⟩, .slice none 0 0, .int .i64 0, .slice none 0 0]] w fun e w' => e = .returned (.bool false) ∧ Below w.heap.size w w' := by
  have hb := ((Below.refl w.heap.size w).alloc (Nat.le_refl _) (.cells #[.int .i64 x.term, .int .u8 x.kind, .int .i64 x.session, .int .i64 x.seq, .int .u8 x.ck, .string x.text, .slice x.aao x.args.length x.acap, .int .i64 x.num, .slice x.vao x.vs.length x.vcap] 38)).alloc (by simp) (.cells #[.int .i64 tm, .int .u8 0, .int .i64 0, .int .i64 0, .int .u8 0, .string ⟨#[]⟩, .slice none 0 0, .int .i64 0, .slice none 0 0] 38)
  have HB := Lib.hid hb
  have hd : decide (x.term = tm) = false := by simpa using h
  clear hb
  go_enter Tryd.func28, Tryd.ntmps28
  go_wp2_with fail
  go_ret
  exact ⟨rfl, HB.out⟩
set_option maxHeartbeats 20000000 in
theorem walk_back (W : World) (t : Th) (A : Array Value) (hA : thArr t = A) (hx : ThIn W W.heap.size t) (hw : ThWf t) :
    Calls Tryd.prog 3 #[.agg A] W fun e w' => e = .returned (.bool true) ∧ Below W.heap.size W w' := by
  have hb0 := (Below.refl W.heap.size W).alloc (Nat.le_refl _) (.cells A 40)
  have hk := heap_alloc_new W (.cells A 40)
  have hs0 : (W.alloc (.cells A 40)).heap.size = W.heap.size + 1 := by simp
  have hlen : A.toList.length = 26 := hA ▸ thArr_size t
  have hinfo : (Tryd.prog.info? 40).map (·.size) = some A.toList.length := hlen ▸ info_th
  have HINFO := Lib.hid hinfo
  have HB0 := Lib.hid hb0
  have HK := Lib.hid hk
  have HS0 := Lib.hid hs0
  have HX := Lib.hid hx
  have HW := Lib.hid hw
  have HA := Lib.hid hA
  clear hb0 hk hs0 hx hw hA hlen hinfo
  go_enter Tryd.func3, Tryd.ntmps3
  go_wp2_with fail
  have hb0 := HB0.out
  have hk := HK.out
  have hs0 := HS0.out
  clear HB0 HK HS0
  generalize (W.alloc (.cells A 40)) = w0 at hb0 hk hs0 ⊢
  have hk2 : w0.heap[W.heap.size]? = some (thObj t) := by rw [← thObj_arr, HA.out]; exact hk
  have HTC := Lib.hid (fun w' (h : Below (W.heap.size + 1) w0 w') => (th_cells hk2 h : ThCells t W.heap.size w'))
  have HTR := Lib.hid (fun w' (h : Below (W.heap.size + 1) w0 w') => th_ranges (th_cells hk2 h))
  have HTA := Lib.hid (fun w' (h : Below (W.heap.size + 1) w0 w') => (range_block ((h.block W.heap.size (Nat.lt_succ_self _)).trans hk) : w'.rangeAt W.heap.size 0 A.toList))
  have HTI := Lib.hid (fun w' (h : Below (W.heap.size + 1) w0 w') => (HX.out.below (hb0.trans (h.mono (Nat.le_succ _))) : ThIn w' W.heap.size t))
  have HSZ := Lib.hid (fun w' (h : Below (W.heap.size + 1) w0 w') => (show W.heap.size + 1 ≤ w'.heap.size from hs0 ▸ h.size))
  have HEND := Lib.hid (fun w' (h : Below (W.heap.size + 1) w0 w') => hb0.trans (h.mono (Nat.le_succ _)))
  have HS0 := Lib.hid (show W.heap.size + 1 ≤ w0.heap.size from hs0 ▸ Nat.le_refl _)
  clear hb0 hk hs0 hk2 HX
  refine (awake02_any w0).mono ?_
  rintro e w1 ⟨rfl, hb⟩
  have b1 := hb.mono HS0.out
  clear hb
  obtain ⟨g0, hg0⟩ : ∃ g, decide (2000 < greatN t) = g := ⟨_, rfl⟩
  go_wp2_with (refine wpList_load_mid rfl 40 (.tmp 1) rfl W.heap.size 0 rfl A.toList _ (HTA.out w1 b1) Tryd.underlying40 rfl HINFO.out ?_)
  refine (great_arr t A HA.out w1 ((HTI.out w1 b1).mono (Nat.le_of_lt (HSZ.out w1 b1))) HW.out g0 hg0).mono ?_
  rintro e w2 ⟨rfl, hb⟩
  have b2 := b1.trans (hb.mono (HSZ.out w1 b1))
  clear hb
  have HG0 := Lib.hid hg0
  clear hg0
  cases g0 with
  | true =>
    go_wp2_with fail
    go_ret
    exact ⟨rfl, HEND.out w2 b2⟩
  | false =>
  obtain ⟨d0, d1, d2, d3, d4, d5, d6, d7, d8, d9, d10, d11, d12, d13, d14, d15, d16, d17, d18, d19, d20, d21, d22, d23, d24, d25⟩ := HTC.out w2 b2
  obtain ⟨g1, hg1⟩ : ∃ g, bareB t.value = g := ⟨_, rfl⟩
  have hcall : Calls Tryd.prog 6 #[.agg #[.int .u8 t.value.kind, .int .i64 t.value.num, .string t.value.text]] w2 fun e w' => e = .returned (.bool g1) ∧ Below w2.heap.size w2 w' := hg1 ▸ lbare_any t.value.kind t.value.num t.value.text w2
  have HCALL := Lib.hid hcall
  have HG1 := Lib.hid hg1
  clear hcall hg1
  go_wp2_with fail
  refine HCALL.out.mono ?_
  rintro e w3 ⟨rfl, hb⟩
  have b3 := b2.trans (hb.mono (HSZ.out w2 b2))
  clear d0 d1 d2 d3 d4 d5 d6 d7 d8 d9 d10 d11 d12 d13 d14 d15 d16 d17 d18 d19 d20 d21 d22 d23 d24 d25 hb HCALL
  cases g1 with
  | false =>
    go_wp2_with fail
    go_ret
    exact ⟨rfl, HEND.out w3 b3⟩
  | true =>
  have d5 := (HTC.out w3 b3).d5
  obtain ⟨g2, hg2⟩ : ∃ g, t.values.all bareB = g := ⟨_, rfl⟩
  have HG2 := Lib.hid hg2
  clear hg2
  go_wp2_with fail
  refine (lall_wf HW.out.values (HTI.out w3 b3).values (Nat.le_of_lt (HSZ.out w3 b3)) g2 HG2.out).mono ?_
  rintro e w4 ⟨rfl, hb⟩
  have b4 := b3.trans (hb.mono (HSZ.out w3 b3))
  clear hb d5
  cases g2 with
  | false =>
    go_wp2_with fail
    go_ret
    exact ⟨rfl, HEND.out w4 b4⟩
  | true =>
  have d8 := (HTC.out w4 b4).d8
  obtain ⟨g3, hg3⟩ : ∃ g, t.fact.args.all bareB = g := ⟨_, rfl⟩
  have HG3 := Lib.hid hg3
  clear hg3
  go_wp2_with fail
  refine (lall_wf HW.out.fact.args (HTI.out w4 b4).fact (Nat.le_of_lt (HSZ.out w4 b4)) g3 HG3.out).mono ?_
  rintro e w5 ⟨rfl, hb⟩
  have b5 := b4.trans (hb.mono (HSZ.out w4 b4))
  clear hb d8
  cases g3 with
  | false =>
    go_wp2_with fail
    go_ret
    exact ⟨rfl, HEND.out w5 b5⟩
  | true =>
  have d11 := (HTC.out w5 b5).d11
  obtain ⟨g4, hg4⟩ : ∃ g, t.command.args.all bareB = g := ⟨_, rfl⟩
  have HG4 := Lib.hid hg4
  clear hg4
  go_wp2_with fail
  refine (lall_wf HW.out.command.args (HTI.out w5 b5).command (Nat.le_of_lt (HSZ.out w5 b5)) g4 HG4.out).mono ?_
  rintro e w6 ⟨rfl, hb⟩
  have b6 := b5.trans (hb.mono (HSZ.out w5 b5))
  clear hb d11
  cases g4 with
  | false =>
    go_wp2_with fail
    go_ret
    exact ⟨rfl, HEND.out w6 b6⟩
  | true =>
  have d16 := (HTC.out w6 b6).d16
  obtain ⟨g5, hg5⟩ : ∃ g, t.reply.said.all bareB = g := ⟨_, rfl⟩
  have HG5 := Lib.hid hg5
  clear hg5
  go_wp2_with fail
  refine (lall_wf HW.out.reply.said (HTI.out w6 b6).reply.2 (Nat.le_of_lt (HSZ.out w6 b6)) g5 HG5.out).mono ?_
  rintro e w7 ⟨rfl, hb⟩
  have b7 := b6.trans (hb.mono (HSZ.out w6 b6))
  clear hb d16
  cases g5 with
  | false =>
    go_wp2_with fail
    go_ret
    exact ⟨rfl, HEND.out w7 b7⟩
  | true =>
  have d23 := (HTC.out w7 b7).d23
  obtain ⟨g6, hg6⟩ : ∃ g, t.entry.args.all bareB = g := ⟨_, rfl⟩
  have HG6 := Lib.hid hg6
  clear hg6
  go_wp2_with fail
  refine (lall_wf HW.out.entry.vargs (HTI.out w7 b7).entry.1 (Nat.le_of_lt (HSZ.out w7 b7)) g6 HG6.out).mono ?_
  rintro e w8 ⟨rfl, hb⟩
  have b8 := b7.trans (hb.mono (HSZ.out w7 b7))
  clear hb d23
  cases g6 with
  | false =>
    go_wp2_with fail
    go_ret
    exact ⟨rfl, HEND.out w8 b8⟩
  | true =>
  have d15 := (HTC.out w8 b8).d15
  go_wp2_with fail
  go_loopw [3] (fun i wr => ∃ k : Nat, k ≤ t.reply.facts.length ∧ i = .int .i64 k ∧ ((t.reply.facts.take k).all fun f => f.args.all bareB) = true ∧ Below (W.heap.size + 1) w0 wr) (fun i _ => t.reply.facts.length - (intOf i).toNat)
  case atStart => exact ⟨0, Nat.zero_le _, rfl, rfl, b8⟩
  case round =>
    clear d15
    obtain ⟨k, hk, rfl, hall, hbel⟩ := hrel
    have HALL := Lib.hid hall
    have d15 := (HTC.out wr hbel).d15
    have l4 := HW.out.reply.small
    clear hall
    by_cases hlt : k < t.reply.facts.length
    · have i1 : (k : Int) < t.reply.facts.length := by omega
      have hkx : t.reply.facts[k]? = some t.reply.facts[k] := List.getElem?_eq_getElem _
      have htk : t.reply.facts.take (k + 1) = t.reply.facts.take k ++ [t.reply.facts[k]] := List.take_succ_eq_append_getElem _
      have hfw := HW.out.reply.facts _ (List.getElem_mem (l := t.reply.facts) (n := k) hlt)
      obtain ⟨b, off, hao, hb, hc, hsub⟩ := (HTI.out wr hbel).reply.1.at hkx
      generalize t.reply.facts[k] = x at hc hkx htk hfw hsub
      obtain ⟨g7, hg7⟩ : ∃ g, x.args.all bareB = g := ⟨_, rfl⟩
      have hcall := lall_wf hfw.args hsub (Nat.le_of_lt (HSZ.out wr hbel)) g7 hg7
      obtain ⟨id, ty, ao, args, cap⟩ := x
      dsimp only at hcall hg7
      obtain ⟨an, han⟩ : ∃ an, args.length = an := ⟨_, rfl⟩
      rw [han] at hcall
      have HCALL := Lib.hid hcall
      have HG7 := Lib.hid hg7
      have HT := Lib.hid htk
      have c2 : wr.cell? ⟨b, off + k * 3 + 2, none⟩ = some (.slice ao an cap) := han ▸ hc 2 (by decide)
      rw [hao] at d15
      obtain ⟨n, hn⟩ : ∃ n, t.reply.facts.length = n := ⟨_, rfl⟩
      rw [hn] at d15 i1 l4
      have HN := Lib.hid hn
      clear hc hkx hcall hfw hsub htk hg7 han hao hn
      go_wp2_with fail
      refine HCALL.out.mono ?_
      rintro e w2 ⟨rfl, hb2⟩
      have hb3 := hbel.trans (hb2.mono (HSZ.out wr hbel))
      clear c2 hb2 d15 HCALL
      cases g7 with
      | false =>
        go_wp2_with fail
        go_ret
        exact ⟨rfl, HEND.out w2 hb3⟩
      | true =>
        go_wp2_with fail
        go_roundw
        case rel => exact ⟨k + 1, by omega, by go_num, by rw [HT.out, List.all_append, HALL.out]; simp [HG7.out], hb3⟩
        case measure => have := HN.out; simp [intOf]; omega
    · have hke : k = t.reply.facts.length := by omega
      have i1 : ¬ (k : Int) < t.reply.facts.length := by omega
      have hall := HALL.out
      rw [hke, List.take_length] at hall
      have hne : ¬ 2000 < greatN t := by simpa using HG0.out
      obtain ⟨L1, L2, L3, L4, L5, L6, L7, L8, hB⟩ := back_of ⟨great_small t (Int.not_lt.1 hne), HW.out, HG1.out, HG2.out, HG3.out, HG4.out, HG5.out, HG6.out, hall⟩
      have HS := Lib.hid (great_small t (Int.not_lt.1 hne))
      have HBK := Lib.hid hB
      clear hall hne HALL HG0 HG1 HG2 HG3 HG4 HG5 HG6 hB
      go_wp2_with fail
      obtain ⟨WW, W1, W2, W3, W4, W5, W6, W7, hWW, hch⟩ := HBK.out.chain
      have HWW := Lib.hid hWW
      have HWL := Lib.hid hch.l0
      have HCH := Lib.hid hch
      clear hWW hch d15
      refine heldS_begin (fun w' => Below (W.heap.size + 1) w0 w') (by kernel_rfl) (hbel.drew) ?_
      intro hS0
      (first | (refine takeS_no 0 rfl (by kernel_rfl) (by kernel_rfl) (by kernel_rfl) (fun _ _ _ h => h) (by rfl) (by assumption) ?_) | (refine takeS_yes (v := ?_) 0 rfl (by kernel_rfl) (by kernel_rfl) (by kernel_rfl) (fun _ _ _ h => h) (by rfl) (by assumption) ?_ ?_; rotate_left; focus (intro wS hSw; obtain ⟨d0, d1, d2, d3, d4, d5, d6, d7, d8, d9, d10, d11, d12, d13, d14, d15, d16, d17, d18, d19, d20, d21, d22, d23, d24, d25⟩ := HTC.out wS hSw; go_simp; first | done | with_reducible rfl)))
      (try simp only [Act.put, List.setIfInBounds_toArray, List.set_cons_zero, List.set_cons_succ])
      (first | (refine takeS_no 1 rfl (by kernel_rfl) (by kernel_rfl) (by kernel_rfl) (fun _ _ _ h => h) (by rfl) (by assumption) ?_) | (refine takeS_yes (v := ?_) 1 rfl (by kernel_rfl) (by kernel_rfl) (by kernel_rfl) (fun _ _ _ h => h) (by rfl) (by assumption) ?_ ?_; rotate_left; focus (intro wS hSw; obtain ⟨d0, d1, d2, d3, d4, d5, d6, d7, d8, d9, d10, d11, d12, d13, d14, d15, d16, d17, d18, d19, d20, d21, d22, d23, d24, d25⟩ := HTC.out wS hSw; go_simp; first | done | with_reducible rfl)))
      (try simp only [Act.put, List.setIfInBounds_toArray, List.set_cons_zero, List.set_cons_succ])
      (first | (refine takeS_no 3 rfl (by kernel_rfl) (by kernel_rfl) (by kernel_rfl) (fun _ _ _ h => h) (by rfl) (by assumption) ?_) | (refine takeS_yes (v := ?_) 3 rfl (by kernel_rfl) (by kernel_rfl) (by kernel_rfl) (fun _ _ _ h => h) (by rfl) (by assumption) ?_ ?_; rotate_left; focus (intro wS hSw; obtain ⟨d0, d1, d2, d3, d4, d5, d6, d7, d8, d9, d10, d11, d12, d13, d14, d15, d16, d17, d18, d19, d20, d21, d22, d23, d24, d25⟩ := HTC.out wS hSw; go_simp; first | done | with_reducible rfl)))
      (try simp only [Act.put, List.setIfInBounds_toArray, List.set_cons_zero, List.set_cons_succ])
      (first | (refine takeS_no 4 rfl (by kernel_rfl) (by kernel_rfl) (by kernel_rfl) (fun _ _ _ h => h) (by rfl) (by assumption) ?_) | (refine takeS_yes (v := ?_) 4 rfl (by kernel_rfl) (by kernel_rfl) (by kernel_rfl) (fun _ _ _ h => h) (by rfl) (by assumption) ?_ ?_; rotate_left; focus (intro wS hSw; obtain ⟨d0, d1, d2, d3, d4, d5, d6, d7, d8, d9, d10, d11, d12, d13, d14, d15, d16, d17, d18, d19, d20, d21, d22, d23, d24, d25⟩ := HTC.out wS hSw; go_simp; first | done | with_reducible rfl)))
      (try simp only [Act.put, List.setIfInBounds_toArray, List.set_cons_zero, List.set_cons_succ])
      (first | (refine takeS_no 6 rfl (by kernel_rfl) (by kernel_rfl) (by kernel_rfl) (fun _ _ _ h => h) (by rfl) (by assumption) ?_) | (refine takeS_yes (v := ?_) 6 rfl (by kernel_rfl) (by kernel_rfl) (by kernel_rfl) (fun _ _ _ h => h) (by rfl) (by assumption) ?_ ?_; rotate_left; focus (intro wS hSw; obtain ⟨d0, d1, d2, d3, d4, d5, d6, d7, d8, d9, d10, d11, d12, d13, d14, d15, d16, d17, d18, d19, d20, d21, d22, d23, d24, d25⟩ := HTC.out wS hSw; go_simp; first | done | with_reducible rfl)))
      (try simp only [Act.put, List.setIfInBounds_toArray, List.set_cons_zero, List.set_cons_succ])
      (first | (refine takeS_no 7 rfl (by kernel_rfl) (by kernel_rfl) (by kernel_rfl) (fun _ _ _ h => h) (by rfl) (by assumption) ?_) | (refine takeS_yes (v := ?_) 7 rfl (by kernel_rfl) (by kernel_rfl) (by kernel_rfl) (fun _ _ _ h => h) (by rfl) (by assumption) ?_ ?_; rotate_left; focus (intro wS hSw; obtain ⟨d0, d1, d2, d3, d4, d5, d6, d7, d8, d9, d10, d11, d12, d13, d14, d15, d16, d17, d18, d19, d20, d21, d22, d23, d24, d25⟩ := HTC.out wS hSw; go_simp; first | done | with_reducible rfl)))
      (try simp only [Act.put, List.setIfInBounds_toArray, List.set_cons_zero, List.set_cons_succ])
      (first | (refine takeS_no 9 rfl (by kernel_rfl) (by kernel_rfl) (by kernel_rfl) (fun _ _ _ h => h) (by rfl) (by assumption) ?_) | (refine takeS_yes (v := ?_) 9 rfl (by kernel_rfl) (by kernel_rfl) (by kernel_rfl) (fun _ _ _ h => h) (by rfl) (by assumption) ?_ ?_; rotate_left; focus (intro wS hSw; obtain ⟨d0, d1, d2, d3, d4, d5, d6, d7, d8, d9, d10, d11, d12, d13, d14, d15, d16, d17, d18, d19, d20, d21, d22, d23, d24, d25⟩ := HTC.out wS hSw; go_simp; first | done | with_reducible rfl)))
      (try simp only [Act.put, List.setIfInBounds_toArray, List.set_cons_zero, List.set_cons_succ])
      (first | (refine takeS_no 10 rfl (by kernel_rfl) (by kernel_rfl) (by kernel_rfl) (fun _ _ _ h => h) (by rfl) (by assumption) ?_) | (refine takeS_yes (v := ?_) 10 rfl (by kernel_rfl) (by kernel_rfl) (by kernel_rfl) (fun _ _ _ h => h) (by rfl) (by assumption) ?_ ?_; rotate_left; focus (intro wS hSw; obtain ⟨d0, d1, d2, d3, d4, d5, d6, d7, d8, d9, d10, d11, d12, d13, d14, d15, d16, d17, d18, d19, d20, d21, d22, d23, d24, d25⟩ := HTC.out wS hSw; go_simp; first | done | with_reducible rfl)))
      (try simp only [Act.put, List.setIfInBounds_toArray, List.set_cons_zero, List.set_cons_succ])
      (first | (refine takeS_no 12 rfl (by kernel_rfl) (by kernel_rfl) (by kernel_rfl) (fun _ _ _ h => h) (by rfl) (by assumption) ?_) | (refine takeS_yes (v := ?_) 12 rfl (by kernel_rfl) (by kernel_rfl) (by kernel_rfl) (fun _ _ _ h => h) (by rfl) (by assumption) ?_ ?_; rotate_left; focus (intro wS hSw; obtain ⟨d0, d1, d2, d3, d4, d5, d6, d7, d8, d9, d10, d11, d12, d13, d14, d15, d16, d17, d18, d19, d20, d21, d22, d23, d24, d25⟩ := HTC.out wS hSw; go_simp; first | done | with_reducible rfl)))
      (try simp only [Act.put, List.setIfInBounds_toArray, List.set_cons_zero, List.set_cons_succ])
      (first | (refine takeS_no 13 rfl (by kernel_rfl) (by kernel_rfl) (by kernel_rfl) (fun _ _ _ h => h) (by rfl) (by assumption) ?_) | (refine takeS_yes (v := ?_) 13 rfl (by kernel_rfl) (by kernel_rfl) (by kernel_rfl) (fun _ _ _ h => h) (by rfl) (by assumption) ?_ ?_; rotate_left; focus (intro wS hSw; obtain ⟨d0, d1, d2, d3, d4, d5, d6, d7, d8, d9, d10, d11, d12, d13, d14, d15, d16, d17, d18, d19, d20, d21, d22, d23, d24, d25⟩ := HTC.out wS hSw; go_simp; first | done | with_reducible rfl)))
      (try simp only [Act.put, List.setIfInBounds_toArray, List.set_cons_zero, List.set_cons_succ])
      (first | (refine takeS_no 15 rfl (by kernel_rfl) (by kernel_rfl) (by kernel_rfl) (fun _ _ _ h => h) (by rfl) (by assumption) ?_) | (refine takeS_yes (v := ?_) 15 rfl (by kernel_rfl) (by kernel_rfl) (by kernel_rfl) (fun _ _ _ h => h) (by rfl) (by assumption) ?_ ?_; rotate_left; focus (intro wS hSw; obtain ⟨d0, d1, d2, d3, d4, d5, d6, d7, d8, d9, d10, d11, d12, d13, d14, d15, d16, d17, d18, d19, d20, d21, d22, d23, d24, d25⟩ := HTC.out wS hSw; go_simp; first | done | with_reducible rfl)))
      (try simp only [Act.put, List.setIfInBounds_toArray, List.set_cons_zero, List.set_cons_succ])
      (first | (refine takeS_no 16 rfl (by kernel_rfl) (by kernel_rfl) (by kernel_rfl) (fun _ _ _ h => h) (by rfl) (by assumption) ?_) | (refine takeS_yes (v := ?_) 16 rfl (by kernel_rfl) (by kernel_rfl) (by kernel_rfl) (fun _ _ _ h => h) (by rfl) (by assumption) ?_ ?_; rotate_left; focus (intro wS hSw; obtain ⟨d0, d1, d2, d3, d4, d5, d6, d7, d8, d9, d10, d11, d12, d13, d14, d15, d16, d17, d18, d19, d20, d21, d22, d23, d24, d25⟩ := HTC.out wS hSw; go_simp; first | done | with_reducible rfl)))
      (try simp only [Act.put, List.setIfInBounds_toArray, List.set_cons_zero, List.set_cons_succ])
      (first | (refine takeS_no 18 rfl (by kernel_rfl) (by kernel_rfl) (by kernel_rfl) (fun _ _ _ h => h) (by rfl) (by assumption) ?_) | (refine takeS_yes (v := ?_) 18 rfl (by kernel_rfl) (by kernel_rfl) (by kernel_rfl) (fun _ _ _ h => h) (by rfl) (by assumption) ?_ ?_; rotate_left; focus (intro wS hSw; obtain ⟨d0, d1, d2, d3, d4, d5, d6, d7, d8, d9, d10, d11, d12, d13, d14, d15, d16, d17, d18, d19, d20, d21, d22, d23, d24, d25⟩ := HTC.out wS hSw; go_simp; first | done | with_reducible rfl)))
      (try simp only [Act.put, List.setIfInBounds_toArray, List.set_cons_zero, List.set_cons_succ])
      (first | (refine takeS_no 19 rfl (by kernel_rfl) (by kernel_rfl) (by kernel_rfl) (fun _ _ _ h => h) (by rfl) (by assumption) ?_) | (refine takeS_yes (v := ?_) 19 rfl (by kernel_rfl) (by kernel_rfl) (by kernel_rfl) (fun _ _ _ h => h) (by rfl) (by assumption) ?_ ?_; rotate_left; focus (intro wS hSw; obtain ⟨d0, d1, d2, d3, d4, d5, d6, d7, d8, d9, d10, d11, d12, d13, d14, d15, d16, d17, d18, d19, d20, d21, d22, d23, d24, d25⟩ := HTC.out wS hSw; go_simp; first | done | with_reducible rfl)))
      (try simp only [Act.put, List.setIfInBounds_toArray, List.set_cons_zero, List.set_cons_succ])
      (first | (refine takeS_no 21 rfl (by kernel_rfl) (by kernel_rfl) (by kernel_rfl) (fun _ _ _ h => h) (by rfl) (by assumption) ?_) | (refine takeS_yes (v := ?_) 21 rfl (by kernel_rfl) (by kernel_rfl) (by kernel_rfl) (fun _ _ _ h => h) (by rfl) (by assumption) ?_ ?_; rotate_left; focus (intro wS hSw; obtain ⟨d0, d1, d2, d3, d4, d5, d6, d7, d8, d9, d10, d11, d12, d13, d14, d15, d16, d17, d18, d19, d20, d21, d22, d23, d24, d25⟩ := HTC.out wS hSw; go_simp; first | done | with_reducible rfl)))
      (try simp only [Act.put, List.setIfInBounds_toArray, List.set_cons_zero, List.set_cons_succ])
      (first | (refine takeS_no 22 rfl (by kernel_rfl) (by kernel_rfl) (by kernel_rfl) (fun _ _ _ h => h) (by rfl) (by assumption) ?_) | (refine takeS_yes (v := ?_) 22 rfl (by kernel_rfl) (by kernel_rfl) (by kernel_rfl) (fun _ _ _ h => h) (by rfl) (by assumption) ?_ ?_; rotate_left; focus (intro wS hSw; obtain ⟨d0, d1, d2, d3, d4, d5, d6, d7, d8, d9, d10, d11, d12, d13, d14, d15, d16, d17, d18, d19, d20, d21, d22, d23, d24, d25⟩ := HTC.out wS hSw; go_simp; first | done | with_reducible rfl)))
      (try simp only [Act.put, List.setIfInBounds_toArray, List.set_cons_zero, List.set_cons_succ])
      refine takeS_alone 2 rfl (by kernel_rfl) (by rfl) (fun K hK => ?_)
      go_simp
      (have c0 : Below (W.heap.size + 1) w0 wr.drew := hS0; have PP0 := Lib.hid (show Parts wr.drew [] from (by intro p hp; cases hp)); refine (wentry_w t.entry _ L1 HBK.out.e1 ((HTI.out _ c0).mono (Nat.le_of_lt (HSZ.out _ c0))).entry HW.out.entry HS.out.etext HS.out.eargs HS.out.voters).mono ?_; rintro e x1 ⟨a1, q1, rfl, ho, hb⟩; have PP1 := Lib.hid (PP0.out.add ho hb); have c1 := c0.trans (hb.mono (HSZ.out _ c0)); clear ho hb)
      refine hK.out _ _ (by assumption) ?_
      clear hK K
      (try simp only [Act.put, List.setIfInBounds_toArray, List.set_cons_zero, List.set_cons_succ])
      refine takeS_alone 5 rfl (by kernel_rfl) (by rfl) (fun K hK => ?_)
      go_simp
      (refine (number_w t.number L2 _ HBK.out.e2).mono ?_; rintro e x2 ⟨a2, q2, rfl, ho, hb⟩; have PP2 := Lib.hid (PP1.out.add ho hb); have c2 := c1.trans (hb.mono (HSZ.out _ c1)); clear ho hb)
      refine hK.out _ _ (by assumption) ?_
      clear hK K
      (try simp only [Act.put, List.setIfInBounds_toArray, List.set_cons_zero, List.set_cons_succ])
      refine takeS_alone 8 rfl (by kernel_rfl) (by rfl) (fun K hK => ?_)
      go_simp
      (refine (wtext_w t.text _ L3 HBK.out.e3 HS.out.text).mono ?_; rintro e x3 ⟨a3, q3, rfl, ho, hb⟩; have PP3 := Lib.hid (PP2.out.add ho hb); have c3 := c2.trans (hb.mono (HSZ.out _ c2)); clear ho hb)
      refine hK.out _ _ (by assumption) ?_
      clear hK K
      (try simp only [Act.put, List.setIfInBounds_toArray, List.set_cons_zero, List.set_cons_succ])
      refine takeS_alone 11 rfl (by kernel_rfl) (by rfl) (fun K hK => ?_)
      go_simp
      (refine (wreply_w t.reply _ L4 HBK.out.e4 ((HTI.out _ c3).mono (Nat.le_of_lt (HSZ.out _ c3))).reply HS.out.facts.1 HS.out.facts.2 HS.out.said).mono ?_; rintro e x4 ⟨a4, q4, rfl, ho, hb⟩; have PP4 := Lib.hid (PP3.out.add ho hb); have c4 := c3.trans (hb.mono (HSZ.out _ c3)); clear ho hb)
      refine hK.out _ _ (by assumption) ?_
      clear hK K
      (try simp only [Act.put, List.setIfInBounds_toArray, List.set_cons_zero, List.set_cons_succ])
      refine takeS_alone 14 rfl (by kernel_rfl) (by rfl) (fun K hK => ?_)
      go_simp
      (refine (value_w t.value.kind t.value.num t.value.text L5 _ HBK.out.e5 (Nat.le_trans HS.out.value (by decide))).mono ?_; rintro e x5 ⟨a5, q5, rfl, ho, hb⟩; have PP5 := Lib.hid (PP4.out.add ho hb); have c5 := c4.trans (hb.mono (HSZ.out _ c4)); clear ho hb)
      refine hK.out _ _ (by assumption) ?_
      clear hK K
      (try simp only [Act.put, List.setIfInBounds_toArray, List.set_cons_zero, List.set_cons_succ])
      refine takeS_alone 17 rfl (by kernel_rfl) (by rfl) (fun K hK => ?_)
      go_simp
      (refine (wvalues_w t.vo t.vcap t.values _ L6 HBK.out.e6 ((HTI.out _ c5).mono (Nat.le_of_lt (HSZ.out _ c5))).values HS.out.values).mono ?_; rintro e x6 ⟨a6, q6, rfl, ho, hb⟩; have PP6 := Lib.hid (PP5.out.add ho hb); have c6 := c5.trans (hb.mono (HSZ.out _ c5)); clear ho hb)
      refine hK.out _ _ (by assumption) ?_
      clear hK K
      (try simp only [Act.put, List.setIfInBounds_toArray, List.set_cons_zero, List.set_cons_succ])
      refine takeS_alone 20 rfl (by kernel_rfl) (by rfl) (fun K hK => ?_)
      go_simp
      (refine (wfact_w t.fact _ L7 HBK.out.e7 ((HTI.out _ c6).mono (Nat.le_of_lt (HSZ.out _ c6))).fact HS.out.fact).mono ?_; rintro e x7 ⟨a7, q7, rfl, ho, hb⟩; have PP7 := Lib.hid (PP6.out.add ho hb); have c7 := c6.trans (hb.mono (HSZ.out _ c6)); clear ho hb)
      refine hK.out _ _ (by assumption) ?_
      clear hK K
      (try simp only [Act.put, List.setIfInBounds_toArray, List.set_cons_zero, List.set_cons_succ])
      refine takeS_alone 23 rfl (by kernel_rfl) (by rfl) (fun K hK => ?_)
      go_simp
      (refine (wcommand_w t.command _ L8 HBK.out.e8 ((HTI.out _ c7).mono (Nat.le_of_lt (HSZ.out _ c7))).command HS.out.ctext HS.out.command).mono ?_; rintro e x8 ⟨a8, q8, rfl, ho, hb⟩; have PP8 := Lib.hid (PP7.out.add ho hb); have c8 := c7.trans (hb.mono (HSZ.out _ c7)); clear ho hb)
      refine hK.out _ _ (by assumption) ?_
      clear hK K
      (try simp only [Act.put, List.setIfInBounds_toArray, List.set_cons_zero, List.set_cons_succ])
      refine takeS_alone 24 rfl (by kernel_rfl) (by rfl) (fun K hK => ?_)
      go_simp
      (have c9 := Below.alloc c8 (HSZ.out _ c8) (.cells #[.slice a1 L1.length q1, .slice a2 L2.length q2, .slice a3 L3.length q3, .slice a4 L4.length q4, .slice a5 L5.length q5, .slice a6 L6.length q6, .slice a7 L7.length q7, .slice a8 L8.length q8] 47); have k9 := heap_alloc_new x8 (.cells #[.slice a1 L1.length q1, .slice a2 L2.length q2, .slice a3 L3.length q3, .slice a4 L4.length q4, .slice a5 L5.length q5, .slice a6 L6.length q6, .slice a7 L7.length q7, .slice a8 L8.length q8] 47); have hg9 := (Array.getElem?_eq_some_iff.1 k9).1; have PP9 := PP8.out.alloc (.cells #[.slice a1 L1.length q1, .slice a2 L2.length q2, .slice a3 L3.length q3, .slice a4 L4.length q4, .slice a5 L5.length q5, .slice a6 L6.length q6, .slice a7 L7.length q7, .slice a8 L8.length q8] 47); generalize x8.alloc (.cells #[.slice a1 L1.length q1, .slice a2 L2.length q2, .slice a3 L3.length q3, .slice a4 L4.length q4, .slice a5 L5.length q5, .slice a6 L6.length q6, .slice a7 L7.length q7, .slice a8 L8.length q8] 47) = x9 at c9 k9 hg9 PP9 ⊢)
      refine hK.out _ _ (by assumption) ?_
      clear hK K
      (try simp only [Act.put, List.setIfInBounds_toArray, List.set_cons_zero, List.set_cons_succ])
      refine takeS_alone 25 rfl (by kernel_rfl) (by rfl) (fun K hK => ?_)
      go_simp
      (refine (wjoin_any (some ⟨x8.heap.size, 0, none⟩) 8 8 [⟨a1, q1, L1⟩, ⟨a2, q2, L2⟩, ⟨a3, q3, L3⟩, ⟨a4, q4, L4⟩, ⟨a5, q5, L5⟩, ⟨a6, q6, L6⟩, ⟨a7, q7, L7⟩, ⟨a8, q8, L8⟩] WW x9 x9.heap.size rfl HWW.out (rowsIn_block ptCells_len _ _ k9 rfl hg9 PP9) (Nat.le_refl _) HBK.out.parts_wf (Nat.le_refl _) HWL.out (by decide)).mono ?_; rintro e x10 ⟨aj, cj, rfl, hin, hjn, _, _, hb⟩; have c10 := c9.trans (hb.mono (HSZ.out _ c9)); have HIN := Lib.hid hin; clear hin hb k9 hg9 PP9)
      refine hK.out _ _ (by assumption) ?_
      clear hK K
      (try simp only [Act.put, List.setIfInBounds_toArray, List.set_cons_zero, List.set_cons_succ])
      refine takeS_alone 26 rfl (by kernel_rfl) (by rfl) (fun K hK => ?_)
      go_simp
      (refine (newReader_any aj WW.length cj WW x10 x10.heap.size rfl HIN.out (Nat.le_refl _) hjn HWL.out).mono ?_; rintro e x11 ⟨rb, rfl, hrb, hR, hb⟩; have c11 := c10.trans (hb.mono (HSZ.out _ c10)); have R11 := Lib.hid hR; have hrb := Nat.le_trans (HSZ.out _ c10) hrb; clear hR hb HIN hjn)
      refine hK.out _ _ (by assumption) ?_
      clear hK K
      (try simp only [Act.put, List.setIfInBounds_toArray, List.set_cons_zero, List.set_cons_succ])
      (first | (refine takeS_no 27 rfl (by kernel_rfl) (by kernel_rfl) (by kernel_rfl) (fun _ _ _ h => h) (by rfl) (by assumption) ?_) | (refine takeS_yes (v := ?_) 27 rfl (by kernel_rfl) (by kernel_rfl) (by kernel_rfl) (fun _ _ _ h => h) (by rfl) (by assumption) ?_ ?_; rotate_left; focus (intro wS hSw; obtain ⟨d0, d1, d2, d3, d4, d5, d6, d7, d8, d9, d10, d11, d12, d13, d14, d15, d16, d17, d18, d19, d20, d21, d22, d23, d24, d25⟩ := HTC.out wS hSw; go_simp; first | done | with_reducible rfl)))
      (try simp only [Act.put, List.setIfInBounds_toArray, List.set_cons_zero, List.set_cons_succ])
      refine wpAnyH_done (by kernel_rfl) ?_ _
      go_wp2_with fail
      have hrb0 := R11.out.lt
      refine (rdEntry_any rb rb false WW (t.entry.plain, false, W1) x11 HCH.out.r1 R11.out HCH.out.f0 HCH.out.l0).mono ?_
      rintro e x12 ⟨fe, hfe, he, ⟨oe1, oe2⟩, hr, ho⟩
      unfold enVal at he
      subst he
      have c12 := c11.trans (ho.toBelow (HSZ.out _ c11) hrb)
      have R12 := Lib.hid hr
      have OE1 := Lib.hid oe1
      have OE2 := Lib.hid oe2
      have HFE := Lib.hid hfe
      have hs12 := ho.1
      clear hr ho oe1 oe2 hfe R11 PP1 PP2 PP3 PP4 PP5 PP6 PP7 PP8 PP0
      go_wp2_with fail
      refine (num_at rb rb false W1 t.number false W2 x12 HCH.out.r2 R12.out HCH.out.f1 HCH.out.l1).mono ?_
      rintro e x13 ⟨rfl, hr, ho⟩
      have c13 := c12.trans (ho.toBelow (HSZ.out _ c12) hrb)
      have R13 := Lib.hid hr
      have hs13 := ho.1
      have P1 := Lib.hid (OE1.out.only ho hrb0)
      have P2 := Lib.hid (OE2.out.only ho hrb0)
      clear hr ho R12 OE1 OE2
      go_wp2_with fail
      refine (text_at rb rb false W2 t.text false W3 x13 HCH.out.r3 R13.out HCH.out.f2 HCH.out.l2).mono ?_
      rintro e x14 ⟨rfl, hr, ho⟩
      have c14 := c13.trans (ho.toBelow (HSZ.out _ c13) hrb)
      have R14 := Lib.hid hr
      have hs14 := ho.1
      have OE1 := Lib.hid (P1.out.only ho hrb0)
      have OE2 := Lib.hid (P2.out.only ho hrb0)
      clear hr ho R13 P1 P2
      go_wp2_with fail
      refine (rdReply_any rb rb false W3 (t.reply.plain, false, W4) x14 HCH.out.r4 R14.out HCH.out.f3 HCH.out.l3).mono ?_
      rintro e x15 ⟨fr, hfr, he, ⟨or1, or2⟩, hr, ho⟩
      unfold rpVal at he
      subst he
      have c15 := c14.trans (ho.toBelow (HSZ.out _ c14) hrb)
      have R15 := Lib.hid hr
      have OR1 := Lib.hid or1
      have OR2 := Lib.hid or2
      have HFR := Lib.hid hfr
      have hs15 := ho.1
      have P1 := Lib.hid (OE1.out.only ho hrb0)
      have P2 := Lib.hid (OE2.out.only ho hrb0)
      clear hr ho or1 or2 hfr R14 OE1 OE2
      go_wp2_with fail
      have hA := ((Below.refl x15.heap.size x15).alloc (Nat.le_refl _) (.cells #[.int .i64 fe.term, .int .u8 fe.kind, .int .i64 fe.session, .int .i64 fe.seq, .int .u8 fe.ck, .string fe.text, .slice fe.aao fe.args.length fe.acap, .int .i64 fe.num, .slice fe.vao fe.vs.length fe.vcap] 38)).alloc (by simp) (.cells #[.int .i64 fr.err, .int .i64 fr.num, .slice fr.fo fr.facts.length fr.fcap, .slice fr.so fr.said.length fr.scap] 34)
      have ke := heap_alloc_keep (heap_alloc_new x15 (.cells #[.int .i64 fe.term, .int .u8 fe.kind, .int .i64 fe.session, .int .i64 fe.seq, .int .u8 fe.ck, .string fe.text, .slice fe.aao fe.args.length fe.acap, .int .i64 fe.num, .slice fe.vao fe.vs.length fe.vcap] 38)) (.cells #[.int .i64 fr.err, .int .i64 fr.num, .slice fr.fo fr.facts.length fr.fcap, .slice fr.so fr.said.length fr.scap] 34)
      have kr := heap_alloc_new (x15.alloc (.cells #[.int .i64 fe.term, .int .u8 fe.kind, .int .i64 fe.session, .int .i64 fe.seq, .int .u8 fe.ck, .string fe.text, .slice fe.aao fe.args.length fe.acap, .int .i64 fe.num, .slice fe.vao fe.vs.length fe.vcap] 38)) (.cells #[.int .i64 fr.err, .int .i64 fr.num, .slice fr.fo fr.facts.length fr.fcap, .slice fr.so fr.said.length fr.scap] 34)
      have hz : (x15.alloc (.cells #[.int .i64 fe.term, .int .u8 fe.kind, .int .i64 fe.session, .int .i64 fe.seq, .int .u8 fe.ck, .string fe.text, .slice fe.aao fe.args.length fe.acap, .int .i64 fe.num, .slice fe.vao fe.vs.length fe.vcap] 38)).heap.size = x15.heap.size + 1 := by simp
      have hz2 : ((x15.alloc (.cells #[.int .i64 fe.term, .int .u8 fe.kind, .int .i64 fe.session, .int .i64 fe.seq, .int .u8 fe.ck, .string fe.text, .slice fe.aao fe.args.length fe.acap, .int .i64 fe.num, .slice fe.vao fe.vs.length fe.vcap] 38)).alloc (.cells #[.int .i64 fr.err, .int .i64 fr.num, .slice fr.fo fr.facts.length fr.fcap, .slice fr.so fr.said.length fr.scap] 34)).heap.size = x15.heap.size + 2 := by simp
      rw [hz] at kr
      generalize (x15.alloc (.cells #[.int .i64 fe.term, .int .u8 fe.kind, .int .i64 fe.session, .int .i64 fe.seq, .int .u8 fe.ck, .string fe.text, .slice fe.aao fe.args.length fe.acap, .int .i64 fe.num, .slice fe.vao fe.vs.length fe.vcap] 38)).alloc (.cells #[.int .i64 fr.err, .int .i64 fr.num, .slice fr.fo fr.facts.length fr.fcap, .slice fr.so fr.said.length fr.scap] 34) = x16 at hA ke kr hz2 ⊢
      have c16 := c15.trans (hA.mono (HSZ.out _ c15))
      have R16 := Lib.hid (R15.out.below hA)
      have OE1 := Lib.hid (P1.out.below hA (Nat.le_refl _))
      have OE2 := Lib.hid (P2.out.below hA (Nat.le_refl _))
      have OF1 := Lib.hid (OR1.out.below hA (Nat.le_refl _))
      have OF2 := Lib.hid (OR2.out.below hA (Nat.le_refl _))
      have KE := Lib.hid ke
      have KR := Lib.hid kr
      clear hA ke kr hz R15 P1 P2 OR1 OR2
      refine (value_at rb rb false W4 t.value false W5 x16 HCH.out.r5 R16.out HCH.out.f4 HCH.out.l4).mono ?_
      rintro e x17 ⟨he, hr, ho⟩
      unfold Va.val at he
      subst he
      have c17 := c16.trans (ho.toBelow (HSZ.out _ c16) hrb)
      have R17 := Lib.hid hr
      have hs17 := ho.1
      have P1 := Lib.hid (OE1.out.only ho (by omega))
      have P2 := Lib.hid (OE2.out.only ho (by omega))
      have P3 := Lib.hid (OF1.out.only ho (by omega))
      have P4 := Lib.hid (OF2.out.only ho (by omega))
      have K1 := Lib.hid ((ho.2 _ (by omega) (by omega)).trans KE.out)
      have K2 := Lib.hid ((ho.2 _ (by omega) (by omega)).trans KR.out)
      clear hr ho R16 OE1 OE2 OF1 OF2 KE KR
      go_wp2_with fail
      refine (values_at rb rb false W5 t.values false W6 x17 HCH.out.r6 R17.out HCH.out.f5 HCH.out.l5).mono ?_
      rintro e x18 ⟨va, vn, vc, hvn, rfl, ov, hr, ho⟩
      have c18 := c17.trans (ho.toBelow (HSZ.out _ c17) hrb)
      have R18 := Lib.hid hr
      have hs18 := ho.1
      have OE1 := Lib.hid (P1.out.only ho (by omega))
      have OE2 := Lib.hid (P2.out.only ho (by omega))
      have OF1 := Lib.hid (P3.out.only ho (by omega))
      have OF2 := Lib.hid (P4.out.only ho (by omega))
      have KE := Lib.hid ((ho.2 _ (by omega) (by omega)).trans K1.out)
      have KR := Lib.hid ((ho.2 _ (by omega) (by omega)).trans K2.out)
      have OV := Lib.hid ov
      have HVN := Lib.hid hvn
      clear hr ho ov hvn R17 P1 P2 P3 P4 K1 K2
      go_wp2_with fail
      refine (rdFact_any rb rb false W6 (t.fact.plain, false, W7) x18 HCH.out.r7 R18.out HCH.out.f6 HCH.out.l6).mono ?_
      rintro e x19 ⟨ff, hff, he, of, hr, ho⟩
      unfold faVal at he
      subst he
      have c19 := c18.trans (ho.toBelow (HSZ.out _ c18) hrb)
      have R19 := Lib.hid hr
      have hs19 := ho.1
      have P1 := Lib.hid (OE1.out.only ho (by omega))
      have P2 := Lib.hid (OE2.out.only ho (by omega))
      have P3 := Lib.hid (OF1.out.only ho (by omega))
      have P4 := Lib.hid (OF2.out.only ho (by omega))
      have P5 := Lib.hid (OV.out.only ho (by omega))
      have K1 := Lib.hid ((ho.2 _ (by omega) (by omega)).trans KE.out)
      have K2 := Lib.hid ((ho.2 _ (by omega) (by omega)).trans KR.out)
      have P6 := Lib.hid of
      have HFF := Lib.hid hff
      clear hr ho of hff R18 OE1 OE2 OF1 OF2 OV KE KR
      go_wp2_with fail
      have hA := ((Below.refl x19.heap.size x19).alloc (Nat.le_refl _) (.cells #[.int .u8 t.value.kind, .int .i64 t.value.num, .string t.value.text] 24)).alloc (by simp) (.cells #[.int .i64 ff.id, .int .i64 ff.ty, .slice ff.ao ff.args.length ff.cap] 27)
      have kv := heap_alloc_keep (heap_alloc_new x19 (.cells #[.int .u8 t.value.kind, .int .i64 t.value.num, .string t.value.text] 24)) (.cells #[.int .i64 ff.id, .int .i64 ff.ty, .slice ff.ao ff.args.length ff.cap] 27)
      have kf := heap_alloc_new (x19.alloc (.cells #[.int .u8 t.value.kind, .int .i64 t.value.num, .string t.value.text] 24)) (.cells #[.int .i64 ff.id, .int .i64 ff.ty, .slice ff.ao ff.args.length ff.cap] 27)
      have hz : (x19.alloc (.cells #[.int .u8 t.value.kind, .int .i64 t.value.num, .string t.value.text] 24)).heap.size = x19.heap.size + 1 := by simp
      have hz3 : ((x19.alloc (.cells #[.int .u8 t.value.kind, .int .i64 t.value.num, .string t.value.text] 24)).alloc (.cells #[.int .i64 ff.id, .int .i64 ff.ty, .slice ff.ao ff.args.length ff.cap] 27)).heap.size = x19.heap.size + 2 := by simp
      rw [hz] at kf
      generalize (x19.alloc (.cells #[.int .u8 t.value.kind, .int .i64 t.value.num, .string t.value.text] 24)).alloc (.cells #[.int .i64 ff.id, .int .i64 ff.ty, .slice ff.ao ff.args.length ff.cap] 27) = x20 at hA kv kf hz3 ⊢
      have c20 := c19.trans (hA.mono (HSZ.out _ c19))
      have R20 := Lib.hid (R19.out.below hA)
      have OE1 := Lib.hid (P1.out.below hA (Nat.le_refl _))
      have OE2 := Lib.hid (P2.out.below hA (Nat.le_refl _))
      have OF1 := Lib.hid (P3.out.below hA (Nat.le_refl _))
      have OF2 := Lib.hid (P4.out.below hA (Nat.le_refl _))
      have OV := Lib.hid (P5.out.below hA (Nat.le_refl _))
      have OF := Lib.hid (VasOwn.below P6.out hA (Nat.le_refl _))
      have KE := Lib.hid ((hA.block _ (by omega)).trans K1.out)
      have KR := Lib.hid ((hA.block _ (by omega)).trans K2.out)
      have KV := Lib.hid kv
      have KF := Lib.hid kf
      clear hA kv kf hz R19 P1 P2 P3 P4 P5 P6 K1 K2
      refine (done_rd rb rb false W7 x20 R20.out).mono ?_
      rintro e wx ⟨he, rfl⟩
      rw [HCH.out.ne] at he
      replace he : e = .returned (.bool false) := he
      subst he
      go_wp2_with fail
      refine (bad_rd rb rb false W7 x20 R20.out).mono ?_
      rintro e wx ⟨rfl, rfl⟩
      go_wp2_with fail
      refine (rdCommand_any rb rb false W7 (t.command.plain, false, []) x20 HCH.out.r8 R20.out HCH.out.f7 HCH.out.l7).mono ?_
      rintro e x21 ⟨fc, hfc, he, oc, hr, ho⟩
      obtain ⟨ck, ctext, cao, cargs, ccap, cnum⟩ := fc
      simp only [Cm.plain, CmP.mk.injEq] at hfc
      obtain ⟨rfl, rfl, rfl, rfl⟩ := hfc
      unfold cmVal at he
      dsimp only at he oc
      subst he
      have c21 := c20.trans (ho.toBelow (HSZ.out _ c20) hrb)
      have R21 := Lib.hid hr
      have hs21 := ho.1
      have P1 := Lib.hid (OE1.out.only ho (by omega))
      have P2 := Lib.hid (OE2.out.only ho (by omega))
      have P3 := Lib.hid (OF1.out.only ho (by omega))
      have P4 := Lib.hid (OF2.out.only ho (by omega))
      have P5 := Lib.hid (OV.out.only ho (by omega))
      have P6 := Lib.hid (VasOwn.only OF.out ho (by omega))
      have K1 := Lib.hid ((ho.2 _ (by omega) (by omega)).trans KE.out)
      have K2 := Lib.hid ((ho.2 _ (by omega) (by omega)).trans KR.out)
      have K3 := Lib.hid ((ho.2 _ (by omega) (by omega)).trans KV.out)
      have K4 := Lib.hid ((ho.2 _ (by omega) (by omega)).trans KF.out)
      have P7 := Lib.hid oc
      clear hr ho oc R20 OE1 OE2 OF1 OF2 OV OF KE KR KV KF
      obtain ⟨x23, hx23⟩ : ∃ w, x21.alloc (.cells #[.int .u8 t.command.kind, .string t.command.text, .slice cao t.command.args.length ccap, .int .i64 t.command.num] 30) = w := ⟨_, rfl⟩
      have hA : Below x21.heap.size x21 x23 := hx23 ▸ (Below.refl x21.heap.size x21).alloc (Nat.le_refl _) (.cells #[.int .u8 t.command.kind, .string t.command.text, .slice cao t.command.args.length ccap, .int .i64 t.command.num] 30)
      have kc : x23.heap[x21.heap.size]? = some (.cells #[.int .u8 t.command.kind, .string t.command.text, .slice cao t.command.args.length ccap, .int .i64 t.command.num] 30 (0, 0)) := hx23 ▸ heap_alloc_new x21 (.cells #[.int .u8 t.command.kind, .string t.command.text, .slice cao t.command.args.length ccap, .int .i64 t.command.num] 30)
      have hz4 : x23.heap.size = x21.heap.size + 1 := by rw [← hx23]; simp
      have c23 := c21.trans (hA.mono (HSZ.out _ c21))
      have R23 := Lib.hid (R21.out.below hA)
      have OE1 := P1.out.below hA (Nat.le_refl _)
      have OE2 := P2.out.below hA (Nat.le_refl _)
      have OF1 := P3.out.below hA (Nat.le_refl _)
      have OF2 := P4.out.below hA (Nat.le_refl _)
      have OV := P5.out.below hA (Nat.le_refl _)
      have OF := VasOwn.below P6.out hA (Nat.le_refl _)
      have OC := VasOwn.below P7.out hA (Nat.le_refl _)
      have ke := (hA.block _ (by omega)).trans K1.out
      have kr := (hA.block _ (by omega)).trans K2.out
      have kv := (hA.block _ (by omega)).trans K3.out
      have kf := (hA.block _ (by omega)).trans K4.out
      have HRE := Lib.hid (fun w' (h : Below x23.heap.size x23 w') => (range_block ((h.block x15.heap.size (by omega)).trans ke) : w'.rangeAt x15.heap.size 0 [.int .i64 fe.term, .int .u8 fe.kind, .int .i64 fe.session, .int .i64 fe.seq, .int .u8 fe.ck, .string fe.text, .slice fe.aao fe.args.length fe.acap, .int .i64 fe.num, .slice fe.vao fe.vs.length fe.vcap]))
      have HRR := Lib.hid (fun w' (h : Below x23.heap.size x23 w') => (range_block ((h.block (x15.heap.size + 1) (by omega)).trans kr) : w'.rangeAt (x15.heap.size + 1) 0 [.int .i64 fr.err, .int .i64 fr.num, .slice fr.fo fr.facts.length fr.fcap, .slice fr.so fr.said.length fr.scap]))
      have HRV := Lib.hid (fun w' (h : Below x23.heap.size x23 w') => (range_block ((h.block x19.heap.size (by omega)).trans kv) : w'.rangeAt x19.heap.size 0 [.int .u8 t.value.kind, .int .i64 t.value.num, .string t.value.text]))
      have HRF := Lib.hid (fun w' (h : Below x23.heap.size x23 w') => (range_block ((h.block (x19.heap.size + 1) (by omega)).trans kf) : w'.rangeAt (x19.heap.size + 1) 0 [.int .i64 ff.id, .int .i64 ff.ty, .slice ff.ao ff.args.length ff.cap]))
      have HRC := Lib.hid (fun w' (h : Below x23.heap.size x23 w') => (range_block ((h.block x21.heap.size (by omega)).trans kc) : w'.rangeAt x21.heap.size 0 [.int .u8 t.command.kind, .string t.command.text, .slice cao t.command.args.length ccap, .int .i64 t.command.num]))
      have KE := Lib.hid ke
      have HXE := Lib.hid (fun w' (h : Below x23.heap.size x23 w') => (enSub_kept _ _ _ _ _ ⟨VasOwn.vals rfl OE1, IntsOwn.nums rfl OE2⟩ h (Nat.le_refl _) : enSub w' x23.heap.size fe))
      have HXR := Lib.hid (fun w' (h : Below x23.heap.size x23 w') => (rpSub_kept _ _ _ _ _ ⟨FasOwn.fas OF1, VasOwn.vals rfl OF2⟩ h (Nat.le_refl _) : rpSub w' x23.heap.size fr))
      have HXV := Lib.hid (fun w' (h : Below x23.heap.size x23 w') => ((VasOwn.vals HVN.out OV).below noSub_kept h (Nat.le_refl _) : ValsIn w' x23.heap.size va t.values))
      have HXF := Lib.hid (fun w' (h : Below x23.heap.size x23 w') => ((VasOwn.vals rfl OF).below noSub_kept h (Nat.le_refl _) : ValsIn w' x23.heap.size ff.ao ff.args))
      have HXC := Lib.hid (fun w' (h : Below x23.heap.size x23 w') => ((VasOwn.vals rfl OC).below noSub_kept h (Nat.le_refl _) : ValsIn w' x23.heap.size cao t.command.args))
      have HCC := Lib.hid (fun w' (h : Below x23.heap.size x23 w') => c23.trans (h.mono (HSZ.out _ c23)))
      have HTT := Lib.hid (fun w' (h : Below x23.heap.size x23 w') => (HTI.out w' (c23.trans (h.mono (HSZ.out _ c23)))).mono (Nat.le_of_lt (HSZ.out _ c23)))
      have hRf := Below.refl x23.heap.size x23
      have RA : (x21.alloc (.cells #[.int .u8 t.command.kind, .string t.command.text, .slice cao t.command.args.length ccap, .int .i64 t.command.num] 30)).rangeAt x15.heap.size 0 [.int .i64 fe.term, .int .u8 fe.kind, .int .i64 fe.session, .int .i64 fe.seq, .int .u8 fe.ck, .string fe.text, .slice fe.aao fe.args.length fe.acap, .int .i64 fe.num, .slice fe.vao fe.vs.length fe.vcap] := by rw [hx23]; exact HRE.out x23 hRf
      have RB : (x21.alloc (.cells #[.int .u8 t.command.kind, .string t.command.text, .slice cao t.command.args.length ccap, .int .i64 t.command.num] 30)).rangeAt W.heap.size 17 [.int .i64 t.entry.term, .int .u8 t.entry.kind, .int .i64 t.entry.session, .int .i64 t.entry.seq, .int .u8 t.entry.ck, .string t.entry.text, .slice t.entry.aao t.entry.args.length t.entry.acap, .int .i64 t.entry.num, .slice t.entry.vao t.entry.vs.length t.entry.vcap] := by rw [hx23]; exact (HTR.out x23 c23).entry
      have HRA := Lib.hid RA
      have HRB := Lib.hid RB
      have HX23 := Lib.hid hx23
      have hea : fe.args = t.entry.args := congrArg EnP.args HFE.out
      have hev : fe.vs = t.entry.vs := congrArg EnP.vs HFE.out
      have hra : fr.said = t.reply.said := congrArg RpP.said HFR.out
      have hrf : fr.facts.map Fa.plain = t.reply.facts.map Fa.plain := congrArg RpP.facts HFR.out
      have hfa : ff.args = t.fact.args := congrArg FaP.args HFF.out
      have la1 : fe.args.length ≤ 2000 := by rw [hea]; exact HS.out.eargs.1
      have la2 : fe.vs.length ≤ 2000 := by rw [hev]; exact HS.out.voters
      have la3 : fr.said.length ≤ 2000 := by rw [hra]; exact HS.out.said.1
      have la4 : fr.facts.length ≤ 2000 := by have := congrArg List.length hrf; rw [List.length_map, List.length_map] at this; have := HS.out.facts.1; omega
      have la5 : ∀ f ∈ fr.facts, f.args.length ≤ 1099511627776 := fun f hf => by
        have hm : f.plain ∈ t.reply.facts.map Fa.plain := by rw [← hrf]; exact List.mem_map_of_mem hf
        obtain ⟨g, hg, hgf⟩ := List.mem_map.1 hm
        have h1 : g.args = f.args := congrArg FaP.args hgf
        have := (HS.out.facts.2 g hg).1
        rw [h1] at this
        omega
      have la6 : ff.args.length ≤ 2000 := by rw [hfa]; exact HS.out.fact.1
      have la7 := HS.out.values.1
      have la8 := HS.out.command.1
      have LA := Lib.hid (And.intro la1 (And.intro la2 (And.intro la3 (And.intro la4 (And.intro la5 (And.intro la6 (And.intro la7 la8)))))))
      have HEV : ∀ w, (binOp .eql 24 (.agg #[.int .u8 t.value.kind, .int .i64 t.value.num, .string t.value.text]) (.agg #[.int .u8 t.value.kind, .int .i64 t.value.num, .string t.value.text])).run Tryd.prog w = .ok (.bool true) w := fun w => same_val_eq 24 rfl t.value.kind t.value.num t.value.text w
      clear hA kc ke kr kv kf OE1 OE2 OF1 OF2 OV OF OC P1 P2 P3 P4 P5 P6 P7 K1 K2 K3 K4 R21 RA RB hx23 hea hev hra hrf hfa la1 la2 la3 la4 la5 la6 la7 la8
      go_wp2_with (first | (refine wpList_load_mid rfl 38 (.tmp 5) rfl x15.heap.size 0 rfl [.int .i64 fe.term, .int .u8 fe.kind, .int .i64 fe.session, .int .i64 fe.seq, .int .u8 fe.ck, .string fe.text, .slice fe.aao fe.args.length fe.acap, .int .i64 fe.num, .slice fe.vao fe.vs.length fe.vcap] _ HRA.out Tryd.underlying38 rfl info_en ?_) | (refine wpList_load_mid rfl 38 (.tmp 126) rfl W.heap.size 17 rfl [.int .i64 t.entry.term, .int .u8 t.entry.kind, .int .i64 t.entry.session, .int .i64 t.entry.seq, .int .u8 t.entry.ck, .string t.entry.text, .slice t.entry.aao t.entry.args.length t.entry.acap, .int .i64 t.entry.num, .slice t.entry.vao t.entry.vs.length t.entry.vcap] _ HRB.out Tryd.underlying38 rfl info_en ?_))
      rw [HX23.out]
      refine (sameE_any fe t.entry x23 x23.heap.size HFE.out (HXE.out _ hRf) (HTT.out _ hRf).entry (Nat.le_refl _) (by have := LA.out.1; omega) (by have := LA.out.2.1; omega)).mono ?_
      rintro e x24 ⟨rfl, d24⟩
      have q0 := (HTC.out _ (HCC.out _ d24)).d0
      have q1 := (HTC.out _ (HCC.out _ d24)).d1
      clear HRA HRB
      go_wp2_with (first | (refine wpList_load_want (by rfl) 34 (.tmp 8) rfl (x15.heap.size + 1) 0 rfl [.int .i64 fr.err, .int .i64 fr.num, .slice fr.fo fr.facts.length fr.fcap, .slice fr.so fr.said.length fr.scap] _ (HRR.out _ d24) Tryd.underlying34 rfl info_rp ?_) | (refine wpList_load_want (by rfl) 34 (.tmp 143) rfl W.heap.size 13 rfl [.int .i64 t.reply.err, .int .i64 t.reply.num, .slice t.reply.fo t.reply.facts.length t.reply.fcap, .slice t.reply.so t.reply.said.length t.reply.scap] _ (HTR.out _ (HCC.out _ d24)).reply Tryd.underlying34 rfl info_rp ?_))
      refine (sameRp_any fr t.reply x24 x23.heap.size HFR.out (HXR.out _ d24) (HTT.out _ d24).reply d24.size (by have := LA.out.2.2.2.1; omega) LA.out.2.2.2.2.1 (by have := LA.out.2.2.1; omega)).mono ?_
      rintro e x25 ⟨rfl, hb⟩
      have d25 := d24.trans (hb.mono d24.size)
      have q5 := (HTC.out _ (HCC.out _ d25)).d5
      clear hb q0 q1
      go_wp2_with (first | (refine wpList_load_want (by rfl) 24 (.tmp 9) rfl x19.heap.size 0 rfl [.int .u8 t.value.kind, .int .i64 t.value.num, .string t.value.text] _ (HRV.out _ d25) Tryd.underlying24 rfl info_va ?_) | (refine wpList_load_want (by rfl) 24 (.tmp 149) rfl W.heap.size 2 rfl [.int .u8 t.value.kind, .int .i64 t.value.num, .string t.value.text] _ (HTR.out _ (HCC.out _ d25)).value Tryd.underlying24 rfl info_va ?_))
      refine (sameV_any va vn vc t.vo t.values.length t.vcap t.values x25 x23.heap.size HVN.out rfl (HXV.out _ d25) (HTT.out _ d25).values d25.size (by have := LA.out.2.2.2.2.2.2.1; have := HVN.out; omega)).mono ?_
      rintro e x26 ⟨rfl, hb⟩
      have d26 := d25.trans (hb.mono d25.size)
      clear hb q5
      go_wp2_with (first | (refine wpList_load_want (by rfl) 27 (.tmp 11) rfl (x19.heap.size + 1) 0 rfl [.int .i64 ff.id, .int .i64 ff.ty, .slice ff.ao ff.args.length ff.cap] _ (HRF.out _ d26) Tryd.underlying27 rfl info_fa ?_) | (refine wpList_load_want (by rfl) 27 (.tmp 161) rfl W.heap.size 6 rfl [.int .i64 t.fact.id, .int .i64 t.fact.ty, .slice t.fact.ao t.fact.args.length t.fact.cap] _ (HTR.out _ (HCC.out _ d26)).fact Tryd.underlying27 rfl info_fa ?_))
      refine (sameFa_any ff t.fact x26 x23.heap.size HFF.out (HXF.out _ d26) (HTT.out _ d26).fact d26.size (by have := LA.out.2.2.2.2.2.1; omega)).mono ?_
      rintro e x27 ⟨rfl, hb⟩
      have d27 := d26.trans (hb.mono d26.size)
      clear hb
      go_wp2_with (first | (refine wpList_load_want (by rfl) 30 (.tmp 12) rfl x21.heap.size 0 rfl [.int .u8 t.command.kind, .string t.command.text, .slice cao t.command.args.length ccap, .int .i64 t.command.num] _ (HRC.out _ d27) Tryd.underlying30 rfl info_cm ?_) | (refine wpList_load_want (by rfl) 30 (.tmp 167) rfl W.heap.size 9 rfl [.int .u8 t.command.kind, .string t.command.text, .slice t.command.ao t.command.args.length t.command.cap, .int .i64 t.command.num] _ (HTR.out _ (HCC.out _ d27)).command Tryd.underlying30 rfl info_cm ?_))
      refine (sameC_any t.command.kind t.command.text t.command.num cao _ ccap t.command.ao t.command.cap t.command.args x27 x23.heap.size rfl (HXC.out _ d27) (HTT.out _ d27).command d27.size (by have := LA.out.2.2.2.2.2.2.2; omega)).mono ?_
      rintro e x28 ⟨rfl, hb⟩
      have d28 := d27.trans (hb.mono d27.size)
      have R28 := Lib.hid (R23.out.below (hb.mono d27.size |> fun h => d27.trans h))
      clear hb
      go_wp2_with fail
      refine (done_rd rb rb false [] x28 R28.out).mono ?_
      rintro e wx ⟨he, rfl⟩
      replace he : e = .returned (.bool true) := he
      subst he
      go_wp2_with fail
      refine (bad_rd rb rb false [] x28 R28.out).mono ?_
      rintro e wx ⟨rfl, rfl⟩
      go_wp2_with fail
      refine (num_at rb rb false [] 0 true [] x28 numS_end R28.out (by intro x hx; cases hx) (by decide)).mono ?_
      rintro e x29 ⟨rfl, hr, ho⟩
      have c29 := (HCC.out _ d28).trans (ho.toBelow (HSZ.out _ (HCC.out _ d28)) hrb)
      have hs28 := d28.size
      have k29 : x29.heap[x15.heap.size]? = some (.cells #[.int .i64 fe.term, .int .u8 fe.kind, .int .i64 fe.session, .int .i64 fe.seq, .int .u8 fe.ck, .string fe.text, .slice fe.aao fe.args.length fe.acap, .int .i64 fe.num, .slice fe.vao fe.vs.length fe.vcap] 38 (0, 0)) := (ho.2 _ (by omega) (by omega)).trans ((d28.block _ (by omega)).trans KE.out)
      have rg : x29.rangeAt x15.heap.size 0 [.int .i64 fe.term, .int .u8 fe.kind, .int .i64 fe.session, .int .i64 fe.seq, .int .u8 fe.ck, .string fe.text, .slice fe.aao fe.args.length fe.acap, .int .i64 fe.num, .slice fe.vao fe.vs.length fe.vcap] := range_block k29
      have cc : x29.cell? ⟨x15.heap.size, 0, none⟩ = some (.int .i64 fe.term) := Go.Joins.cell_of_block k29 0
      have R29 := Lib.hid hr
      have HRG := Lib.hid rg
      clear hr ho k29 rg R28 d28 d27 d26 d25 d24
      go_wp2_with fail
      refine (bad_rd rb rb true [] x29 R29.out).mono ?_
      rintro e wx ⟨rfl, rfl⟩
      go_wp2_with fail
      refine (done_rd rb rb true [] x29 R29.out).mono ?_
      rintro e wx ⟨he, rfl⟩
      replace he : e = .returned (.bool false) := he
      subst he
      go_wp2_with (refine wpList_load_want (by rfl) 38 (.tmp 5) rfl x15.heap.size 0 rfl [.int .i64 fe.term, .int .u8 fe.kind, .int .i64 fe.session, .int .i64 fe.seq, .int .u8 fe.ck, .string fe.text, .slice fe.aao fe.args.length fe.acap, .int .i64 fe.num, .slice fe.vao fe.vs.length fe.vcap] _ HRG.out Tryd.underlying38 rfl info_en ?_)
      have hte : fe.term = t.entry.term := congrArg EnP.term HFE.out
      refine (sameE_no fe (wrap64 (fe.term + 1)) x29 (by rw [hte]; exact wrap_succ (n64_of HW.out.entry.term))).mono ?_
      rintro e x30 ⟨rfl, hb⟩
      have c30 := c29.trans (hb.mono (HSZ.out _ c29))
      go_wp2_with fail
      go_ret
      exact ⟨rfl, HEND.out x30 c30⟩
theorem walk_WireBack {H : Type} {enc : TypeId × Value → H} {d : DataW H} {p : List MemPlace} (W : World) (cs : Array Value) (hc : cs.size = Tryd.prog.cellsOf 40) (h : DataW.Trod enc Tryd.prog W 0 (fun _ => true) true 40 (.agg cs) d p) (hz : DSized Tryd.prog 40 d) :
    Calls Tryd.prog 3 #[.agg cs] W fun e w' => e = .returned (.bool true) ∧ Below W.heap.size W w' := by
  obtain ⟨t, rfl, hx, hw⟩ := open_thing hc h hz
  exact walk_back W t _ rfl hx hw
end Go.Proofs.YtnfldkebjeigiaaDoor

