/- Entries of a letter, and what a letter is without what its kind has. Conditions: as each says. -/
import Derived.Test.YthdpfchbomaigaaDoorGLetterOne8
import Derived.Deep.DeepCutAuto
import Derived.Test.YthdpfchbomaigaaDoorGLetterOne3
import Derived.Test.YthdpfchbomaigaaDoorGLetterOne1
import Derived.Test.YthdpfchbomaigaaDoorGLetterOne0
import Derived.Test.YthdpfchbomaigaaDoorGLetterOne7
set_option linter.unusedVariables false
set_option linter.unusedSimpArgs false
namespace Go.Proofs.YthdpfchbomaigaaDoor
open Go.RowKit
set_option maxRecDepth 20000
theorem entriesR_take {es : List EnP} (h : es.all entryR = true) : entriesR es = decide (es.length ≤ 16) := by unfold entriesR; rw [h, Bool.true_and]
set_option maxHeartbeats 1000000 in
theorem lentries_any (ao : Option Addr) (n cap : Nat) (es : List En) (w : World) (B : Nat) (hn : es.length = n) (hx : EnsIn w B ao es) (hB : B ≤ w.heap.size) (hf : ∀ e ∈ es, EnFine e) (hl : n ≤ 4398046511104) (g : Bool) (hg : entriesR (es.map En.plain) = g) :
    Calls Tryd.prog 19 #[.slice ao n cap] w fun e w' => e = .returned (.bool g) ∧ Below w.heap.size w w' := by
  obtain ⟨P, hP⟩ := pair_of g
  rw [hP] at hg ⊢
  have HX := Lib.hid (hx.mono enSub_rising hB)
  have HN := Lib.hid hn
  have HF := Lib.hid hf
  have HG := Lib.hid hg
  clear hx hn hf hg hP
  go_enter Tryd.func19, Tryd.ntmps19
  go_wp2_with fail
  go_loopw [7] (fun i wr => ∃ k : Nat, k ≤ n ∧ i = .int .i64 k ∧ ((es.take k).map En.plain).all entryR = true ∧ Below w.heap.size w wr) (fun i _ => n - (intOf i).toNat)
  case atStart => exact ⟨0, by omega, rfl, rfl, Below.refl _ _⟩
  case round =>
    obtain ⟨k, hk, rfl, hall, hbel⟩ := hrel
    have HA := Lib.hid hall
    have hzr := hbel.size
    clear hall
    by_cases hlt : k < n
    · have i1 : (k : Int) < n := by omega
      have hkx : es[k]? = some (es[k]'(by rw [HN.out]; exact hlt)) := List.getElem?_eq_getElem _
      have htk : es.take (k + 1) = es.take k ++ [es[k]'(by rw [HN.out]; exact hlt)] := List.take_succ_eq_append_getElem _
      have hmem : (es[k]'(by rw [HN.out]; exact hlt)) ∈ es := List.getElem_mem _
      obtain ⟨b, off, hao, hb, hc, hsub⟩ := HX.out.at hkx
      generalize es[k]'(by rw [HN.out]; exact hlt) = x at hc hkx htk hmem hsub
      have hfx := HF.out x hmem
      obtain ⟨tm, kd, ss, sq, ck, text, aao, args, acap, num, vao, vs, vcap⟩ := x
      have c := fun (i : Nat) (h : i < 9) => (hbel.cell (p := ⟨b, off + k * 9 + i, none⟩) hb).trans (hc i h)
      have c0 : wr.cell? ⟨b, off + k * 9, none⟩ = some (.int .i64 tm) := c 0 (by decide)
      have c1 : wr.cell? ⟨b, off + k * 9 + 1, none⟩ = some (.int .u8 kd) := c 1 (by decide)
      have c2 : wr.cell? ⟨b, off + k * 9 + 2, none⟩ = some (.int .i64 ss) := c 2 (by decide)
      have c3 : wr.cell? ⟨b, off + k * 9 + 3, none⟩ = some (.int .i64 sq) := c 3 (by decide)
      have c4 : wr.cell? ⟨b, off + k * 9 + 4, none⟩ = some (.int .u8 ck) := c 4 (by decide)
      have c5 : wr.cell? ⟨b, off + k * 9 + 5, none⟩ = some (.string text) := c 5 (by decide)
      have c6 : wr.cell? ⟨b, off + k * 9 + 6, none⟩ = some (.slice aao args.length acap) := c 6 (by decide)
      have c7 : wr.cell? ⟨b, off + k * 9 + 7, none⟩ = some (.int .i64 num) := c 7 (by decide)
      have c8 : wr.cell? ⟨b, off + k * 9 + 8, none⟩ = some (.slice vao vs.length vcap) := c 8 (by decide)
      subst hao
      obtain ⟨nn, hnn⟩ : ∃ nn, args.length = nn := ⟨_, rfl⟩
      obtain ⟨mm, hmm⟩ : ∃ mm, vs.length = mm := ⟨_, rfl⟩
      rw [hnn] at c6
      rw [hmm] at c8
      have HNN := Lib.hid hnn
      have HMM := Lib.hid hmm
      have HFX := Lib.hid hfx
      have HSUB := Lib.hid hsub
      have HTK := Lib.hid htk
      have HMEM := Lib.hid hmem
      clear c hc hkx hmem hsub hfx htk hnn hmm
      go_wp2_with fail
      obtain ⟨Pe, hPe⟩ := pair_of (entryR ⟨tm, kd, ss, sq, ck, text, args, num, vs⟩)
      have HPE := Lib.hid hPe
      have hba := hbel.alloc hzr (.cells #[.int .i64 tm, .int .u8 kd, .int .i64 ss, .int .i64 sq, .int .u8 ck, .string text, .slice aao nn acap, .int .i64 num, .slice vao mm vcap] 47)
      have hsub := ((HSUB.out.1.below noSub_kept hba (Nat.le_refl _)).mono noSub_rising hba.size)
      have hsub2 := ((HSUB.out.2.below noSub_kept hba (Nat.le_refl _)).mono noSub_rising hba.size)
      clear hPe c0 c1 c2 c3 c4 c5 c6 c7 c8
      generalize wr.alloc (.cells #[.int .i64 tm, .int .u8 kd, .int .i64 ss, .int .i64 sq, .int .u8 ck, .string text, .slice aao nn acap, .int .i64 num, .slice vao mm vcap] 47) = w1 at hba hsub hsub2 ⊢
      refine (lentry_any tm kd ss sq ck text aao nn acap args num vao mm vcap vs w1 HNN.out HMM.out hsub hsub2 HFX.out.wf.ck HFX.out.wf.args HFX.out.text (by have h := HFX.out.args; rw [← HNN.out]; exact h) (by have h := HFX.out.vn; rw [← HMM.out]; exact h) HFX.out.argt HFX.out.size Pe.1 HPE.out).mono ?_
      rintro e w2 ⟨rfl, hb2⟩
      have HB2 := Lib.hid (hba.trans (hb2.mono hba.size))
      clear hba hb2 hsub hsub2
      cases hpe : Pe.1 with
      | true =>
        have HS := Lib.hid (show ((es.take (k + 1)).map En.plain).all entryR = true by
          rw [HTK.out, List.map_append, List.all_append, HA.out]
          have := HPE.out
          rw [hpe] at this
          simp [En.plain, this])
        clear hpe
        go_wp2_with fail
        go_roundw
        case rel => exact ⟨k + 1, by omega, by go_num, HS.out, HB2.out⟩
        case measure => simp [intOf] <;> omega
      | false =>
        have hf : P.1 = false := by
          rw [← HG.out]
          have h1 : (es.map En.plain).all entryR = false := by
            cases hh : (es.map En.plain).all entryR with
            | false => rfl
            | true =>
              have := List.all_eq_true.1 hh _ (List.mem_map_of_mem HMEM.out)
              have h2 := HPE.out
              rw [hpe] at h2
              rw [show En.plain ⟨tm, kd, ss, sq, ck, text, aao, args, acap, num, vao, vs, vcap⟩ = ⟨tm, kd, ss, sq, ck, text, args, num, vs⟩ from rfl, h2] at this
              cases this
          unfold entriesR
          rw [h1]
          rfl
        have HF2 := Lib.hid hf
        clear hpe hf
        go_wp2_with fail
        go_ret
        exact ⟨by rw [HF2.out]; rfl, HB2.out⟩
    · have i1 : ¬ (k : Int) < n := by omega
      obtain rfl : k = n := by omega
      have hfin : P.1 = decide (k ≤ 16) := by
        rw [← HG.out]
        have := HA.out
        rw [List.take_of_length_le (by rw [HN.out]; exact Nat.le_refl _)] at this
        rw [entriesR_take this, List.length_map, HN.out]
      have HF2 := Lib.hid hfin
      clear hfin
      by_cases h16 : k ≤ 16
      · have j1 : (k : Int) ≤ 16 := by omega
        go_wp2_with fail
        go_ret
        exact ⟨by rw [HF2.out]; simp [h16], hbel⟩
      · have j1 : ¬ (k : Int) ≤ 16 := by omega
        go_wp2_with fail
        go_ret
        exact ⟨by rw [HF2.out]; simp [h16], hbel⟩
/-- A letter without what its kind has, where it lies. -/
def leftT (l : Lt) : Lt × Bool :=
  if l.kind = 1 then ({ l with index := 0, was := 0 }, true)
  else if l.kind = 2 then ({ l with ok := false }, true)
  else if l.kind = 3 then ({ l with commit := 0, eo := none, es := [], ecap := 0, index := 0, was := 0, round := 0 }, true)
  else if l.kind = 5 then ({ l with was := 0, vo := none, vs := [], vcap := 0, io := none, im := [], icap := 0, index := 0, round := 0 }, true)
  else if l.kind = 4 then ({ l with ok := false, index := 0, round := 0 }, true)
  else if l.kind = 6 then ({ l with index := 0, round := 0 }, true)
  else (l, false)
theorem leftT_plain (l : Lt) : (leftT l).1.plain = (leftL l.plain).1 ∧ (leftT l).2 = (leftL l.plain).2 := by
  obtain ⟨k, f, t, tm, ix, ws, ok, cm, rd, eo, es, ec, vo, vs, vc, io, im, ic⟩ := l
  unfold leftT leftL Lt.plain
  dsimp only
  repeat' split
  all_goals first | exact ⟨rfl, rfl⟩ | (exfalso; omega) | simp_all
theorem results_cell_row_tmp {P : Program} {fn : Func} {p u : Tmp} {ty : TypeId} (h : fn.results = #[.cell p ty, .tmp u]) (tmps : Array Value) (w : World) (g : Nat) (t : TypeId) (cs : Array Value) (fr : Nat × Nat) (d : TypeDesc) (v : Value)
    (hp : tmps.getD p undef = .pointer (some ⟨g, 0, none⟩)) (hv : tmps.getD u undef = v) (hg : w.heap[g]? = some (.cells cs t fr))
    (hu : P.underlying ty = some d) (hd : (match d with | .struct _ | .array _ _ => true | _ => false) = true) (hi : (P.info? ty).map (·.size) = some cs.size) :
    (results fn tmps).run P w = .ok (.tuple #[.agg cs, v]) w := by
  rw [results_cell_tmp h, hp, hv]
  simp [asAddr, run_loadVar_row w g t ty cs fr d hg hu hd hi, Result.andThen]
theorem info_lt : (Tryd.prog.info? 27).map (·.size) = some 12 := by kernel_rfl
theorem left_end {f : Func} {w : World} {A B : Array Value} {b : Bool} {tmps : Array Value} (hf : f.results = #[.cell 2 27, .tmp 3]) (hA : B.size = 12) (h2 : tmps.getD 2 undef = .pointer (some ⟨w.heap.size + 1, 0, none⟩)) (h3 : tmps.getD 3 undef = .bool b) :
    bodyPost Tryd.prog f (fun e w' => e = .returned (.tuple #[.agg B, .bool b]) ∧ Below w.heap.size w w') .ret ⟨tmps, []⟩ ((w.alloc (.cells A 27)).alloc (.cells B 27)) := by
  have hk := heap_alloc_new (w.alloc (.cells A 27)) (.cells B 27)
  have hs : (w.alloc (.cells A 27)).heap.size = w.heap.size + 1 := by simp
  rw [hs] at hk
  exact bodyPost_ret (results_cell_row_tmp hf tmps _ (w.heap.size + 1) _ B _ _ _ h2 h3 hk Tryd.underlying27 rfl (by rw [info_lt, hA])) rfl ⟨rfl, ((Below.refl w.heap.size w).alloc (Nat.le_refl _) _).alloc (by simp) _⟩
set_option maxHeartbeats 4000000 in
theorem lleft_any (kd f t tm ix ws : Int) (ok : Bool) (cm rd : Int) (eo : Option Addr) (en ec : Nat) (vo : Option Addr) (vn vc : Nat) (io : Option Addr) (im ic : Nat) (w : World) (r : Value) (b : Bool)
    (hr : (if kd = 1 then (Value.agg #[.int .u8 kd, .int .i64 f, .int .i64 t, .int .i64 tm, .int .i64 0, .int .i64 0, .bool ok, .int .i64 cm, .int .i64 rd, .slice eo en ec, .slice vo vn vc, .slice io im ic], true)
      else if kd = 2 then (.agg #[.int .u8 kd, .int .i64 f, .int .i64 t, .int .i64 tm, .int .i64 ix, .int .i64 ws, .bool false, .int .i64 cm, .int .i64 rd, .slice eo en ec, .slice vo vn vc, .slice io im ic], true)
      else if kd = 3 then (.agg #[.int .u8 kd, .int .i64 f, .int .i64 t, .int .i64 tm, .int .i64 0, .int .i64 0, .bool ok, .int .i64 0, .int .i64 0, .slice none 0 0, .slice vo vn vc, .slice io im ic], true)
      else if kd = 5 then (.agg #[.int .u8 kd, .int .i64 f, .int .i64 t, .int .i64 tm, .int .i64 0, .int .i64 0, .bool ok, .int .i64 cm, .int .i64 0, .slice eo en ec, .slice none 0 0, .slice none 0 0], true)
      else if kd = 4 then (.agg #[.int .u8 kd, .int .i64 f, .int .i64 t, .int .i64 tm, .int .i64 0, .int .i64 ws, .bool false, .int .i64 cm, .int .i64 0, .slice eo en ec, .slice vo vn vc, .slice io im ic], true)
      else if kd = 6 then (.agg #[.int .u8 kd, .int .i64 f, .int .i64 t, .int .i64 tm, .int .i64 0, .int .i64 ws, .bool ok, .int .i64 cm, .int .i64 0, .slice eo en ec, .slice vo vn vc, .slice io im ic], true)
      else (.agg #[.int .u8 kd, .int .i64 f, .int .i64 t, .int .i64 tm, .int .i64 ix, .int .i64 ws, .bool ok, .int .i64 cm, .int .i64 rd, .slice eo en ec, .slice vo vn vc, .slice io im ic], false)) = (r, b)) :
    Calls Tryd.prog 21 #[.agg #[.int .u8 kd, .int .i64 f, .int .i64 t, .int .i64 tm, .int .i64 ix, .int .i64 ws, .bool ok, .int .i64 cm, .int .i64 rd, .slice eo en ec, .slice vo vn vc, .slice io im ic]] w fun e w' => e = .returned (.tuple #[r, .bool b]) ∧ Below w.heap.size w w' := by
  obtain ⟨OK, hOK⟩ := pair_of ok
  subst hOK
  go_enter Tryd.func21, Tryd.ntmps21
  by_cases h1 : kd = 1
  · subst h1
    first | rw [if_pos rfl] at hr | skip
    simp only [Prod.mk.injEq] at hr
    obtain ⟨rfl, rfl⟩ := hr
    go_wp2_with fail
    exact left_end rfl rfl rfl rfl
  · have k1 : decide (kd = 1) = false := decide_eq_false h1
    rw [if_neg h1] at hr
    by_cases h2 : kd = 2
    · subst h2
      first | rw [if_pos rfl] at hr | skip
      simp only [Prod.mk.injEq] at hr
      obtain ⟨rfl, rfl⟩ := hr
      go_wp2_with fail
      exact left_end rfl rfl rfl rfl
    · have k2 : decide (kd = 2) = false := decide_eq_false h2
      rw [if_neg h2] at hr
      by_cases h3 : kd = 3
      · subst h3
        first | rw [if_pos rfl] at hr | skip
        simp only [Prod.mk.injEq] at hr
        obtain ⟨rfl, rfl⟩ := hr
        go_wp2_with fail
        exact left_end rfl rfl rfl rfl
      · have k3 : decide (kd = 3) = false := decide_eq_false h3
        rw [if_neg h3] at hr
        by_cases h5 : kd = 5
        · subst h5
          first | rw [if_pos rfl] at hr | skip
          simp only [Prod.mk.injEq] at hr
          obtain ⟨rfl, rfl⟩ := hr
          go_wp2_with fail
          exact left_end rfl rfl rfl rfl
        · have k5 : decide (kd = 5) = false := decide_eq_false h5
          rw [if_neg h5] at hr
          by_cases h4 : kd = 4
          · subst h4
            first | rw [if_pos rfl] at hr | skip
            simp only [Prod.mk.injEq] at hr
            obtain ⟨rfl, rfl⟩ := hr
            go_wp2_with fail
            exact left_end rfl rfl rfl rfl
          · have k4 : decide (kd = 4) = false := decide_eq_false h4
            rw [if_neg h4] at hr
            by_cases h6 : kd = 6
            · subst h6
              first | rw [if_pos rfl] at hr | skip
              simp only [Prod.mk.injEq] at hr
              obtain ⟨rfl, rfl⟩ := hr
              go_wp2_with fail
              exact left_end rfl rfl rfl rfl
            · have k6 : decide (kd = 6) = false := decide_eq_false h6
              rw [if_neg h6] at hr
              simp only [Prod.mk.injEq] at hr
              obtain ⟨rfl, rfl⟩ := hr
              go_wp2_with fail
              exact left_end rfl rfl rfl rfl
end Go.Proofs.YthdpfchbomaigaaDoor
/- Right of letter. Conditions: the letter's parts are not too great. -/
namespace Go.Proofs.YthdpfchbomaigaaDoor
open Go.RowKit
set_option maxRecDepth 20000
theorem leftT_form (l : Lt) : (if l.kind = 1 then (Value.agg #[.int .u8 l.kind, .int .i64 l.fr, .int .i64 l.tov, .int .i64 l.term, .int .i64 0, .int .i64 0, .bool l.ok, .int .i64 l.commit, .int .i64 l.round, .slice l.eo l.es.length l.ecap, .slice l.vo l.vs.length l.vcap, .slice l.io l.im.length l.icap], true)
      else if l.kind = 2 then (.agg #[.int .u8 l.kind, .int .i64 l.fr, .int .i64 l.tov, .int .i64 l.term, .int .i64 l.index, .int .i64 l.was, .bool false, .int .i64 l.commit, .int .i64 l.round, .slice l.eo l.es.length l.ecap, .slice l.vo l.vs.length l.vcap, .slice l.io l.im.length l.icap], true)
      else if l.kind = 3 then (.agg #[.int .u8 l.kind, .int .i64 l.fr, .int .i64 l.tov, .int .i64 l.term, .int .i64 0, .int .i64 0, .bool l.ok, .int .i64 0, .int .i64 0, .slice none 0 0, .slice l.vo l.vs.length l.vcap, .slice l.io l.im.length l.icap], true)
      else if l.kind = 5 then (.agg #[.int .u8 l.kind, .int .i64 l.fr, .int .i64 l.tov, .int .i64 l.term, .int .i64 0, .int .i64 0, .bool l.ok, .int .i64 l.commit, .int .i64 0, .slice l.eo l.es.length l.ecap, .slice none 0 0, .slice none 0 0], true)
      else if l.kind = 4 then (.agg #[.int .u8 l.kind, .int .i64 l.fr, .int .i64 l.tov, .int .i64 l.term, .int .i64 0, .int .i64 l.was, .bool false, .int .i64 l.commit, .int .i64 0, .slice l.eo l.es.length l.ecap, .slice l.vo l.vs.length l.vcap, .slice l.io l.im.length l.icap], true)
      else if l.kind = 6 then (.agg #[.int .u8 l.kind, .int .i64 l.fr, .int .i64 l.tov, .int .i64 l.term, .int .i64 0, .int .i64 l.was, .bool l.ok, .int .i64 l.commit, .int .i64 0, .slice l.eo l.es.length l.ecap, .slice l.vo l.vs.length l.vcap, .slice l.io l.im.length l.icap], true)
      else (.agg #[.int .u8 l.kind, .int .i64 l.fr, .int .i64 l.tov, .int .i64 l.term, .int .i64 l.index, .int .i64 l.was, .bool l.ok, .int .i64 l.commit, .int .i64 l.round, .slice l.eo l.es.length l.ecap, .slice l.vo l.vs.length l.vcap, .slice l.io l.im.length l.icap], false)) = (ltVal (leftT l).1, (leftT l).2) := by
  unfold leftT
  repeat' split
  all_goals rfl
def numsOk (l : LtP) : Bool := [l.term, l.was, l.index, l.commit, l.round].all withinN
/-- What a letter must meet, its kind aside. -/
def partsOk (l : LtP) : Bool := numsOk l && (entriesR l.es && (decide (l.vs.length = 0) || votersB l.vs))
theorem rightL_eq {l : LtP} (h : 1 ≤ l.fr ∧ l.fr ≤ 9 ∧ 1 ≤ l.tov ∧ l.tov ≤ 9) : rightL l = (partsOk l && ((leftL l).2 && noneL (leftL l).1)) := by
  unfold rightL
  rw [if_neg (by omega)]
  show (if partsOk l = false then false else _) = _
  cases partsOk l <;> rfl
theorem rightL_no {l : LtP} (h : l.fr < 1 ∨ 9 < l.fr ∨ l.tov < 1 ∨ 9 < l.tov) : rightL l = false := by
  unfold rightL
  rw [if_pos h]
set_option maxHeartbeats 8000000 in
theorem lright_any (l : Lt) (w : World) (hx : ltSub w w.heap.size l) (hf : LtFine l) (g : Bool) (hg : rightL l.plain = g) :
    Calls Tryd.prog 8 #[ltVal l] w fun e w' => e = .returned (.bool g) ∧ Below w.heap.size w w' := by
  obtain ⟨P, hP⟩ := pair_of g
  rw [hP] at hg ⊢
  have HLF := Lib.hid (leftT_form l)
  have HLP := Lib.hid (leftT_plain l)
  obtain ⟨x, hxx⟩ : ∃ x, (leftT l).1 = x := ⟨_, rfl⟩
  obtain ⟨B, hB⟩ := pair_of (leftT l).2
  rw [hxx, hB] at HLF HLP
  have HG := Lib.hid hg
  have HX := Lib.hid hx
  have HFN := Lib.hid hf
  clear hx hf hg hxx hB hP
  obtain ⟨kd, f, t, tm, ix, ws, ok, cm, rd, eo, es, ec, vo, vs, vc, io, ib, ic⟩ := l
  obtain ⟨OK, hOK⟩ := pair_of ok
  subst hOK
  obtain ⟨en, hen⟩ : ∃ en, es.length = en := ⟨_, rfl⟩
  obtain ⟨vn, hvn⟩ : ∃ vn, vs.length = vn := ⟨_, rfl⟩
  obtain ⟨im, him⟩ : ∃ im, ib.length = im := ⟨_, rfl⟩
  have hval : ltVal ⟨kd, f, t, tm, ix, ws, OK.1, cm, rd, eo, es, ec, vo, vs, vc, io, ib, ic⟩ = .agg #[.int .u8 kd, .int .i64 f, .int .i64 t, .int .i64 tm, .int .i64 ix, .int .i64 ws, .bool OK.1, .int .i64 cm, .int .i64 rd, .slice eo en ec, .slice vo vn vc, .slice io im ic] := by rw [← hen, ← hvn, ← him]; rfl
  rw [hval]
  have hlf := HLF.out
  dsimp only at hlf
  rw [hen, hvn, him] at hlf
  have HLF2 := Lib.hid hlf
  have HEN := Lib.hid hen
  have HVN := Lib.hid hvn
  have HIM := Lib.hid him
  obtain ⟨C, hC⟩ := pair_of (!partsOk (Lt.plain ⟨kd, f, t, tm, ix, ws, OK.1, cm, rd, eo, es, ec, vo, vs, vc, io, ib, ic⟩))
  have HC := Lib.hid hC
  have hbx := (Below.refl w.heap.size w).alloc (Nat.le_refl _) (.cells #[.int .u8 kd, .int .i64 f, .int .i64 t, .int .i64 tm, .int .i64 ix, .int .i64 ws, .bool OK.1, .int .i64 cm, .int .i64 rd, .slice eo en ec, .slice vo vn vc, .slice io im ic] 27)
  have hkx := heap_alloc_new w (.cells #[.int .u8 kd, .int .i64 f, .int .i64 t, .int .i64 tm, .int .i64 ix, .int .i64 ws, .bool OK.1, .int .i64 cm, .int .i64 rd, .slice eo en ec, .slice vo vn vc, .slice io im ic] 27)
  have hs0 : (w.alloc (.cells #[.int .u8 kd, .int .i64 f, .int .i64 t, .int .i64 tm, .int .i64 ix, .int .i64 ws, .bool OK.1, .int .i64 cm, .int .i64 rd, .slice eo en ec, .slice vo vn vc, .slice io im ic] 27)).heap.size = w.heap.size + 1 := by simp
  have HBX := Lib.hid hbx
  have HKX := Lib.hid hkx
  have HS0 := Lib.hid hs0
  clear hen hvn him hC hbx hkx hs0 hval hlf HLF
  go_enter Tryd.func8, Tryd.ntmps8
  by_cases f1 : f < 1
  · have hno := Lib.hid (show P.1 = false by rw [← HG.out]; exact rightL_no (Or.inl f1))
    go_wp2_with fail
    go_ret
    exact ⟨by rw [hno.out]; rfl, HBX.out⟩
  by_cases f2 : 9 < f
  · have hno := Lib.hid (show P.1 = false by rw [← HG.out]; exact rightL_no (Or.inr (Or.inl f2)))
    go_wp2_with fail
    go_ret
    exact ⟨by rw [hno.out]; rfl, HBX.out⟩
  by_cases t1 : t < 1
  · have hno := Lib.hid (show P.1 = false by rw [← HG.out]; exact rightL_no (Or.inr (Or.inr (Or.inl t1))))
    go_wp2_with fail
    go_ret
    exact ⟨by rw [hno.out]; rfl, HBX.out⟩
  by_cases t2 : 9 < t
  · have hno := Lib.hid (show P.1 = false by rw [← HG.out]; exact rightL_no (Or.inr (Or.inr (Or.inr t2))))
    go_wp2_with fail
    go_ret
    exact ⟨by rw [hno.out]; rfl, HBX.out⟩
  have HG2 := Lib.hid (HG.out.symm.trans (rightL_eq (show 1 ≤ f ∧ f ≤ 9 ∧ 1 ≤ t ∧ t ≤ 9 by omega)))
  go_upto_region 3 with fail
  have hbx := HBX.out
  have hkx := HKX.out
  have hs0 := HS0.out
  clear HBX HKX HS0 HG
  generalize w.alloc (.cells #[.int .u8 kd, .int .i64 f, .int .i64 t, .int .i64 tm, .int .i64 ix, .int .i64 ws, .bool OK.1, .int .i64 cm, .int .i64 rd, .slice eo en ec, .slice vo vn vc, .slice io im ic] 27) = w0 at hbx hkx hs0 ⊢
  have HCC := Lib.hid (fun w' (h : Below (w.heap.size + 1) w0 w') (i : Nat) => (h.cell (p := ⟨w.heap.size, i, none⟩) (Nat.lt_succ_self _)).trans (Go.Joins.cell_of_block hkx i))
  have hz0 : w.heap.size + 1 ≤ w0.heap.size := Nat.le_of_eq hs0.symm
  clear hkx hs0
  go_cut [53] (fun c wq => c = .bool C.1 ∧ w.heap.size + 1 ≤ wq.heap.size ∧ Below (w.heap.size + 1) w0 wq)
  case first =>
    have hb0 := Below.refl (w.heap.size + 1) w0
    have c3 : w0.cell? ⟨w.heap.size, 3, none⟩ = some (.int .i64 tm) := HCC.out _ hb0 3
    have c4 : w0.cell? ⟨w.heap.size, 4, none⟩ = some (.int .i64 ix) := HCC.out _ hb0 4
    have c5 : w0.cell? ⟨w.heap.size, 5, none⟩ = some (.int .i64 ws) := HCC.out _ hb0 5
    have c7 : w0.cell? ⟨w.heap.size, 7, none⟩ = some (.int .i64 cm) := HCC.out _ hb0 7
    have c8 : w0.cell? ⟨w.heap.size, 8, none⟩ = some (.int .i64 rd) := HCC.out _ hb0 8
    have hba := (Below.refl w0.heap.size w0).alloc (Nat.le_refl _) (.cells #[.int .i64 tm, .int .i64 ws, .int .i64 ix, .int .i64 cm, .int .i64 rd] 3)
    have HBA := Lib.hid hba
    clear hba hb0
    go_wp2_with fail
    obtain ⟨PW, hPW⟩ := pair_of ([tm, ws, ix, cm, rd].all withinN)
    have HPW := Lib.hid hPW
    refine (lwithin_any (some ⟨w0.heap.size, 0, none⟩) 5 5 [tm, ws, ix, cm, rd] (w0.alloc (.cells #[.int .i64 tm, .int .i64 ws, .int .i64 ix, .int .i64 cm, .int .i64 rd] 3)) (w0.heap.size + 1) rfl (nums_new w0 [tm, ws, ix, cm, rd] _ rfl) (by decide) PW.1 hPW).mono ?_
    clear hPW c3 c4 c5 c7 c8
    rintro e wz ⟨rfl, rfl⟩
    have hbz := (Below.refl (w.heap.size + 1) w0).trans (HBA.out.mono (by omega))
    have hsz : w.heap.size + 1 ≤ (w0.alloc (.cells #[.int .i64 tm, .int .i64 ws, .int .i64 ix, .int .i64 cm, .int .i64 rd] 3)).heap.size := by simp; omega
    clear HBA
    generalize w0.alloc (.cells #[.int .i64 tm, .int .i64 ws, .int .i64 ix, .int .i64 cm, .int .i64 rd] 3) = wz at hbz hsz ⊢
    cases hpw : PW.1 with
    | false =>
      have hcc := Lib.hid (show C.1 = true by
        rw [← HC.out]
        have h1 := HPW.out
        rw [hpw] at h1
        unfold partsOk numsOk Lt.plain
        dsimp only
        rw [h1]
        rfl)
      clear hpw
      go_wp2_with fail
      go_meet
      exact ⟨by first | rfl | rw [hcc.out], hsz, hbz⟩
    | true =>
      have hn1 := Lib.hid (show numsOk (Lt.plain ⟨kd, f, t, tm, ix, ws, OK.1, cm, rd, eo, es, ec, vo, vs, vc, io, ib, ic⟩) = true by
        have h1 := HPW.out
        rw [hpw] at h1
        exact h1)
      have c9 : wz.cell? ⟨w.heap.size, 9, none⟩ = some (.slice eo en ec) := HCC.out _ hbz 9
      clear hpw
      go_wp2_with fail
      obtain ⟨PE, hPE⟩ := pair_of (entriesR (es.map En.plain))
      have HPE := Lib.hid hPE
      refine (lentries_any eo en ec es wz w.heap.size HEN.out (HX.out.1.below enSub_kept (hbx.trans (hbz.mono (Nat.le_succ _))) (Nat.le_refl _)) (by omega) HFN.out.es (by have := HFN.out.en; rw [← HEN.out]; dsimp only at this; omega) PE.1 hPE).mono ?_
      clear hPE c9
      rintro e wy ⟨rfl, hby⟩
      have hbz2 := hbz.trans (hby.mono hsz)
      have hsy := Nat.le_trans hsz hby.size
      clear hby hbz hsz
      cases hpe : PE.1 with
      | false =>
        have hcc := Lib.hid (show C.1 = true by
          rw [← HC.out]
          have h1 := HPE.out
          rw [hpe] at h1
          unfold partsOk
          rw [hn1.out]
          unfold Lt.plain
          dsimp only
          rw [h1]
          rfl)
        clear hpe
        go_wp2_with fail
        go_meet
        exact ⟨by first | rfl | rw [hcc.out], hsy, hbz2⟩
      | true =>
        have c10 : wy.cell? ⟨w.heap.size, 10, none⟩ = some (.slice vo vn vc) := HCC.out _ hbz2 10
        have hcv := Lib.hid (show C.1 = !(decide (vn = 0) || votersB vs) by
          rw [← HC.out, ← HVN.out]
          have h1 := HPE.out
          rw [hpe] at h1
          unfold partsOk
          rw [hn1.out]
          unfold Lt.plain
          dsimp only
          rw [h1]
          rfl)
        clear hpe
        by_cases hv0 : vn = 0
        · have hcc := Lib.hid (show C.1 = false by rw [hcv.out]; simp [hv0])
          subst hv0
          go_wp2_with fail
          go_meet
          exact ⟨by first | rfl | rw [hcc.out], hsy, hbz2⟩
        · have j1 : (0 : Int) < vn := by omega
          have j2 : decide ((0 : Int) < vn) = true := decide_eq_true j1
          have j3 : 0 < vn := by omega
          obtain ⟨PV, hPV⟩ := pair_of (votersB vs)
          have HPV := Lib.hid hPV
          have hcc := Lib.hid (show C.1 = !PV.1 by rw [hcv.out, ← hPV]; simp [hv0])
          clear hPV
          go_wp2_with fail
          refine (lvoters_any vo vn vc vs wy w.heap.size HVN.out (HX.out.2.1.below noSub_kept (hbx.trans (hbz2.mono (Nat.le_succ _))) (Nat.le_refl _)) (by have := HFN.out.vn; rw [← HVN.out]; dsimp only at this; omega) PV.1 HPV.out).mono ?_
          rintro e wv ⟨rfl, rfl⟩
          cases hpv : PV.1 with
          | false =>
            rw [hpv] at hcc
            clear hpv
            go_wp2_with fail
            go_meet
            exact ⟨by first | rfl | (rw [hcc.out]; rfl), hsy, hbz2⟩
          | true =>
            rw [hpv] at hcc
            clear hpv
            go_wp2_with fail
            go_meet
            exact ⟨by first | rfl | (rw [hcc.out]; rfl), hsy, hbz2⟩
  case rest =>
    obtain ⟨rfl, hsq, hbq⟩ := hcut
    cases hc1 : C.1 with
    | true =>
      have hno := Lib.hid (show P.1 = false by
        have h1 := HC.out
        rw [hc1] at h1
        rw [HG2.out]
        have h2 : partsOk (Lt.plain ⟨kd, f, t, tm, ix, ws, OK.1, cm, rd, eo, es, ec, vo, vs, vc, io, ib, ic⟩) = false := by simpa using h1
        rw [h2]
        rfl)
      clear hc1
      go_wp2_with fail
      go_ret
      exact ⟨by rw [hno.out]; rfl, hbx.trans (hbq.mono (Nat.le_succ _))⟩
    | false =>
      have c0 : wc.cell? ⟨w.heap.size, 0, none⟩ = some (.int .u8 kd) := HCC.out _ hbq 0
      have c1 : wc.cell? ⟨w.heap.size, 1, none⟩ = some (.int .i64 f) := HCC.out _ hbq 1
      have c2 : wc.cell? ⟨w.heap.size, 2, none⟩ = some (.int .i64 t) := HCC.out _ hbq 2
      have c3 : wc.cell? ⟨w.heap.size, 3, none⟩ = some (.int .i64 tm) := HCC.out _ hbq 3
      have c4 : wc.cell? ⟨w.heap.size, 4, none⟩ = some (.int .i64 ix) := HCC.out _ hbq 4
      have c5 : wc.cell? ⟨w.heap.size, 5, none⟩ = some (.int .i64 ws) := HCC.out _ hbq 5
      have c6 : wc.cell? ⟨w.heap.size, 6, none⟩ = some (.bool OK.1) := HCC.out _ hbq 6
      have c7 : wc.cell? ⟨w.heap.size, 7, none⟩ = some (.int .i64 cm) := HCC.out _ hbq 7
      have c8 : wc.cell? ⟨w.heap.size, 8, none⟩ = some (.int .i64 rd) := HCC.out _ hbq 8
      have c9 : wc.cell? ⟨w.heap.size, 9, none⟩ = some (.slice eo en ec) := HCC.out _ hbq 9
      have c10 : wc.cell? ⟨w.heap.size, 10, none⟩ = some (.slice vo vn vc) := HCC.out _ hbq 10
      have c11 : wc.cell? ⟨w.heap.size, 11, none⟩ = some (.slice io im ic) := HCC.out _ hbq 11
      have HP2 := Lib.hid (show P.1 = (B.1 && noneL x.plain) by
        have h1 := HC.out
        rw [hc1] at h1
        have h2 : partsOk (Lt.plain ⟨kd, f, t, tm, ix, ws, OK.1, cm, rd, eo, es, ec, vo, vs, vc, io, ib, ic⟩) = true := by simpa using h1
        rw [HG2.out, h2, HLP.out.1, HLP.out.2]
        rfl)
      clear hc1
      go_wp2_with fail
      refine (lleft_any kd f t tm ix ws OK.1 cm rd eo en ec vo vn vc io im ic wc _ _ HLF2.out).mono ?_
      rintro e w2 ⟨rfl, hb2⟩
      have hb3 := Lib.hid ((hbx.trans (hbq.mono (Nat.le_succ _))).trans (hb2.mono (by omega)))
      have hs2 := hb2.size
      clear hb2 c0 c1 c2 c3 c4 c5 c6 c7 c8 c9 c10 c11 HX HFN HG2 HC HCC HLP HLF2 hbq HEN HVN HIM
      obtain ⟨xk, xf, xt, xtm, xi, xw, xo, xc, xr, xeo, xes, xec, xvo, xvs, xvc, xio, xib, xic⟩ := x
      obtain ⟨XO, hXO⟩ := pair_of xo
      subst hXO
      obtain ⟨xe, hxe⟩ : ∃ xe, xes.length = xe := ⟨_, rfl⟩
      obtain ⟨xv, hxv⟩ : ∃ xv, xvs.length = xv := ⟨_, rfl⟩
      obtain ⟨xm, hxm⟩ : ∃ xm, xib.length = xm := ⟨_, rfl⟩
      have HP := Lib.hid (show P.1 = (B.1 && (decide (xi = 0) && (decide (xw = 0) && (!XO.1 && (decide (xc = 0) && (decide (xr = 0) && (decide (xe = 0) && (decide (xv = 0) && decide (xm = 0))))))))) by
        rw [HP2.out, ← hxe, ← hxv, ← hxm]
        unfold noneL Lt.plain
        dsimp only
        rw [List.length_map])
      clear HP2
      simp only [ltVal]
      rw [hxe, hxv, hxm]
      clear hxe hxv hxm
      have hb4 := Lib.hid (hb3.out.trans (((Below.refl w2.heap.size w2).alloc (Nat.le_refl _) (.cells #[.int .u8 xk, .int .i64 xf, .int .i64 xt, .int .i64 xtm, .int .i64 xi, .int .i64 xw, .bool XO.1, .int .i64 xc, .int .i64 xr, .slice xeo xe xec, .slice xvo xv xvc, .slice xio xm xic] 27)).mono (by omega)))
      clear hb3
      cases hB1 : B.1 with
      | false =>
        rw [hB1] at HP
        clear hB1
        have hno := Lib.hid (show P.1 = false by rw [HP.out]; rfl)
        go_wp2_with fail
        go_ret
        exact ⟨by rw [hno.out]; rfl, hb4.out⟩
      | true =>
      rw [hB1] at HP
      clear hB1
      by_cases hxi : xi = 0
      rotate_left
      · have j2 : decide (xi = 0) = false := decide_eq_false hxi
        have hno := Lib.hid (show P.1 = false by rw [HP.out]; simp [hxi])
        go_wp2_with fail
        go_ret
        exact ⟨by rw [hno.out]; rfl, hb4.out⟩
      subst hxi
      by_cases hxw : xw = 0
      rotate_left
      · have j2 : decide (xw = 0) = false := decide_eq_false hxw
        have hno := Lib.hid (show P.1 = false by rw [HP.out]; simp [hxw])
        go_wp2_with fail
        go_ret
        exact ⟨by rw [hno.out]; rfl, hb4.out⟩
      subst hxw
      cases hXO : XO.1 with
      | true =>
        rw [hXO] at hb4
        have hno := Lib.hid (show P.1 = false by rw [HP.out, hXO]; simp)
        clear hXO
        go_wp2_with fail
        go_ret
        exact ⟨by rw [hno.out]; rfl, hb4.out⟩
      | false =>
      rw [hXO] at HP hb4
      clear hXO
      by_cases hxc : xc = 0
      rotate_left
      · have j2 : decide (xc = 0) = false := decide_eq_false hxc
        have hno := Lib.hid (show P.1 = false by rw [HP.out]; simp [hxc])
        go_wp2_with fail
        go_ret
        exact ⟨by rw [hno.out]; rfl, hb4.out⟩
      subst hxc
      by_cases hxr : xr = 0
      rotate_left
      · have j2 : decide (xr = 0) = false := decide_eq_false hxr
        have hno := Lib.hid (show P.1 = false by rw [HP.out]; simp [hxr])
        go_wp2_with fail
        go_ret
        exact ⟨by rw [hno.out]; rfl, hb4.out⟩
      subst hxr
      by_cases hxe : xe = 0
      rotate_left
      · have j1 : ¬ (xe : Int) = 0 := by omega
        have j2 : decide ((xe : Int) = 0) = false := decide_eq_false j1
        have j3 : ((xe : Int) == 0) = false := by simpa using hxe
        have hno := Lib.hid (show P.1 = false by rw [HP.out]; simp [hxe])
        go_wp2_with fail
        go_ret
        exact ⟨by rw [hno.out]; rfl, hb4.out⟩
      subst hxe
      by_cases hxv : xv = 0
      rotate_left
      · have j1 : ¬ (xv : Int) = 0 := by omega
        have j2 : decide ((xv : Int) = 0) = false := decide_eq_false j1
        have j3 : ((xv : Int) == 0) = false := by simpa using hxv
        have hno := Lib.hid (show P.1 = false by rw [HP.out]; simp [hxv])
        go_wp2_with fail
        go_ret
        exact ⟨by rw [hno.out]; rfl, hb4.out⟩
      subst hxv
      by_cases hxm : xm = 0
      rotate_left
      · have j1 : ¬ (xm : Int) = 0 := by omega
        have j2 : decide ((xm : Int) = 0) = false := decide_eq_false j1
        have j3 : ((xm : Int) == 0) = false := by simpa using hxm
        have hno := Lib.hid (show P.1 = false by rw [HP.out]; simp [hxm])
        go_wp2_with fail
        go_ret
        exact ⟨by rw [hno.out]; rfl, hb4.out⟩
      subst hxm
      have hyes := Lib.hid (show P.1 = true by rw [HP.out]; rfl)
      go_wp2_with fail
      go_ret
      exact ⟨by rw [hyes.out]; rfl, hb4.out⟩
end Go.Proofs.YthdpfchbomaigaaDoor
/- Bytes of a call's own, and an append to them. Conditions: as each says. -/
namespace Go.Proofs.YthdpfchbomaigaaDoor
open Go.RowKit
set_option maxRecDepth 20000
/-- Bytes of a call's own. -/
structure BOwn (w : World) (base : Nat) (a : Option Addr) (n c : Nat) (L : List Int) : Prop where
  len : L.length = n
  row : w.ownsRow base 5 1 (.slice a n c) n (L.map bv)
theorem BOwn.below {w w' : World} {base n c B : Nat} {a : Option Addr} {L : List Int} (h : BOwn w base a n c L) (hb : Below B w w') (hB : w.heap.size ≤ B) : BOwn w' base a n c L := ⟨h.len, own_below h.row hb hB⟩
theorem BOwn.in {w : World} {base n c : Nat} {a : Option Addr} {L : List Int} (h : BOwn w base a n c L) : BytesIn w w.heap.size a L := own_in h.len h.row
theorem BOwn.nil {w : World} {base n c : Nat} {a : Option Addr} {L : List Int} (h : BOwn w base a n c L) : a = none → c = 0 := by
  intro ha
  rcases Go.Joins.ownsRow_forms h.row with ⟨h1, _⟩ | ⟨g, c', h1⟩
  · cases h1; rfl
  · rw [ha] at h1; cases h1
theorem BOwn.lt {w : World} {base n c : Nat} {a : Option Addr} {L : List Int} (h : BOwn w base a n c L) : ∀ g, (Value.slice a n c).ownBlock = some g → base ≤ g ∧ g < w.heap.size := fun g hg => World.ownsRow.lt h.row g hg
theorem BOwn.lit (w : World) (xs : List Int) (h : xs.length ≤ 1000) : BOwn (w.alloc (.cells (xs.map bv).toArray 5)) w.heap.size (some ⟨w.heap.size, 0, none⟩) xs.length xs.length xs :=
  ⟨rfl, by have h2 : xs.length ≤ maxLen := by (unfold maxLen; omega)
           exact World.ownsRow_lit w (base := w.heap.size) (e := 5) (size := 1) (xs.map bv).toArray xs.length (Nat.le_refl _) h2 (by simp)⟩
def RNew (L : List Int) (w : World) (e : Ending) (w' : World) : Prop := ∃ a n c, e = .returned (.slice a n c) ∧ BOwn w' w.heap.size a n c L ∧ Below w.heap.size w w'
theorem wpList_append_bo {w : World} {ops : Array Oper} {rest : List Oper} {o : Oper} {a : Act} {Q : Exit → Act → World → Prop} (hgd : o.guard = none) (s x : Operand)
    (ho : o.op = .call { callee := .builtin .append, args := #[s, x], argTypes := #[25, 25] })
    (base : Nat) {a1 : Option Addr} {n1 c1 : Nat} {L1 : List Int} (hs : a.eval s = .slice a1 n1 c1) (hown : BOwn w base a1 n1 c1 L1)
    {ao : Option Addr} {n cap : Nat} {xs : List Int} (hx : a.eval x = .slice ao n cap) (hn : xs.length = n) (B : Nat) (hin : BytesIn w B ao xs) (hao : ao = none → cap = 0) (hlim : n1 + n ≤ 140737488351232) (hbase : base ≤ w.heap.size)
    (h : ∀ a2 n2 c2 w', BOwn w' base a2 n2 c2 (L1 ++ xs) → w.grownBy w' (Value.slice a1 n1 c1).ownBlock → n2 = n1 + n → wpList Tryd.prog ops Q rest (a.put o.dst (.slice a2 n2 c2)) w') : wpList Tryd.prog ops Q (o :: rest) a w := by
  obtain ⟨rfl, hrow⟩ := hown
  subst hn
  refine wpList_append_bytes hgd s x ho base _ L1 hs hrow ao cap xs hx B hin hao hlim hbase fun v' w' h1 h2 => ?_
  obtain ⟨a2, c2, rfl⟩ := row_slice h1
  exact h a2 _ c2 w' ⟨rfl, h1⟩ h2 (by rw [List.length_append])
end Go.Proofs.YthdpfchbomaigaaDoor
/- Counts and numbers of letters, as bytes. Conditions: as each says. -/
namespace Go.Proofs.YthdpfchbomaigaaDoor
open Go.RowKit
set_option maxRecDepth 20000
theorem numB4 (n : Nat) (h : n < 4294967296) : numB 4 (n : Int) = [(n : Int) / 16777216 % 256, (n : Int) / 65536 % 256, (n : Int) / 256 % 256, (n : Int) % 256] := by
  unfold numB
  simp only [List.range, List.range.loop, List.map_cons, List.map_nil]
  have e0 : (2 : Int) ^ (8 * (4 - 1 - 0)) = 16777216 := by decide
  have e1 : (2 : Int) ^ (8 * (4 - 1 - 1)) = 65536 := by decide
  have e2 : (2 : Int) ^ (8 * (4 - 1 - 2)) = 256 := by decide
  have e3 : (2 : Int) ^ (8 * (4 - 1 - 3)) = 1 := by decide
  rw [e0, e1, e2, e3, Int.ediv_one]
theorem lcount_any (n : Nat) (L : List Int) (w : World) (hL : numB 4 (n : Int) = L) (hn : n ≤ 2000000000) :
    Calls Tryd.prog 15 #[.int .i64 (n : Int)] w (RNew L w) := by
  have hl : L = [(n : Int) / 16777216, (n : Int) / 65536 % 256, (n : Int) / 256 % 256, (n : Int) % 256] := by
    have e : (n : Int) / 16777216 % 256 = (n : Int) / 16777216 := by omega
    rw [← hL, numB4 n (by omega), e]
  have HL := Lib.hid hl
  clear hl hL
  go_enter Tryd.func15, Tryd.ntmps15
  go_wp2_with fail
  go_ret
  have ho := BOwn.lit w [(n : Int) / 16777216, (n : Int) / 65536 % 256, (n : Int) / 256 % 256, (n : Int) % 256] (by simp)
  rw [← HL.out] at ho
  have h4 : L.length = 4 := by rw [HL.out]; rfl
  rw [h4] at ho
  refine ⟨some ⟨w.heap.size, 0, none⟩, 4, 4, rfl, ?_, (Below.refl _ _).alloc (Nat.le_refl _) _⟩
  rw [HL.out] at ho ⊢
  exact ho
theorem lnumbers_any (ao : Option Addr) (n cap : Nat) (xs : List Int) (L : List Int) (w : World) (B : Nat) (hL : xs.flatMap (numB 8) = L) (hn : xs.length = n) (hx : NumsIn w B ao xs) (hB : B ≤ w.heap.size) (hl : n ≤ 1000000) :
    Calls Tryd.prog 14 #[.slice ao n cap] w (RNew L w) := by
  have HX := Lib.hid (hx.mono noSub_rising hB)
  have HN := Lib.hid hn
  have HL := Lib.hid hL
  clear hx hn hL
  go_enter Tryd.func14, Tryd.ntmps14
  go_wp2_with fail
  go_loopw [3, 8] (fun v i wr => ∃ (k : Nat) (a : Option Addr) (c : Nat), k ≤ n ∧ i = .int .i64 k ∧ v = .slice a (8 * k) c ∧ BOwn wr w.heap.size a (8 * k) c ((xs.take k).flatMap (numB 8)) ∧ Below w.heap.size w wr) (fun _ i _ => n - (intOf i).toNat)
  case atStart => exact ⟨0, none, 0, by omega, rfl, rfl, ⟨rfl, World.ownsRow_nil _ _ _ _⟩, Below.refl _ _⟩
  case round =>
    obtain ⟨k, a, c, hk, rfl, rfl, hown, hbel⟩ := hrel
    have HO := Lib.hid hown
    have hsz := hbel.size
    clear hown
    by_cases hlt : k < n
    · have i1 : (k : Int) < n := by omega
      have hkx : xs[k]? = some (xs[k]'(by rw [HN.out]; exact hlt)) := List.getElem?_eq_getElem _
      have htk : xs.take (k + 1) = xs.take k ++ [xs[k]'(by rw [HN.out]; exact hlt)] := List.take_succ_eq_append_getElem _
      obtain ⟨b, off, hao, hb, hc, _⟩ := HX.out.at hkx
      generalize xs[k]'(by rw [HN.out]; exact hlt) = x at hc hkx htk
      have c0 : wr.cell? ⟨b, off + k, none⟩ = some (.int .i64 x) := by
        have := hc 0 (by decide)
        rw [Nat.mul_one, Nat.add_zero] at this
        exact (hbel.cell (p := ⟨b, _, none⟩) hb).trans this
      subst hao
      have HT := Lib.hid htk
      obtain ⟨m, hm⟩ : ∃ m, 8 * k = m := ⟨_, rfl⟩
      have HM := Lib.hid hm
      rw [hm] at HO ⊢
      clear hc hkx htk hm
      go_wp2_with fail
      refine (number_w x _ wr rfl).mono ?_
      rintro e w2 ⟨a1, c1, rfl, ho1, hb1⟩
      have HO1 := Lib.hid ho1
      have hb2 := hbel.trans (hb1.mono hsz)
      have hz1 := hb1.size
      clear ho1 c0
      go_wp2_with (at_builtin; refine wpList_append_bo rfl (.tmp 12) (.tmp 14) rfl w.heap.size rfl (HO.out.below hb1 (Nat.le_refl _)) rfl rfl _ (own_bytes' HO1.out) (own_none HO1.out) (by have := HM.out; rw [numB_len]; omega) (by omega) ?_)
      intro a2 n2 c2 w3 hown hg hn2
      have hb3 := hb2.grown hg (by omega) (fun k hk => (HO.out.lt k hk).1)
      have hn3 : n2 = 8 * (k + 1) := by rw [hn2, numB_len, ← HM.out]; omega
      subst hn3
      have HO2 := Lib.hid (show BOwn w3 w.heap.size a2 (8 * (k + 1)) c2 ((xs.take (k + 1)).flatMap (numB 8)) by
        rw [HT.out, List.flatMap_append, List.flatMap_singleton]; exact hown)
      clear hown hg hn2
      go_wp2_with fail
      go_roundw
      case rel => exact ⟨k + 1, a2, c2, by omega, by go_num, rfl, HO2.out, hb3⟩
      case measure => simp [intOf] <;> omega
    · have i1 : ¬ (k : Int) < n := by omega
      obtain rfl : k = n := by omega
      go_wp2_with fail
      go_ret
      have hown := HO.out
      rw [List.take_of_length_le (by rw [HN.out]; exact Nat.le_refl _), HL.out] at hown
      exact ⟨a, _, c, rfl, hown, hbel⟩
end Go.Proofs.YthdpfchbomaigaaDoor
/- A region that draws its order, some of whose operations come in whatever order: an invariant over what has come up so far. Any program. Conditions: each operation that may come up next keeps the invariant. -/
namespace Go.Proofs.YthdpfchbomaigaaDoor
open Go.RowKit
theorem weave {P : Program} {md : Region.Mode} {ops : Array Oper} {Q : Exit → Act → World → Prop} {S : World → Prop} (I : Nat → Array Bool → Act → World → Prop) (m : Nat)
    (hstep : ∀ n listed a w, I (n + 1) listed a w → ∃ rs, Region.ready md ops listed = rs ∧ rs ≠ [] ∧ ∀ i ∈ rs, ∃ oi, ops.toList[i]? = some oi ∧ Region.wanted oi (yielded ops a.tmps) = true ∧ ∀ K' : Act → World → Prop, Shut (∀ a' w', I n (listed.setIfInBounds i true) a' w' → K' a' w') → Oper.wp P oi a w K' Q)
    (hIS : ∀ n listed a w, I n listed a w → S w)
    (hfin : ∀ listed a w, I 0 listed a w → wpAnyH P md ops Q S m listed a w) : ∀ n listed a w, I n listed a w → wpAnyH P md ops Q S (n + m) listed a w := by
  intro n
  induction n with
  | zero => intro listed a w h; rw [Nat.zero_add]; exact hfin listed a w h
  | succ n ih =>
    intro listed a w h
    obtain ⟨rs, hr, hne, hs⟩ := hstep n listed a w h
    rw [Nat.succ_add]
    refine wpAnyH_ready hr hne (fun i hi => ?_)
    obtain ⟨oi, ho, hw, hp⟩ := hs i hi
    refine wpOp_step (by rw [← Array.getElem?_toList]; exact ho) (fun K' hK => ?_)
    rw [if_pos hw]
    exact hp K' (fun a' w' hI => hK a' w' ⟨hIS _ _ _ _ hI, ih _ _ _ hI⟩)
theorem weave_at {P : Program} {md : Region.Mode} {ops : Array Oper} {Q : Exit → Act → World → Prop} {S : World → Prop} (I : Nat → Array Bool → Act → World → Prop) (m n : Nat) (L : Array Bool) (A : Act) {listed : Array Bool} {a : Act} {w : World} (hl : listed = L) (ha : a = A) (h0 : I n L A w)
    (hstep : ∀ n listed a w, I (n + 1) listed a w → ∃ rs, Region.ready md ops listed = rs ∧ rs ≠ [] ∧ ∀ i ∈ rs, ∃ oi, ops.toList[i]? = some oi ∧ Region.wanted oi (yielded ops a.tmps) = true ∧ ∀ K' : Act → World → Prop, Shut (∀ a' w', I n (listed.setIfInBounds i true) a' w' → K' a' w') → Oper.wp P oi a w K' Q)
    (hIS : ∀ n listed a w, I n listed a w → S w)
    (hfin : ∀ listed a w, I 0 listed a w → wpAnyH P md ops Q S m listed a w) : wpAnyH P md ops Q S (n + m) listed a w := by
  subst hl ha
  exact weave I m hstep hIS hfin n _ _ _ h0
end Go.Proofs.YthdpfchbomaigaaDoor
