/- What letter reads of bytes. Conditions: the bytes are not too many. -/
import Derived.Test.YthdpfchbomaigaaDoorGLetterBack13
import Derived.Deep.WholeRow
set_option linter.unusedVariables false
set_option linter.unusedSimpArgs false
namespace Go.Proofs.YthdpfchbomaigaaDoor
open Go.RowKit
set_option maxRecDepth 20000
def ltArr (l : Lt) : Array Value := #[.int .u8 l.kind, .int .i64 l.fr, .int .i64 l.tov, .int .i64 l.term, .int .i64 l.index, .int .i64 l.was, .bool l.ok, .int .i64 l.commit, .int .i64 l.round, .slice l.eo l.es.length l.ecap, .slice l.vo l.vs.length l.vcap, .slice l.io l.im.length l.icap]
theorem ltArr_one (l : Lt) : (ltArr l).all (·.oneCell') = true := by simp [ltArr, Value.oneCell']
theorem wf_getD {l : List Int} (h : BytesWf l) (i : Nat) : 0 ≤ l.getD i 0 ∧ l.getD i 0 < 256 := by
  rw [List.getD_eq_getElem?_getD]
  cases hq : l[i]? with
  | none => exact ⟨Int.le_refl 0, (by decide : (0 : Int) < 256)⟩
  | some x => exact h x (List.mem_of_getElem? hq)
/-- What a drawn region of read keeps: what lies below, and a reader's pointer. -/
structure RS (W : World) (B tb rd : Nat) (w : World) : Prop where
  below : Below B W w
  blk : w.heap[tb]? = some (.cells #[.pointer (some ⟨rd, 0, none⟩)] 87 (0, 0))
theorem RS.lt {W w : World} {B tb rd : Nat} (h : RS W B tb rd w) : tb < w.heap.size := (Array.getElem?_eq_some_iff.1 h.blk).1
theorem RS.cell {W w : World} {B tb rd : Nat} (h : RS W B tb rd w) : w.cell? ⟨tb, 0, none⟩ = some (.pointer (some ⟨rd, 0, none⟩)) := Go.Joins.cell_of_block h.blk 0
theorem RS.grow {W w w' : World} {B tb rd : Nat} (h : RS W B tb rd w) (hb : Below w.heap.size w w') (hB : B ≤ tb) : RS W B tb rd w' :=
  ⟨h.below.trans (hb.mono (by have := h.lt; omega)), (hb.block tb h.lt).trans h.blk⟩
theorem rs_drew {W w : World} {B tb rd : Nat} (h : RS W B tb rd w) : RS W B tb rd w.drew :=
  ⟨h.below.drew, ((Below.refl w.heap.size w).drew.block tb h.lt).trans h.blk⟩
theorem st_only {W w w' : World} {B tb rd rr : Nat} (h : RS W B tb rd w) (ho : Only rr w w') (h1 : B ≤ rr ∧ B ≤ tb) (h2 : tb ≠ rr) : RS W B tb rd w' :=
  ⟨h.below.trans (ho.toBelow (by have := h.lt; omega) h1.1), (ho.block tb h.lt h2).trans h.blk⟩
theorem st_set {W w : World} {B tb rd : Nat} (h : RS W B tb rd w) (hn : tb ≠ B) (i : Nat) (v : Value) : RS W B tb rd (w.setCell ⟨B, i, none⟩ v) :=
  ⟨h.below.setCell (p := ⟨B, i, none⟩) (Nat.le_refl _) v, (heap_setCell_other _ _ _ _ hn).trans h.blk⟩
theorem RS.put {W w : World} {B tb rd : Nat} (h : RS W B tb rd w) (rd2 : Nat) (hB : B ≤ tb) : RS W B tb rd2 (w.setCell ⟨tb, 0, none⟩ (.pointer (some ⟨rd2, 0, none⟩))) :=
  ⟨h.below.setCell (p := ⟨tb, 0, none⟩) hB _, blk_to h.blk _ rfl⟩
def zeroT : Lt := ⟨0, 0, 0, 0, 0, 0, false, 0, 0, none, [], 0, none, [], 0, none, [], 0⟩
theorem zeroT_arr : ltArr zeroT = #[.int .u8 0, .int .i64 0, .int .i64 0, .int .i64 0, .int .i64 0, .int .i64 0, .bool false, .int .i64 0, .int .i64 0, .slice none 0 0, .slice none 0 0, .slice none 0 0] := rfl
theorem setRow_same {w : World} {g : Nat} {cs : Array Value} {t : TypeId} {fr : Nat × Nat} (h : w.heap[g]? = some (.cells cs t fr)) : w.setRow g cs = w := by
  have hlt : g < w.heap.size := (Array.getElem?_eq_some_iff.1 h).1
  have hg : w.heap[g] = .cells cs t fr := (Array.getElem?_eq_some_iff.1 h).2
  have hm : (w.setRow g cs).heap = w.heap := by
    apply Array.ext_getElem?
    intro j
    by_cases hj : g = j
    · subst hj
      rw [setRow_heap w g cs cs t fr h, h]
    · simp only [World.setRow, Array.getElem?_modify, if_neg hj]
  have : w.setRow g cs = { w with heap := (w.setRow g cs).heap } := rfl
  rw [this, hm]
def BytesNewL (bs : List Int) (n B : Nat) (w : World) (e : Ending) (w' : World) : Prop :=
  ∃ a c, e = .returned (.slice a n c) ∧ w'.ownsRow B 5 1 (.slice a n c) n (bs.map bv) ∧ Below B w w'
theorem RestIs.grow {w w' : World} {B rb : Nat} {left : List Int} {ao : Option Addr} {cap : Nat} (h : RestIs w B rb left ao cap) (hb : Below w.heap.size w w') : RestIs w' B rb left ao cap :=
  ⟨(hb.block rb (Array.getElem?_eq_some_iff.1 h.blk).1).trans h.blk, h.off.below hb (by have := (Array.getElem?_eq_some_iff.1 h.blk).1; have := h.lo; omega), h.hcap, h.nil, h.lo⟩
/-- A letter's block, and what is not read yet. -/
structure RdSt (W : World) (B lb rb : Nat) (x : Lt) (left : List Int) (w : World) : Prop where
  below : Below B W w
  blk : w.heap[lb]? = some (.cells (ltArr x) 27 (0, 0))
  rest : Rest w B rb left
  lo : B ≤ lb
  ro : B ≤ rb
  ne : rb ≠ lb
theorem RdSt.grow {W w w' : World} {B lb rb : Nat} {x : Lt} {left : List Int} (h : RdSt W B lb rb x left w) (hb : Below w.heap.size w w') : RdSt W B lb rb x left w' :=
  ⟨h.below.trans (hb.mono (by have := (Array.getElem?_eq_some_iff.1 h.blk).1; have := h.lo; omega)), (hb.block lb (Array.getElem?_eq_some_iff.1 h.blk).1).trans h.blk, h.rest.below hb, h.lo, h.ro, h.ne⟩
theorem RdSt.only {W w w' : World} {B lb rb rr : Nat} {x : Lt} {left : List Int} (h : RdSt W B lb rb x left w) (ho : Only rr w w') (h1 : B ≤ rr) (h2 : lb ≠ rr) (h3 : rb ≠ rr) : RdSt W B lb rb x left w' :=
  ⟨h.below.trans (ho.toBelow (by have := (Array.getElem?_eq_some_iff.1 h.blk).1; have := h.lo; omega) h1), (ho.block lb (Array.getElem?_eq_some_iff.1 h.blk).1 h2).trans h.blk, h.rest.only ho h3 h1, h.lo, h.ro, h.ne⟩
theorem RdSt.grown {W w w' : World} {B lb rb : Nat} {x : Lt} {left : List Int} {row : Option Nat} (h : RdSt W B lb rb x left w) (hg : w.grownBy w' row) (hr : ∀ g, row = some g → B ≤ g ∧ g ≠ lb ∧ g ≠ rb) : RdSt W B lb rb x left w' := by
  have hb : Below B w w' := (Below.refl B w).grown hg (by have := h.rest.lt; have := h.ro; omega) (fun g hq => (hr g hq).1)
  have hrl := h.rest.lt
  refine ⟨h.below.trans hb, (hg.block lb (Array.getElem?_eq_some_iff.1 h.blk).1 (fun e => (hr lb e.symm).2.1 rfl)).trans h.blk, ?_, h.lo, h.ro, h.ne⟩
  obtain ⟨ao, cap, hq⟩ := h.rest
  exact ⟨ao, cap, (hg.block rb hrl (fun e => (hr rb e.symm).2.2 rfl)).trans hq.blk, hq.off.below hb (Nat.le_refl _), hq.hcap, hq.nil, hq.lo⟩
theorem RdSt.setRest {W w : World} {B lb rb : Nat} {x : Lt} {left l2 left0 : List Int} {ao a2 : Option Addr} {cap c2 n2 : Nat} (h : RdSt W B lb rb x left0 w) (hr : RestIs w B rb left ao cap) (h1 : BytesIn w B a2 l2) (hn : l2.length = n2) (h2 : n2 ≤ c2) (h3 : a2 = none → c2 = 0) : RdSt W B lb rb x l2 (w.setCell ⟨rb, 0, none⟩ (.slice a2 n2 c2)) :=
  ⟨h.below.setCell (p := ⟨rb, 0, none⟩) h.ro _, (heap_setCell_other _ _ _ _ (Ne.symm h.ne)).trans h.blk, hr.set h1 hn h2 h3, h.lo, h.ro, h.ne⟩
theorem readEs_step {lft el : List Int} {eP : EnP} (q : Nat) (hq : entryS false lft = (eP, false, el)) : readEs (q + 1) lft = (match readEs q (lft.drop (entryB eP).length) with | none => none | some (l, r') => some (eP :: l, r')) := by
  conv => lhs; unfold readEs
  rw [hq]
  dsimp only
  rw [if_neg (by simp)]
  cases readEs q (lft.drop (entryB eP).length) with
  | none => rfl
  | some p => rfl
theorem RdSt.put {W w : World} {B lb rb : Nat} {x x2 : Lt} {left : List Int} (h : RdSt W B lb rb x left w) (i : Nat) (v : Value) (he : (ltArr x).setIfInBounds i v = ltArr x2) : RdSt W B lb rb x2 left (w.setCell ⟨lb, i, none⟩ v) :=
  ⟨h.below.setCell (p := ⟨lb, i, none⟩) h.lo v, blk_to h.blk v he, h.rest.only (Only.set lb w i v) h.ne h.lo, h.lo, h.ro, h.ne⟩
/-- What read tells. -/
def OwnLt (w : World) (base : Nat) (x : Lt) : Prop := EnsOwn w base (.slice x.eo x.es.length x.ecap) x.es ∧ IntsOwn w base x.vo x.vs.length x.vcap x.vs ∧ w.ownsRow base 5 1 (.slice x.io x.im.length x.icap) x.im.length (x.im.map bv)
/-- An entry's voters lie apart from the letter's. -/
def vApart (e : En) (x : Lt) : Prop := ∀ g, (votV e).ownBlock = some g → (Value.slice x.vo x.vs.length x.vcap).ownBlock ≠ some g
def ReadAt (r : Option LtP) (w : World) (e : Ending) (w' : World) : Prop :=
  ∃ x : Lt, e = .returned (.tuple #[ltVal x, .bool r.isSome]) ∧ (∀ l, r = some l → x.plain = l ∧ OwnLt w' w.heap.size x ∧ ∀ e ∈ x.es, EnFine e ∧ vApart e x) ∧ Below w.heap.size w w'
theorem info_lt2 (x : Lt) : (Tryd.prog.info? 27).map (·.size) = some (ltArr x).size := info_lt
theorem info_lt3 (x : Lt) : (Tryd.prog.info? 27).map (·.size) = some (ltArr x).toList.length := info_lt
theorem RdSt.range {W w : World} {B lb rb : Nat} {x : Lt} {left : List Int} (h : RdSt W B lb rb x left w) : w.rangeAt lb 0 (ltArr x).toList := by
  intro j v hv
  rw [Nat.zero_add, Go.Joins.cell_of_block h.blk, ← Array.getElem?_toList]
  exact hv
theorem read_end {f : Func} {W w' : World} {lb rb : Nat} {x : Lt} {left : List Int} {tmps : Array Value} {bq : Bool} {r : Option LtP} (hf : f.results = #[.cell 2 27, .tmp 3]) (h : RdSt W W.heap.size lb rb x left w') (h2 : tmps.getD 2 undef = .pointer (some ⟨lb, 0, none⟩)) (h3 : tmps.getD 3 undef = .bool bq) (hb : r.isSome = bq) (hok : ∀ l, r = some l → x.plain = l ∧ OwnLt w' W.heap.size x ∧ ∀ e ∈ x.es, EnFine e ∧ vApart e x) :
    bodyPost Tryd.prog f (ReadAt r W) .ret ⟨tmps, []⟩ w' :=
  bodyPost_ret (results_cell_row_tmp hf tmps w' lb _ (ltArr x) _ _ _ h2 h3 h.blk Tryd.underlying27 rfl (info_lt2 x)) rfl ⟨x, by rw [hb]; rfl, hok, h.below⟩
theorem load_held {P : Program} {S : World → Prop} {op : Oper} {a : Act} (ty : TypeId) (x : Operand) (ho : op.op = .load ty x) (b o : Nat) (hx : a.eval x = .pointer (some ⟨b, o, none⟩)) (cs : List Value) (d : TypeDesc) (hS : ∀ w, S w → w.rangeAt b o cs) (hu : P.underlying ty = some d) (hd : d.isRow = true) (hi : (P.info? ty).map (·.size) = some cs.length) :
    ∀ w, S w → (execOp a.eval op).run P w = .ok (.value (.agg cs.toArray)) w := fun w hw' => by
  unfold execOp
  simp only [ho, hx, Instr.loadAt, Instr.sureAddr, Sem.run_bind, Sem.run_pure, Result.andThen_ok, run_loadVar_mid w b o ty cs d (hS w hw') hu hd hi]
theorem pl_of {r : Option LtP} {inn : Int} {m : Int} {Q l : LtP} (h : r = if true = false ∨ inn ≠ m then none else some Q) (hl : r = some l) : Q = l := by
  rw [h] at hl
  split at hl
  · cases hl
  · exact Option.some.inj hl
theorem pl_some {r : Option LtP} {inn : Int} {m : Int} {Q : LtP} (h : r = if true = false ∨ inn ≠ m then none else some Q) : r.isSome = decide (inn = m) := by
  rw [h]
  by_cases hc : inn = m
  · rw [if_neg (by simp [hc])]; simp [hc]
  · rw [if_pos (Or.inr hc)]; simp [hc]
theorem pl_some2 {r : Option LtP} {inn : Int} {m : Int} {Q : LtP} (h : r = if true = false ∨ inn ≠ m then none else some Q) : r.isSome = (inn == m) := by
  rw [pl_some h]
  by_cases hc : inn = m <;> simp [hc]
theorem cntS_true {r l : List Int} {n : Int} (h : cntS r = (n, true, l)) : n ≤ (l.length : Int) := by
  unfold cntS at h
  split at h
  · simp at h
  · simp only [Prod.mk.injEq, decide_eq_true_eq] at h
    obtain ⟨h1, h2, h3⟩ := h
    rw [← h1, ← h3]
    exact h2
set_option maxHeartbeats 8000000 in
theorem lread_any (ao : Option Addr) (n cap : Nat) (b : List Int) (w : World) (r : Option LtP) (hr : readL b = r) (hn : b.length = n) (hx : BytesIn w w.heap.size ao b) (hw : BytesWf b) (hnil : ao = none → cap = 0) (hcap : n ≤ cap) (hl : n ≤ 1048576) :
    Calls Tryd.prog 22 #[.slice ao n cap] w (ReadAt r w) := by
  have h0 : RdSt w w.heap.size w.heap.size (w.heap.size + 1) zeroT b ((w.alloc (.cells (ltArr zeroT) 27)).alloc (.cells #[.slice ao n cap] 81)) := by
    have hb1 := (Below.refl w.heap.size w).alloc (Nat.le_refl _) (.cells (ltArr zeroT) 27)
    have hs1 : (w.alloc (.cells (ltArr zeroT) 27)).heap.size = w.heap.size + 1 := by simp
    have hb2 := (Below.refl (w.alloc (.cells (ltArr zeroT) 27)).heap.size (w.alloc (.cells (ltArr zeroT) 27))).alloc (Nat.le_refl _) (.cells #[.slice ao n cap] 81)
    have hk := heap_alloc_new (w.alloc (.cells (ltArr zeroT) 27)) (.cells #[.slice ao n cap] 81)
    rw [hs1] at hk
    refine ⟨hb1.trans (hb2.mono (by rw [hs1]; omega)), ?_, ⟨ao, cap, by rw [hn]; exact hk, ?_, by omega, hnil, by omega⟩, Nat.le_refl _, by omega, by omega⟩
    · rw [hb2.block _ (by rw [hs1]; omega)]
      exact heap_alloc_new w _
    · exact (hx.below (hb1.trans (hb2.mono (by rw [hs1]; omega))) (Nat.le_refl _))
  have H0 := Lib.hid h0
  have HR := Lib.hid hr
  have HN := Lib.hid hn
  have HX := Lib.hid hx
  have HW := Lib.hid hw
  clear h0 hr hn hx hw
  go_enter Tryd.func22, Tryd.ntmps22
  go_wp2_with fail
  rw [← zeroT_arr]
  have h0 := H0.out
  clear H0
  by_cases h44 : n < 44
  · have hnone := Lib.hid (show r = none by rw [← HR.out]; unfold readL; rw [if_pos (by rw [HN.out]; exact h44)])
    refine (take_short w.heap.size (w.heap.size + 1) 44 b _ h0.rest (by rw [HN.out]; exact h44) (by omega)).mono ?_
    generalize (w.alloc (.cells (ltArr zeroT) 27)).alloc (.cells #[.slice ao n cap] 81) = w1 at h0 ⊢
    rintro e w2 ⟨rfl, rfl⟩
    have H0 := Lib.hid h0
    clear h0
    have hrg := H0.out.range
    have hbk := H0.out.blk
    go_wp2_with (first | (refine wpList_load_mid rfl 27 (.tmp 2) rfl w.heap.size 0 rfl (ltArr zeroT).toList _ hrg Tryd.underlying27 rfl (info_lt3 zeroT) ?_) | (refine wpList_store_row rfl 27 (.tmp 2) (.tmp 21) rfl w.heap.size (ltArr zeroT) rfl (by first | rfl | simp) 27 _ hbk (info_lt2 zeroT) rfl (ltArr_one zeroT) ?_; rw [setRow_same hbk]))
    exact read_end rfl H0.out rfl rfl (by rw [hnone.out]; rfl) (fun l hl => by rw [hnone.out] at hl; cases hl)
  have h44 : 44 ≤ n := by omega
  refine (take_ok w.heap.size (w.heap.size + 1) 44 b _ h0.rest (by rw [HN.out]; exact h44) (by rw [HN.out]; omega)).mono ?_
  generalize (w.alloc (.cells (ltArr zeroT) 27)).alloc (.cells #[.slice ao n cap] 81) = w1 at h0 ⊢
  rintro e w2 ⟨a, c, rfl, ht, hn2, hc2, hrest, ho⟩
  have h2 : RdSt w w.heap.size w.heap.size (w.heap.size + 1) zeroT (b.drop 44) w2 :=
    ⟨h0.below.trans (ho.toBelow (by have := (Array.getElem?_eq_some_iff.1 h0.blk).1; omega) (by omega)), (ho.block w.heap.size (Array.getElem?_eq_some_iff.1 h0.blk).1 (by omega)).trans h0.blk, hrest, Nat.le_refl _, by omega, by omega⟩
  have htk : (b.take 44).length = 44 := by rw [List.length_take, HN.out]; omega
  have hq : ∃ fb off, a = some ⟨fb, off, none⟩ ∧ fb < w.heap.size ∧ ∀ i, i < 44 → w2.cell? ⟨fb, off + i, none⟩ = some (.int .u8 (b.getD i 0)) := by
    rcases ht with h | ⟨fb, off, e1, e2, e3⟩
    · rw [h] at htk; cases htk
    · refine ⟨fb, off, e1, e2, fun i hi => ?_⟩
      rw [e3 i (by omega)]
      simp [List.getD, List.getElem?_take, hi]
  obtain ⟨fb, off, rfl, hfb, hcells⟩ := hq
  have HH2 := Lib.hid h2
  have HC := Lib.hid (show ∀ w', Below w.heap.size w2 w' → w'.cell? ⟨fb, off, none⟩ = some (.int .u8 (b.getD 0 0)) ∧ w'.cell? ⟨fb, off + 1, none⟩ = some (.int .u8 (b.getD 1 0)) ∧ w'.cell? ⟨fb, off + 2, none⟩ = some (.int .u8 (b.getD 2 0)) ∧ w'.cell? ⟨fb, off + 27, none⟩ = some (.int .u8 (b.getD 27 0)) from fun w' h =>
    ⟨(h.cell (p := ⟨fb, _, none⟩) hfb).trans (hcells 0 (by omega)), (h.cell (p := ⟨fb, _, none⟩) hfb).trans (hcells 1 (by omega)), (h.cell (p := ⟨fb, _, none⟩) hfb).trans (hcells 2 (by omega)), (h.cell (p := ⟨fb, _, none⟩) hfb).trans (hcells 27 (by omega))⟩)
  have HT := Lib.hid ht
  clear h0 hrest ho h2 htk hcells ht
  obtain ⟨kd, hkd⟩ : ∃ q, b.getD 0 0 = q := ⟨_, rfl⟩
  obtain ⟨fr, hfr⟩ : ∃ q, b.getD 1 0 = q := ⟨_, rfl⟩
  obtain ⟨tt, hto⟩ : ∃ q, b.getD 2 0 = q := ⟨_, rfl⟩
  obtain ⟨ob, hob⟩ : ∃ q, b.getD 27 0 = q := ⟨_, rfl⟩
  rw [hkd, hfr, hto, hob] at HC
  have HV := Lib.hid (And.intro hkd (And.intro hfr (And.intro hto hob)))
  have hfrw : 0 ≤ fr ∧ fr < 256 := hfr ▸ wf_getD HW.out 1
  have httw : 0 ≤ tt ∧ tt < 256 := hto ▸ wf_getD HW.out 2
  have hkdw : 0 ≤ kd ∧ kd < 256 := hkd ▸ wf_getD HW.out 0
  have e1 : IntKind.i64.wrap fr = fr := IntWalk.i64_in _ (by omega)
  have e2 : IntKind.i64.wrap tt = tt := IntWalk.i64_in _ (by omega)
  clear hkd hfr hto hob
  go_wp2_with fail
  refine heldS_begin (fun w' => Below w.heap.size w2 w') (by kernel_rfl) (Below.drew (Below.refl _ _)) ?_
  intro hS0
  (first | (refine takeS_no 0 rfl (by kernel_rfl) (by kernel_rfl) (by kernel_rfl) (fun _ _ _ h => h) (by rfl) (by assumption) ?_) | (refine takeS_yes (v := ?_) 0 rfl (by kernel_rfl) (by kernel_rfl) (by kernel_rfl) (fun _ _ _ h => h) (by rfl) (by assumption) ?_ ?_; rotate_left; focus (intro wS hSw; obtain ⟨d0, d1, d2, d3⟩ := HC.out wS hSw; go_simp; first | done | with_reducible rfl)))
  (try simp only [Act.put, List.setIfInBounds_toArray, List.set_cons_zero, List.set_cons_succ])
  (first | (refine takeS_no 1 rfl (by kernel_rfl) (by kernel_rfl) (by kernel_rfl) (fun _ _ _ h => h) (by rfl) (by assumption) ?_) | (refine takeS_yes (v := ?_) 1 rfl (by kernel_rfl) (by kernel_rfl) (by kernel_rfl) (fun _ _ _ h => h) (by rfl) (by assumption) ?_ ?_; rotate_left; focus (intro wS hSw; obtain ⟨d0, d1, d2, d3⟩ := HC.out wS hSw; go_simp; first | done | with_reducible rfl)))
  (try simp only [Act.put, List.setIfInBounds_toArray, List.set_cons_zero, List.set_cons_succ])
  (first | (refine takeS_no 2 rfl (by kernel_rfl) (by kernel_rfl) (by kernel_rfl) (fun _ _ _ h => h) (by rfl) (by assumption) ?_) | (refine takeS_yes (v := ?_) 2 rfl (by kernel_rfl) (by kernel_rfl) (by kernel_rfl) (fun _ _ _ h => h) (by rfl) (by assumption) ?_ ?_; rotate_left; focus (intro wS hSw; obtain ⟨d0, d1, d2, d3⟩ := HC.out wS hSw; go_simp; first | done | with_reducible rfl)))
  (try simp only [Act.put, List.setIfInBounds_toArray, List.set_cons_zero, List.set_cons_succ])
  (first | (refine takeS_no 3 rfl (by kernel_rfl) (by kernel_rfl) (by kernel_rfl) (fun _ _ _ h => h) (by rfl) (by assumption) ?_) | (refine takeS_yes (v := ?_) 3 rfl (by kernel_rfl) (by kernel_rfl) (by kernel_rfl) (fun _ _ _ h => h) (by rfl) (by assumption) ?_ ?_; rotate_left; focus (intro wS hSw; obtain ⟨d0, d1, d2, d3⟩ := HC.out wS hSw; go_simp; first | done | with_reducible rfl)))
  (try simp only [Act.put, List.setIfInBounds_toArray, List.set_cons_zero, List.set_cons_succ])
  (first | (refine takeS_no 4 rfl (by kernel_rfl) (by kernel_rfl) (by kernel_rfl) (fun _ _ _ h => h) (by rfl) (by assumption) ?_) | (refine takeS_yes (v := ?_) 4 rfl (by kernel_rfl) (by kernel_rfl) (by kernel_rfl) (fun _ _ _ h => h) (by rfl) (by assumption) ?_ ?_; rotate_left; focus (intro wS hSw; obtain ⟨d0, d1, d2, d3⟩ := HC.out wS hSw; go_simp; first | done | with_reducible rfl)))
  (try simp only [Act.put, List.setIfInBounds_toArray, List.set_cons_zero, List.set_cons_succ])
  (first | (refine takeS_no 5 rfl (by kernel_rfl) (by kernel_rfl) (by kernel_rfl) (fun _ _ _ h => h) (by rfl) (by assumption) ?_) | (refine takeS_yes (v := ?_) 5 rfl (by kernel_rfl) (by kernel_rfl) (by kernel_rfl) (fun _ _ _ h => h) (by rfl) (by assumption) ?_ ?_; rotate_left; focus (intro wS hSw; obtain ⟨d0, d1, d2, d3⟩ := HC.out wS hSw; go_simp; first | done | with_reducible rfl)))
  (try simp only [Act.put, List.setIfInBounds_toArray, List.set_cons_zero, List.set_cons_succ])
  (first | (refine takeS_no 6 rfl (by kernel_rfl) (by kernel_rfl) (by kernel_rfl) (fun _ _ _ h => h) (by rfl) (by assumption) ?_) | (refine takeS_yes (v := ?_) 6 rfl (by kernel_rfl) (by kernel_rfl) (by kernel_rfl) (fun _ _ _ h => h) (by rfl) (by assumption) ?_ ?_; rotate_left; focus (intro wS hSw; obtain ⟨d0, d1, d2, d3⟩ := HC.out wS hSw; go_simp; first | done | with_reducible rfl)))
  (try simp only [Act.put, List.setIfInBounds_toArray, List.set_cons_zero, List.set_cons_succ])
  (first | (refine takeS_no 7 rfl (by kernel_rfl) (by kernel_rfl) (by kernel_rfl) (fun _ _ _ h => h) (by rfl) (by assumption) ?_) | (refine takeS_yes (v := ?_) 7 rfl (by kernel_rfl) (by kernel_rfl) (by kernel_rfl) (fun _ _ _ h => h) (by rfl) (by assumption) ?_ ?_; rotate_left; focus (intro wS hSw; obtain ⟨d0, d1, d2, d3⟩ := HC.out wS hSw; go_simp; first | done | with_reducible rfl)))
  (try simp only [Act.put, List.setIfInBounds_toArray, List.set_cons_zero, List.set_cons_succ])
  (first | (refine takeS_no 8 rfl (by kernel_rfl) (by kernel_rfl) (by kernel_rfl) (fun _ _ _ h => h) (by rfl) (by assumption) ?_) | (refine takeS_yes (v := ?_) 8 rfl (by kernel_rfl) (by kernel_rfl) (by kernel_rfl) (fun _ _ _ h => h) (by rfl) (by assumption) ?_ ?_; rotate_left; focus (intro wS hSw; obtain ⟨d0, d1, d2, d3⟩ := HC.out wS hSw; go_simp; first | done | with_reducible rfl)))
  (try simp only [Act.put, List.setIfInBounds_toArray, List.set_cons_zero, List.set_cons_succ])
  (first | (refine takeS_no 9 rfl (by kernel_rfl) (by kernel_rfl) (by kernel_rfl) (fun _ _ _ h => h) (by rfl) (by assumption) ?_) | (refine takeS_yes (v := ?_) 9 rfl (by kernel_rfl) (by kernel_rfl) (by kernel_rfl) (fun _ _ _ h => h) (by rfl) (by assumption) ?_ ?_; rotate_left; focus (intro wS hSw; obtain ⟨d0, d1, d2, d3⟩ := HC.out wS hSw; go_simp; first | done | with_reducible rfl)))
  (try simp only [Act.put, List.setIfInBounds_toArray, List.set_cons_zero, List.set_cons_succ])
  (first | (refine takeS_no 10 rfl (by kernel_rfl) (by kernel_rfl) (by kernel_rfl) (fun _ _ _ h => h) (by rfl) (by assumption) ?_) | (refine takeS_yes (v := ?_) 10 rfl (by kernel_rfl) (by kernel_rfl) (by kernel_rfl) (fun _ _ _ h => h) (by rfl) (by assumption) ?_ ?_; rotate_left; focus (intro wS hSw; obtain ⟨d0, d1, d2, d3⟩ := HC.out wS hSw; go_simp; first | done | with_reducible rfl)))
  (try simp only [Act.put, List.setIfInBounds_toArray, List.set_cons_zero, List.set_cons_succ])
  (first | (refine takeS_no 11 rfl (by kernel_rfl) (by kernel_rfl) (by kernel_rfl) (fun _ _ _ h => h) (by rfl) (by assumption) ?_) | (refine takeS_yes (v := ?_) 11 rfl (by kernel_rfl) (by kernel_rfl) (by kernel_rfl) (fun _ _ _ h => h) (by rfl) (by assumption) ?_ ?_; rotate_left; focus (intro wS hSw; obtain ⟨d0, d1, d2, d3⟩ := HC.out wS hSw; go_simp; first | done | with_reducible rfl)))
  (try simp only [Act.put, List.setIfInBounds_toArray, List.set_cons_zero, List.set_cons_succ])
  (first | (refine takeS_no 12 rfl (by kernel_rfl) (by kernel_rfl) (by kernel_rfl) (fun _ _ _ h => h) (by rfl) (by assumption) ?_) | (refine takeS_yes (v := ?_) 12 rfl (by kernel_rfl) (by kernel_rfl) (by kernel_rfl) (fun _ _ _ h => h) (by rfl) (by assumption) ?_ ?_; rotate_left; focus (intro wS hSw; obtain ⟨d0, d1, d2, d3⟩ := HC.out wS hSw; go_simp; first | done | with_reducible rfl)))
  (try simp only [Act.put, List.setIfInBounds_toArray, List.set_cons_zero, List.set_cons_succ])
  (first | (refine takeS_no 13 rfl (by kernel_rfl) (by kernel_rfl) (by kernel_rfl) (fun _ _ _ h => h) (by rfl) (by assumption) ?_) | (refine takeS_yes (v := ?_) 13 rfl (by kernel_rfl) (by kernel_rfl) (by kernel_rfl) (fun _ _ _ h => h) (by rfl) (by assumption) ?_ ?_; rotate_left; focus (intro wS hSw; obtain ⟨d0, d1, d2, d3⟩ := HC.out wS hSw; go_simp; first | done | with_reducible rfl)))
  (try simp only [Act.put, List.setIfInBounds_toArray, List.set_cons_zero, List.set_cons_succ])
  (first | (refine takeS_no 14 rfl (by kernel_rfl) (by kernel_rfl) (by kernel_rfl) (fun _ _ _ h => h) (by rfl) (by assumption) ?_) | (refine takeS_yes (v := ?_) 14 rfl (by kernel_rfl) (by kernel_rfl) (by kernel_rfl) (fun _ _ _ h => h) (by rfl) (by assumption) ?_ ?_; rotate_left; focus (intro wS hSw; obtain ⟨d0, d1, d2, d3⟩ := HC.out wS hSw; go_simp; first | done | with_reducible rfl)))
  (try simp only [Act.put, List.setIfInBounds_toArray, List.set_cons_zero, List.set_cons_succ])
  (first | (refine takeS_no 15 rfl (by kernel_rfl) (by kernel_rfl) (by kernel_rfl) (fun _ _ _ h => h) (by rfl) (by assumption) ?_) | (refine takeS_yes (v := ?_) 15 rfl (by kernel_rfl) (by kernel_rfl) (by kernel_rfl) (fun _ _ _ h => h) (by rfl) (by assumption) ?_ ?_; rotate_left; focus (intro wS hSw; obtain ⟨d0, d1, d2, d3⟩ := HC.out wS hSw; go_simp; first | done | with_reducible rfl)))
  (try simp only [Act.put, List.setIfInBounds_toArray, List.set_cons_zero, List.set_cons_succ])
  have hst := HH2.out.grow (Below.refl w2.heap.size w2).drew
  have hSw3 : Below w.heap.size w2 w2.drew := hS0
  clear HH2 hS0 e1 e2
  generalize w2.drew = w3 at hst hSw3 ⊢
  have HST := Lib.hid hst
  clear hst
  refine takeS_alone 16 rfl (by kernel_rfl) (by rfl) (fun K hK => ?_)
  skip
  (have hk := HST.out.blk; have c0 : w3.cell? ⟨w.heap.size, 0, none⟩ = some (.int .u8 0) := Go.Joins.cell_of_block hk 0; have f0 : w3.frozen? ⟨w.heap.size, 0, none⟩ = false := Go.Joins.unfrozen_of_block hk 0; go_simp; clear c0 f0 hk; have h4 := HST.out.put (x2 := ⟨kd, 0, 0, 0, 0, 0, false, 0, 0, none, [], 0, none, [], 0, none, [], 0⟩) 0 (.int .u8 kd) rfl; have hSw4 := hSw3.setCell (p := ⟨w.heap.size, 0, none⟩) (Nat.le_refl _) (.int .u8 kd); clear HST; generalize w3.setCell ⟨w.heap.size, 0, none⟩ (.int .u8 kd) = w4 at h4 hSw4 ⊢; have HST := Lib.hid h4; clear h4)
  refine hK.out _ _ (by assumption) ?_
  clear hK K
  (try simp only [Act.put, List.setIfInBounds_toArray, List.set_cons_zero, List.set_cons_succ])
  (first | (refine takeS_no 17 rfl (by kernel_rfl) (by kernel_rfl) (by kernel_rfl) (fun _ _ _ h => h) (by rfl) (by assumption) ?_) | (refine takeS_yes (v := ?_) 17 rfl (by kernel_rfl) (by kernel_rfl) (by kernel_rfl) (fun _ _ _ h => h) (by rfl) (by assumption) ?_ ?_; rotate_left; focus (intro wS hSw; obtain ⟨d0, d1, d2, d3⟩ := HC.out wS hSw; go_simp; first | done | with_reducible rfl)))
  (try simp only [Act.put, List.setIfInBounds_toArray, List.set_cons_zero, List.set_cons_succ])
  refine takeS_alone 18 rfl (by kernel_rfl) (by rfl) (fun K hK => ?_)
  skip
  (have hk := HST.out.blk; have c0 : w4.cell? ⟨w.heap.size, 1, none⟩ = some (.int .i64 0) := Go.Joins.cell_of_block hk 1; have f0 : w4.frozen? ⟨w.heap.size, 1, none⟩ = false := Go.Joins.unfrozen_of_block hk 1; go_simp; clear c0 f0 hk; have h4 := HST.out.put (x2 := ⟨kd, fr, 0, 0, 0, 0, false, 0, 0, none, [], 0, none, [], 0, none, [], 0⟩) 1 (.int .i64 fr) rfl; have hSw5 := hSw4.setCell (p := ⟨w.heap.size, 1, none⟩) (Nat.le_refl _) (.int .i64 fr); clear HST; generalize w4.setCell ⟨w.heap.size, 1, none⟩ (.int .i64 fr) = w5 at h4 hSw5 ⊢; have HST := Lib.hid h4; clear h4)
  refine hK.out _ _ (by assumption) ?_
  clear hK K
  (try simp only [Act.put, List.setIfInBounds_toArray, List.set_cons_zero, List.set_cons_succ])
  (first | (refine takeS_no 19 rfl (by kernel_rfl) (by kernel_rfl) (by kernel_rfl) (fun _ _ _ h => h) (by rfl) (by assumption) ?_) | (refine takeS_yes (v := ?_) 19 rfl (by kernel_rfl) (by kernel_rfl) (by kernel_rfl) (fun _ _ _ h => h) (by rfl) (by assumption) ?_ ?_; rotate_left; focus (intro wS hSw; obtain ⟨d0, d1, d2, d3⟩ := HC.out wS hSw; go_simp; first | done | with_reducible rfl)))
  (try simp only [Act.put, List.setIfInBounds_toArray, List.set_cons_zero, List.set_cons_succ])
  refine takeS_alone 20 rfl (by kernel_rfl) (by rfl) (fun K hK => ?_)
  skip
  (have hk := HST.out.blk; have c0 : w5.cell? ⟨w.heap.size, 2, none⟩ = some (.int .i64 0) := Go.Joins.cell_of_block hk 2; have f0 : w5.frozen? ⟨w.heap.size, 2, none⟩ = false := Go.Joins.unfrozen_of_block hk 2; go_simp; clear c0 f0 hk; have h4 := HST.out.put (x2 := ⟨kd, fr, tt, 0, 0, 0, false, 0, 0, none, [], 0, none, [], 0, none, [], 0⟩) 2 (.int .i64 tt) rfl; have hSw6 := hSw5.setCell (p := ⟨w.heap.size, 2, none⟩) (Nat.le_refl _) (.int .i64 tt); clear HST; generalize w5.setCell ⟨w.heap.size, 2, none⟩ (.int .i64 tt) = w6 at h4 hSw6 ⊢; have HST := Lib.hid h4; clear h4)
  refine hK.out _ _ (by assumption) ?_
  clear hK K
  (try simp only [Act.put, List.setIfInBounds_toArray, List.set_cons_zero, List.set_cons_succ])
  (first | (refine takeS_no 21 rfl (by kernel_rfl) (by kernel_rfl) (by kernel_rfl) (fun _ _ _ h => h) (by rfl) (by assumption) ?_) | (refine takeS_yes (v := ?_) 21 rfl (by kernel_rfl) (by kernel_rfl) (by kernel_rfl) (fun _ _ _ h => h) (by rfl) (by assumption) ?_ ?_; rotate_left; focus (intro wS hSw; obtain ⟨d0, d1, d2, d3⟩ := HC.out wS hSw; go_simp; first | done | with_reducible rfl)))
  (try simp only [Act.put, List.setIfInBounds_toArray, List.set_cons_zero, List.set_cons_succ])
  refine takeS_alone 22 rfl (by kernel_rfl) (by rfl) (fun K hK => ?_)
  skip
  (have hk := HST.out.blk; have c0 : w6.cell? ⟨w.heap.size, 6, none⟩ = some (.bool false) := Go.Joins.cell_of_block hk 6; have f0 : w6.frozen? ⟨w.heap.size, 6, none⟩ = false := Go.Joins.unfrozen_of_block hk 6; go_simp; clear c0 f0 hk; have h4 := HST.out.put (x2 := ⟨kd, fr, tt, 0, 0, 0, (ob == 1), 0, 0, none, [], 0, none, [], 0, none, [], 0⟩) 6 (.bool (ob == 1)) rfl; have hSw7 := hSw6.setCell (p := ⟨w.heap.size, 6, none⟩) (Nat.le_refl _) (.bool (ob == 1)); clear HST; generalize w6.setCell ⟨w.heap.size, 6, none⟩ (.bool (ob == 1)) = w7 at h4 hSw7 ⊢; have HST := Lib.hid h4; clear h4)
  refine hK.out _ _ (by assumption) ?_
  clear hK K
  (try simp only [Act.put, List.setIfInBounds_toArray, List.set_cons_zero, List.set_cons_succ])
  refine wpAnyH_done (by kernel_rfl) ?_ _
  obtain ⟨OB, hOB⟩ := pair_of (ob == 1)
  rw [hOB] at HST
  have HOB := Lib.hid hOB
  clear hOB
  have hsl : ∀ w', (Instr.sliceAt 25 (.slice (some ⟨fb, off, none⟩) 44 c) (some (.int .i64 3)) (some (.int .i64 27)) none).run Tryd.prog w' = .ok (.slice (subA (some ⟨fb, off, none⟩) c 3 1) 24 (c - 3)) w' := fun w' => run_sub_lh sliceByte sizeByte _ 44 c 3 27 (by omega) (by omega) .i64 .i64 3 27 rfl rfl w'
  obtain ⟨sa, hsa⟩ : ∃ sa, subA (some ⟨fb, off, none⟩) c 3 1 = sa := ⟨_, rfl⟩
  rw [hsa] at hsl
  have HSA := Lib.hid hsa
  clear hsa
  go_wp2_with fail
  have hin1 := (HT.out.below hSw7 (Nat.le_refl _)).sub 3 24 (show (b.take 44).length ≤ c by rw [List.length_take, HN.out]; omega)
  rw [HSA.out] at hin1
  obtain ⟨L1, hL1⟩ : ∃ L1, (b.drop 3).take 24 = L1 := ⟨_, rfl⟩
  have hL1b : ((b.take 44).drop 3).take 24 = L1 := by rw [List.drop_take, List.take_take, ← hL1]; rfl
  rw [hL1b] at hin1
  have hL1n : L1.length = 24 := by rw [← hL1, List.length_take, List.length_drop, HN.out]; omega
  have hL1w : BytesWf L1 := hL1 ▸ (HW.out.drop 3).take 24
  have HL1 := Lib.hid hL1
  have hsz7 : w.heap.size + 2 ≤ w7.heap.size := by have h1 := HST.out.rest.lt; omega
  have hnil1 : sa = none → c - 3 = 0 := fun h => by rw [← HSA.out] at h; exact absurd (subA_eq_none h) (by simp)
  refine (newReader_any sa 24 (c - 3) L1 w7 w.heap.size hL1n hin1 (by omega) hnil1 (by omega)).mono ?_
  rintro e w8 ⟨rd, rfl, hrd, hR8, hb8⟩
  have hs8 := hb8.size
  have hrdl := hR8.lt
  have hst8 := HST.out.grow hb8
  have hSw8 := hSw7.trans (hb8.mono (by omega))
  obtain ⟨⟨tm, b1, l1⟩, hq1⟩ : ∃ q, numS false L1 = q := ⟨_, rfl⟩
  obtain ⟨⟨ix, b2, l2⟩, hq2⟩ : ∃ q, numS b1 l1 = q := ⟨_, rfl⟩
  obtain ⟨⟨ws, b3, l3⟩, hq3⟩ : ∃ q, numS b2 l2 = q := ⟨_, rfl⟩
  have hy1 := numS_shrinks false L1 hL1w
  rw [hq1] at hy1
  have hy2 := numS_shrinks b1 l1 hy1.1
  rw [hq2] at hy2
  have HN1 := Lib.hid hq1
  have HN2 := Lib.hid hq2
  have HN3 := Lib.hid hq3
  have HWF1 := Lib.hid hL1w
  have HWF2 := Lib.hid hy1.1
  have HWF3 := Lib.hid hy2.1
  have HLE1 := Lib.hid (show L1.length ≤ 24 by omega)
  have HLE2 := Lib.hid (show l1.length ≤ 24 by have h := hy1.2; dsimp only at h; omega)
  have HLE3 := Lib.hid (show l2.length ≤ 24 by have h := hy1.2; have h2 := hy2.2; dsimp only at h h2; omega)
  clear hL1 hL1b hL1n hL1w hin1 hnil1 hq1 hq2 hq3 hy1 hy2 HST hb8 hsl
  have hal := (Below.refl w8.heap.size w8).alloc (Nat.le_refl _) (.cells #[.pointer (some ⟨rd, 0, none⟩)] 87)
  have hkt := heap_alloc_new w8 (.cells #[.pointer (some ⟨rd, 0, none⟩)] 87)
  have HAL := Lib.hid (And.intro hal hkt)
  clear hal hkt
  go_wp2_with fail
  obtain ⟨hal, hkt⟩ := HAL.out
  have hsz9 : (w8.alloc (.cells #[.pointer (some ⟨rd, 0, none⟩)] 87)).heap.size = w8.heap.size + 1 := by simp
  obtain ⟨tb, htb⟩ : ∃ tb, w8.heap.size = tb := ⟨_, rfl⟩
  have htb1 : rd < tb := by omega
  have htb2 : w.heap.size + 2 ≤ tb := by omega
  have hst9 := hst8.grow hal
  have hR9 := hR8.below hal
  have hSw9 := hSw8.trans (hal.mono (show w.heap.size ≤ w8.heap.size by omega))
  rw [htb] at hkt hsz9 ⊢
  have htbz : tb < (w8.alloc (.cells #[.pointer (some ⟨rd, 0, none⟩)] 87)).heap.size := by omega
  clear HAL hst8 hR8 hal hsz9 htb
  generalize w8.alloc (.cells #[.pointer (some ⟨rd, 0, none⟩)] 87) = w9 at hst9 hR9 hSw9 hkt htbz ⊢
  have hdt : w9.cell? ⟨tb, 0, none⟩ = some (.pointer (some ⟨rd, 0, none⟩)) := Go.Joins.cell_of_block hkt 0
  have htbne : tb ≠ w.heap.size := by omega
  have hSt9 : RS w2 w.heap.size tb rd w9 := ⟨hSw9, hkt⟩
  clear hSw9 hdt hkt htbz hSw8 hSw7
  have hn1 : rd ≠ w.heap.size := by omega
  refine heldS_begin (RS w2 w.heap.size tb rd) (by kernel_rfl) (rs_drew hSt9) ?_
  intro hS0
  (first | (refine takeS_no 0 rfl (by kernel_rfl) (by kernel_rfl) (by kernel_rfl) (fun _ _ _ h => h) (by rfl) (by assumption) ?_) | (refine takeS_yes (v := ?_) 0 rfl (by kernel_rfl) (by kernel_rfl) (by kernel_rfl) (fun _ _ _ h => h) (by rfl) (by assumption) ?_ ?_; rotate_left; focus (intro wS hSw; have dt := hSw.cell; go_simp; first | done | with_reducible rfl)))
  (try simp only [Act.put, List.setIfInBounds_toArray, List.set_cons_zero, List.set_cons_succ])
  (first | (refine takeS_no 2 rfl (by kernel_rfl) (by kernel_rfl) (by kernel_rfl) (fun _ _ _ h => h) (by rfl) (by assumption) ?_) | (refine takeS_yes (v := ?_) 2 rfl (by kernel_rfl) (by kernel_rfl) (by kernel_rfl) (fun _ _ _ h => h) (by rfl) (by assumption) ?_ ?_; rotate_left; focus (intro wS hSw; have dt := hSw.cell; go_simp; first | done | with_reducible rfl)))
  (try simp only [Act.put, List.setIfInBounds_toArray, List.set_cons_zero, List.set_cons_succ])
  (first | (refine takeS_no 4 rfl (by kernel_rfl) (by kernel_rfl) (by kernel_rfl) (fun _ _ _ h => h) (by rfl) (by assumption) ?_) | (refine takeS_yes (v := ?_) 4 rfl (by kernel_rfl) (by kernel_rfl) (by kernel_rfl) (fun _ _ _ h => h) (by rfl) (by assumption) ?_ ?_; rotate_left; focus (intro wS hSw; have dt := hSw.cell; go_simp; first | done | with_reducible rfl)))
  (try simp only [Act.put, List.setIfInBounds_toArray, List.set_cons_zero, List.set_cons_succ])
  have hst10 := hst9.grow (Below.refl w9.heap.size w9).drew
  have hR10 := hR9.below (Below.refl w9.heap.size w9).drew
  have hSw10 : RS w2 w.heap.size tb rd w9.drew := hS0
  clear hst9 hR9 hSt9 hS0
  generalize w9.drew = w10 at hst10 hR10 hSw10 ⊢
  have HST := Lib.hid hst10
  have HRD := Lib.hid hR10
  clear hst10 hR10
  refine takeS_alone 1 rfl (by kernel_rfl) (by rfl) (fun K hK => ?_)
  go_simp
  (refine (lnumber_any rd rd false L1 tm b1 l1 w10 HN1.out HRD.out HWF1.out (by have h := HLE1.out; omega)).mono ?_; rintro e w11 ⟨rfl, hr9, ho9⟩; have hSw11 := st_only hSw10 ho9 (by omega) (by omega); have hst9 := HST.out.only ho9 (by omega) (by omega) (by omega); clear HST HRD; have HST := Lib.hid hst9; have HRD := Lib.hid hr9; clear hr9 ho9 hst9)
  refine hK.out _ _ (by assumption) ?_
  clear hK K
  (try simp only [Act.put, List.setIfInBounds_toArray, List.set_cons_zero, List.set_cons_succ])
  (first | (refine takeS_no 6 rfl (by kernel_rfl) (by kernel_rfl) (by kernel_rfl) (fun _ _ _ h => h) (by rfl) (by assumption) ?_) | (refine takeS_yes (v := ?_) 6 rfl (by kernel_rfl) (by kernel_rfl) (by kernel_rfl) (fun _ _ _ h => h) (by rfl) (by assumption) ?_ ?_; rotate_left; focus (intro wS hSw; have dt := hSw.cell; go_simp; first | done | with_reducible rfl)))
  (try simp only [Act.put, List.setIfInBounds_toArray, List.set_cons_zero, List.set_cons_succ])
  refine takeS_alone 3 rfl (by kernel_rfl) (by rfl) (fun K hK => ?_)
  go_simp
  (refine (lnumber_any rd rd b1 l1 ix b2 l2 w11 HN2.out HRD.out HWF2.out (by have h := HLE2.out; omega)).mono ?_; rintro e w12 ⟨rfl, hr9, ho9⟩; have hSw12 := st_only hSw11 ho9 (by omega) (by omega); have hst9 := HST.out.only ho9 (by omega) (by omega) (by omega); clear HST HRD; have HST := Lib.hid hst9; have HRD := Lib.hid hr9; clear hr9 ho9 hst9)
  refine hK.out _ _ (by assumption) ?_
  clear hK K
  (try simp only [Act.put, List.setIfInBounds_toArray, List.set_cons_zero, List.set_cons_succ])
  refine takeS_alone 5 rfl (by kernel_rfl) (by rfl) (fun K hK => ?_)
  go_simp
  (refine (lnumber_any rd rd b2 l2 ws b3 l3 w12 HN3.out HRD.out HWF3.out (by have h := HLE3.out; omega)).mono ?_; rintro e w13 ⟨rfl, hr9, ho9⟩; have hSw13 := st_only hSw12 ho9 (by omega) (by omega); have hst9 := HST.out.only ho9 (by omega) (by omega) (by omega); clear HST HRD; have HST := Lib.hid hst9; have HRD := Lib.hid hr9; clear hr9 ho9 hst9)
  refine hK.out _ _ (by assumption) ?_
  clear hK K
  (try simp only [Act.put, List.setIfInBounds_toArray, List.set_cons_zero, List.set_cons_succ])
  refine takeS_alone 7 rfl (by kernel_rfl) (by rfl) (fun K hK => ?_)
  skip
  (have hk := HST.out.blk; have c0 : w13.cell? ⟨w.heap.size, 3, none⟩ = some (.int .i64 0) := Go.Joins.cell_of_block hk 3; have f0 : w13.frozen? ⟨w.heap.size, 3, none⟩ = false := Go.Joins.unfrozen_of_block hk 3; go_simp; clear c0 f0 hk; have h4 := HST.out.put (x2 := ⟨kd, fr, tt, tm, 0, 0, OB.1, 0, 0, none, [], 0, none, [], 0, none, [], 0⟩) 3 (.int .i64 tm) rfl; have hSw14 := st_set hSw13 htbne 3 (.int .i64 tm); clear HST; generalize w13.setCell ⟨w.heap.size, 3, none⟩ (.int .i64 tm) = w14 at h4 hSw14 ⊢; have HST := Lib.hid h4; clear h4)
  refine hK.out _ _ (by assumption) ?_
  clear hK K
  (try simp only [Act.put, List.setIfInBounds_toArray, List.set_cons_zero, List.set_cons_succ])
  (first | (refine takeS_no 8 rfl (by kernel_rfl) (by kernel_rfl) (by kernel_rfl) (fun _ _ _ h => h) (by rfl) (by assumption) ?_) | (refine takeS_yes (v := ?_) 8 rfl (by kernel_rfl) (by kernel_rfl) (by kernel_rfl) (fun _ _ _ h => h) (by rfl) (by assumption) ?_ ?_; rotate_left; focus (intro wS hSw; have dt := hSw.cell; go_simp; first | done | with_reducible rfl)))
  (try simp only [Act.put, List.setIfInBounds_toArray, List.set_cons_zero, List.set_cons_succ])
  refine takeS_alone 9 rfl (by kernel_rfl) (by rfl) (fun K hK => ?_)
  skip
  (have hk := HST.out.blk; have c0 : w14.cell? ⟨w.heap.size, 4, none⟩ = some (.int .i64 0) := Go.Joins.cell_of_block hk 4; have f0 : w14.frozen? ⟨w.heap.size, 4, none⟩ = false := Go.Joins.unfrozen_of_block hk 4; go_simp; clear c0 f0 hk; have h4 := HST.out.put (x2 := ⟨kd, fr, tt, tm, ix, 0, OB.1, 0, 0, none, [], 0, none, [], 0, none, [], 0⟩) 4 (.int .i64 ix) rfl; have hSw15 := st_set hSw14 htbne 4 (.int .i64 ix); clear HST; generalize w14.setCell ⟨w.heap.size, 4, none⟩ (.int .i64 ix) = w15 at h4 hSw15 ⊢; have HST := Lib.hid h4; clear h4)
  refine hK.out _ _ (by assumption) ?_
  clear hK K
  (try simp only [Act.put, List.setIfInBounds_toArray, List.set_cons_zero, List.set_cons_succ])
  (first | (refine takeS_no 10 rfl (by kernel_rfl) (by kernel_rfl) (by kernel_rfl) (fun _ _ _ h => h) (by rfl) (by assumption) ?_) | (refine takeS_yes (v := ?_) 10 rfl (by kernel_rfl) (by kernel_rfl) (by kernel_rfl) (fun _ _ _ h => h) (by rfl) (by assumption) ?_ ?_; rotate_left; focus (intro wS hSw; have dt := hSw.cell; go_simp; first | done | with_reducible rfl)))
  (try simp only [Act.put, List.setIfInBounds_toArray, List.set_cons_zero, List.set_cons_succ])
  refine takeS_alone 11 rfl (by kernel_rfl) (by rfl) (fun K hK => ?_)
  skip
  (have hk := HST.out.blk; have c0 : w15.cell? ⟨w.heap.size, 5, none⟩ = some (.int .i64 0) := Go.Joins.cell_of_block hk 5; have f0 : w15.frozen? ⟨w.heap.size, 5, none⟩ = false := Go.Joins.unfrozen_of_block hk 5; go_simp; clear c0 f0 hk; have h4 := HST.out.put (x2 := ⟨kd, fr, tt, tm, ix, ws, OB.1, 0, 0, none, [], 0, none, [], 0, none, [], 0⟩) 5 (.int .i64 ws) rfl; have hSw16 := st_set hSw15 htbne 5 (.int .i64 ws); clear HST; generalize w15.setCell ⟨w.heap.size, 5, none⟩ (.int .i64 ws) = w16 at h4 hSw16 ⊢; have HST := Lib.hid h4; clear h4)
  refine hK.out _ _ (by assumption) ?_
  clear hK K
  (try simp only [Act.put, List.setIfInBounds_toArray, List.set_cons_zero, List.set_cons_succ])
  refine wpAnyH_done (by kernel_rfl) ?_ _
  have hin2 := (HT.out.below hSw16.below (Nat.le_refl _)).drop 28 (show (b.take 44).length ≤ c by rw [List.length_take, HN.out]; omega)
  obtain ⟨sb, hsb⟩ : ∃ sb, subA (some ⟨fb, off, none⟩) c 28 1 = sb := ⟨_, rfl⟩
  rw [hsb] at hin2
  have hsl : ∀ w', (Instr.sliceAt 25 (.slice (some ⟨fb, off, none⟩) 44 c) (some (.int .i64 28)) none none).run Tryd.prog w' = .ok (.slice sb 16 (c - 28)) w' := fun w' => by
    rw [← hsb]; exact run_sub_l sliceByte sizeByte _ 44 c 28 (by omega) .i64 28 rfl w'
  obtain ⟨L2, hL2⟩ : ∃ L2, (b.take 44).drop 28 = L2 := ⟨_, rfl⟩
  rw [hL2] at hin2
  have hL2n : L2.length = 16 := by rw [← hL2, List.length_drop, List.length_take, HN.out]; omega
  have hL2w : BytesWf L2 := hL2 ▸ (HW.out.take 44).drop 28
  have HL2 := Lib.hid hL2
  have hnil2 : sb = none → c - 28 = 0 := fun h => by rw [← hsb] at h; exact absurd (subA_eq_none h) (by simp)
  have HIN2 := Lib.hid hin2
  have HNIL2 := Lib.hid hnil2
  have HL2N := Lib.hid hL2n
  clear hin2 hnil2 hsb hL2 hL2n HRD HWF1 HWF2 HLE1 HLE2 HWF3 HLE3
  go_wp2_with fail
  have hz16 := hSw16.lt
  refine (newReader_off sb 16 (c - 28) L2 w16 w.heap.size HL2N.out HIN2.out (by omega) HNIL2.out (by omega)).mono ?_
  rintro e w17 ⟨rd2, ra2, rc2, rfl, hrd2, hR17, hfar2, hb17⟩
  have hst17 := HST.out.grow hb17
  have hrd2l := hR17.lt
  have hS17 := hSw16.grow hb17 (by omega)
  have hdt17 := hS17.cell
  have hft17 : w17.frozen? ⟨tb, 0, none⟩ = false := Go.Joins.unfrozen_of_block hS17.blk 0
  obtain ⟨⟨cm, b4, l4⟩, hq4⟩ : ∃ q, numS false L2 = q := ⟨_, rfl⟩
  obtain ⟨⟨rn, b5, l5⟩, hq5⟩ : ∃ q, numS b4 l4 = q := ⟨_, rfl⟩
  have hy4 := numS_shrinks false L2 hL2w
  rw [hq4] at hy4
  have HN4 := Lib.hid hq4
  have HN5 := Lib.hid hq5
  have HWF4 := Lib.hid hL2w
  have HWF5 := Lib.hid hy4.1
  have HLE4 := Lib.hid (show L2.length ≤ 16 by rw [HL2N.out]; exact Nat.le_refl _)
  have HLE5 := Lib.hid (show l4.length ≤ 16 by have h := hy4.2; dsimp only at h; rw [HL2N.out] at h; exact h)
  clear hq4 hq5 hy4 hL2w hsl HST hb17 hSw16 HIN2 HNIL2 HL2N
  have hRW := Lib.hid (RdSt.only hst17 (Only.set tb w17 0 (.pointer (some ⟨rd2, 0, none⟩))) (by omega) (by omega) (by omega))
  have hRR := Lib.hid (rdr_off hR17 hfar2 (i := 0) (show tb < w16.heap.size from hz16) (by omega) (.pointer (some ⟨rd2, 0, none⟩)))
  have hSS := Lib.hid (hS17.put rd2 (by omega))
  clear hst17 hR17 hfar2 hS17
  have hn2 : rd2 ≠ w.heap.size := by omega
  go_wp2_with fail
  clear hdt17 hft17
  have hSS1 := hSS.out
  have hRW1 := hRW.out
  have hRR1 := hRR.out
  clear hSS hRW hRR
  generalize w17.setCell ⟨tb, 0, none⟩ (.pointer (some ⟨rd2, 0, none⟩)) = w18 at hSS1 hRW1 hRR1 ⊢
  refine heldS_begin (RS w2 w.heap.size tb rd2) (by kernel_rfl) (rs_drew hSS1) ?_
  intro hS0
  (first | (refine takeS_no 0 rfl (by kernel_rfl) (by kernel_rfl) (by kernel_rfl) (fun _ _ _ h => h) (by rfl) (by assumption) ?_) | (refine takeS_yes (v := ?_) 0 rfl (by kernel_rfl) (by kernel_rfl) (by kernel_rfl) (fun _ _ _ h => h) (by rfl) (by assumption) ?_ ?_; rotate_left; focus (intro wS hSw; have dt := hSw.cell; go_simp; first | done | with_reducible rfl)))
  (try simp only [Act.put, List.setIfInBounds_toArray, List.set_cons_zero, List.set_cons_succ])
  (first | (refine takeS_no 2 rfl (by kernel_rfl) (by kernel_rfl) (by kernel_rfl) (fun _ _ _ h => h) (by rfl) (by assumption) ?_) | (refine takeS_yes (v := ?_) 2 rfl (by kernel_rfl) (by kernel_rfl) (by kernel_rfl) (fun _ _ _ h => h) (by rfl) (by assumption) ?_ ?_; rotate_left; focus (intro wS hSw; have dt := hSw.cell; go_simp; first | done | with_reducible rfl)))
  (try simp only [Act.put, List.setIfInBounds_toArray, List.set_cons_zero, List.set_cons_succ])
  have hst10 := hRW1.grow (Below.refl w18.heap.size w18).drew
  have hR10 := hRR1.below (Below.refl w18.heap.size w18).drew
  have hSw20 : RS w2 w.heap.size tb rd2 w18.drew := hS0
  clear hRW1 hRR1 hSS1 hS0
  generalize w18.drew = w20 at hst10 hR10 hSw20 ⊢
  have HST := Lib.hid hst10
  have HRD := Lib.hid hR10
  clear hst10 hR10
  refine takeS_alone 1 rfl (by kernel_rfl) (by rfl) (fun K hK => ?_)
  go_simp
  (refine (lnumber_any rd2 rd2 false L2 cm b4 l4 w20 HN4.out HRD.out HWF4.out (by have h := HLE4.out; omega)).mono ?_; rintro e w21 ⟨rfl, hr9, ho9⟩; have hSw21 := st_only hSw20 ho9 (by omega) (by omega); have hst9 := HST.out.only ho9 (by omega) (by omega) (by omega); clear HST HRD; have HST := Lib.hid hst9; have HRD := Lib.hid hr9; clear hr9 ho9 hst9)
  refine hK.out _ _ (by assumption) ?_
  clear hK K
  (try simp only [Act.put, List.setIfInBounds_toArray, List.set_cons_zero, List.set_cons_succ])
  (first | (refine takeS_no 4 rfl (by kernel_rfl) (by kernel_rfl) (by kernel_rfl) (fun _ _ _ h => h) (by rfl) (by assumption) ?_) | (refine takeS_yes (v := ?_) 4 rfl (by kernel_rfl) (by kernel_rfl) (by kernel_rfl) (fun _ _ _ h => h) (by rfl) (by assumption) ?_ ?_; rotate_left; focus (intro wS hSw; have dt := hSw.cell; go_simp; first | done | with_reducible rfl)))
  (try simp only [Act.put, List.setIfInBounds_toArray, List.set_cons_zero, List.set_cons_succ])
  refine takeS_alone 3 rfl (by kernel_rfl) (by rfl) (fun K hK => ?_)
  go_simp
  (refine (lnumber_any rd2 rd2 b4 l4 rn b5 l5 w21 HN5.out HRD.out HWF5.out (by have h := HLE5.out; omega)).mono ?_; rintro e w22 ⟨rfl, hr9, ho9⟩; have hSw22 := st_only hSw21 ho9 (by omega) (by omega); have hst9 := HST.out.only ho9 (by omega) (by omega) (by omega); clear HST HRD; have HST := Lib.hid hst9; have HRD := Lib.hid hr9; clear hr9 ho9 hst9)
  refine hK.out _ _ (by assumption) ?_
  clear hK K
  (try simp only [Act.put, List.setIfInBounds_toArray, List.set_cons_zero, List.set_cons_succ])
  refine takeS_alone 5 rfl (by kernel_rfl) (by rfl) (fun K hK => ?_)
  skip
  (have hk := HST.out.blk; have c0 : w22.cell? ⟨w.heap.size, 7, none⟩ = some (.int .i64 0) := Go.Joins.cell_of_block hk 7; have f0 : w22.frozen? ⟨w.heap.size, 7, none⟩ = false := Go.Joins.unfrozen_of_block hk 7; go_simp; clear c0 f0 hk; have h4 := HST.out.put (x2 := ⟨kd, fr, tt, tm, ix, ws, OB.1, cm, 0, none, [], 0, none, [], 0, none, [], 0⟩) 7 (.int .i64 cm) rfl; have hSw23 := st_set hSw22 htbne 7 (.int .i64 cm); clear HST; generalize w22.setCell ⟨w.heap.size, 7, none⟩ (.int .i64 cm) = w23 at h4 hSw23 ⊢; have HST := Lib.hid h4; clear h4)
  refine hK.out _ _ (by assumption) ?_
  clear hK K
  (try simp only [Act.put, List.setIfInBounds_toArray, List.set_cons_zero, List.set_cons_succ])
  (first | (refine takeS_no 6 rfl (by kernel_rfl) (by kernel_rfl) (by kernel_rfl) (fun _ _ _ h => h) (by rfl) (by assumption) ?_) | (refine takeS_yes (v := ?_) 6 rfl (by kernel_rfl) (by kernel_rfl) (by kernel_rfl) (fun _ _ _ h => h) (by rfl) (by assumption) ?_ ?_; rotate_left; focus (intro wS hSw; have dt := hSw.cell; go_simp; first | done | with_reducible rfl)))
  (try simp only [Act.put, List.setIfInBounds_toArray, List.set_cons_zero, List.set_cons_succ])
  refine takeS_alone 7 rfl (by kernel_rfl) (by rfl) (fun K hK => ?_)
  skip
  (have hk := HST.out.blk; have c0 : w23.cell? ⟨w.heap.size, 8, none⟩ = some (.int .i64 0) := Go.Joins.cell_of_block hk 8; have f0 : w23.frozen? ⟨w.heap.size, 8, none⟩ = false := Go.Joins.unfrozen_of_block hk 8; go_simp; clear c0 f0 hk; have h4 := HST.out.put (x2 := ⟨kd, fr, tt, tm, ix, ws, OB.1, cm, rn, none, [], 0, none, [], 0, none, [], 0⟩) 8 (.int .i64 rn) rfl; have hSw24 := st_set hSw23 htbne 8 (.int .i64 rn); clear HST; generalize w23.setCell ⟨w.heap.size, 8, none⟩ (.int .i64 rn) = w24 at h4 hSw24 ⊢; have HST := Lib.hid h4; clear h4)
  refine hK.out _ _ (by assumption) ?_
  clear hK K
  (try simp only [Act.put, List.setIfInBounds_toArray, List.set_cons_zero, List.set_cons_succ])
  refine wpAnyH_done (by kernel_rfl) ?_ _
  clear HRD HWF4 HWF5 HLE4 HLE5
  obtain ⟨⟨mn, mo, ml⟩, hm⟩ : ∃ q, cntS (b.drop 44) = q := ⟨_, rfl⟩
  have HM := Lib.hid hm
  go_wp2_with fail
  refine (lrcount_any w.heap.size (w.heap.size + 1) (b.drop 44) (mn, mo, ml) w24 hm HST.out.rest (HW.out.drop 44) (by rw [List.length_drop, HN.out]; omega)).mono ?_
  rintro e w25 ⟨rfl, hrest, ho⟩
  dsimp only at hrest ⊢
  have hst25 : RdSt w w.heap.size w.heap.size (w.heap.size + 1) ⟨kd, fr, tt, tm, ix, ws, OB.1, cm, rn, none, [], 0, none, [], 0, none, [], 0⟩ ml w25 :=
    ⟨HST.out.below.trans (ho.toBelow (by have := HST.out.rest.lt; omega) (by omega)), (ho.block w.heap.size (by have := HST.out.rest.lt; omega) (by omega)).trans HST.out.blk, hrest, Nat.le_refl _, by omega, by omega⟩
  have HRR := Lib.hid (show r = (if mo = false ∨ 16 < mn then none else
      match readEs mn.toNat ml with
      | none => none
      | some (es, r') =>
        if (cntS r').2.1 = false then none else
        if (cntS ((cntS r').2.2.drop (cntS r').1.toNat)).2.1 = false ∨ (cntS ((cntS r').2.2.drop (cntS r').1.toNat)).1 ≠ ((cntS ((cntS r').2.2.drop (cntS r').1.toNat)).2.2.length : Int) then none else
        some ⟨kd, fr, tt, tm, ix, ws, OB.1, cm, rn, es, (cntS r').2.2.take (cntS r').1.toNat, (cntS ((cntS r').2.2.drop (cntS r').1.toNat)).2.2⟩) by
    obtain ⟨v1, v2, v3, v4⟩ := HV.out
    have hob : decide (ob = 1) = OB.1 := HOB.out
    rw [← HR.out]
    unfold readL
    rw [if_neg (by rw [HN.out]; omega), HL1.out, HL2.out, HM.out, HN1.out]
    dsimp only
    rw [HN2.out]
    dsimp only
    rw [HN3.out, HN4.out]
    dsimp only
    rw [HN5.out, v1, v2, v3, v4, hob]
    rfl)
  have hmw := cntS_wf (HW.out.drop 44)
  rw [HM.out] at hmw
  have HMW := Lib.hid hmw
  clear hm hmw HN1 HN2 HN3 HN4 HN5 HL1 HL2 HV hrest ho HST HOB
  cases mo with
  | false =>
    have hnone := Lib.hid (show r = none by rw [HRR.out, if_pos (Or.inl rfl)])
    have H0 := Lib.hid hst25
    clear hst25
    have hrg := H0.out.range
    have hbk := H0.out.blk
    go_wp2_with (first | (refine wpList_load_mid rfl 27 (.tmp 2) rfl w.heap.size 0 rfl (ltArr ⟨kd, fr, tt, tm, ix, ws, OB.1, cm, rn, none, [], 0, none, [], 0, none, [], 0⟩).toList _ hrg Tryd.underlying27 rfl (info_lt3 ⟨kd, fr, tt, tm, ix, ws, OB.1, cm, rn, none, [], 0, none, [], 0, none, [], 0⟩) ?_) | (refine wpList_store_row rfl 27 (.tmp 2) (.tmp 74) rfl w.heap.size (ltArr ⟨kd, fr, tt, tm, ix, ws, OB.1, cm, rn, none, [], 0, none, [], 0, none, [], 0⟩) rfl (by first | rfl | simp) 27 _ hbk (info_lt2 ⟨kd, fr, tt, tm, ix, ws, OB.1, cm, rn, none, [], 0, none, [], 0, none, [], 0⟩) rfl (ltArr_one ⟨kd, fr, tt, tm, ix, ws, OB.1, cm, rn, none, [], 0, none, [], 0, none, [], 0⟩) ?_; rw [setRow_same hbk]))
    exact read_end rfl H0.out rfl rfl (by rw [hnone.out]; rfl) (fun l hl => by rw [hnone.out] at hl; cases hl)
  | true =>
  by_cases hm16 : 16 < mn
  · have hnone := Lib.hid (show r = none by rw [HRR.out, if_pos (Or.inr hm16)])
    have H0 := Lib.hid hst25
    have j1 : decide (16 < mn) = true := decide_eq_true hm16
    clear hst25
    have hrg := H0.out.range
    have hbk := H0.out.blk
    go_wp2_with (first | (refine wpList_load_mid rfl 27 (.tmp 2) rfl w.heap.size 0 rfl (ltArr ⟨kd, fr, tt, tm, ix, ws, OB.1, cm, rn, none, [], 0, none, [], 0, none, [], 0⟩).toList _ hrg Tryd.underlying27 rfl (info_lt3 ⟨kd, fr, tt, tm, ix, ws, OB.1, cm, rn, none, [], 0, none, [], 0, none, [], 0⟩) ?_) | (refine wpList_store_row rfl 27 (.tmp 2) (.tmp 74) rfl w.heap.size (ltArr ⟨kd, fr, tt, tm, ix, ws, OB.1, cm, rn, none, [], 0, none, [], 0, none, [], 0⟩) rfl (by first | rfl | simp) 27 _ hbk (info_lt2 ⟨kd, fr, tt, tm, ix, ws, OB.1, cm, rn, none, [], 0, none, [], 0, none, [], 0⟩) rfl (ltArr_one ⟨kd, fr, tt, tm, ix, ws, OB.1, cm, rn, none, [], 0, none, [], 0, none, [], 0⟩) ?_; rw [setRow_same hbk]))
    exact read_end rfl H0.out rfl rfl (by rw [hnone.out]; rfl) (fun l hl => by rw [hnone.out] at hl; cases hl)
  have hmn0 : 0 ≤ mn := HMW.out.2.1
  obtain ⟨mm, rfl⟩ : ∃ mm : Nat, mn = mm := ⟨mn.toNat, by omega⟩
  have hmm : mm ≤ 16 := by omega
  have j1 : ¬ (16 : Int) < (mm : Int) := by omega
  have j2 : decide ((16 : Int) < (mm : Int)) = false := decide_eq_false j1
  have HRR2 := Lib.hid (HRR.out.trans (by rw [if_neg (by simp; omega)]))
  have HMLL := Lib.hid (show ml.length ≤ 1048576 by have h := HMW.out.2.2.2; rw [List.length_drop, HN.out] at h; dsimp only at h; omega)
  clear HRR hm16
  have HST := Lib.hid hst25
  clear hst25
  go_wp2_with fail
  clear j1 j2
  go_loopw [76] (fun i wr => ∃ (k : Nat) (es : List En) (ea : Option Addr) (ec : Nat) (lft : List Int), k ≤ mm ∧ i = .int .i64 k ∧ es.length = k ∧ RdSt w w.heap.size w.heap.size (w.heap.size + 1) ⟨kd, fr, tt, tm, ix, ws, OB.1, cm, rn, ea, es, ec, none, [], 0, none, [], 0⟩ lft wr ∧ EnsOwn wr (w.heap.size + 2) (.slice ea es.length ec) es ∧ (∀ e ∈ es, EnFine e) ∧ BytesWf lft ∧ lft.length ≤ ml.length ∧ readEs mm ml = (match readEs (mm - k) lft with | none => none | some (l, r') => some (es.map En.plain ++ l, r'))) (fun i _ => mm - (intOf i).toNat)
  case atStart => exact ⟨0, [], none, 0, ml, by omega, rfl, rfl, HST.out, EnsOwn.nil _ _, (fun e he => by cases he), HMW.out.1, Nat.le_refl _, by rw [Nat.sub_zero]; cases readEs mm ml <;> rfl⟩
  case round =>
    clear HST
    obtain ⟨k, es, ea, ec, lft, hk, rfl, hek, hst, hown, hfine, hlw, hll, hre⟩ := hrel
    have HEK := Lib.hid hek
    have HST := Lib.hid hst
    have HOW := Lib.hid hown
    have HFI := Lib.hid hfine
    have HLW := Lib.hid hlw
    have HLL := Lib.hid hll
    have HRE := Lib.hid hre
    clear hek hst hown hfine hlw hll hre
    by_cases hlt : k < mm
    · have i1 : (k : Int) < mm := by omega
      obtain ⟨ra, rcap, hrs⟩ := HST.out.rest
      obtain ⟨ln, hln⟩ : ∃ ln, lft.length = ln := ⟨_, rfl⟩
      have hkb := hrs.blk
      rw [hln] at hkb
      have c0 : wr.cell? ⟨w.heap.size + 1, 0, none⟩ = some (.slice ra ln rcap) := Go.Joins.cell_of_block hkb 0
      have hlt1 := HST.out.rest.lt
      have HRS := Lib.hid hrs
      have HLN := Lib.hid hln
      clear hrs hkb hln
      go_wp2_with fail
      have hll := HLL.out
      have hmll := HMLL.out
      refine (newReader_any ra ln rcap lft wr w.heap.size HLN.out HRS.out.off (by omega) HRS.out.nil (by have := HLN.out; omega)).mono ?_
      rintro e w30 ⟨rd, rfl, hrd, hR30, hb30⟩
      have hst30 := HST.out.grow hb30
      have how30 := HOW.out.below hb30 (Nat.le_refl _)
      have hs30 := hb30.size
      have hrdl := hR30.lt
      clear c0 hb30
      have hal := (Below.refl w30.heap.size w30).alloc (Nat.le_refl _) (.cells #[.pointer (some ⟨rd, 0, none⟩)] 87)
      have hkt := heap_alloc_new w30 (.cells #[.pointer (some ⟨rd, 0, none⟩)] 87)
      have HAL := Lib.hid (And.intro hal hkt)
      have HST30 := Lib.hid hst30
      clear hal hkt hst30
      go_wp2_with fail
      obtain ⟨hal, hkt⟩ := HAL.out
      have hsz31 : (w30.alloc (.cells #[.pointer (some ⟨rd, 0, none⟩)] 87)).heap.size = w30.heap.size + 1 := by simp
      obtain ⟨t2, ht2⟩ : ∃ tb, w30.heap.size = tb := ⟨_, rfl⟩
      have ht2a : rd < t2 := by omega
      have hst31 := HST30.out.grow hal
      have how31 := how30.below hal (Nat.le_refl _)
      have hR31 := hR30.below hal
      rw [ht2] at hkt hsz31 ⊢
      clear HAL HST30 hR30 hal how30
      generalize w30.alloc (.cells #[.pointer (some ⟨rd, 0, none⟩)] 87) = w31 at hst31 hR31 how31 hkt hsz31 ⊢
      have hz31 : t2 + 1 ≤ w31.heap.size := Nat.le_of_eq hsz31.symm
      obtain ⟨⟨eP, eb, el⟩, hq⟩ : ∃ q, entryS false lft = q := ⟨_, rfl⟩
      have HQ := Lib.hid hq
      clear hsz31 hq
      refine (rdEntry_any rd rd false lft (eP, eb, el) w31 HQ.out hR31 HLW.out (by omega)).mono ?_
      rintro e w32 ⟨f, hp, he, ⟨hv1, hv2⟩, hr32, ho32⟩
      subst he
      dsimp only at hp hr32
      have hst32 := hst31.only ho32 (by omega) (by omega) (by omega)
      have hkt32 := (ho32.block t2 (by omega) (by omega)).trans hkt
      have how32 := how31.only2 ho32 (show wr.heap.size ≤ rd from hrd) HOW.out
      have hs32 := ho32.size
      have HEO := Lib.hid (show enOwn w32 w31.heap.size f from ⟨hv1, hv2⟩)
      have HPL := Lib.hid hp
      have hnil1 := own_none hv1
      have hnil2 := own_none hv2
      have hcap1 := own_capG hv1
      have hcap2 := own_capG hv2
      have HNC := Lib.hid (And.intro hnil1 (And.intro hnil2 (And.intro hcap1 hcap2)))
      clear hp hv1 hv2 hst31 hkt how31 hR31 ho32 hnil1 hnil2 hcap1 hcap2
      obtain ⟨etm, ekd, ess, esq, eck, etext, eaao, eargs, eacap, enum, evao, evs, evcap⟩ := f
      obtain ⟨nn, hnn⟩ : ∃ nn, eargs.length = nn := ⟨_, rfl⟩
      obtain ⟨mm2, hmm2⟩ : ∃ mm, evs.length = mm := ⟨_, rfl⟩
      simp only [enVal]
      rw [hnn, hmm2]
      have HNN := Lib.hid hnn
      have HMM := Lib.hid hmm2
      clear hnn hmm2
      have d0 : ∀ o, (w32.alloc o).cell? ⟨t2, 0, none⟩ = some (.pointer (some ⟨rd, 0, none⟩)) := fun o => (((Below.refl w32.heap.size w32).alloc (Nat.le_refl _) o).cell (p := ⟨t2, 0, none⟩) (show t2 < w32.heap.size by omega)).trans (Go.Joins.cell_of_block hkt32 0)
      have hal := (Below.refl w32.heap.size w32).alloc (Nat.le_refl _) (.cells #[.int .i64 etm, .int .u8 ekd, .int .i64 ess, .int .i64 esq, .int .u8 eck, .string etext, .slice eaao nn eacap, .int .i64 enum, .slice evao mm2 evcap] 47)
      have hke := heap_alloc_new w32 (.cells #[.int .i64 etm, .int .u8 ekd, .int .i64 ess, .int .i64 esq, .int .u8 eck, .string etext, .slice eaao nn eacap, .int .i64 enum, .slice evao mm2 evcap] 47)
      have HAL := Lib.hid (And.intro hal hke)
      have HST32 := Lib.hid hst32
      have HOW32 := Lib.hid how32
      have HR32 := Lib.hid hr32
      clear hal hke hst32 how32 hr32
      go_wp2_with fail
      obtain ⟨hal, hke⟩ := HAL.out
      have hst33 := HST32.out.grow hal
      have how33 := HOW32.out.below hal (Nat.le_refl _)
      have hr33 := HR32.out.below hal
      have heo33 := HEO.out.below hal (Nat.le_refl _)
      obtain ⟨vb, hvb⟩ : ∃ vb, w32.heap.size = vb := ⟨_, rfl⟩
      have hs33 : (w32.alloc (.cells #[.int .i64 etm, .int .u8 ekd, .int .i64 ess, .int .i64 esq, .int .u8 eck, .string etext, .slice eaao nn eacap, .int .i64 enum, .slice evao mm2 evcap] 47)).heap.size = w32.heap.size + 1 := by simp
      rw [hvb] at hke hs33 ⊢
      have hvb1 : w.heap.size + 2 ≤ vb := by omega
      clear HAL HST32 HOW32 HR32 d0 hal HEO
      generalize w32.alloc (.cells #[.int .i64 etm, .int .u8 ekd, .int .i64 ess, .int .i64 esq, .int .u8 eck, .string etext, .slice eaao nn eacap, .int .i64 enum, .slice evao mm2 evcap] 47) = w33 at hst33 how33 hr33 heo33 hke hs33 ⊢
      have hz33 : vb + 1 ≤ w33.heap.size := Nat.le_of_eq hs33.symm
      clear hs33
      have HST33 := Lib.hid hst33
      have HOW33 := Lib.hid how33
      have HEO33 := Lib.hid heo33
      have HKE := Lib.hid hke
      obtain ⟨PB, hPB⟩ := pair_of eb
      subst hPB
      refine (bad_rd rd rd _ _ w33 hr33).mono ?_
      rintro e w34 ⟨rfl, rfl⟩
      clear hst33 how33 heo33 hke hr33
      cases hpb : PB.1 with
      | true =>
        have hnone := Lib.hid (show r = none by
          rw [HRR2.out, Int.toNat_natCast, HRE.out]
          obtain ⟨q, hq⟩ : ∃ q, mm - k = q + 1 := ⟨mm - k - 1, by omega⟩
          rw [hq]
          unfold readEs
          rw [HQ.out]
          dsimp only
          rw [hpb, if_pos rfl])
        have H0 := Lib.hid HST33.out
        clear hpb
        have hrg := H0.out.range
        have hbk := H0.out.blk
        go_wp2_with (first | (refine wpList_load_mid rfl 27 (.tmp 2) rfl w.heap.size 0 rfl (ltArr ⟨kd, fr, tt, tm, ix, ws, OB.1, cm, rn, ea, es, ec, none, [], 0, none, [], 0⟩).toList _ hrg Tryd.underlying27 rfl (info_lt3 ⟨kd, fr, tt, tm, ix, ws, OB.1, cm, rn, ea, es, ec, none, [], 0, none, [], 0⟩) ?_) | (refine wpList_store_row rfl 27 (.tmp 2) (.tmp 87) rfl w.heap.size (ltArr ⟨kd, fr, tt, tm, ix, ws, OB.1, cm, rn, ea, es, ec, none, [], 0, none, [], 0⟩) rfl (by first | rfl | simp) 27 _ hbk (info_lt2 ⟨kd, fr, tt, tm, ix, ws, OB.1, cm, rn, ea, es, ec, none, [], 0, none, [], 0⟩) rfl (ltArr_one ⟨kd, fr, tt, tm, ix, ws, OB.1, cm, rn, ea, es, ec, none, [], 0, none, [], 0⟩) ?_; rw [setRow_same hbk]))
        exact read_end rfl H0.out rfl rfl (by rw [hnone.out]; rfl) (fun l hl => by rw [hnone.out] at hl; cases hl)
      | false =>
      have hq2 := HQ.out
      rw [hpb] at hq2
      have HQ2 := Lib.hid hq2
      clear hpb hq2 HQ
      obtain ⟨en, hen⟩ : ∃ en, es.length = en := ⟨_, rfl⟩
      have HEN := Lib.hid hen
      have l9 : w33.cell? ⟨w.heap.size, 9, none⟩ = some (.slice ea en ec) := by rw [← hen]; exact Go.Joins.cell_of_block HST33.out.blk 9
      have v0 : w33.cell? ⟨vb, 0, none⟩ = some (.int .i64 etm) := Go.Joins.cell_of_block HKE.out 0
      have v1 : w33.cell? ⟨vb, 1, none⟩ = some (.int .u8 ekd) := Go.Joins.cell_of_block HKE.out 1
      have v2 : w33.cell? ⟨vb, 2, none⟩ = some (.int .i64 ess) := Go.Joins.cell_of_block HKE.out 2
      have v3 : w33.cell? ⟨vb, 3, none⟩ = some (.int .i64 esq) := Go.Joins.cell_of_block HKE.out 3
      have v4 : w33.cell? ⟨vb, 4, none⟩ = some (.int .u8 eck) := Go.Joins.cell_of_block HKE.out 4
      have v5 : w33.cell? ⟨vb, 5, none⟩ = some (.string etext) := Go.Joins.cell_of_block HKE.out 5
      have v6 : w33.cell? ⟨vb, 6, none⟩ = some (.slice eaao nn eacap) := Go.Joins.cell_of_block HKE.out 6
      have v7 : w33.cell? ⟨vb, 7, none⟩ = some (.int .i64 enum) := Go.Joins.cell_of_block HKE.out 7
      have v8 : w33.cell? ⟨vb, 8, none⟩ = some (.slice evao mm2 evcap) := Go.Joins.cell_of_block HKE.out 8
      have hal := (Below.refl w33.heap.size w33).alloc (Nat.le_refl _) (.cells #[.int .i64 etm, .int .u8 ekd, .int .i64 ess, .int .i64 esq, .int .u8 eck, .string etext, .slice eaao nn eacap, .int .i64 enum, .slice evao mm2 evcap] 47)
      have hkl := heap_alloc_new w33 (.cells #[.int .i64 etm, .int .u8 ekd, .int .i64 ess, .int .i64 esq, .int .u8 eck, .string etext, .slice eaao nn eacap, .int .i64 enum, .slice evao mm2 evcap] 47)
      have hst34 := HST33.out.grow hal
      have how34 := HOW33.out.below hal (Nat.le_refl _)
      have heo34 := HEO33.out.below hal (Nat.le_refl _)
      have hrow34 : (w33.alloc (.cells #[.int .i64 etm, .int .u8 ekd, .int .i64 ess, .int .i64 esq, .int .u8 eck, .string etext, .slice eaao nn eacap, .int .i64 enum, .slice evao mm2 evcap] 47)).ownsRow (w.heap.size + 2) 47 9 (.slice ea en ec) en (es.flatMap enCells) := by
        have h := how34.row
        rw [hen] at h
        exact h
      have hin34 : RowsIn 9 enCells enSub (w33.alloc (.cells #[.int .i64 etm, .int .u8 ekd, .int .i64 ess, .int .i64 esq, .int .u8 eck, .string etext, .slice eaao nn eacap, .int .i64 enum, .slice evao mm2 evcap] 47)) (w33.alloc (.cells #[.int .i64 etm, .int .u8 ekd, .int .i64 ess, .int .i64 esq, .int .u8 eck, .string etext, .slice eaao nn eacap, .int .i64 enum, .slice evao mm2 evcap] 47)).heap.size (some ⟨w33.heap.size, 0, none⟩) [⟨etm, ekd, ess, esq, eck, etext, eaao, eargs, eacap, enum, evao, evs, evcap⟩] :=
        rowsIn_block enCells_len [⟨etm, ekd, ess, esq, eck, etext, eaao, eargs, eacap, enum, evao, evs, evcap⟩] _ hkl (by rw [← HNN.out, ← HMM.out]; rfl) (by simp) (fun x hx => by
          rw [List.mem_singleton.1 hx]
          exact ⟨own_rowsIn vaCells_len rfl heo34.1 (fun _ _ => trivial), own_rowsIn iCells_len rfl heo34.2 (fun _ _ => trivial)⟩)
      have HST34 := Lib.hid hst34
      have HOW34 := Lib.hid how34
      have HEO34 := Lib.hid heo34
      have HROW := Lib.hid hrow34
      have HIN := Lib.hid hin34
      have HKE34 := Lib.hid ((hal.block vb (by omega)).trans HKE.out)
      have hen16 : en ≤ 16 := by have := HEK.out; omega
      have hz34 : w.heap.size + 2 ≤ (w33.alloc (.cells #[.int .i64 etm, .int .u8 ekd, .int .i64 ess, .int .i64 esq, .int .u8 eck, .string etext, .slice eaao nn eacap, .int .i64 enum, .slice evao mm2 evcap] 47)).heap.size := by simp; omega
      have hz34b : vb < (w33.alloc (.cells #[.int .i64 etm, .int .u8 ekd, .int .i64 ess, .int .i64 esq, .int .u8 eck, .string etext, .slice eaao nn eacap, .int .i64 enum, .slice evao mm2 evcap] 47)).heap.size := by simp; omega
      clear hen hkl hst34 how34 heo34 hrow34 hin34 HST33 HOW33 HEO33 HKE hal
      go_wp2_with (at_builtin; refine wpList_append_rows Tryd.underlying23 infoEn rfl (by decide) enCells_len enCells_one rfl (.tmp 89) (.tmp 91) rfl (w.heap.size + 2) (.slice ea en ec) en (es.flatMap enCells) rfl HROW.out (some ⟨w33.heap.size, 0, none⟩) 1 1 [⟨etm, ekd, ess, esq, eck, etext, eaao, eargs, eacap, enum, evao, evs, evcap⟩] rfl rfl _ HIN.out (fun h => by cases h) (by unfold maxLen; omega) (by omega) hz34 ?_)
      intro v35 w35 hown35 hg35 hor35
      obtain ⟨ea2, ec2, hv35⟩ := row_slice hown35
      subst hv35
      have how35 : EnsOwn w35 (w.heap.size + 2) (.slice ea2 (en + 1) ec2) (es ++ [⟨etm, ekd, ess, esq, eck, etext, eaao, eargs, eacap, enum, evao, evs, evcap⟩]) := by
        have h1 := HOW34.out
        have h2 := HEN.out
        subst h2
        exact h1.push HOW.out.own (B := w31.heap.size) (by omega) (by omega) HEO34.out (by simpa using hown35) hg35
      have hlo35 : ∀ g, (Value.slice ea en ec).ownBlock = some g → w.heap.size + 2 ≤ g := fun g hg => (World.ownsRow.lt HROW.out g hg).1
      have hst35 := HST34.out.grown hg35 (fun g hg => by have := hlo35 g hg; exact ⟨by omega, by omega, by omega⟩)
      have hvb35 : w35.heap[vb]? = some (.cells #[.int .i64 etm, .int .u8 ekd, .int .i64 ess, .int .i64 esq, .int .u8 eck, .string etext, .slice eaao nn eacap, .int .i64 enum, .slice evao mm2 evcap] 47 (0, 0)) := (hg35.block vb hz34b (fun e => by
        have h1 := HOW.out.row
        rw [HEN.out] at h1
        have := (World.ownsRow.lt h1 vb e.symm).2
        omega)).trans HKE34.out
      have l9b : w35.cell? ⟨w.heap.size, 9, none⟩ = some (.slice ea en ec) := by rw [← HEN.out]; exact Go.Joins.cell_of_block hst35.blk 9
      have f9 : w35.frozen? ⟨w.heap.size, 9, none⟩ = false := Go.Joins.unfrozen_of_block hst35.blk 9
      have HS36 := Lib.hid (hst35.put (x2 := ⟨kd, fr, tt, tm, ix, ws, OB.1, cm, rn, ea2, es ++ [⟨etm, ekd, ess, esq, eck, etext, eaao, eargs, eacap, enum, evao, evs, evcap⟩], ec2, none, [], 0, none, [], 0⟩) 9 (.slice ea2 (en + 1) ec2) (by rw [← HEN.out]; simp [ltArr]))
      have HO36 := Lib.hid (how35.only (Only.set w.heap.size w35 9 (.slice ea2 (en + 1) ec2)) (by omega))
      have HV36 := Lib.hid (show (w35.setCell ⟨w.heap.size, 9, none⟩ (.slice ea2 (en + 1) ec2)).heap[vb]? = some (.cells #[.int .i64 etm, .int .u8 ekd, .int .i64 ess, .int .i64 esq, .int .u8 eck, .string etext, .slice eaao nn eacap, .int .i64 enum, .slice evao mm2 evcap] 47 (0, 0)) from (heap_setCell_other _ _ _ _ (show vb ≠ w.heap.size by omega)).trans hvb35)
      have HE35 := Lib.hid (show enOwn w35 (w.heap.size + 2) ⟨etm, ekd, ess, esq, eck, etext, eaao, eargs, eacap, enum, evao, evs, evcap⟩ from how35.own _ (by simp))
      have HZ35 := Lib.hid (show w.heap.size + 2 ≤ w35.heap.size ∧ vb < w35.heap.size by have := hg35.size; omega)
      clear hown35 hg35 hor35 how35 hlo35 hst35 hvb35 l9 v0 v1 v2 v3 v4 v5 v6 v7 v8 HROW HIN HEO34 HOW34 HST34 HKE34
      go_wp2_with fail
      clear l9b f9
      have hst36 := HS36.out
      have how36 := HO36.out
      have hvb36 := HV36.out
      have heo36 : enOwn (w35.setCell ⟨w.heap.size, 9, none⟩ (.slice ea2 (en + 1) ec2)) (w.heap.size + 2) ⟨etm, ekd, ess, esq, eck, etext, eaao, eargs, eacap, enum, evao, evs, evcap⟩ := how36.own _ (by simp)
      have hz36 : w.heap.size + 2 ≤ (w35.setCell ⟨w.heap.size, 9, none⟩ (.slice ea2 (en + 1) ec2)).heap.size := by simpa using HZ35.out.1
      clear HS36 HO36 HV36 HE35 HZ35
      generalize w35.setCell ⟨w.heap.size, 9, none⟩ (.slice ea2 (en + 1) ec2) = w36 at hst36 how36 hvb36 heo36 hz36 ⊢
      have hdr := (Below.refl w36.heap.size w36).drew
      have hst37 := hst36.grow hdr
      have how37 := how36.below hdr (Nat.le_refl _)
      have heo37 := heo36.below hdr (Nat.le_refl _)
      have hvb37 := (hdr.block vb (Array.getElem?_eq_some_iff.1 hvb36).1).trans hvb36
      have hz37 := Nat.le_trans hz36 hdr.size
      obtain ⟨ra3, rcap3, hrs3⟩ := hst37.rest
      have hkb3 := hrs3.blk
      rw [HLN.out] at hkb3
      have r0 : w36.drew.cell? ⟨w.heap.size + 1, 0, none⟩ = some (.slice ra3 ln rcap3) := Go.Joins.cell_of_block hkb3 0
      have v0 : w36.drew.cell? ⟨vb, 0, none⟩ = some (.int .i64 etm) := Go.Joins.cell_of_block hvb37 0
      have v1 : w36.drew.cell? ⟨vb, 1, none⟩ = some (.int .u8 ekd) := Go.Joins.cell_of_block hvb37 1
      have v2 : w36.drew.cell? ⟨vb, 2, none⟩ = some (.int .i64 ess) := Go.Joins.cell_of_block hvb37 2
      have v3 : w36.drew.cell? ⟨vb, 3, none⟩ = some (.int .i64 esq) := Go.Joins.cell_of_block hvb37 3
      have v4 : w36.drew.cell? ⟨vb, 4, none⟩ = some (.int .u8 eck) := Go.Joins.cell_of_block hvb37 4
      have v5 : w36.drew.cell? ⟨vb, 5, none⟩ = some (.string etext) := Go.Joins.cell_of_block hvb37 5
      have v6 : w36.drew.cell? ⟨vb, 6, none⟩ = some (.slice eaao nn eacap) := Go.Joins.cell_of_block hvb37 6
      have v7 : w36.drew.cell? ⟨vb, 7, none⟩ = some (.int .i64 enum) := Go.Joins.cell_of_block hvb37 7
      have v8 : w36.drew.cell? ⟨vb, 8, none⟩ = some (.slice evao mm2 evcap) := Go.Joins.cell_of_block hvb37 8
      have hth := entryS_there false lft HLW.out (by rw [HQ2.out])
      rw [HQ2.out] at hth
      dsimp only at hth
      have hmore := entry_fine (f := ⟨etm, ekd, ess, esq, eck, etext, eaao, eargs, eacap, enum, evao, evs, evcap⟩) HLW.out (by rw [HQ2.out]) (by have := HLL.out; have := HMLL.out; omega) (by rw [HQ2.out]; exact HPL.out) HNC.out.1 HNC.out.2.1 HNC.out.2.2.1 HNC.out.2.2.2
      obtain ⟨EB, hEB⟩ : ∃ EB, entryB ⟨etm, ekd, ess, esq, eck, etext, eargs, enum, evs⟩ = EB := ⟨_, rfl⟩
      have hEB2 : entryB eP = EB := by rw [← HPL.out]; exact hEB
      rw [hEB2] at hth
      obtain ⟨lb, hlb⟩ : ∃ lb, EB.length = lb := ⟨_, rfl⟩
      have hlbl : lb ≤ ln := by rw [← HLN.out, hth.2.1, List.length_append, hlb]; omega
      have hcap3 : ln ≤ rcap3 := by rw [← HLN.out]; exact hrs3.hcap
      have hsl : ∀ w', (Instr.sliceAt 81 (.slice ra3 ln rcap3) (some (.int .i64 (lb : Int))) none none).run Tryd.prog w' = .ok (.slice (subA ra3 rcap3 lb 1) (ln - lb) (rcap3 - lb)) w' := fun w' => run_sub_l sliceRest sizeRest ra3 ln rcap3 lb hlbl .i64 lb rfl w'
      have hca := hEB ▸ wentry_any etm ekd ess esq eck etext eaao nn eacap eargs enum evao mm2 evcap evs w36.drew HNN.out HMM.out (own_rowsIn vaCells_len rfl heo37.1 (fun _ _ => trivial)) (own_rowsIn iCells_len rfl heo37.2 (fun _ _ => trivial)) (fun v hv => by have := hmore.argt v hv; omega) (by have h := hmore.args; rw [← HNN.out]; dsimp only at h; omega) (by have h := hmore.vn; rw [← HMM.out]; dsimp only at h; omega) (by have h := hmore.size; have h2 := hmore.text; dsimp only at h h2; omega)
      rw [show BytesNew EB w36.drew.heap.size w36.drew = BytesNewL EB lb w36.drew.heap.size w36.drew by rw [← hlb]; rfl] at hca
      have HCA := Lib.hid hca
      have HST37 := Lib.hid hst37
      have HOW37 := Lib.hid how37
      have HRS3 := Lib.hid hrs3
      have HTH := Lib.hid hth
      have HMORE := Lib.hid hmore
      have HLB := Lib.hid hlb
      have HEBH := Lib.hid hEB2
      clear hst36 how36 hvb36 heo36 hdr hst37 how37 heo37 hvb37 hrs3 hkb3 hth hmore hEB hEB2 hlb hca
      refine held_begin (by kernel_rfl) ?_
      refine take_two 0 1 rfl rfl (by kernel_rfl) (by rfl) (by rfl) (fun K hK => ?_) (fun K hK => ?_)
      rotate_left
      focus
        go_simp
        skip
        refine hK.out _ _ ?_
        clear hK K
        (try simp only [Act.put, List.setIfInBounds_toArray, List.set_cons_zero, List.set_cons_succ])
        refine take_two 0 2 rfl rfl (by kernel_rfl) (by rfl) (by rfl) (fun K hK => ?_) (fun K hK => ?_)
        rotate_left
        focus
          go_simp
          (refine HCA.out.mono ?_; rintro e x1 ⟨a5, k5, rfl, ho5, hb5⟩; have hst38 := HST37.out.grow hb5; have how38 := HOW37.out.below hb5 (Nat.le_refl _); have r1 : x1.cell? ⟨w.heap.size + 1, 0, none⟩ = some (.slice ra3 ln rcap3) := (hb5.cell (p := ⟨w.heap.size + 1, 0, none⟩) (show w.heap.size + 1 < w36.drew.heap.size by omega)).trans r0; have f1 : x1.frozen? ⟨w.heap.size + 1, 0, none⟩ = false := Go.Joins.unfrozen_of_block ((hb5.block (w.heap.size + 1) (by omega)).trans HRS3.out.blk) 0; have hrs4 := HRS3.out.grow hb5; clear r0 v0 v1 v2 v3 v4 v5 v6 v7 v8 HCA ho5 hb5)
          refine hK.out _ _ ?_
          clear hK K
          (try simp only [Act.put, List.setIfInBounds_toArray, List.set_cons_zero, List.set_cons_succ])
          (first | (refine take_no 3 rfl (by kernel_rfl) (by kernel_rfl) (by kernel_rfl) (fun _ _ _ h => h) (by rfl) ?_) | (refine take_yes (v := ?_) 3 rfl (by kernel_rfl) (by kernel_rfl) (by kernel_rfl) (fun _ _ _ h => h) (by rfl) ?_ ?_; rotate_left; focus (intro wS; go_simp; first | done | with_reducible rfl)))
          (try simp only [Act.put, List.setIfInBounds_toArray, List.set_cons_zero, List.set_cons_succ])
          refine take_alone 0 rfl (by kernel_rfl) (by rfl) (fun K hK => ?_)
          go_simp
          skip
          refine hK.out _ _ ?_
          clear hK K
          (try simp only [Act.put, List.setIfInBounds_toArray, List.set_cons_zero, List.set_cons_succ])
        rotate_left
        focus
          go_simp
          skip
          refine hK.out _ _ ?_
          clear hK K
          (try simp only [Act.put, List.setIfInBounds_toArray, List.set_cons_zero, List.set_cons_succ])
          refine take_alone 2 rfl (by kernel_rfl) (by rfl) (fun K hK => ?_)
          go_simp
          (refine HCA.out.mono ?_; rintro e x1 ⟨a5, k5, rfl, ho5, hb5⟩; have hst38 := HST37.out.grow hb5; have how38 := HOW37.out.below hb5 (Nat.le_refl _); have r1 : x1.cell? ⟨w.heap.size + 1, 0, none⟩ = some (.slice ra3 ln rcap3) := (hb5.cell (p := ⟨w.heap.size + 1, 0, none⟩) (show w.heap.size + 1 < w36.drew.heap.size by omega)).trans r0; have f1 : x1.frozen? ⟨w.heap.size + 1, 0, none⟩ = false := Go.Joins.unfrozen_of_block ((hb5.block (w.heap.size + 1) (by omega)).trans HRS3.out.blk) 0; have hrs4 := HRS3.out.grow hb5; clear r0 v0 v1 v2 v3 v4 v5 v6 v7 v8 HCA ho5 hb5)
          refine hK.out _ _ ?_
          clear hK K
          (try simp only [Act.put, List.setIfInBounds_toArray, List.set_cons_zero, List.set_cons_succ])
          (first | (refine take_no 3 rfl (by kernel_rfl) (by kernel_rfl) (by kernel_rfl) (fun _ _ _ h => h) (by rfl) ?_) | (refine take_yes (v := ?_) 3 rfl (by kernel_rfl) (by kernel_rfl) (by kernel_rfl) (fun _ _ _ h => h) (by rfl) ?_ ?_; rotate_left; focus (intro wS; go_simp; first | done | with_reducible rfl)))
          (try simp only [Act.put, List.setIfInBounds_toArray, List.set_cons_zero, List.set_cons_succ])
      rotate_left 2
      focus
        go_simp
        skip
        refine hK.out _ _ ?_
        clear hK K
        (try simp only [Act.put, List.setIfInBounds_toArray, List.set_cons_zero, List.set_cons_succ])
        refine take_alone 1 rfl (by kernel_rfl) (by rfl) (fun K hK => ?_)
        go_simp
        skip
        refine hK.out _ _ ?_
        clear hK K
        (try simp only [Act.put, List.setIfInBounds_toArray, List.set_cons_zero, List.set_cons_succ])
        refine take_alone 2 rfl (by kernel_rfl) (by rfl) (fun K hK => ?_)
        go_simp
        (refine HCA.out.mono ?_; rintro e x1 ⟨a5, k5, rfl, ho5, hb5⟩; have hst38 := HST37.out.grow hb5; have how38 := HOW37.out.below hb5 (Nat.le_refl _); have r1 : x1.cell? ⟨w.heap.size + 1, 0, none⟩ = some (.slice ra3 ln rcap3) := (hb5.cell (p := ⟨w.heap.size + 1, 0, none⟩) (show w.heap.size + 1 < w36.drew.heap.size by omega)).trans r0; have f1 : x1.frozen? ⟨w.heap.size + 1, 0, none⟩ = false := Go.Joins.unfrozen_of_block ((hb5.block (w.heap.size + 1) (by omega)).trans HRS3.out.blk) 0; have hrs4 := HRS3.out.grow hb5; clear r0 v0 v1 v2 v3 v4 v5 v6 v7 v8 HCA ho5 hb5)
        refine hK.out _ _ ?_
        clear hK K
        (try simp only [Act.put, List.setIfInBounds_toArray, List.set_cons_zero, List.set_cons_succ])
        (first | (refine take_no 3 rfl (by kernel_rfl) (by kernel_rfl) (by kernel_rfl) (fun _ _ _ h => h) (by rfl) ?_) | (refine take_yes (v := ?_) 3 rfl (by kernel_rfl) (by kernel_rfl) (by kernel_rfl) (fun _ _ _ h => h) (by rfl) ?_ ?_; rotate_left; focus (intro wS; go_simp; first | done | with_reducible rfl)))
        (try simp only [Act.put, List.setIfInBounds_toArray, List.set_cons_zero, List.set_cons_succ])
      all_goals
        (first | (refine take_no 4 rfl (by kernel_rfl) (by kernel_rfl) (by kernel_rfl) (fun _ _ _ h => h) (by rfl) ?_) | (refine take_yes (v := ?_) 4 rfl (by kernel_rfl) (by kernel_rfl) (by kernel_rfl) (fun _ _ _ h => h) (by rfl) ?_ ?_; rotate_left; focus (intro wS; go_simp; first | done | with_reducible rfl)))
        (try simp only [Act.put, List.setIfInBounds_toArray, List.set_cons_zero, List.set_cons_succ])
        refine take_alone 5 rfl (by kernel_rfl) (by rfl) (fun K hK => ?_)
        go_simp
        skip
        refine hK.out _ _ ?_
        clear hK K
        (try simp only [Act.put, List.setIfInBounds_toArray, List.set_cons_zero, List.set_cons_succ])
        refine wpAnyH_done (by kernel_rfl) ?_ _
        have hlen2 : (es ++ [(⟨etm, ekd, ess, esq, eck, etext, eaao, eargs, eacap, enum, evao, evs, evcap⟩ : En)]).length = en + 1 := by rw [List.length_append, HEN.out]; rfl
        have hdropl : (lft.drop lb).length = ln - lb := by rw [List.length_drop, HLN.out]
        have hstN := hst38.setRest hrs4 (hrs4.off.drop lb hrs4.hcap) hdropl (show ln - lb ≤ rcap3 - lb by omega) (fun e => by have := hrs4.nil (subA_eq_none e); omega)
        have howN := how38.only (Only.set (w.heap.size + 1) x1 0 (.slice (subA ra3 rcap3 lb 1) (ln - lb) (rcap3 - lb))) (by omega)
        have hfiN : ∀ e ∈ es ++ [(⟨etm, ekd, ess, esq, eck, etext, eaao, eargs, eacap, enum, evao, evs, evcap⟩ : En)], EnFine e := fun e he => by
          rcases List.mem_append.1 he with he | he
          · exact HFI.out e he
          · rw [List.mem_singleton.1 he]; exact HMORE.out
        have hreN : readEs mm ml = (match readEs (mm - (k + 1)) (lft.drop lb) with | none => none | some (l, r') => some ((es ++ [(⟨etm, ekd, ess, esq, eck, etext, eaao, eargs, eacap, enum, evao, evs, evcap⟩ : En)]).map En.plain ++ l, r')) := by
          obtain ⟨q, hq⟩ : ∃ q, mm - k = q + 1 := ⟨mm - k - 1, by omega⟩
          have hq2 : mm - (k + 1) = q := by omega
          have hlb2 : (entryB eP).length = lb := by rw [HEBH.out]; exact HLB.out
          rw [HRE.out, hq, hq2, readEs_step q HQ2.out, hlb2]
          cases readEs q (lft.drop lb) with
          | none => rfl
          | some p => obtain ⟨l, r'⟩ := p; simp [← HPL.out]
        have HFIN := Lib.hid (And.intro hlen2 (And.intro hstN (And.intro howN (And.intro hfiN hreN))))
        have HWN := Lib.hid (HLW.out.drop lb)
        have hlenN : (lft.drop lb).length ≤ ml.length := by rw [hdropl]; have := HLL.out; have := HLN.out; omega
        clear hlen2 hstN howN hfiN hreN hst38 how38 hrs4
        go_wp2_with fail
        go_roundw
        case rel =>
          obtain ⟨g1, g2, g3, g4, g5⟩ := HFIN.out
          exact ⟨k + 1, es ++ [⟨etm, ekd, ess, esq, eck, etext, eaao, eargs, eacap, enum, evao, evs, evcap⟩], ea2, ec2, lft.drop lb, by omega, by go_num, by rw [g1, ← HEK.out, HEN.out], g2, by rw [g1]; exact g3, g4, HWN.out, hlenN, g5⟩
        case measure => simp [intOf] <;> omega
    · have i1 : ¬ (k : Int) < mm := by omega
      obtain rfl : k = mm := by omega
      have hre2 : readEs k ml = some (es.map En.plain, lft) := by rw [HRE.out, Nat.sub_self]; simp [readEs]
      obtain ⟨⟨vn, vo, vl⟩, hv⟩ : ∃ q, cntS lft = q := ⟨_, rfl⟩
      have HV2 := Lib.hid hv
      have HRR3 := Lib.hid (HRR2.out.trans (by rw [Int.toNat_natCast, hre2]))
      have hmll := HMLL.out
      have hll := HLL.out
      clear hre2 hv HRR2 HRE
      go_wp2_with fail
      refine (lrcount_any w.heap.size (w.heap.size + 1) lft (vn, vo, vl) wr HV2.out HST.out.rest HLW.out (by omega)).mono ?_
      rintro e w40 ⟨rfl, hrest, ho⟩
      dsimp only at hrest ⊢
      have hst40 : RdSt w w.heap.size w.heap.size (w.heap.size + 1) ⟨kd, fr, tt, tm, ix, ws, OB.1, cm, rn, ea, es, ec, none, [], 0, none, [], 0⟩ vl w40 :=
        ⟨HST.out.below.trans (ho.toBelow (by have := HST.out.rest.lt; omega) (by omega)), (ho.block w.heap.size (by have := HST.out.rest.lt; omega) (by omega)).trans HST.out.blk, hrest, Nat.le_refl _, by omega, by omega⟩
      have how40 := HOW.out.only ho (by omega)
      have hvw := cntS_wf HLW.out
      rw [HV2.out] at hvw
      have HVW := Lib.hid hvw
      have HS40 := Lib.hid hst40
      have HO40 := Lib.hid how40
      clear hvw hrest ho HST HOW hst40 how40
      have hr3 := HRR3.out
      try dsimp only at hr3
      rw [HV2.out] at hr3
      try dsimp only at hr3
      have HR3 := Lib.hid hr3
      clear hr3 HRR3
      cases vo with
      | false =>
        have hnone := Lib.hid (show r = none by rw [HR3.out, if_pos rfl])
        have H0 := Lib.hid HS40.out
        have hrg := H0.out.range
        have hbk := H0.out.blk
        go_wp2_with (first | (refine wpList_load_mid rfl 27 (.tmp 2) rfl w.heap.size 0 rfl (ltArr ⟨kd, fr, tt, tm, ix, ws, OB.1, cm, rn, ea, es, ec, none, [], 0, none, [], 0⟩).toList _ hrg Tryd.underlying27 rfl (info_lt3 ⟨kd, fr, tt, tm, ix, ws, OB.1, cm, rn, ea, es, ec, none, [], 0, none, [], 0⟩) ?_) | (refine wpList_store_row rfl 27 (.tmp 2) (.tmp 106) rfl w.heap.size (ltArr ⟨kd, fr, tt, tm, ix, ws, OB.1, cm, rn, ea, es, ec, none, [], 0, none, [], 0⟩) rfl (by first | rfl | simp) 27 _ hbk (info_lt2 ⟨kd, fr, tt, tm, ix, ws, OB.1, cm, rn, ea, es, ec, none, [], 0, none, [], 0⟩) rfl (ltArr_one ⟨kd, fr, tt, tm, ix, ws, OB.1, cm, rn, ea, es, ec, none, [], 0, none, [], 0⟩) ?_; rw [setRow_same hbk]))
        exact read_end rfl H0.out rfl rfl (by rw [hnone.out]; rfl) (fun l hl => by rw [hnone.out] at hl; cases hl)
      | true =>
      have hvn0 : 0 ≤ vn := HVW.out.2.1
      obtain ⟨q, rfl⟩ : ∃ q : Nat, vn = q := ⟨vn.toNat, by omega⟩
      have hqv : q ≤ vl.length := by have := cntS_true HV2.out; omega
      obtain ⟨⟨inn, io, il⟩, hi⟩ : ∃ z, cntS (vl.drop q) = z := ⟨_, rfl⟩
      have hr4 := HR3.out
      rw [if_neg (by simp), Int.toNat_natCast, hi] at hr4
      try dsimp only at hr4
      have HR4 := Lib.hid hr4
      have HI := Lib.hid hi
      have hvl : vl.length ≤ 1048576 := by have := HVW.out.2.2.2; dsimp only at this; omega
      clear hr4 hi HR3
      go_wp2_with fail
      refine (take_ok w.heap.size (w.heap.size + 1) q vl w40 HS40.out.rest hqv (by omega)).mono ?_
      rintro e w41 ⟨a, c2, rfl, ht, hn2, hc2, hrest, ho⟩
      have hst41 : RdSt w w.heap.size w.heap.size (w.heap.size + 1) ⟨kd, fr, tt, tm, ix, ws, OB.1, cm, rn, ea, es, ec, none, [], 0, none, [], 0⟩ (vl.drop q) w41 :=
        ⟨HS40.out.below.trans (ho.toBelow (by have := HS40.out.rest.lt; omega) (by omega)), (ho.block w.heap.size (by have := HS40.out.rest.lt; omega) (by omega)).trans HS40.out.blk, hrest, Nat.le_refl _, by omega, by omega⟩
      have how41 := HO40.out.only ho (by omega)
      have hz41 : w.heap.size + 2 ≤ w41.heap.size := by have := hst41.rest.lt; omega
      obtain ⟨vs, hvs⟩ : ∃ vs, vl.take q = vs := ⟨_, rfl⟩
      rw [hvs] at ht
      have hvq : vs.length = q := by rw [← hvs, List.length_take]; omega
      have hvsw : BytesWf vs := by rw [← hvs]; exact HVW.out.1.take q
      have HVS := Lib.hid hvs
      have HVQ := Lib.hid hvq
      have HVSW := Lib.hid hvsw
      have HT2 := Lib.hid ht
      have HST41 := Lib.hid hst41
      have HOW41 := Lib.hid how41
      have HLT41 := Lib.hid (show ∀ e ∈ es, ∀ g, (votV e).ownBlock = some g → g < w41.heap.size from fun e he g hg => (World.ownsRow.lt (how41.own e he).2 g hg).2)
      clear hvs hvq hvsw ht hst41 how41 hrest ho HS40 HO40
      go_wp2_with fail
      go_loopw [114] (fun i wr => ∃ (k : Nat) (acc tl : List Int) (va : Option Addr) (vc : Nat), k ≤ q ∧ i = .int .i64 k ∧ acc.length = k ∧ acc ++ tl = vs ∧ IntsOwn wr w41.heap.size va k vc acc ∧ RdSt w w.heap.size w.heap.size (w.heap.size + 1) ⟨kd, fr, tt, tm, ix, ws, OB.1, cm, rn, ea, es, ec, va, acc, vc, none, [], 0⟩ (vl.drop q) wr ∧ Only w.heap.size w41 wr) (fun i _ => q - (intOf i).toNat)
      case atStart => exact ⟨0, [], vs, none, 0, by omega, rfl, rfl, rfl, IntsOwn.nil _ _, HST41.out, Only.refl _ _⟩
      case round =>
        clear HST41
        obtain ⟨k2, acc, tl, va, vc, hk2, rfl, hak, hat, hown, hst, honly⟩ := hrel
        have HAK := Lib.hid hak
        have HAT := Lib.hid hat
        have HOWN := Lib.hid hown
        have HST := Lib.hid hst
        have HON := Lib.hid honly
        have hszr := honly.1
        clear hak hat hown hst honly
        by_cases hlt2 : k2 < q
        · have i1 : (k2 : Int) < q := by omega
          obtain ⟨x, tl, rfl⟩ : ∃ x t2, tl = x :: t2 := by
            cases tl with
            | nil => exfalso; have h1 := HAT.out; rw [List.append_nil] at h1; have h2 := HVQ.out; rw [← h1, HAK.out] at h2; omega
            | cons x t => exact ⟨x, t, rfl⟩
          have hxw : 0 ≤ x ∧ x < 256 := HVSW.out x (by rw [← HAT.out]; simp)
          have hcell : ∃ b2 o2, a = some ⟨b2, o2, none⟩ ∧ wr.cell? ⟨b2, o2 + k2, none⟩ = some (.int .u8 x) := by
            rcases HT2.out with h | ⟨b2, o2, e1, e2, e3⟩
            · exfalso; have h2 := HVQ.out; rw [h] at h2; simp at h2; omega
            · refine ⟨b2, o2, e1, ?_⟩
              have hb := HON.out.toBelow (B := w.heap.size) (by omega) (Nat.le_refl _)
              rw [hb.cell (p := ⟨b2, o2 + k2, none⟩) e2, e3 k2 (by rw [HVQ.out]; exact hlt2), ← HAT.out]
              simp [List.getD, ← HAK.out]
          obtain ⟨fb2, off2, rfl, c0⟩ := hcell
          have ew : IntKind.i64.wrap x = x := IntWalk.i64_in _ (by omega)
          have l10 : wr.cell? ⟨w.heap.size, 10, none⟩ = some (.slice va k2 vc) := by rw [← HAK.out]; exact Go.Joins.cell_of_block HST.out.blk 10
          have hal := (Below.refl wr.heap.size wr).alloc (Nat.le_refl _) (.cells #[.int .i64 x] 3)
          have hst2 := HST.out.grow hal
          have HST2 := Lib.hid hst2
          clear hal hst2
          go_wp2_with (at_builtin; refine wpList_append_rows (sub := noSub) Tryd.underlying24 infoI rfl (by decide) iCells_len iCells_one rfl (.tmp 119) (.tmp 122) rfl w41.heap.size (.slice va k2 vc) k2 (acc.flatMap iCells) rfl (World.ownsRow.alloc HOWN.out _) (some ⟨wr.heap.size, 0, none⟩) 1 1 [x] rfl rfl (wr.heap.size + 1) (rowsIn_block iCells_len _ _ (heap_alloc_new wr _) rfl (by omega) (fun _ _ => trivial)) (by simp) (by unfold maxLen; omega) (by omega) (by simp; omega) ?_)
          intro v2 w44 h44o hg44 hor44
          obtain ⟨va2, vc2, hv2⟩ := row_slice h44o
          subst hv2
          have hlo44 : ∀ g, (Value.slice va k2 vc).ownBlock = some g → w41.heap.size ≤ g := fun g hg => (World.ownsRow.lt HOWN.out g hg).1
          have hin44 : IntsOwn w44 w41.heap.size va2 (k2 + 1) vc2 (acc ++ [x]) := by
            unfold IntsOwn
            rw [List.flatMap_append]
            exact h44o
          have hst44 := HST2.out.grown hg44 (fun g hg => by have := hlo44 g hg; exact ⟨by omega, by omega, by omega⟩)
          have hon44 := (HON.out.alloc (.cells #[.int .i64 x] 3)).grown hg44 hlo44
          have hak2 := HAK.out
          have l10b : w44.cell? ⟨w.heap.size, 10, none⟩ = some (.slice va k2 vc) := by rw [← HAK.out]; exact Go.Joins.cell_of_block hst44.blk 10
          have f10 : w44.frozen? ⟨w.heap.size, 10, none⟩ = false := Go.Joins.unfrozen_of_block hst44.blk 10
          have hst45 := hst44.put (x2 := ⟨kd, fr, tt, tm, ix, ws, OB.1, cm, rn, ea, es, ec, va2, acc ++ [x], vc2, none, [], 0⟩) 10 (.slice va2 (k2 + 1) vc2) (by rw [← hak2]; simp [ltArr])
          have hin45 := hin44.only (Only.set w.heap.size w44 10 (.slice va2 (k2 + 1) vc2)) (by omega)
          have hon45 := hon44.trans (Only.set w.heap.size w44 10 (.slice va2 (k2 + 1) vc2))
          have HFN := Lib.hid (And.intro hin45 (And.intro hst45 hon45))
          clear hin44 hst44 hon44 hin45 hst45 hon45 h44o hg44 hor44 hlo44 l10 hak2 HST2 HST HOWN HON
          go_wp2_with fail
          go_roundw
          case rel =>
            obtain ⟨g1, g2, g3⟩ := HFN.out
            exact ⟨k2 + 1, acc ++ [x], tl, va2, vc2, by omega, by go_num, by rw [List.length_append, HAK.out]; rfl, by rw [List.append_assoc]; exact HAT.out, g1, g2, g3⟩
          case measure => simp [intOf] <;> omega
        · have i1 : ¬ (k2 : Int) < q := by omega
          obtain rfl : k2 = q := by omega
          obtain rfl : acc = vs := by
            have h1 := HAT.out
            have h2 := HVQ.out
            rw [← h1, List.length_append, HAK.out] at h2
            have h3 : tl = [] := List.length_eq_zero_iff.1 (by omega)
            rw [h3, List.append_nil] at h1
            exact h1
          have hdw := HVW.out.1.drop k2
          have hdl : (vl.drop k2).length ≤ 1048576 := by rw [List.length_drop]; omega
          have HDW := Lib.hid hdw
          clear hdw
          go_wp2_with fail
          refine (lrcount_any w.heap.size (w.heap.size + 1) (vl.drop k2) (inn, io, il) wr HI.out HST.out.rest HDW.out (by omega)).mono ?_
          rintro e w45 ⟨rfl, hrest, ho⟩
          dsimp only at hrest ⊢
          have hst45 : RdSt w w.heap.size w.heap.size (w.heap.size + 1) ⟨kd, fr, tt, tm, ix, ws, OB.1, cm, rn, ea, es, ec, va, acc, vc, none, [], 0⟩ il w45 :=
            ⟨HST.out.below.trans (ho.toBelow (by have := HST.out.rest.lt; omega) (by omega)), (ho.block w.heap.size (by have := HST.out.rest.lt; omega) (by omega)).trans HST.out.blk, hrest, Nat.le_refl _, by omega, by omega⟩
          have how45 := (HOW41.out.only HON.out (by omega)).only ho (by omega)
          have hin45 := HOWN.out.only ho (by omega)
          have hz45 : w41.heap.size ≤ w45.heap.size := Nat.le_trans hszr ho.1
          have hiw := cntS_wf HDW.out
          rw [HI.out] at hiw
          have HIW := Lib.hid hiw
          obtain ⟨iln, hiln⟩ : ∃ z, il.length = z := ⟨_, rfl⟩
          have hil : iln ≤ 1048576 := by have h := hiw.2.2.2; dsimp only at h; omega
          obtain ⟨ra6, rcap6, hrs6⟩ := hst45.rest
          have hkb6 := hrs6.blk
          rw [hiln] at hkb6
          have r0 : w45.cell? ⟨w.heap.size + 1, 0, none⟩ = some (.slice ra6 iln rcap6) := Go.Joins.cell_of_block hkb6 0
          have hcl := clone_any ra6 rcap6 il w45 w.heap.size hrs6.off (by omega) hrs6.nil (by omega)
          unfold ClonePost at hcl
          rw [hiln] at hcl
          have HCL := Lib.hid hcl
          have HST := Lib.hid hst45
          have HOW := Lib.hid how45
          have HIN := Lib.hid hin45
          have HRS6 := Lib.hid hrs6
          have HILN := Lib.hid hiln
          clear hiw hkb6 hrs6 hcl hiln hst45 how45 hin45 hrest ho HOW41 HOWN HON HDW HT2
          go_wp2_with fail
          refine HCL.out.mono ?_
          rintro e w46 ⟨vi, rfl, hio, hb46⟩
          obtain ⟨ia, ic, rfl⟩ := row_slice hio
          have hst46 := HST.out.grow hb46
          have how46 := HOW.out.below hb46 (Nat.le_refl _)
          have hin46 := HIN.out.below hb46 (Nat.le_refl _)
          have l11 : w46.cell? ⟨w.heap.size, 11, none⟩ = some (.slice none 0 0) := Go.Joins.cell_of_block hst46.blk 11
          have f11 : w46.frozen? ⟨w.heap.size, 11, none⟩ = false := Go.Joins.unfrozen_of_block hst46.blk 11
          have hst47 := hst46.put (x2 := ⟨kd, fr, tt, tm, ix, ws, OB.1, cm, rn, ea, es, ec, va, acc, vc, ia, il, ic⟩) 11 (.slice ia iln ic) (by rw [← HILN.out]; rfl)
          have how47 := how46.only (Only.set w.heap.size w46 11 (.slice ia iln ic)) (by omega)
          have hin47 := hin46.only (Only.set w.heap.size w46 11 (.slice ia iln ic)) (by omega)
          have him47 := own_only' hio (Only.set w.heap.size w46 11 (.slice ia iln ic)) (by omega)
          have HOK := Lib.hid (And.intro how47 (And.intro hin47 him47))
          have HST7 := Lib.hid hst47
          clear hst46 how46 hin46 hio hb46 hst47 how47 hin47 him47 HST HOW HIN HCL r0
          go_wp2_with fail
          generalize w46.setCell ⟨w.heap.size, 11, none⟩ (.slice ia iln ic) = w47 at HOK HST7 ⊢
          have hdr := (Below.refl w47.heap.size w47).drew
          have hst48 := HST7.out.grow hdr
          have HOK8 := Lib.hid (And.intro (HOK.out.1.below hdr (Nat.le_refl _)) (And.intro (HOK.out.2.1.below hdr (Nat.le_refl _)) (own_below HOK.out.2.2 hdr (Nat.le_refl _))))
          have HST8 := Lib.hid hst48
          obtain ⟨ra7, rcap7, hrs7⟩ := hst48.rest
          have hkb7 := hrs7.blk
          rw [HILN.out] at hkb7
          have r1 : w47.drew.cell? ⟨w.heap.size + 1, 0, none⟩ = some (.slice ra7 iln rcap7) := Go.Joins.cell_of_block hkb7 0
          have hrg := hst48.range
          have hbk := hst48.blk
          clear hdr hst48 hrs7 hkb7 HOK HST7 l11 f11
          cases io with
          | false =>
            have hnone := Lib.hid (show r = none by rw [HR4.out, if_pos (Or.inl rfl)])
            refine heldS_begin (fun w' => w' = w47.drew) (by kernel_rfl) rfl ?_
            intro hS0
            refine takeS_yes (v := .agg (ltArr ⟨kd, fr, tt, tm, ix, ws, OB.1, cm, rn, ea, es, ec, va, acc, vc, ia, il, ic⟩).toList.toArray) 0 rfl (by kernel_rfl) (by kernel_rfl) (by kernel_rfl) (fun _ _ _ h => h) (by rfl) hS0 (load_held 27 (.tmp 2) rfl w.heap.size 0 rfl (ltArr ⟨kd, fr, tt, tm, ix, ws, OB.1, cm, rn, ea, es, ec, va, acc, vc, ia, il, ic⟩).toList _ (fun w' hw' => by rw [hw']; exact hrg) Tryd.underlying27 rfl (info_lt3 ⟨kd, fr, tt, tm, ix, ws, OB.1, cm, rn, ea, es, ec, va, acc, vc, ia, il, ic⟩)) ?_
            (try simp only [Act.put, List.setIfInBounds_toArray, List.set_cons_zero, List.set_cons_succ])
            (first | (refine takeS_no 1 rfl (by kernel_rfl) (by kernel_rfl) (by kernel_rfl) (fun _ _ _ h => h) (by rfl) (by assumption) ?_) | (refine takeS_yes (v := ?_) 1 rfl (by kernel_rfl) (by kernel_rfl) (by kernel_rfl) (fun _ _ _ h => h) (by rfl) (by assumption) ?_ ?_; rotate_left; focus (intro wS hSw; cases hSw; go_simp; first | done | with_reducible rfl)))
            (try simp only [Act.put, List.setIfInBounds_toArray, List.set_cons_zero, List.set_cons_succ])
            (first | (refine takeS_no 2 rfl (by kernel_rfl) (by kernel_rfl) (by kernel_rfl) (fun _ _ _ h => h) (by rfl) (by assumption) ?_) | (refine takeS_yes (v := ?_) 2 rfl (by kernel_rfl) (by kernel_rfl) (by kernel_rfl) (fun _ _ _ h => h) (by rfl) (by assumption) ?_ ?_; rotate_left; focus (intro wS hSw; cases hSw; go_simp; first | done | with_reducible rfl)))
            (try simp only [Act.put, List.setIfInBounds_toArray, List.set_cons_zero, List.set_cons_succ])
            (first | (refine takeS_no 3 rfl (by kernel_rfl) (by kernel_rfl) (by kernel_rfl) (fun _ _ _ h => h) (by rfl) (by assumption) ?_) | (refine takeS_yes (v := ?_) 3 rfl (by kernel_rfl) (by kernel_rfl) (by kernel_rfl) (fun _ _ _ h => h) (by rfl) (by assumption) ?_ ?_; rotate_left; focus (intro wS hSw; cases hSw; go_simp; first | done | with_reducible rfl)))
            (try simp only [Act.put, List.setIfInBounds_toArray, List.set_cons_zero, List.set_cons_succ])
            (first | (refine takeS_no 4 rfl (by kernel_rfl) (by kernel_rfl) (by kernel_rfl) (fun _ _ _ h => h) (by rfl) (by assumption) ?_) | (refine takeS_yes (v := ?_) 4 rfl (by kernel_rfl) (by kernel_rfl) (by kernel_rfl) (fun _ _ _ h => h) (by rfl) (by assumption) ?_ ?_; rotate_left; focus (intro wS hSw; cases hSw; go_simp; first | done | with_reducible rfl)))
            (try simp only [Act.put, List.setIfInBounds_toArray, List.set_cons_zero, List.set_cons_succ])
            (first | (refine takeS_no 5 rfl (by kernel_rfl) (by kernel_rfl) (by kernel_rfl) (fun _ _ _ h => h) (by rfl) (by assumption) ?_) | (refine takeS_yes (v := ?_) 5 rfl (by kernel_rfl) (by kernel_rfl) (by kernel_rfl) (fun _ _ _ h => h) (by rfl) (by assumption) ?_ ?_; rotate_left; focus (intro wS hSw; cases hSw; go_simp; first | done | with_reducible rfl)))
            (try simp only [Act.put, List.setIfInBounds_toArray, List.set_cons_zero, List.set_cons_succ])
            (first | (refine takeS_no 6 rfl (by kernel_rfl) (by kernel_rfl) (by kernel_rfl) (fun _ _ _ h => h) (by rfl) (by assumption) ?_) | (refine takeS_yes (v := ?_) 6 rfl (by kernel_rfl) (by kernel_rfl) (by kernel_rfl) (fun _ _ _ h => h) (by rfl) (by assumption) ?_ ?_; rotate_left; focus (intro wS hSw; cases hSw; go_simp; first | done | with_reducible rfl)))
            (try simp only [Act.put, List.setIfInBounds_toArray, List.set_cons_zero, List.set_cons_succ])
            (first | (refine takeS_no 7 rfl (by kernel_rfl) (by kernel_rfl) (by kernel_rfl) (fun _ _ _ h => h) (by rfl) (by assumption) ?_) | (refine takeS_yes (v := ?_) 7 rfl (by kernel_rfl) (by kernel_rfl) (by kernel_rfl) (fun _ _ _ h => h) (by rfl) (by assumption) ?_ ?_; rotate_left; focus (intro wS hSw; cases hSw; go_simp; first | done | with_reducible rfl)))
            (try simp only [Act.put, List.setIfInBounds_toArray, List.set_cons_zero, List.set_cons_succ])
            refine takeS_alone 8 rfl (by kernel_rfl) (by rfl) (fun K hK => ?_)
            skip
            (refine wp_store_row 27 (.tmp 2) (.tmp 133) rfl w.heap.size (ltArr ⟨kd, fr, tt, tm, ix, ws, OB.1, cm, rn, ea, es, ec, va, acc, vc, ia, il, ic⟩) rfl (by first | rfl | simp) 27 _ hbk (info_lt2 ⟨kd, fr, tt, tm, ix, ws, OB.1, cm, rn, ea, es, ec, va, acc, vc, ia, il, ic⟩) rfl (ltArr_one ⟨kd, fr, tt, tm, ix, ws, OB.1, cm, rn, ea, es, ec, va, acc, vc, ia, il, ic⟩) ?_; rw [setRow_same hbk])
            refine hK.out _ _ (by assumption) ?_
            clear hK K
            (try simp only [Act.put, List.setIfInBounds_toArray, List.set_cons_zero, List.set_cons_succ])
            (first | (refine takeS_no 9 rfl (by kernel_rfl) (by kernel_rfl) (by kernel_rfl) (fun _ _ _ h => h) (by rfl) (by assumption) ?_) | (refine takeS_yes (v := ?_) 9 rfl (by kernel_rfl) (by kernel_rfl) (by kernel_rfl) (fun _ _ _ h => h) (by rfl) (by assumption) ?_ ?_; rotate_left; focus (intro wS hSw; cases hSw; go_simp; first | done | with_reducible rfl)))
            (try simp only [Act.put, List.setIfInBounds_toArray, List.set_cons_zero, List.set_cons_succ])
            refine wpAnyH_done (by kernel_rfl) ?_ _
            go_wp2_with fail
            exact read_end rfl HST8.out rfl rfl (by rw [hnone.out]; rfl) (fun l hl => by rw [hnone.out] at hl; cases hl)
          | true =>
            have hr5 := HR4.out
            rw [HILN.out] at hr5
            have HR5 := Lib.hid hr5
            clear hr5
            refine heldS_begin (fun w' => w' = w47.drew) (by kernel_rfl) rfl ?_
            intro hS0
            refine takeS_yes (v := .agg (ltArr ⟨kd, fr, tt, tm, ix, ws, OB.1, cm, rn, ea, es, ec, va, acc, vc, ia, il, ic⟩).toList.toArray) 0 rfl (by kernel_rfl) (by kernel_rfl) (by kernel_rfl) (fun _ _ _ h => h) (by rfl) hS0 (load_held 27 (.tmp 2) rfl w.heap.size 0 rfl (ltArr ⟨kd, fr, tt, tm, ix, ws, OB.1, cm, rn, ea, es, ec, va, acc, vc, ia, il, ic⟩).toList _ (fun w' hw' => by rw [hw']; exact hrg) Tryd.underlying27 rfl (info_lt3 ⟨kd, fr, tt, tm, ix, ws, OB.1, cm, rn, ea, es, ec, va, acc, vc, ia, il, ic⟩)) ?_
            (try simp only [Act.put, List.setIfInBounds_toArray, List.set_cons_zero, List.set_cons_succ])
            (first | (refine takeS_no 1 rfl (by kernel_rfl) (by kernel_rfl) (by kernel_rfl) (fun _ _ _ h => h) (by rfl) (by assumption) ?_) | (refine takeS_yes (v := ?_) 1 rfl (by kernel_rfl) (by kernel_rfl) (by kernel_rfl) (fun _ _ _ h => h) (by rfl) (by assumption) ?_ ?_; rotate_left; focus (intro wS hSw; cases hSw; go_simp; first | done | with_reducible rfl)))
            (try simp only [Act.put, List.setIfInBounds_toArray, List.set_cons_zero, List.set_cons_succ])
            (first | (refine takeS_no 2 rfl (by kernel_rfl) (by kernel_rfl) (by kernel_rfl) (fun _ _ _ h => h) (by rfl) (by assumption) ?_) | (refine takeS_yes (v := ?_) 2 rfl (by kernel_rfl) (by kernel_rfl) (by kernel_rfl) (fun _ _ _ h => h) (by rfl) (by assumption) ?_ ?_; rotate_left; focus (intro wS hSw; cases hSw; go_simp; first | done | with_reducible rfl)))
            (try simp only [Act.put, List.setIfInBounds_toArray, List.set_cons_zero, List.set_cons_succ])
            (first | (refine takeS_no 3 rfl (by kernel_rfl) (by kernel_rfl) (by kernel_rfl) (fun _ _ _ h => h) (by rfl) (by assumption) ?_) | (refine takeS_yes (v := ?_) 3 rfl (by kernel_rfl) (by kernel_rfl) (by kernel_rfl) (fun _ _ _ h => h) (by rfl) (by assumption) ?_ ?_; rotate_left; focus (intro wS hSw; cases hSw; go_simp; first | done | with_reducible rfl)))
            (try simp only [Act.put, List.setIfInBounds_toArray, List.set_cons_zero, List.set_cons_succ])
            (first | (refine takeS_no 4 rfl (by kernel_rfl) (by kernel_rfl) (by kernel_rfl) (fun _ _ _ h => h) (by rfl) (by assumption) ?_) | (refine takeS_yes (v := ?_) 4 rfl (by kernel_rfl) (by kernel_rfl) (by kernel_rfl) (fun _ _ _ h => h) (by rfl) (by assumption) ?_ ?_; rotate_left; focus (intro wS hSw; cases hSw; go_simp; first | done | with_reducible rfl)))
            (try simp only [Act.put, List.setIfInBounds_toArray, List.set_cons_zero, List.set_cons_succ])
            (first | (refine takeS_no 5 rfl (by kernel_rfl) (by kernel_rfl) (by kernel_rfl) (fun _ _ _ h => h) (by rfl) (by assumption) ?_) | (refine takeS_yes (v := ?_) 5 rfl (by kernel_rfl) (by kernel_rfl) (by kernel_rfl) (fun _ _ _ h => h) (by rfl) (by assumption) ?_ ?_; rotate_left; focus (intro wS hSw; cases hSw; go_simp; first | done | with_reducible rfl)))
            (try simp only [Act.put, List.setIfInBounds_toArray, List.set_cons_zero, List.set_cons_succ])
            (first | (refine takeS_no 6 rfl (by kernel_rfl) (by kernel_rfl) (by kernel_rfl) (fun _ _ _ h => h) (by rfl) (by assumption) ?_) | (refine takeS_yes (v := ?_) 6 rfl (by kernel_rfl) (by kernel_rfl) (by kernel_rfl) (fun _ _ _ h => h) (by rfl) (by assumption) ?_ ?_; rotate_left; focus (intro wS hSw; cases hSw; go_simp; first | done | with_reducible rfl)))
            (try simp only [Act.put, List.setIfInBounds_toArray, List.set_cons_zero, List.set_cons_succ])
            (first | (refine takeS_no 7 rfl (by kernel_rfl) (by kernel_rfl) (by kernel_rfl) (fun _ _ _ h => h) (by rfl) (by assumption) ?_) | (refine takeS_yes (v := ?_) 7 rfl (by kernel_rfl) (by kernel_rfl) (by kernel_rfl) (fun _ _ _ h => h) (by rfl) (by assumption) ?_ ?_; rotate_left; focus (intro wS hSw; cases hSw; go_simp; first | done | with_reducible rfl)))
            (try simp only [Act.put, List.setIfInBounds_toArray, List.set_cons_zero, List.set_cons_succ])
            refine takeS_alone 8 rfl (by kernel_rfl) (by rfl) (fun K hK => ?_)
            skip
            (refine wp_store_row 27 (.tmp 2) (.tmp 133) rfl w.heap.size (ltArr ⟨kd, fr, tt, tm, ix, ws, OB.1, cm, rn, ea, es, ec, va, acc, vc, ia, il, ic⟩) rfl (by first | rfl | simp) 27 _ hbk (info_lt2 ⟨kd, fr, tt, tm, ix, ws, OB.1, cm, rn, ea, es, ec, va, acc, vc, ia, il, ic⟩) rfl (ltArr_one ⟨kd, fr, tt, tm, ix, ws, OB.1, cm, rn, ea, es, ec, va, acc, vc, ia, il, ic⟩) ?_; rw [setRow_same hbk])
            refine hK.out _ _ (by assumption) ?_
            clear hK K
            (try simp only [Act.put, List.setIfInBounds_toArray, List.set_cons_zero, List.set_cons_succ])
            (first | (refine takeS_no 9 rfl (by kernel_rfl) (by kernel_rfl) (by kernel_rfl) (fun _ _ _ h => h) (by rfl) (by assumption) ?_) | (refine takeS_yes (v := ?_) 9 rfl (by kernel_rfl) (by kernel_rfl) (by kernel_rfl) (fun _ _ _ h => h) (by rfl) (by assumption) ?_ ?_; rotate_left; focus (intro wS hSw; cases hSw; go_simp; first | done | with_reducible rfl)))
            (try simp only [Act.put, List.setIfInBounds_toArray, List.set_cons_zero, List.set_cons_succ])
            refine wpAnyH_done (by kernel_rfl) ?_ _
            go_wp2_with fail
            exact read_end rfl HST8.out rfl rfl (pl_some2 HR5.out) (fun l hl => ⟨by rw [← pl_of HR5.out hl, HVS.out]; rfl, ⟨HOK8.out.1.le (by omega), by
                have h := HOK8.out.2.1.le (base' := w.heap.size) (by omega)
                rw [← HAK.out] at h
                exact h, by
                have h := Go.Joins.ownsRow_le (base' := w.heap.size) HOK8.out.2.2 (by omega)
                rw [← HILN.out] at h
                exact h⟩, fun e he => ⟨HFI.out e he, fun g hg hg2 => by
                have h1 := HLT41.out e he g hg
                rw [show (Value.slice va acc.length vc).ownBlock = (Value.slice va k2 vc).ownBlock by rw [HAK.out]] at hg2
                have h2 := (World.ownsRow.lt HOK8.out.2.1 g hg2).1
                omega⟩⟩)
end Go.Proofs.YthdpfchbomaigaaDoor
