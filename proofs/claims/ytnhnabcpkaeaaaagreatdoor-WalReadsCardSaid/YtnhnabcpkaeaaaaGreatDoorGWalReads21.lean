/- The document's Do of a frame. Conditions: the frame's bytes lie as they read; its wal is of a block of its own. -/
import Derived.Test.YtnhnabcpkaeaaaaGreatDoorGWalReads20
set_option linter.unusedVariables false
set_option linter.unusedSimpArgs false
namespace Go.Proofs.YtnhnabcpkaeaaaaGreatDoor
open Go.RowKit
set_option maxRecDepth 20000
/-- An append to a row of the call's own, of rows that are only read: an operation alone. -/
theorem oper_append_rowsW {α : Type} {k bytes : Nat} {cells : α → List Value} {sub : World → Nat → α → Prop} {z : Value} {T E : TypeId} {w : World} {o : Oper} {a : Act} {K : Act → World → Prop} {Q : Exit → Act → World → Prop} (hT : Tryz.prog.underlying T = some (.slice E))
    (hinfo : (Tryz.prog.info? E).map (fun i => (i.zero, i.size, i.bytes)) = some (some z, k, bytes)) (hzs : z.cells.size = k) (h0 : 0 < k) (hk : ∀ x, (cells x).length = k) (hone : ∀ x, ∀ u ∈ cells x, u.oneCell' = true) (s x : Operand)
    (ho : o.op = .call { callee := .builtin .append, args := #[s, x], argTypes := #[T, T] })
    (base : Nat) (v : Value) (n : Nat) (l : List Value) (hs : a.eval s = v) (hown : w.ownsRow base E k v n l)
    (ao : Option Addr) (m cap : Nat) (xs : List α) (hm : xs.length = m) (hx : a.eval x = .slice ao m cap) (B : Nat) (hin : RowsIn k cells sub w B ao xs) (hao : ao = none → cap = 0) (hmax : n + m ≤ maxLen) (hlim : (n + m) * bytes ≤ 140737488355328) (hbase : base ≤ w.heap.size)
    (h : ∀ v' w', w'.ownsRow base E k v' (n + m) (l ++ xs.flatMap cells) → w.grownBy w' v.ownBlock → K (a.put o.dst v') w') : Oper.wp Tryz.prog o a w K Q := by
  obtain ⟨i0, hi, hz0, hz1, hz2⟩ := info_parts hinfo
  subst hm
  cases ao with
  | none =>
    have hnil : xs = [] := by
      rcases hin with h | ⟨b, off, h1, _⟩
      · exact h
      · cases h1
    subst hnil
    rw [hao rfl] at hx
    have hrun := run_append_owned_none (P := Tryz.prog) (w := w) base T o.type E i0 k hT hi v n _ hown
    unfold Oper.wp
    simp only [List.length_nil] at hx
    simp [execOp, ho, resolve, invoke, builtin, hs, hx, hrun, Result.andThen]
    exact h v w (by simpa using hown) (World.grownBy.refl _ _)
  | some ad =>
    obtain ⟨v', w', hrun, r1, r2, _⟩ := run_append_own_at (P := Tryz.prog) w base T o.type E i0 z k bytes hT hi hz0 hz1 hz2 hzs h0 v n _ hown ad xs.length cap (xs.flatMap cells) (flat_len hk xs) (fun j u hu => cells_of_rows hk h0 hin (Below.refl _ _) rfl hu) (fun u hu => by
      obtain ⟨y, _, hy⟩ := List.mem_flatMap.1 hu
      exact hone y u hy) hmax hlim hbase
    unfold Oper.wp
    simp [execOp, ho, resolve, invoke, builtin, hs, hx, hrun, Result.andThen]
    exact h v' w' r1 r2
theorem left_no {α : Prop} {l : Array Bool} (h : leftOf18 l = true) (h2 : leftOf18 l = false) : α := by rw [h2] at h; cases h
/-- What the document's Do has when it knows a frame's first number. -/
structure RIn (W : World) (db : Nat) (bad : Bool) (left : List Int) (w : World) : Prop where
  below : Below W.heap.size W w
  rd : Ref w db db bad left
  lo : W.heap.size ≤ db
theorem RIn.only {W w w' : World} {db : Nat} {bad bad2 : Bool} {left left2 : List Int} (h : RIn W db bad left w) (hr : Ref w' db db bad2 left2) (ho : Only db w w') : RIn W db bad2 left2 w' := ⟨h.below.trans (ho.toBelow h.below.size h.lo), hr, h.lo⟩
theorem RIn.grow {W w w' : World} {db : Nat} {bad : Bool} {left : List Int} (h : RIn W db bad left w) (hb : Below w.heap.size w w') : RIn W db bad left w' := ⟨h.below.trans (hb.mono h.below.size), h.rd.below hb, h.lo⟩
set_option maxHeartbeats 8000000 in
theorem rdo18_any (B rb n nd cap : Nat) (s : WP) (kind : Int) (ao : Option Addr) (data : List Int) (w : World) (hs : RSayIs w B rb s) (hok : s.Ok n) (hn : n ≤ 1048576) (hd : data.length = nd) (hx : BytesIn w w.heap.size ao data) (hw : BytesWf data) (hnil : ao = none → cap = 0) (hcap : nd ≤ cap) (hl : nd ≤ 140737488351232) :
    Calls Tryz.prog 37 #[.pointer (some ⟨rb, 0, none⟩), .agg #[.int .i64 kind, .slice ao nd cap]] w (RDoneAt w B rb (doW s kind data)) := by
  have hb0 := (Below.refl w.heap.size w).alloc (Nat.le_refl _) (.cells #[.int .i64 kind, .slice ao nd cap] 83)
  have hk0 := heap_alloc_new w (.cells #[.int .i64 kind, .slice ao nd cap] 83)
  obtain ⟨v, es, hsay, hmap⟩ := hs
  obtain ⟨r, hr⟩ : ∃ r, doW s kind data = r := ⟨_, rfl⟩
  rw [hr]
  have HRR := Lib.hid hr
  have HS := Lib.hid hsay
  have HM := Lib.hid hmap
  have HX := Lib.hid hx
  have HD := Lib.hid hd
  have HW := Lib.hid hw
  have HNIL := Lib.hid hnil
  have HOK := Lib.hid hok
  clear hsay hmap hx hd hw hnil hok hr
  go_enter Tryz.func37, Tryz.ntmps37
  go_upto_region 1 with fail
  generalize w.alloc (.cells #[.int .i64 kind, .slice ao nd cap] 83) = w1 at hb0 hk0 ⊢
  have d0 := Go.Joins.cell_of_block hk0 0
  have d1 := Go.Joins.cell_of_block hk0 1
  go_wp2_with fail
  refine (rnewW_any ao nd cap data w1 HD.out ((HX.out.below hb0 (Nat.le_refl _)).mono hb0.size) HNIL.out hcap hl).mono ?_
  rintro e w2 ⟨rfl, hr2, hb2⟩
  have hk2 := (hb2.block _ (Array.getElem?_eq_some_iff.1 hk0).1).trans hk0
  have hz1 : w.heap.size < w1.heap.size := (Array.getElem?_eq_some_iff.1 hk0).1
  have h2 : RIn w w1.heap.size false data w2 := ⟨hb0.trans (hb2.mono hb0.size), hr2, Nat.le_of_lt hz1⟩
  generalize w1.heap.size = db at h2 hz1 ⊢
  have H2 := Lib.hid h2
  clear hb0 hb2 hk0 hr2 h2 d0 d1
  obtain ⟨⟨x, b1, l1⟩, hq⟩ : ∃ q, numS false data = q := ⟨_, rfl⟩
  have hsh := numS_shrinks false data HW.out
  rw [hq] at hsh
  dsimp only at hsh
  have HQ := Lib.hid hq
  have HW1 := Lib.hid hsh.1
  clear hq hsh
  go_wp2_with fail
  refine (rnum_any db db false data x b1 l1 w2 HQ.out H2.out.rd HW.out).mono ?_
  rintro e w3 ⟨rfl, hr3, ho3⟩
  have h3 := H2.out.only hr3 ho3
  have hk3 := (ho3.block _ (Array.getElem?_eq_some_iff.1 hk2).1 (by omega)).trans hk2
  have H3 := Lib.hid h3
  have d0 := Go.Joins.cell_of_block hk3 0
  clear h3 hr3 ho3 hk2 hk3
  by_cases h1 : kind = 1
  · skip
    subst h1
    obtain ⟨⟨y, b2, l2⟩, hq2⟩ : ∃ q, numS b1 l1 = q := ⟨_, rfl⟩
    have hR := Lib.hid (show (if isDone b2 l2 = true ∧ (0 ≤ x ∧ x ≤ 1099511627776) ∧ (0 ≤ y ∧ y ≤ 9) then some { s with term := x, vote := y } else none) = r by rw [← HRR.out, doW_one, HQ.out]; unfold voteW; dsimp only; rw [hq2])
    have HQ2 := Lib.hid hq2
    clear hq2
    go_wp2_with fail
    refine (rnum_any db db b1 l1 y b2 l2 w3 HQ2.out H3.out.rd HW1.out).mono ?_
    rintro e w4 ⟨rfl, hr4, ho4⟩
    have H4 := Lib.hid (H3.out.only hr4 ho4)
    clear hr4 ho4 d0
    go_wp2_with fail
    refine (rdone_any db db b2 l2 w4 H4.out.rd).mono ?_
    rintro e w5 ⟨rfl, hb5⟩
    have H5 := Lib.hid (H4.out.grow hb5)
    have hbel := H5.out.below
    have HBEL := Lib.hid hbel
    have NO := Lib.hid (show (isDone b2 l2 = true ∧ (0 ≤ x ∧ x ≤ 1099511627776) ∧ (0 ≤ y ∧ y ≤ 9)) = False → r = none from fun hf => by rw [← hR.out, if_neg (by rw [hf]; exact id)])
    clear hb5 hbel
    by_cases hd : isDone b2 l2 = true
    · have hd' : (!b2 && l2.isEmpty) = true := hd
      rw [hd']
      clear hd'
      go_wp2_with fail
      by_cases c1 : 0 ≤ x ∧ x ≤ 1099511627776
      · refine (within_at x 1099511627776 true w5 (by simp [c1])).mono ?_
        rintro e w6 ⟨rfl, rfl⟩
        go_wp2_with fail
        by_cases c2 : 0 ≤ y ∧ y ≤ 9
        · refine (within_at y 9 true w5 (by simp [c2])).mono ?_
          rintro e w6 ⟨rfl, rfl⟩
          have HYES := Lib.hid (show r = some { s with term := x, vote := y } by rw [← hR.out, if_pos ⟨hd, c1, c2⟩])
          have hsay3 := HS.out.below HBEL.out (Nat.le_refl _)
          have HS3 := Lib.hid hsay3
          have z0 := Go.Joins.cell_of_block hsay3.blk 0
          have z1 := Go.Joins.cell_of_block hsay3.blk 1
          have f0 := Go.Joins.unfrozen_of_block hsay3.blk 0
          have f1 := Go.Joins.unfrozen_of_block hsay3.blk 1
          have z4 := Go.Joins.cell_of_block hsay3.blk 4
          have f4 := Go.Joins.unfrozen_of_block hsay3.blk 4
          clear hsay3 c1 c2 hd
          go_wp2_with fail
          go_ret
          exact rdone_yes _ HYES.out ⟨v, es, ((HS3.out.sets 0 (.int .i64 x) rfl).sets 1 (.int .i64 y) rfl), HM.out⟩ (grown_cell (grown_cell (grown_bel HBEL.out (some rb)) 0 _) 1 _)
        · refine (within_at y 9 false w5 (by simp; omega)).mono ?_
          rintro e w6 ⟨rfl, rfl⟩
          go_wp2_with fail
          go_ret
          exact rdone_no (NO.out (by simp; omega)) HBEL.out
      · refine (within_at x 1099511627776 false w5 (by simp; omega)).mono ?_
        rintro e w6 ⟨rfl, rfl⟩
        go_wp2_with fail
        go_ret
        exact rdone_no (NO.out (by simp; omega)) HBEL.out
    · have hd' : (!b2 && l2.isEmpty) = false := by simpa [isDone] using hd
      rw [hd']
      go_wp2_with fail
      go_ret
      exact rdone_no (NO.out (by simp [hd])) HBEL.out
  by_cases h2 : kind = 2
  · skip
    subst h2
    obtain ⟨⟨y, b2, l2⟩, hq2⟩ : ∃ q, entryS b1 l1 = q := ⟨_, rfl⟩
    have hR := Lib.hid (show (if isDone b2 l2 = true ∧ s.base < x ∧ x ≤ s.base + s.L.length + 1 then some { s with L := s.L.take (x - s.base - 1).toNat ++ [y] } else none) = r by rw [← HRR.out, doW_two, HQ.out]; unfold entryW; dsimp only; rw [hq2])
    have hxr : N64 x := by have h := congrArg Prod.fst HQ.out; dsimp only at h; rw [← h]; exact wrap_N64 _
    have HQ2 := Lib.hid hq2
    clear hq2
    go_wp2_with fail
    refine (rrEntry_any db db b1 l1 _ w3 HQ2.out H3.out.rd HW1.out).mono ?_
    rintro e w4 ⟨f, hfp, rfl, hfo, hr4, ho4⟩
    have hz34 : w3.heap.size ≤ w4.heap.size := ho4.1
    have H4 := Lib.hid (H3.out.only hr4 ho4)
    have HFP := Lib.hid hfp
    have HFO4 := Lib.hid hfo
    clear hr4 ho4 hfp hfo d0
    unfold enVal
    obtain ⟨x0, x1, x2, x3, ck, text, ao2, args, ac, num, vo, vs, vc⟩ := f
    dsimp only at HFP HFO4 ⊢
    have hba := (Below.refl w4.heap.size w4).alloc (Nat.le_refl _) (.cells #[.int .i64 x0, .int .u8 x1, .int .i64 x2, .int .i64 x3, .int .u8 ck, .string text, .slice ao2 args.length ac, .int .i64 num, .slice vo vs.length vc] 60)
    have hka := heap_alloc_new w4 (.cells #[.int .i64 x0, .int .u8 x1, .int .i64 x2, .int .i64 x3, .int .u8 ck, .string text, .slice ao2 args.length ac, .int .i64 num, .slice vo vs.length vc] 60)
    go_upto_region 13 with fail
    generalize w4.alloc (.cells #[.int .i64 x0, .int .u8 x1, .int .i64 x2, .int .i64 x3, .int .u8 ck, .string text, .slice ao2 args.length ac, .int .i64 num, .slice vo vs.length vc] 60) = w5 at hba hka ⊢
    have H5 := Lib.hid (H4.out.grow hba)
    have HB5 := Lib.hid hba
    have HK5 := Lib.hid hka
    have hbel := H5.out.below
    have NO := Lib.hid (show (isDone b2 l2 = true ∧ s.base < x ∧ x ≤ s.base + s.L.length + 1) = False → r = none from fun hf => by rw [← hR.out, if_neg (by rw [hf]; exact id)])
    have hsay2 := HS.out.below hbel (Nat.le_refl _)
    have hbase := Go.Joins.cell_of_block hsay2.blk 2
    obtain ⟨bq, hbq⟩ : ∃ bq, s.base = bq := ⟨_, rfl⟩
    have hok1 := HOK.out.base
    have hok2 := HOK.out.len
    have hlen : es.length = s.L.length := by rw [← HM.out, List.length_map]
    rw [hbq] at hok1
    have hbase' : w5.cell? ⟨rb, 2, none⟩ = some (.int .i64 bq) := by rw [← hbq]; exact hbase
    obtain ⟨m, hm⟩ : ∃ m, es.length = m := ⟨_, rfl⟩
    have hmn : m ≤ n := by omega
    have HLEN := Lib.hid (And.intro hlen hm)
    have HBQ := Lib.hid hbq
    have HS2 := Lib.hid hsay2
    obtain ⟨y1, hy1⟩ : ∃ y1, IntKind.i64.wrap (x - bq) = y1 := ⟨_, rfl⟩
    obtain ⟨y2, hy2⟩ : ∃ y2, IntKind.i64.wrap (y1 - 1) = y2 := ⟨_, rfl⟩
    have hyy : 1 ≤ x → y2 = x - bq - 1 := fun h1x => by
      have h2 : IntKind.i64.wrap (x - bq) = x - bq := IntWalk.i64_in _ (by unfold N64 at hxr; omega)
      have h3 : IntKind.i64.wrap (x - bq - 1) = x - bq - 1 := IntWalk.i64_in _ (by unfold N64 at hxr; omega)
      rw [← hy2, ← hy1, h2, h3]
    clear hsay2 hbase hlen hm hbq hok2 hbel hba hka
    go_wp2_with fail
    refine (rdone_any db db b2 l2 w5 H5.out.rd).mono ?_
    rintro e w6 ⟨rfl, hb6⟩
    have HB56 := Lib.hid hb6
    have H6 := Lib.hid (H5.out.grow hb6)
    have hsay6 := HS2.out.below hb6 (Nat.le_refl _)
    obtain ⟨a, c, hv, hcap', hnil', hin⟩ := hsay6.ens.lie
    have k4 : w6.cell? ⟨rb, 4, none⟩ = some (.slice a m c) := by rw [← HLEN.out.2, ← hv]; exact Go.Joins.cell_of_block hsay6.blk 4
    have HSAY6 := Lib.hid hsay6
    have HIN := Lib.hid hin
    have HLIE := Lib.hid (And.intro hv (And.intro hcap' hnil'))
    have HHY := Lib.hid hyy
    have HY := Lib.hid (And.intro hy1 hy2)
    clear hsay6 hin hv hcap' hnil' hb6 hbase' hy1 hy2 hyy
    by_cases hd : isDone b2 l2 = true
    · have hd' : (!b2 && l2.isEmpty) = true := hd
      rw [hd']
      clear hd'
      by_cases c1 : x < 1
      · have e1 : decide (x < 1) = true := by simpa using c1
        go_wp2_with fail
        go_ret
        exact rdone_no (NO.out (by have := HBQ.out; simp; omega)) H6.out.below
      have e1 : decide (x < 1) = false := by simpa using c1
      have HYY := Lib.hid (HHY.out (by omega))
      by_cases c2 : y2 < 0
      · have e2 : decide (y2 < 0) = true := by simpa using c2
        go_wp2_with fail
        go_ret
        exact rdone_no (NO.out (by have := HBQ.out; have := HYY.out; simp; omega)) H6.out.below
      have e2 : decide (y2 < 0) = false := by simpa using c2
      obtain ⟨j, hj⟩ : ∃ j : Nat, y2 = j := ⟨y2.toNat, by omega⟩
      have HXJ := Lib.hid (And.intro HYY.out hj)
      clear hj
      by_cases c3 : (m : Int) < y2
      · have e3 : decide ((m : Int) < y2) = true := by simpa using c3
        go_wp2_with fail
        go_ret
        exact rdone_no (NO.out (by have := HBQ.out; have := HLEN.out; have := HXJ.out; simp; omega)) H6.out.below
      have e3 : decide ((m : Int) < y2) = false := by simpa using c3
      have hj := HXJ.out.2
      subst hj
      have hjm : j ≤ m := by omega
      have HYES := Lib.hid (show r = some { s with L := s.L.take j ++ [y] } by
        have h1 := HXJ.out.1
        rw [← hR.out, if_pos ⟨hd, by rw [HBQ.out]; omega, by rw [HBQ.out, ← HLEN.out.1, HLEN.out.2]; omega⟩, HBQ.out, ← h1]
        rfl)
      obtain ⟨hv, hcap', hnil'⟩ := HLIE.out
      have hcm : m ≤ c := by have := HLEN.out.2; omega
      have hrow := HSAY6.out.ens.row
      rw [hv, HLEN.out.2] at hrow
      have hsl : ∀ w', (Instr.sliceAt 38 (.slice a m c) none (some (.int .i64 (j : Int))) none).run Tryz.prog w' = .ok (.slice a j c) w' := fun w' => by
        have h := run_sub_h sliceEnW sizeEnW a m c j (by omega) .i64 (j : Int) rfl w'
        rwa [own_addrW hrow] at h
      have kb := (HB56.out.block _ (Array.getElem?_eq_some_iff.1 HK5.out).1).trans HK5.out
      have HKE := Lib.hid kb
      have hz46 : w4.heap.size < w6.heap.size := (Array.getElem?_eq_some_iff.1 kb).1
      have hrbl : rb < w.heap.size := HS.out.lt
      have hzw4 : w.heap.size ≤ w4.heap.size := H4.out.below.size
      have hrb6 : rb < w6.heap.size := by omega
      have HINJ := Lib.hid (RowsIn.take j HIN.out)
      have HNLJ := Lib.hid (show a = none → c = 0 from hnil')
      have HLNJ := Lib.hid (show (es.take j).length = j by rw [List.length_take, HLEN.out.2, Nat.min_eq_left hjm])
      clear hv hcap' hnil' hrow kb
      go_upto_region 16 with fail
      clear e1 e2 e3 c1 c2 c3
      have hb46 := HB5.out.trans (HB56.out.mono HB5.out.size)
      have HFO := Lib.hid (fun (u : World) (hu : Below w6.heap.size w6 u) => (show enOwn u w3.heap.size ⟨x0, x1, x2, x3, ck, text, ao2, args, ac, num, vo, vs, vc⟩ from ⟨VasOwn.below (VasOwn.below HFO4.out.1 hb46 (Nat.le_refl _)) hu (Nat.le_refl _), IntsOwn.below (IntsOwn.below HFO4.out.2 hb46 (Nat.le_refl _)) hu (Nat.le_refl _)⟩))
      have HSUBE := Lib.hid (fun (u : World) (hu : Below w6.heap.size w6 u) => (HFO.out u hu).sub)
      have HC := Lib.hid (fun (wS : World) (hh : wS.heap[w4.heap.size]? = some (.cells #[.int .i64 x0, .int .u8 x1, .int .i64 x2, .int .i64 x3, .int .u8 ck, .string text, .slice ao2 args.length ac, .int .i64 num, .slice vo vs.length vc] 60 (0, 0)) ∧ wS.cell? ⟨rb, 4, none⟩ = some (.slice a m c)) => And.intro (cells9 hh.1) hh.2)
      clear hb46
      refine heldT_begin (fun (w' : World) => w'.heap[w4.heap.size]? = some (.cells #[.int .i64 x0, .int .u8 x1, .int .i64 x2, .int .i64 x3, .int .u8 ck, .string text, .slice ao2 args.length ac, .int .i64 num, .slice vo vs.length vc] 60 (0, 0)) ∧ w'.cell? ⟨rb, 4, none⟩ = some (.slice a m c)) (by kernel_rfl) ⟨HKE.out, k4⟩ ?_
      intro hS_wd
      refine takeT_yes (v := ?_) 14 0 rfl (by kernel_rfl) (by kernel_rfl) (by kernel_rfl) (by kernel_rfl) (by kernel_rfl) (fun _ _ _ h => h) (by rfl) (by assumption) ?_ ?_; rotate_left; focus (intro wS hSw; obtain ⟨⟨q0, q1, q2, q3, q4, q5, q6, q7, q8⟩, r4⟩ := HC.out wS hSw; go_simp; first | done | with_reducible rfl)
      (try simp only [Act.put, List.setIfInBounds_toArray, List.set_cons_zero, List.set_cons_succ])
      refine takeT_yes (v := ?_) 14 2 rfl (by kernel_rfl) (by kernel_rfl) (by kernel_rfl) (by kernel_rfl) (by kernel_rfl) (fun _ _ _ h => h) (by rfl) (by assumption) ?_ ?_; rotate_left; focus (intro wS hSw; obtain ⟨⟨q0, q1, q2, q3, q4, q5, q6, q7, q8⟩, r4⟩ := HC.out wS hSw; go_simp; first | done | with_reducible rfl)
      (try simp only [Act.put, List.setIfInBounds_toArray, List.set_cons_zero, List.set_cons_succ])
      refine takeT_yes (v := ?_) 14 3 rfl (by kernel_rfl) (by kernel_rfl) (by kernel_rfl) (by kernel_rfl) (by kernel_rfl) (fun _ _ _ h => h) (by rfl) (by assumption) ?_ ?_; rotate_left; focus (intro wS hSw; obtain ⟨⟨q0, q1, q2, q3, q4, q5, q6, q7, q8⟩, r4⟩ := HC.out wS hSw; go_simp; first | done | with_reducible rfl)
      (try simp only [Act.put, List.setIfInBounds_toArray, List.set_cons_zero, List.set_cons_succ])
      refine takeT_yes (v := ?_) 14 4 rfl (by kernel_rfl) (by kernel_rfl) (by kernel_rfl) (by kernel_rfl) (by kernel_rfl) (fun _ _ _ h => h) (by rfl) (by assumption) ?_ ?_; rotate_left; focus (intro wS hSw; obtain ⟨⟨q0, q1, q2, q3, q4, q5, q6, q7, q8⟩, r4⟩ := HC.out wS hSw; go_simp; first | done | with_reducible rfl)
      (try simp only [Act.put, List.setIfInBounds_toArray, List.set_cons_zero, List.set_cons_succ])
      refine takeT_yes (v := ?_) 14 5 rfl (by kernel_rfl) (by kernel_rfl) (by kernel_rfl) (by kernel_rfl) (by kernel_rfl) (fun _ _ _ h => h) (by rfl) (by assumption) ?_ ?_; rotate_left; focus (intro wS hSw; obtain ⟨⟨q0, q1, q2, q3, q4, q5, q6, q7, q8⟩, r4⟩ := HC.out wS hSw; go_simp; first | done | with_reducible rfl)
      (try simp only [Act.put, List.setIfInBounds_toArray, List.set_cons_zero, List.set_cons_succ])
      refine takeT_yes (v := ?_) 14 6 rfl (by kernel_rfl) (by kernel_rfl) (by kernel_rfl) (by kernel_rfl) (by kernel_rfl) (fun _ _ _ h => h) (by rfl) (by assumption) ?_ ?_; rotate_left; focus (intro wS hSw; obtain ⟨⟨q0, q1, q2, q3, q4, q5, q6, q7, q8⟩, r4⟩ := HC.out wS hSw; go_simp; first | done | with_reducible rfl)
      (try simp only [Act.put, List.setIfInBounds_toArray, List.set_cons_zero, List.set_cons_succ])
      refine takeT_yes (v := ?_) 14 7 rfl (by kernel_rfl) (by kernel_rfl) (by kernel_rfl) (by kernel_rfl) (by kernel_rfl) (fun _ _ _ h => h) (by rfl) (by assumption) ?_ ?_; rotate_left; focus (intro wS hSw; obtain ⟨⟨q0, q1, q2, q3, q4, q5, q6, q7, q8⟩, r4⟩ := HC.out wS hSw; go_simp; first | done | with_reducible rfl)
      (try simp only [Act.put, List.setIfInBounds_toArray, List.set_cons_zero, List.set_cons_succ])
      refine takeT_yes (v := ?_) 14 9 rfl (by kernel_rfl) (by kernel_rfl) (by kernel_rfl) (by kernel_rfl) (by kernel_rfl) (fun _ _ _ h => h) (by rfl) (by assumption) ?_ ?_; rotate_left; focus (intro wS hSw; obtain ⟨⟨q0, q1, q2, q3, q4, q5, q6, q7, q8⟩, r4⟩ := HC.out wS hSw; go_simp; first | done | with_reducible rfl)
      (try simp only [Act.put, List.setIfInBounds_toArray, List.set_cons_zero, List.set_cons_succ])
      have HB_wd := Lib.hid (show Below w6.heap.size w6 w6.drew from (Below.refl _ _).drew)
      generalize w6.drew = wd at hS_wd HB_wd ⊢
      refine takeT_two 1 10 rfl rfl (by kernel_rfl) (by rfl) (by rfl) (fun K hK => ?_) (fun K hK => ?_)
      · skip
        go_simp
        have hS_wa : (wd.alloc (.cells #[] 60)).heap[w4.heap.size]? = some (.cells #[.int .i64 x0, .int .u8 x1, .int .i64 x2, .int .i64 x3, .int .u8 ck, .string text, .slice ao2 args.length ac, .int .i64 num, .slice vo vs.length vc] 60 (0, 0)) ∧ (wd.alloc (.cells #[] 60)).cell? ⟨rb, 4, none⟩ = some (.slice a m c) := ⟨(((Below.refl wd.heap.size wd).alloc (Nat.le_refl _) (.cells #[] 60)).block w4.heap.size (Array.getElem?_eq_some_iff.1 hS_wd.1).1).trans hS_wd.1, (World.cell?_alloc_lt wd (.cells #[] 60) _ (by have := HB_wd.out.size; show rb < wd.heap.size; omega)).trans hS_wd.2⟩
        refine hK.out _ _ (fun _ => hS_wa) ?_
        clear hK K
        (try simp only [Act.put, List.setIfInBounds_toArray, List.set_cons_zero, List.set_cons_succ])
        have hba_wa := (Below.refl wd.heap.size wd).alloc (Nat.le_refl _) (.cells #[] 60)
        have hka_wa := heap_alloc_new wd (.cells #[] 60)
        have hza_wa : wd.heap.size < (wd.alloc (.cells #[] 60)).heap.size := by simp
        have hlit_wa := World.ownsRow_lit (base := wd.heap.size) (e := 60) (size := 9) wd #[] 0 (Nat.le_refl _) (by unfold maxLen; omega) rfl
        generalize wd.alloc (.cells #[] 60) = wa at hba_wa hka_wa hza_wa hS_wa hlit_wa ⊢
        have HB_wa := Lib.hid (HB_wd.out.trans (hba_wa.mono HB_wd.out.size))
        refine takeT_two 8 10 rfl rfl (by kernel_rfl) (by rfl) (by rfl) (fun K hK => ?_) (fun K hK => ?_)
        · skip
          refine oper_append_rowsW Tryz.underlying38 infoEn rfl (by decide) enCells_len enCells_one (.tmp 75) (.tmp 81) rfl wd.heap.size (.slice (some ⟨wd.heap.size, 0, none⟩) 0 0) 0 [] rfl hlit_wa a j c (es.take j) HLNJ.out rfl w6.heap.size (HINJ.out.below enSub_kept HB_wa.out (Nat.le_refl _)) HNLJ.out (by unfold maxLen; omega) (by omega) (by omega) ?_
          intro u8 w8 hown8 hg8
          rw [Nat.zero_add, List.nil_append] at hown8
          obtain ⟨a8, k8, rfl⟩ := row_slice hown8
          have hlo8 : w6.heap.size ≤ wd.heap.size := by have := HB_wd.out.size; omega
          have hne1 : w4.heap.size ≠ wd.heap.size := by omega
          have hne2 : rb ≠ wd.heap.size := by omega
          have hS_w8 : w8.heap[w4.heap.size]? = some (.cells #[.int .i64 x0, .int .u8 x1, .int .i64 x2, .int .i64 x3, .int .u8 ck, .string text, .slice ao2 args.length ac, .int .i64 num, .slice vo vs.length vc] 60 (0, 0)) ∧ w8.cell? ⟨rb, 4, none⟩ = some (.slice a m c) := ⟨(hg8.block w4.heap.size (Array.getElem?_eq_some_iff.1 hS_wa.1).1 (fun e => hne1 (Option.some.inj e))).trans hS_wa.1, (cell_block (hg8.block rb (by have := HB_wa.out.size; omega) (fun e => hne2 (Option.some.inj e)))).trans hS_wa.2⟩
          refine hK.out _ _ (fun _ => hS_w8) ?_
          clear hK K
          (try simp only [Act.put, List.setIfInBounds_toArray, List.set_cons_zero, List.set_cons_succ])
          have hs8 := hg8.size
          have HB_w8 := Lib.hid (HB_wa.out.grown hg8 HB_wa.out.size (fun q hq => by cases hq; exact hlo8))
          refine takeT_one 10 rfl (by kernel_rfl) (by rfl) (fun K hK => ?_)
          go_simp
          have hS_wl : (w8.alloc (.cells #[.int .i64 x0, .int .u8 x1, .int .i64 x2, .int .i64 x3, .int .u8 ck, .string text, .slice ao2 args.length ac, .int .i64 num, .slice vo vs.length vc] 60)).heap[w4.heap.size]? = some (.cells #[.int .i64 x0, .int .u8 x1, .int .i64 x2, .int .i64 x3, .int .u8 ck, .string text, .slice ao2 args.length ac, .int .i64 num, .slice vo vs.length vc] 60 (0, 0)) ∧ (w8.alloc (.cells #[.int .i64 x0, .int .u8 x1, .int .i64 x2, .int .i64 x3, .int .u8 ck, .string text, .slice ao2 args.length ac, .int .i64 num, .slice vo vs.length vc] 60)).cell? ⟨rb, 4, none⟩ = some (.slice a m c) := ⟨(((Below.refl w8.heap.size w8).alloc (Nat.le_refl _) (.cells #[.int .i64 x0, .int .u8 x1, .int .i64 x2, .int .i64 x3, .int .u8 ck, .string text, .slice ao2 args.length ac, .int .i64 num, .slice vo vs.length vc] 60)).block w4.heap.size (Array.getElem?_eq_some_iff.1 hS_w8.1).1).trans hS_w8.1, (World.cell?_alloc_lt w8 (.cells #[.int .i64 x0, .int .u8 x1, .int .i64 x2, .int .i64 x3, .int .u8 ck, .string text, .slice ao2 args.length ac, .int .i64 num, .slice vo vs.length vc] 60) _ (by have := HB_w8.out.size; show rb < w8.heap.size; omega)).trans hS_w8.2⟩
          refine hK.out _ _ (fun _ => hS_wl) ?_
          clear hK K
          (try simp only [Act.put, List.setIfInBounds_toArray, List.set_cons_zero, List.set_cons_succ])
          have hba_wl := (Below.refl w8.heap.size w8).alloc (Nat.le_refl _) (.cells #[.int .i64 x0, .int .u8 x1, .int .i64 x2, .int .i64 x3, .int .u8 ck, .string text, .slice ao2 args.length ac, .int .i64 num, .slice vo vs.length vc] 60)
          have hka_wl := heap_alloc_new w8 (.cells #[.int .i64 x0, .int .u8 x1, .int .i64 x2, .int .i64 x3, .int .u8 ck, .string text, .slice ao2 args.length ac, .int .i64 num, .slice vo vs.length vc] 60)
          have hza_wl : w8.heap.size < (w8.alloc (.cells #[.int .i64 x0, .int .u8 x1, .int .i64 x2, .int .i64 x3, .int .u8 ck, .string text, .slice ao2 args.length ac, .int .i64 num, .slice vo vs.length vc] 60)).heap.size := by simp
          generalize w8.alloc (.cells #[.int .i64 x0, .int .u8 x1, .int .i64 x2, .int .i64 x3, .int .u8 ck, .string text, .slice ao2 args.length ac, .int .i64 num, .slice vo vs.length vc] 60) = wl at hba_wl hka_wl hza_wl hS_wl ⊢
          have HB_wl := Lib.hid (HB_w8.out.trans (hba_wl.mono HB_w8.out.size))
          have HOWN := Lib.hid (own_below hown8 hba_wl (Nat.le_refl _))
          have HK10 := Lib.hid hka_wl
          have hlo9 : w6.heap.size ≤ wd.heap.size := hlo8
          have hlz : wd.heap.size ≤ wl.heap.size := by omega
          refine takeT_one 11 rfl (by kernel_rfl) (by rfl) (fun K hK => ?_)
          refine oper_append_rowsW Tryz.underlying38 infoEn rfl (by decide) enCells_len enCells_one (.tmp 82) (.tmp 84) rfl wd.heap.size (.slice a8 j k8) j ((es.take j).flatMap enCells) rfl HOWN.out (some ⟨w8.heap.size, 0, none⟩) 1 1 [⟨x0, x1, x2, x3, ck, text, ao2, args, ac, num, vo, vs, vc⟩] rfl rfl wl.heap.size (rowsIn_block (sub := enSub) enCells_len _ _ HK10.out rfl (Array.getElem?_eq_some_iff.1 HK10.out).1 (fun y hy => by rw [List.mem_singleton.1 hy]; exact HSUBE.out wl HB_wl.out)) (fun h => by cases h) (by unfold maxLen; omega) (by omega) hlz ?_
          intro u9 w9 hown9 hg9
          obtain ⟨a9, k9, rfl⟩ := row_slice hown9
          have hS_w9 : w9.heap[w4.heap.size]? = some (.cells #[.int .i64 x0, .int .u8 x1, .int .i64 x2, .int .i64 x3, .int .u8 ck, .string text, .slice ao2 args.length ac, .int .i64 num, .slice vo vs.length vc] 60 (0, 0)) ∧ w9.cell? ⟨rb, 4, none⟩ = some (.slice a m c) := ⟨(hg9.block w4.heap.size (Array.getElem?_eq_some_iff.1 hS_wl.1).1 (by intro e; have := (World.ownsRow.lt HOWN.out w4.heap.size e.symm).1; omega)).trans hS_wl.1, (cell_block (hg9.block rb (by have := HB_wl.out.size; omega) (by intro e; have := (World.ownsRow.lt HOWN.out rb e.symm).1; omega))).trans hS_wl.2⟩
          have HB9 := Lib.hid (HB_wl.out.grown hg9 HB_wl.out.size (fun q hq => Nat.le_trans hlo9 (World.ownsRow.lt HOWN.out q hq).1))
          have HOWN9 := Lib.hid hown9
          have hsay9 := HSAY6.out.below HB9.out (Nat.le_refl _)
          have d4 := Go.Joins.cell_of_block hsay9.blk 4
          have f4 := Go.Joins.unfrozen_of_block hsay9.blk 4
          have HSAY9 := Lib.hid hsay9
          clear hown9 hg9 hsay9
          refine hK.out _ _ (fun _ => hS_w9) ?_
          clear hK K
          (try simp only [Act.put, List.setIfInBounds_toArray, List.set_cons_zero, List.set_cons_succ])
          refine takeT_one 12 rfl (by kernel_rfl) (by rfl) (fun K hK => ?_)
          go_simp
          skip
          refine hK.out _ _ (fun _ => hS_w9) ?_
          clear hK K
          (try simp only [Act.put, List.setIfInBounds_toArray, List.set_cons_zero, List.set_cons_succ])
          refine takeT_yes (v := ?_) 14 13 rfl (by kernel_rfl) (by kernel_rfl) (by kernel_rfl) (by kernel_rfl) (by kernel_rfl) (fun _ _ _ h => h) (by rfl) (by assumption) ?_ ?_; rotate_left; focus (intro wS hSw; obtain ⟨⟨q0, q1, q2, q3, q4, q5, q6, q7, q8⟩, r4⟩ := HC.out wS hSw; go_simp; first | done | with_reducible rfl)
          (try simp only [Act.put, List.setIfInBounds_toArray, List.set_cons_zero, List.set_cons_succ])
          refine takeT_one 14 rfl (by kernel_rfl) (by rfl) (fun K hK => ?_)
          go_simp
          skip
          refine hK.out _ _ (fun h => left_no h (by kernel_rfl)) ?_
          clear hK K
          (try simp only [Act.put, List.setIfInBounds_toArray, List.set_cons_zero, List.set_cons_succ])
          refine wpAnyT_done (by kernel_rfl) ?_ _
          simp only [Exit.then]
          rename (∀ (_ : Act) (_ : World), _ → _) => hK0
          refine hK0 _ _ ?_
          clear hK0
          have hfo : enOwn w9 w3.heap.size ⟨x0, x1, x2, x3, ck, text, ao2, args, ac, num, vo, vs, vc⟩ := HFO.out w9 HB9.out
          have hRES := HSAY9.out.setE (es' := es.take j ++ [⟨x0, x1, x2, x3, ck, text, ao2, args, ac, num, vo, vs, vc⟩]) (HS.out.ens.cutPush (M := w3.heap.size) (H6.out.below.trans (HB9.out.mono H6.out.below.size)) (by have := HS.out.low; have := HS.out.lt; have := H3.out.below.size; omega) H3.out.below.size hfo (by rw [HLEN.out.2]; exact hjm) (Go.Joins.ownsRow_le (by simpa using HOWN9.out) (by have := HS.out.low; have := HS.out.lt; have := H6.out.below.size; omega)))
          have HRES := Lib.hid hRES
          clear hRES hfo
          go_wp2_with fail
          go_ret
          refine rdone_yes _ HYES.out ⟨_, _, HRES.out, ?_⟩ (grown_cell (grown_bel (H6.out.below.trans (HB9.out.mono H6.out.below.size)) (some rb)) 4 _)
          rw [List.map_append, List.map_take, HM.out]
          exact congrArg (fun q => s.L.take j ++ [q]) HFP.out
        · skip
          go_simp
          have hS_wb : (wa.alloc (.cells #[.int .i64 x0, .int .u8 x1, .int .i64 x2, .int .i64 x3, .int .u8 ck, .string text, .slice ao2 args.length ac, .int .i64 num, .slice vo vs.length vc] 60)).heap[w4.heap.size]? = some (.cells #[.int .i64 x0, .int .u8 x1, .int .i64 x2, .int .i64 x3, .int .u8 ck, .string text, .slice ao2 args.length ac, .int .i64 num, .slice vo vs.length vc] 60 (0, 0)) ∧ (wa.alloc (.cells #[.int .i64 x0, .int .u8 x1, .int .i64 x2, .int .i64 x3, .int .u8 ck, .string text, .slice ao2 args.length ac, .int .i64 num, .slice vo vs.length vc] 60)).cell? ⟨rb, 4, none⟩ = some (.slice a m c) := ⟨(((Below.refl wa.heap.size wa).alloc (Nat.le_refl _) (.cells #[.int .i64 x0, .int .u8 x1, .int .i64 x2, .int .i64 x3, .int .u8 ck, .string text, .slice ao2 args.length ac, .int .i64 num, .slice vo vs.length vc] 60)).block w4.heap.size (Array.getElem?_eq_some_iff.1 hS_wa.1).1).trans hS_wa.1, (World.cell?_alloc_lt wa (.cells #[.int .i64 x0, .int .u8 x1, .int .i64 x2, .int .i64 x3, .int .u8 ck, .string text, .slice ao2 args.length ac, .int .i64 num, .slice vo vs.length vc] 60) _ (by have := HB_wa.out.size; show rb < wa.heap.size; omega)).trans hS_wa.2⟩
          refine hK.out _ _ (fun _ => hS_wb) ?_
          clear hK K
          (try simp only [Act.put, List.setIfInBounds_toArray, List.set_cons_zero, List.set_cons_succ])
          have hba_wb := (Below.refl wa.heap.size wa).alloc (Nat.le_refl _) (.cells #[.int .i64 x0, .int .u8 x1, .int .i64 x2, .int .i64 x3, .int .u8 ck, .string text, .slice ao2 args.length ac, .int .i64 num, .slice vo vs.length vc] 60)
          have hka_wb := heap_alloc_new wa (.cells #[.int .i64 x0, .int .u8 x1, .int .i64 x2, .int .i64 x3, .int .u8 ck, .string text, .slice ao2 args.length ac, .int .i64 num, .slice vo vs.length vc] 60)
          have hza_wb : wa.heap.size < (wa.alloc (.cells #[.int .i64 x0, .int .u8 x1, .int .i64 x2, .int .i64 x3, .int .u8 ck, .string text, .slice ao2 args.length ac, .int .i64 num, .slice vo vs.length vc] 60)).heap.size := by simp
          generalize wa.alloc (.cells #[.int .i64 x0, .int .u8 x1, .int .i64 x2, .int .i64 x3, .int .u8 ck, .string text, .slice ao2 args.length ac, .int .i64 num, .slice vo vs.length vc] 60) = wb at hba_wb hka_wb hza_wb hS_wb ⊢
          have HB_wb := Lib.hid (HB_wa.out.trans (hba_wb.mono HB_wa.out.size))
          have hlit_wb := own_below hlit_wa hba_wb (Nat.le_refl _)
          refine takeT_one 8 rfl (by kernel_rfl) (by rfl) (fun K hK => ?_)
          refine oper_append_rowsW Tryz.underlying38 infoEn rfl (by decide) enCells_len enCells_one (.tmp 75) (.tmp 81) rfl wd.heap.size (.slice (some ⟨wd.heap.size, 0, none⟩) 0 0) 0 [] rfl hlit_wb a j c (es.take j) HLNJ.out rfl w6.heap.size (HINJ.out.below enSub_kept HB_wb.out (Nat.le_refl _)) HNLJ.out (by unfold maxLen; omega) (by omega) (by omega) ?_
          intro u8 wl hown8 hg8
          rw [Nat.zero_add, List.nil_append] at hown8
          obtain ⟨a8, k8, rfl⟩ := row_slice hown8
          have hlo8 : w6.heap.size ≤ wd.heap.size := by have := HB_wd.out.size; omega
          have hne1 : w4.heap.size ≠ wd.heap.size := by omega
          have hne2 : rb ≠ wd.heap.size := by omega
          have hS_wl : wl.heap[w4.heap.size]? = some (.cells #[.int .i64 x0, .int .u8 x1, .int .i64 x2, .int .i64 x3, .int .u8 ck, .string text, .slice ao2 args.length ac, .int .i64 num, .slice vo vs.length vc] 60 (0, 0)) ∧ wl.cell? ⟨rb, 4, none⟩ = some (.slice a m c) := ⟨(hg8.block w4.heap.size (Array.getElem?_eq_some_iff.1 hS_wb.1).1 (fun e => hne1 (Option.some.inj e))).trans hS_wb.1, (cell_block (hg8.block rb (by have := HB_wb.out.size; omega) (fun e => hne2 (Option.some.inj e)))).trans hS_wb.2⟩
          refine hK.out _ _ (fun _ => hS_wl) ?_
          clear hK K
          (try simp only [Act.put, List.setIfInBounds_toArray, List.set_cons_zero, List.set_cons_succ])
          have hs8 := hg8.size
          have HB_wl := Lib.hid (HB_wb.out.grown hg8 HB_wb.out.size (fun q hq => by cases hq; exact hlo8))
          have hk10 := (hg8.block wa.heap.size hza_wb (fun e => by have e2 := Option.some.inj e; dsimp only at e2; omega)).trans hka_wb
          have HOWN := Lib.hid hown8
          have HK10 := Lib.hid hk10
          have hlo9 : w6.heap.size ≤ wd.heap.size := hlo8
          have hlz : wd.heap.size ≤ wl.heap.size := by omega
          refine takeT_one 11 rfl (by kernel_rfl) (by rfl) (fun K hK => ?_)
          refine oper_append_rowsW Tryz.underlying38 infoEn rfl (by decide) enCells_len enCells_one (.tmp 82) (.tmp 84) rfl wd.heap.size (.slice a8 j k8) j ((es.take j).flatMap enCells) rfl HOWN.out (some ⟨wa.heap.size, 0, none⟩) 1 1 [⟨x0, x1, x2, x3, ck, text, ao2, args, ac, num, vo, vs, vc⟩] rfl rfl wl.heap.size (rowsIn_block (sub := enSub) enCells_len _ _ HK10.out rfl (Array.getElem?_eq_some_iff.1 HK10.out).1 (fun y hy => by rw [List.mem_singleton.1 hy]; exact HSUBE.out wl HB_wl.out)) (fun h => by cases h) (by unfold maxLen; omega) (by omega) hlz ?_
          intro u9 w9 hown9 hg9
          obtain ⟨a9, k9, rfl⟩ := row_slice hown9
          have hS_w9 : w9.heap[w4.heap.size]? = some (.cells #[.int .i64 x0, .int .u8 x1, .int .i64 x2, .int .i64 x3, .int .u8 ck, .string text, .slice ao2 args.length ac, .int .i64 num, .slice vo vs.length vc] 60 (0, 0)) ∧ w9.cell? ⟨rb, 4, none⟩ = some (.slice a m c) := ⟨(hg9.block w4.heap.size (Array.getElem?_eq_some_iff.1 hS_wl.1).1 (by intro e; have := (World.ownsRow.lt HOWN.out w4.heap.size e.symm).1; omega)).trans hS_wl.1, (cell_block (hg9.block rb (by have := HB_wl.out.size; omega) (by intro e; have := (World.ownsRow.lt HOWN.out rb e.symm).1; omega))).trans hS_wl.2⟩
          have HB9 := Lib.hid (HB_wl.out.grown hg9 HB_wl.out.size (fun q hq => Nat.le_trans hlo9 (World.ownsRow.lt HOWN.out q hq).1))
          have HOWN9 := Lib.hid hown9
          have hsay9 := HSAY6.out.below HB9.out (Nat.le_refl _)
          have d4 := Go.Joins.cell_of_block hsay9.blk 4
          have f4 := Go.Joins.unfrozen_of_block hsay9.blk 4
          have HSAY9 := Lib.hid hsay9
          clear hown9 hg9 hsay9
          refine hK.out _ _ (fun _ => hS_w9) ?_
          clear hK K
          (try simp only [Act.put, List.setIfInBounds_toArray, List.set_cons_zero, List.set_cons_succ])
          refine takeT_one 12 rfl (by kernel_rfl) (by rfl) (fun K hK => ?_)
          go_simp
          skip
          refine hK.out _ _ (fun _ => hS_w9) ?_
          clear hK K
          (try simp only [Act.put, List.setIfInBounds_toArray, List.set_cons_zero, List.set_cons_succ])
          refine takeT_yes (v := ?_) 14 13 rfl (by kernel_rfl) (by kernel_rfl) (by kernel_rfl) (by kernel_rfl) (by kernel_rfl) (fun _ _ _ h => h) (by rfl) (by assumption) ?_ ?_; rotate_left; focus (intro wS hSw; obtain ⟨⟨q0, q1, q2, q3, q4, q5, q6, q7, q8⟩, r4⟩ := HC.out wS hSw; go_simp; first | done | with_reducible rfl)
          (try simp only [Act.put, List.setIfInBounds_toArray, List.set_cons_zero, List.set_cons_succ])
          refine takeT_one 14 rfl (by kernel_rfl) (by rfl) (fun K hK => ?_)
          go_simp
          skip
          refine hK.out _ _ (fun h => left_no h (by kernel_rfl)) ?_
          clear hK K
          (try simp only [Act.put, List.setIfInBounds_toArray, List.set_cons_zero, List.set_cons_succ])
          refine wpAnyT_done (by kernel_rfl) ?_ _
          simp only [Exit.then]
          rename (∀ (_ : Act) (_ : World), _ → _) => hK0
          refine hK0 _ _ ?_
          clear hK0
          have hfo : enOwn w9 w3.heap.size ⟨x0, x1, x2, x3, ck, text, ao2, args, ac, num, vo, vs, vc⟩ := HFO.out w9 HB9.out
          have hRES := HSAY9.out.setE (es' := es.take j ++ [⟨x0, x1, x2, x3, ck, text, ao2, args, ac, num, vo, vs, vc⟩]) (HS.out.ens.cutPush (M := w3.heap.size) (H6.out.below.trans (HB9.out.mono H6.out.below.size)) (by have := HS.out.low; have := HS.out.lt; have := H3.out.below.size; omega) H3.out.below.size hfo (by rw [HLEN.out.2]; exact hjm) (Go.Joins.ownsRow_le (by simpa using HOWN9.out) (by have := HS.out.low; have := HS.out.lt; have := H6.out.below.size; omega)))
          have HRES := Lib.hid hRES
          clear hRES hfo
          go_wp2_with fail
          go_ret
          refine rdone_yes _ HYES.out ⟨_, _, HRES.out, ?_⟩ (grown_cell (grown_bel (H6.out.below.trans (HB9.out.mono H6.out.below.size)) (some rb)) 4 _)
          rw [List.map_append, List.map_take, HM.out]
          exact congrArg (fun q => s.L.take j ++ [q]) HFP.out
      · skip
        go_simp
        have hS_wa : (wd.alloc (.cells #[.int .i64 x0, .int .u8 x1, .int .i64 x2, .int .i64 x3, .int .u8 ck, .string text, .slice ao2 args.length ac, .int .i64 num, .slice vo vs.length vc] 60)).heap[w4.heap.size]? = some (.cells #[.int .i64 x0, .int .u8 x1, .int .i64 x2, .int .i64 x3, .int .u8 ck, .string text, .slice ao2 args.length ac, .int .i64 num, .slice vo vs.length vc] 60 (0, 0)) ∧ (wd.alloc (.cells #[.int .i64 x0, .int .u8 x1, .int .i64 x2, .int .i64 x3, .int .u8 ck, .string text, .slice ao2 args.length ac, .int .i64 num, .slice vo vs.length vc] 60)).cell? ⟨rb, 4, none⟩ = some (.slice a m c) := ⟨(((Below.refl wd.heap.size wd).alloc (Nat.le_refl _) (.cells #[.int .i64 x0, .int .u8 x1, .int .i64 x2, .int .i64 x3, .int .u8 ck, .string text, .slice ao2 args.length ac, .int .i64 num, .slice vo vs.length vc] 60)).block w4.heap.size (Array.getElem?_eq_some_iff.1 hS_wd.1).1).trans hS_wd.1, (World.cell?_alloc_lt wd (.cells #[.int .i64 x0, .int .u8 x1, .int .i64 x2, .int .i64 x3, .int .u8 ck, .string text, .slice ao2 args.length ac, .int .i64 num, .slice vo vs.length vc] 60) _ (by have := HB_wd.out.size; show rb < wd.heap.size; omega)).trans hS_wd.2⟩
        refine hK.out _ _ (fun _ => hS_wa) ?_
        clear hK K
        (try simp only [Act.put, List.setIfInBounds_toArray, List.set_cons_zero, List.set_cons_succ])
        have hba_wa := (Below.refl wd.heap.size wd).alloc (Nat.le_refl _) (.cells #[.int .i64 x0, .int .u8 x1, .int .i64 x2, .int .i64 x3, .int .u8 ck, .string text, .slice ao2 args.length ac, .int .i64 num, .slice vo vs.length vc] 60)
        have hka_wa := heap_alloc_new wd (.cells #[.int .i64 x0, .int .u8 x1, .int .i64 x2, .int .i64 x3, .int .u8 ck, .string text, .slice ao2 args.length ac, .int .i64 num, .slice vo vs.length vc] 60)
        have hza_wa : wd.heap.size < (wd.alloc (.cells #[.int .i64 x0, .int .u8 x1, .int .i64 x2, .int .i64 x3, .int .u8 ck, .string text, .slice ao2 args.length ac, .int .i64 num, .slice vo vs.length vc] 60)).heap.size := by simp
        generalize wd.alloc (.cells #[.int .i64 x0, .int .u8 x1, .int .i64 x2, .int .i64 x3, .int .u8 ck, .string text, .slice ao2 args.length ac, .int .i64 num, .slice vo vs.length vc] 60) = wa at hba_wa hka_wa hza_wa hS_wa ⊢
        have HB_wa := Lib.hid (HB_wd.out.trans (hba_wa.mono HB_wd.out.size))
        refine takeT_one 1 rfl (by kernel_rfl) (by rfl) (fun K hK => ?_)
        go_simp
        have hS_wb : (wa.alloc (.cells #[] 60)).heap[w4.heap.size]? = some (.cells #[.int .i64 x0, .int .u8 x1, .int .i64 x2, .int .i64 x3, .int .u8 ck, .string text, .slice ao2 args.length ac, .int .i64 num, .slice vo vs.length vc] 60 (0, 0)) ∧ (wa.alloc (.cells #[] 60)).cell? ⟨rb, 4, none⟩ = some (.slice a m c) := ⟨(((Below.refl wa.heap.size wa).alloc (Nat.le_refl _) (.cells #[] 60)).block w4.heap.size (Array.getElem?_eq_some_iff.1 hS_wa.1).1).trans hS_wa.1, (World.cell?_alloc_lt wa (.cells #[] 60) _ (by have := HB_wa.out.size; show rb < wa.heap.size; omega)).trans hS_wa.2⟩
        refine hK.out _ _ (fun _ => hS_wb) ?_
        clear hK K
        (try simp only [Act.put, List.setIfInBounds_toArray, List.set_cons_zero, List.set_cons_succ])
        have hba_wb := (Below.refl wa.heap.size wa).alloc (Nat.le_refl _) (.cells #[] 60)
        have hka_wb := heap_alloc_new wa (.cells #[] 60)
        have hza_wb : wa.heap.size < (wa.alloc (.cells #[] 60)).heap.size := by simp
        have hlit_wb := World.ownsRow_lit (base := wa.heap.size) (e := 60) (size := 9) wa #[] 0 (Nat.le_refl _) (by unfold maxLen; omega) rfl
        generalize wa.alloc (.cells #[] 60) = wb at hba_wb hka_wb hza_wb hS_wb hlit_wb ⊢
        have HB_wb := Lib.hid (HB_wa.out.trans (hba_wb.mono HB_wa.out.size))
        have hk10b := (hba_wb.block wd.heap.size hza_wa).trans hka_wa
        refine takeT_one 8 rfl (by kernel_rfl) (by rfl) (fun K hK => ?_)
        refine oper_append_rowsW Tryz.underlying38 infoEn rfl (by decide) enCells_len enCells_one (.tmp 75) (.tmp 81) rfl wa.heap.size (.slice (some ⟨wa.heap.size, 0, none⟩) 0 0) 0 [] rfl hlit_wb a j c (es.take j) HLNJ.out rfl w6.heap.size (HINJ.out.below enSub_kept HB_wb.out (Nat.le_refl _)) HNLJ.out (by unfold maxLen; omega) (by omega) (by omega) ?_
        intro u8 wl hown8 hg8
        rw [Nat.zero_add, List.nil_append] at hown8
        obtain ⟨a8, k8, rfl⟩ := row_slice hown8
        have hlo8 : w6.heap.size ≤ wa.heap.size := by have := HB_wd.out.size; omega
        have hne1 : w4.heap.size ≠ wa.heap.size := by omega
        have hne2 : rb ≠ wa.heap.size := by omega
        have hS_wl : wl.heap[w4.heap.size]? = some (.cells #[.int .i64 x0, .int .u8 x1, .int .i64 x2, .int .i64 x3, .int .u8 ck, .string text, .slice ao2 args.length ac, .int .i64 num, .slice vo vs.length vc] 60 (0, 0)) ∧ wl.cell? ⟨rb, 4, none⟩ = some (.slice a m c) := ⟨(hg8.block w4.heap.size (Array.getElem?_eq_some_iff.1 hS_wb.1).1 (fun e => hne1 (Option.some.inj e))).trans hS_wb.1, (cell_block (hg8.block rb (by have := HB_wb.out.size; omega) (fun e => hne2 (Option.some.inj e)))).trans hS_wb.2⟩
        refine hK.out _ _ (fun _ => hS_wl) ?_
        clear hK K
        (try simp only [Act.put, List.setIfInBounds_toArray, List.set_cons_zero, List.set_cons_succ])
        have hs8 := hg8.size
        have HB_wl := Lib.hid (HB_wb.out.grown hg8 HB_wb.out.size (fun q hq => by cases hq; exact hlo8))
        have hk10 := (hg8.block wd.heap.size (Array.getElem?_eq_some_iff.1 hk10b).1 (fun e => by have e2 := Option.some.inj e; dsimp only at e2; omega)).trans hk10b
        have HOWN := Lib.hid hown8
        have HK10 := Lib.hid hk10
        have hlo9 : w6.heap.size ≤ wa.heap.size := hlo8
        have hlz : wa.heap.size ≤ wl.heap.size := by omega
        refine takeT_one 11 rfl (by kernel_rfl) (by rfl) (fun K hK => ?_)
        refine oper_append_rowsW Tryz.underlying38 infoEn rfl (by decide) enCells_len enCells_one (.tmp 82) (.tmp 84) rfl wa.heap.size (.slice a8 j k8) j ((es.take j).flatMap enCells) rfl HOWN.out (some ⟨wd.heap.size, 0, none⟩) 1 1 [⟨x0, x1, x2, x3, ck, text, ao2, args, ac, num, vo, vs, vc⟩] rfl rfl wl.heap.size (rowsIn_block (sub := enSub) enCells_len _ _ HK10.out rfl (Array.getElem?_eq_some_iff.1 HK10.out).1 (fun y hy => by rw [List.mem_singleton.1 hy]; exact HSUBE.out wl HB_wl.out)) (fun h => by cases h) (by unfold maxLen; omega) (by omega) hlz ?_
        intro u9 w9 hown9 hg9
        obtain ⟨a9, k9, rfl⟩ := row_slice hown9
        have hS_w9 : w9.heap[w4.heap.size]? = some (.cells #[.int .i64 x0, .int .u8 x1, .int .i64 x2, .int .i64 x3, .int .u8 ck, .string text, .slice ao2 args.length ac, .int .i64 num, .slice vo vs.length vc] 60 (0, 0)) ∧ w9.cell? ⟨rb, 4, none⟩ = some (.slice a m c) := ⟨(hg9.block w4.heap.size (Array.getElem?_eq_some_iff.1 hS_wl.1).1 (by intro e; have := (World.ownsRow.lt HOWN.out w4.heap.size e.symm).1; omega)).trans hS_wl.1, (cell_block (hg9.block rb (by have := HB_wl.out.size; omega) (by intro e; have := (World.ownsRow.lt HOWN.out rb e.symm).1; omega))).trans hS_wl.2⟩
        have HB9 := Lib.hid (HB_wl.out.grown hg9 HB_wl.out.size (fun q hq => Nat.le_trans hlo9 (World.ownsRow.lt HOWN.out q hq).1))
        have HOWN9 := Lib.hid hown9
        have hsay9 := HSAY6.out.below HB9.out (Nat.le_refl _)
        have d4 := Go.Joins.cell_of_block hsay9.blk 4
        have f4 := Go.Joins.unfrozen_of_block hsay9.blk 4
        have HSAY9 := Lib.hid hsay9
        clear hown9 hg9 hsay9
        refine hK.out _ _ (fun _ => hS_w9) ?_
        clear hK K
        (try simp only [Act.put, List.setIfInBounds_toArray, List.set_cons_zero, List.set_cons_succ])
        refine takeT_one 12 rfl (by kernel_rfl) (by rfl) (fun K hK => ?_)
        go_simp
        skip
        refine hK.out _ _ (fun _ => hS_w9) ?_
        clear hK K
        (try simp only [Act.put, List.setIfInBounds_toArray, List.set_cons_zero, List.set_cons_succ])
        refine takeT_yes (v := ?_) 14 13 rfl (by kernel_rfl) (by kernel_rfl) (by kernel_rfl) (by kernel_rfl) (by kernel_rfl) (fun _ _ _ h => h) (by rfl) (by assumption) ?_ ?_; rotate_left; focus (intro wS hSw; obtain ⟨⟨q0, q1, q2, q3, q4, q5, q6, q7, q8⟩, r4⟩ := HC.out wS hSw; go_simp; first | done | with_reducible rfl)
        (try simp only [Act.put, List.setIfInBounds_toArray, List.set_cons_zero, List.set_cons_succ])
        refine takeT_one 14 rfl (by kernel_rfl) (by rfl) (fun K hK => ?_)
        go_simp
        skip
        refine hK.out _ _ (fun h => left_no h (by kernel_rfl)) ?_
        clear hK K
        (try simp only [Act.put, List.setIfInBounds_toArray, List.set_cons_zero, List.set_cons_succ])
        refine wpAnyT_done (by kernel_rfl) ?_ _
        simp only [Exit.then]
        rename (∀ (_ : Act) (_ : World), _ → _) => hK0
        refine hK0 _ _ ?_
        clear hK0
        have hfo : enOwn w9 w3.heap.size ⟨x0, x1, x2, x3, ck, text, ao2, args, ac, num, vo, vs, vc⟩ := HFO.out w9 HB9.out
        have hRES := HSAY9.out.setE (es' := es.take j ++ [⟨x0, x1, x2, x3, ck, text, ao2, args, ac, num, vo, vs, vc⟩]) (HS.out.ens.cutPush (M := w3.heap.size) (H6.out.below.trans (HB9.out.mono H6.out.below.size)) (by have := HS.out.low; have := HS.out.lt; have := H3.out.below.size; omega) H3.out.below.size hfo (by rw [HLEN.out.2]; exact hjm) (Go.Joins.ownsRow_le (by simpa using HOWN9.out) (by have := HS.out.low; have := HS.out.lt; have := H6.out.below.size; omega)))
        have HRES := Lib.hid hRES
        clear hRES hfo
        go_wp2_with fail
        go_ret
        refine rdone_yes _ HYES.out ⟨_, _, HRES.out, ?_⟩ (grown_cell (grown_bel (H6.out.below.trans (HB9.out.mono H6.out.below.size)) (some rb)) 4 _)
        rw [List.map_append, List.map_take, HM.out]
        exact congrArg (fun q => s.L.take j ++ [q]) HFP.out
    · have hd' : (!b2 && l2.isEmpty) = false := by simpa [isDone] using hd
      rw [hd']
      go_wp2_with fail
      go_ret
      exact rdone_no (NO.out (by simp [hd])) H6.out.below
  by_cases h3 : kind = 3
  · skip
    subst h3
    obtain ⟨⟨y, b2, l2⟩, hq2⟩ : ∃ q, numS b1 l1 = q := ⟨_, rfl⟩
    have hR := Lib.hid (show (if isDone b2 l2 = true ∧ (0 ≤ x ∧ x ≤ 1099511627776) ∧ (0 ≤ y ∧ y ≤ 1099511627776) then some ⟨s.term, s.vote, x, y, []⟩ else none) = r by rw [← HRR.out, doW_three, HQ.out]; unfold baseW; dsimp only; rw [hq2])
    have HQ2 := Lib.hid hq2
    clear hq2
    go_wp2_with fail
    refine (rnum_any db db b1 l1 y b2 l2 w3 HQ2.out H3.out.rd HW1.out).mono ?_
    rintro e w4 ⟨rfl, hr4, ho4⟩
    have H4 := Lib.hid (H3.out.only hr4 ho4)
    clear hr4 ho4 d0
    go_wp2_with fail
    refine (rdone_any db db b2 l2 w4 H4.out.rd).mono ?_
    rintro e w5 ⟨rfl, hb5⟩
    have H5 := Lib.hid (H4.out.grow hb5)
    have hbel := H5.out.below
    have HBEL := Lib.hid hbel
    have NO := Lib.hid (show (isDone b2 l2 = true ∧ (0 ≤ x ∧ x ≤ 1099511627776) ∧ (0 ≤ y ∧ y ≤ 1099511627776)) = False → r = none from fun hf => by rw [← hR.out, if_neg (by rw [hf]; exact id)])
    clear hb5 hbel
    by_cases hd : isDone b2 l2 = true
    · have hd' : (!b2 && l2.isEmpty) = true := hd
      rw [hd']
      clear hd'
      go_wp2_with fail
      by_cases c1 : 0 ≤ x ∧ x ≤ 1099511627776
      · refine (within_at x 1099511627776 true w5 (by simp [c1])).mono ?_
        rintro e w6 ⟨rfl, rfl⟩
        go_wp2_with fail
        by_cases c2 : 0 ≤ y ∧ y ≤ 1099511627776
        · refine (within_at y 1099511627776 true w5 (by simp [c2])).mono ?_
          rintro e w6 ⟨rfl, rfl⟩
          have HYES := Lib.hid (show r = some ⟨s.term, s.vote, x, y, []⟩ by rw [← hR.out, if_pos ⟨hd, c1, c2⟩])
          have hsay3 := HS.out.below HBEL.out (Nat.le_refl _)
          have HS3 := Lib.hid hsay3
          have z0 := Go.Joins.cell_of_block hsay3.blk 2
          have z1 := Go.Joins.cell_of_block hsay3.blk 3
          have f0 := Go.Joins.unfrozen_of_block hsay3.blk 2
          have f1 := Go.Joins.unfrozen_of_block hsay3.blk 3
          have z4 := Go.Joins.cell_of_block hsay3.blk 4
          have f4 := Go.Joins.unfrozen_of_block hsay3.blk 4
          clear hsay3 c1 c2 hd
          go_wp2_with fail
          go_ret
          exact rdone_yes _ HYES.out ⟨_, [], ((HS3.out.sets 2 (.int .i64 x) rfl).sets 3 (.int .i64 y) rfl).setE (EnsOwn.nil _ B), rfl⟩ (grown_cell (grown_cell (grown_cell (grown_bel HBEL.out (some rb)) 2 _) 3 _) 4 _)
        · refine (within_at y 1099511627776 false w5 (by simp; omega)).mono ?_
          rintro e w6 ⟨rfl, rfl⟩
          go_wp2_with fail
          go_ret
          exact rdone_no (NO.out (by simp; omega)) HBEL.out
      · refine (within_at x 1099511627776 false w5 (by simp; omega)).mono ?_
        rintro e w6 ⟨rfl, rfl⟩
        go_wp2_with fail
        go_ret
        exact rdone_no (NO.out (by simp; omega)) HBEL.out
    · have hd' : (!b2 && l2.isEmpty) = false := by simpa [isDone] using hd
      rw [hd']
      go_wp2_with fail
      go_ret
      exact rdone_no (NO.out (by simp [hd])) HBEL.out
  have e1 : decide (kind = 1) = false := by simpa using h1
  have e2 : decide (kind = 2) = false := by simpa using h2
  have e3 : decide (kind = 3) = false := by simpa using h3
  have hno := doW_other s kind data h1 h2 h3
  rw [HRR.out] at hno
  have HNO := Lib.hid hno
  clear hno
  go_wp2_with fail
  go_ret
  exact rdone_no HNO.out H3.out.below
end Go.Proofs.YtnhnabcpkaeaaaaGreatDoor
