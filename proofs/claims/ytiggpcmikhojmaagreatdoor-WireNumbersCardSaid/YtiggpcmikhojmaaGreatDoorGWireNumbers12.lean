/- KeptFact, KeptCommand, KeptFacts, LentReply, KeptReply, LentEntry, KeptEntry: things that are lent are found as they were, as long as nobody writes behind their ends. Conditions: they lie as their reading says. -/
import Derived.Test.YtiggpcmikhojmaaGreatDoorGWireNumbers11
import Derived.Test.YtiggpcmikhojmaaGreatDoorGWireNumbers5
import Derived.Test.YtiggpcmikhojmaaGreatDoorGWireNumbers8
set_option linter.unusedVariables false
namespace Go.Proofs.YtiggpcmikhojmaaGreatDoor
open Go.RowKit
set_option maxRecDepth 20000
theorem own_blocks' {w w' : World} {base e size n : Nat} {v : Value} {xs : List Value} (h : w.ownsRow base e size v n xs) (hs : ∀ g, base ≤ g → g < w.heap.size → w'.heap[g]? = w.heap[g]?) : w'.ownsRow base e size v n xs := by
  refine ⟨h.1, ?_⟩
  rcases h.2 with hn | ⟨g, cap, cur, rfl, h1, h2, h3⟩
  · exact Or.inl hn
  · refine Or.inr ⟨g, cap, cur, rfl, h1, ?_, h3⟩
    rw [hs g h1 (Array.getElem?_eq_some_iff.1 h2).1]
    exact h2
theorem FasLent.blocks {w w' : World} {B g n : Nat} {frs : List Fa} (h : FasLent w B g n frs) (hs : ∀ g, B ≤ g → g < w.heap.size → w'.heap[g]? = w.heap[g]?) : FasLent w' B g n frs :=
  ⟨own_blocks' h.row hs, fun f hf => by obtain ⟨g, h1, h2, h3⟩ := h.lent f hf; exact ⟨g, h1, h2, own_blocks' h3 hs⟩⟩
theorem FasLent.below {w w' : World} {B g n B' : Nat} {frs : List Fa} (h : FasLent w B g n frs) (hb : Below B' w w') (hB : w.heap.size ≤ B') : FasLent w' B g n frs :=
  ⟨own_below h.row hb hB, fun f hf => (h.lent f hf).below hb hB⟩
theorem FasLent.le {w : World} {B B' g n : Nat} {frs : List Fa} (h : FasLent w B g n frs) (hB : B' ≤ B) : FasLent w B' g n frs :=
  ⟨Go.Joins.ownsRow_le h.row hB, fun f hf => by obtain ⟨g, h1, h2, h3⟩ := h.lent f hf; exact ⟨g, h1, h2, h3.le hB⟩⟩
theorem FasLent.lt {w : World} {B g n : Nat} {frs : List Fa} (h : FasLent w B g n frs) : B ≤ g ∧ g < w.heap.size := World.ownsRow.lt h.row g rfl
theorem FasLent.rows {w : World} {B g n : Nat} {frs : List Fa} (h : FasLent w B g n frs) (hn : frs.length = n) : FasIn w w.heap.size (some ⟨g, 0, none⟩) frs := by
  refine Or.inr ⟨g, 0, rfl, h.lt.2, fun i x hx => ⟨fun j hj => ?_, (h.lent x (List.mem_of_getElem? hx)).sub⟩⟩
  have hi := (List.getElem?_eq_some_iff.1 hx).1
  have hl := flat_len faCells_len frs
  rw [Nat.zero_add, World.ownsRow.cellAt h.row _ (by omega), List.getElem?_append_left (by omega)]
  exact flat_get faCells_len frs i x hx j hj
theorem keptV_at (ao : Option Addr) (n cap c2 g B : Nat) (go : Option Addr) (xs : List Va) (w : World) (B2 : Nat) (hg : go = some ⟨g, 0, none⟩) (hc : c2 = n + 12) (hn : xs.length = n) (hx : ValsIn w B2 ao xs) (hB : B2 ≤ w.heap.size) (hL : LentV w B g xs) (hl : n ≤ 1099511627776) :
    Calls Tryz.prog 35 #[.slice go n c2, .slice ao n cap] w fun e w' => e = .returned (.bool true) ∧ Below w.heap.size w w' := by
  subst hg hc
  exact keptV_any ao n cap g B xs w hn (RowsIn.mono noSub_rising hx hB) hL hl
set_option maxHeartbeats 1000000 in
theorem keptFa_any (id ty : Int) (ao : Option Addr) (n cap g B : Nat) (xs : List Va) (w : World) (hn : xs.length = n) (hx : ValsIn w w.heap.size ao xs) (hL : LentV w B g xs) (hl : n ≤ 1099511627776) :
    Calls Tryz.prog 36 #[.agg #[.int .i64 id, .int .i64 ty, .slice (some ⟨g, 0, none⟩) n (n + 12)], .agg #[.int .i64 id, .int .i64 ty, .slice ao n cap]] w fun e w' => e = .returned (.bool true) ∧ Below w.heap.size w w' := by
  obtain ⟨hb2, h1, h2, hz2⟩ := alloc2_facts w #[.int .i64 id, .int .i64 ty, .slice (some ⟨g, 0, none⟩) n (n + 12)] #[.int .i64 id, .int .i64 ty, .slice ao n cap] 27 27
  have HX := Lib.hid hx
  have HL := Lib.hid hL
  have HN := Lib.hid hn
  have HB2 := Lib.hid hb2
  have H1 := Lib.hid h1
  have H2 := Lib.hid h2
  have HZ := Lib.hid hz2
  clear hx hL hn hb2 h1 h2 hz2
  go_enter Tryz.func36, Tryz.ntmps36
  go_wp2_with fail
  have hb2 := HB2.out
  have h1 := H1.out
  have h2 := H2.out
  have hz2 := HZ.out
  generalize ((w.alloc (.cells #[.int .i64 id, .int .i64 ty, .slice (some ⟨g, 0, none⟩) n (n + 12)] 27)).alloc (.cells #[.int .i64 id, .int .i64 ty, .slice ao n cap] 27)) = w2 at hb2 h1 h2 hz2 ⊢
  have H1 := Lib.hid h1
  have H2 := Lib.hid h2
  have HZ := Lib.hid hz2
  have hL2 := HL.out.below hb2 (Nat.le_refl _)
  have hx2 : ValsIn w2 w2.heap.size ao xs := RowsIn.mono noSub_rising (RowsIn.below noSub_kept HX.out hb2 (Nat.le_refl _)) hb2.size
  have hy2 : ValsIn w2 w2.heap.size (some ⟨g, 0, none⟩) xs := RowsIn.mono noSub_rising hL2.rows hL2.lt.2
  have HL2 := Lib.hid hL2
  have HX2 := Lib.hid hx2
  have HSAME := Lib.hid (show Calls Tryz.prog 73 #[.agg #[.int .i64 id, .int .i64 ty, .slice (some ⟨g, 0, none⟩) n (n + 12)], .agg #[.int .i64 id, .int .i64 ty, .slice ao n cap]] w2 fun e w' => e = .returned (.bool true) ∧ Below w2.heap.size w2 w' from (by have h := sameFa_any ⟨id, ty, some ⟨g, 0, none⟩, xs, n + 12⟩ ⟨id, ty, ao, xs, cap⟩ w2 w2.heap.size rfl hy2 hx2 (Nat.le_refl _) (by show xs.length ≤ _; have := HN.out; omega); unfold faVal at h; dsimp only at h; rw [HN.out] at h; exact h))
  clear h1 h2 hz2 HB2 hL2 hx2 hy2
  refine HSAME.out.mono ?_
  rintro e w3 ⟨rfl, hb3⟩
  have k1 := (hb3.block w.heap.size (by have := HZ.out; omega)).trans H1.out
  have k2 := (hb3.block (w.heap.size + 1) (by have := HZ.out; omega)).trans H2.out
  have c1 : w3.cell? ⟨w.heap.size, 2, none⟩ = some (.slice (some ⟨g, 0, none⟩) n (n + 12)) := Go.Joins.cell_of_block k1 2
  have c2 : w3.cell? ⟨w.heap.size + 1, 2, none⟩ = some (.slice ao n cap) := Go.Joins.cell_of_block k2 2
  have hb4 := hb2.trans (hb3.mono hb2.size)
  clear k1 k2 HSAME
  go_wp2_with fail
  refine (keptV_at ao n cap (n + 12) g B (some ⟨g, 0, none⟩) xs w3 w2.heap.size rfl rfl HN.out (RowsIn.below noSub_kept HX2.out hb3 (Nat.le_refl _)) hb3.size (HL2.out.below hb3 (Nat.le_refl _)) hl).mono ?_
  rintro e w4 ⟨rfl, hb5⟩
  clear c1 c2
  go_wp2_with fail
  go_ret
  exact ⟨rfl, hb4.trans (hb5.mono hb4.size)⟩
set_option maxHeartbeats 1000000 in
theorem keptC_any (ck : Int) (text : ByteArray) (num : Int) (ao : Option Addr) (n cap g B : Nat) (xs : List Va) (w : World) (hn : xs.length = n) (hx : ValsIn w w.heap.size ao xs) (hL : LentV w B g xs) (hl : n ≤ 1099511627776) :
    Calls Tryz.prog 37 #[.agg #[.int .u8 ck, .string text, .slice (some ⟨g, 0, none⟩) n (n + 12), .int .i64 num], .agg #[.int .u8 ck, .string text, .slice ao n cap, .int .i64 num]] w fun e w' => e = .returned (.bool true) ∧ Below w.heap.size w w' := by
  obtain ⟨hb2, h1, h2, hz2⟩ := alloc2_facts w #[.int .u8 ck, .string text, .slice (some ⟨g, 0, none⟩) n (n + 12), .int .i64 num] #[.int .u8 ck, .string text, .slice ao n cap, .int .i64 num] 30 30
  have HX := Lib.hid hx
  have HL := Lib.hid hL
  have HN := Lib.hid hn
  have HB2 := Lib.hid hb2
  have H1 := Lib.hid h1
  have H2 := Lib.hid h2
  have HZ := Lib.hid hz2
  clear hx hL hn hb2 h1 h2 hz2
  go_enter Tryz.func37, Tryz.ntmps37
  go_wp2_with fail
  have hb2 := HB2.out
  have h1 := H1.out
  have h2 := H2.out
  have hz2 := HZ.out
  generalize ((w.alloc (.cells #[.int .u8 ck, .string text, .slice (some ⟨g, 0, none⟩) n (n + 12), .int .i64 num] 30)).alloc (.cells #[.int .u8 ck, .string text, .slice ao n cap, .int .i64 num] 30)) = w2 at hb2 h1 h2 hz2 ⊢
  have H1 := Lib.hid h1
  have H2 := Lib.hid h2
  have HZ := Lib.hid hz2
  have hL2 := HL.out.below hb2 (Nat.le_refl _)
  have hx2 : ValsIn w2 w2.heap.size ao xs := RowsIn.mono noSub_rising (RowsIn.below noSub_kept HX.out hb2 (Nat.le_refl _)) hb2.size
  have hy2 : ValsIn w2 w2.heap.size (some ⟨g, 0, none⟩) xs := RowsIn.mono noSub_rising hL2.rows hL2.lt.2
  have HL2 := Lib.hid hL2
  have HX2 := Lib.hid hx2
  have HSAME := Lib.hid (show Calls Tryz.prog 74 #[.agg #[.int .u8 ck, .string text, .slice (some ⟨g, 0, none⟩) n (n + 12), .int .i64 num], .agg #[.int .u8 ck, .string text, .slice ao n cap, .int .i64 num]] w2 fun e w' => e = .returned (.bool true) ∧ Below w2.heap.size w2 w' from sameC_any ck text num (some ⟨g, 0, none⟩) n (n + 12) ao cap xs w2 w2.heap.size HN.out hy2 hx2 (Nat.le_refl _) (by omega))
  clear h1 h2 hz2 HB2 hL2 hx2 hy2
  refine HSAME.out.mono ?_
  rintro e w3 ⟨rfl, hb3⟩
  have k1 := (hb3.block w.heap.size (by have := HZ.out; omega)).trans H1.out
  have k2 := (hb3.block (w.heap.size + 1) (by have := HZ.out; omega)).trans H2.out
  have c1 : w3.cell? ⟨w.heap.size, 2, none⟩ = some (.slice (some ⟨g, 0, none⟩) n (n + 12)) := Go.Joins.cell_of_block k1 2
  have c2 : w3.cell? ⟨w.heap.size + 1, 2, none⟩ = some (.slice ao n cap) := Go.Joins.cell_of_block k2 2
  have hb4 := hb2.trans (hb3.mono hb2.size)
  clear k1 k2 HSAME
  go_wp2_with fail
  refine (keptV_at ao n cap (n + 12) g B (some ⟨g, 0, none⟩) xs w3 w2.heap.size rfl rfl HN.out (RowsIn.below noSub_kept HX2.out hb3 (Nat.le_refl _)) hb3.size (HL2.out.below hb3 (Nat.le_refl _)) hl).mono ?_
  rintro e w4 ⟨rfl, hb5⟩
  clear c1 c2
  go_wp2_with fail
  go_ret
  exact ⟨rfl, hb4.trans (hb5.mono hb4.size)⟩
set_option maxHeartbeats 2000000 in
theorem keptFas_any (ao : Option Addr) (cap g B : Nat) (fs frs : List Fa) (w : World) (hx : FasIn w w.heap.size ao fs) (hrow : w.ownsRow B 27 3 (.slice (some ⟨g, 0, none⟩) (fs.length + 12) (fs.length + 12)) (fs.length + 12) (frs.flatMap faCells ++ mks mkFc 1 12)) (hlent : ∀ f ∈ frs, FaLent w B f) (hmap : frs.map Fa.plain = fs.map Fa.plain) (hd : ∀ f ∈ fs, f.args.length ≤ 1099511627776) (hl : fs.length ≤ 1099511627776) :
    Calls Tryz.prog 76 #[.slice (some ⟨g, 0, none⟩) fs.length (fs.length + 12 : Nat), .slice ao fs.length cap] w fun e w' => e = .returned (.bool true) ∧ Below w.heap.size w w' := by
  have hgl := (hrow.lt g rfl).2
  have hfl : frs.length = fs.length := by have := congrArg List.length hmap; simpa using this
  have hsl : ∀ w', (Instr.sliceAt 32 (.slice (some ⟨g, 0, none⟩) fs.length (fs.length + 12)) none (some (.int .i64 ((fs.length : Int) + 12))) none).run Tryz.prog w' = .ok (.slice (some ⟨g, 0, none⟩) (fs.length + 12) (fs.length + 12)) w' := fun w' => by
    have h1 := run_sub_h sliceFact' sizeFact' (some ⟨g, 0, none⟩) fs.length (fs.length + 12) (fs.length + 12) (Nat.le_refl _) .i64 ((fs.length : Int) + 12) (by omega) w'
    rwa [subA_zero _ _ _ (by intro a ha; cases ha; rfl)] at h1
  have HX := Lib.hid hx
  have HR := Lib.hid hrow
  have HLE := Lib.hid hlent
  have HM := Lib.hid hmap
  have HD := Lib.hid hd
  have HFL := Lib.hid hfl
  clear hx hrow hlent hmap hd hfl
  go_enter Tryz.func76, Tryz.ntmps76
  go_wp2_with fail
  clear hsl
  go_loopw [6] (fun i wr => ∃ k : Nat, k ≤ fs.length + 12 ∧ i = .int .i64 k ∧ Below w.heap.size w wr) (fun i _ => fs.length + 12 - (intOf i).toNat)
  case atStart => exact ⟨0, by omega, rfl, Below.refl _ _⟩
  case round =>
    obtain ⟨k, hk, rfl, hbel⟩ := hrel
    by_cases hlt : k < fs.length
    · have hky : fs[k]? = some (fs[k]'hlt) := List.getElem?_eq_getElem hlt
      obtain ⟨b, off, hao, hb, hc, ed⟩ := HX.out.at hky
      have hkf : k < frs.length := by rw [HFL.out]; exact hlt
      have hx0 : frs[k]? = some (frs[k]'hkf) := List.getElem?_eq_getElem hkf
      have hfl2 := flat_len (k := 3) faCells_len frs
      have ha : ∀ j, j < 3 → w.cell? ⟨g, k * 3 + j, none⟩ = (faCells (frs[k]'hkf))[j]? := fun j hj => by
        rw [World.ownsRow.cellAt HR.out (k * 3 + j) (by omega), List.getElem?_append_left (by omega)]; exact flat_get (k := 3) faCells_len frs k _ hx0 j hj
      have hle := HLE.out (frs[k]'hkf) (List.getElem_mem hkf)
      have hdl := HD.out (fs[k]'hlt) (List.getElem_mem hlt)
      have hp : (frs[k]'hkf).plain = (fs[k]'hlt).plain := by
        have := congrArg (fun l => l[k]?) HM.out
        simp only [List.getElem?_map, hx0, hky, Option.map_some] at this
        exact Option.some.inj this
      generalize frs[k]'hkf = x at ha hle hp hx0
      generalize fs[k]'hlt = y at hc ed hdl hp hky
      obtain ⟨xk, xt, xa, xd, xc⟩ := x
      obtain ⟨yk, yt, ya, yd, yc⟩ := y
      simp only [Fa.plain, FaP.mk.injEq] at hp
      obtain ⟨rfl, rfl, rfl⟩ := hp
      obtain ⟨fg, hfg, hfc, hfL⟩ := hle
      dsimp only at hdl hfg hfc hfL
      have c0 : ∀ x' : Calm w.heap.size w, x'.1.cell? ⟨b, off + k * 3, none⟩ = some (.int .i64 xk) := fun x' => x'.cell (hc 0 (by decide)) hb
      have c1 : ∀ x' : Calm w.heap.size w, x'.1.cell? ⟨b, off + k * 3 + 1, none⟩ = some (.int .i64 xt) := fun x' => x'.cell (hc 1 (by decide)) hb
      have c2 : ∀ x' : Calm w.heap.size w, x'.1.cell? ⟨b, off + k * 3 + 2, none⟩ = some (.slice ya xd.length yc) := fun x' => x'.cell (hc 2 (by decide)) hb
      have c3 : ∀ x' : Calm w.heap.size w, x'.1.cell? ⟨g, k * 3, none⟩ = some (.int .i64 xk) := fun x' => x'.cell (ha 0 (by decide)) hgl
      have c4 : ∀ x' : Calm w.heap.size w, x'.1.cell? ⟨g, k * 3 + 1, none⟩ = some (.int .i64 xt) := fun x' => x'.cell (ha 1 (by decide)) hgl
      have c5 : ∀ x' : Calm w.heap.size w, x'.1.cell? ⟨g, k * 3 + 2, none⟩ = some (.slice xa xd.length xc) := fun x' => x'.cell (ha 2 (by decide)) hgl
      have hcall : ∀ x' : Calm w.heap.size w, Calls Tryz.prog 36 #[.agg #[.int .i64 xk, .int .i64 xt, .slice xa xd.length xc], .agg #[.int .i64 xk, .int .i64 xt, .slice ya xd.length yc]] x'.1 fun e w' => e = .returned (.bool true) ∧ Below x'.1.heap.size x'.1 w' := fun x' => by
        have h := keptFa_any xk xt ya xd.length yc fg B xd x'.1 rfl (RowsIn.mono noSub_rising (RowsIn.below noSub_kept ed x'.2 (Nat.le_refl _)) x'.2.size) (hfL.below x'.2 (Nat.le_refl _)) hdl
        rw [hfg, hfc]; exact h
      have HC := Lib.hid hcall
      subst hao
      have i1 : (k : Int) < fs.length := by omega
      have i2 : (k : Int) < (fs.length : Int) + 12 := by omega
      have i3 : (k : Int) < ((fs.length + 12 : Nat) : Int) := by omega
      have d1 : decide ((fs.length : Int) ≤ k) = false := by simp; omega
      have d2 : decide (fs.length ≤ k) = false := by simp; omega
      have d3 : decide (k < fs.length) = true := by simpa using hlt
      clear hcall ed ha hx0 hky hfL hfg hfc hc hfl2
      go_wp2_with fail
      refine wp_region_calm (B := w.heap.size) (W0 := w) hbel (by kernel_rfl) (by kernel_rfl) ?_
      repeat (go_big_quiet_step ((go_at_call 36; exact Calm.call (Nat.le_refl _) (HC.out _))))
      refine wpQuiet_nil ?_
      intro w5 hb5
      clear c0 c1 c2 c3 c4 c5
      go_wp2_with fail
      go_roundw
      case rel => exact ⟨k + 1, by omega, by go_num, hb5⟩
      case measure => simp [intOf]; omega
    · by_cases hlt2 : k < fs.length + 12
      · obtain ⟨m, rfl⟩ : ∃ m, k = fs.length + m := ⟨k - fs.length, by omega⟩
        have hfl2 := flat_len (k := 3) faCells_len frs
        have hfe := HFL.out
        have ha : ∀ j, j < 3 → w.cell? ⟨g, (fs.length + m) * 3 + j, none⟩ = (mkFc 1 m)[j]? := fun j hj => by
          rw [World.ownsRow.cellAt HR.out _ (by omega), List.getElem?_append_right (by omega), show (fs.length + m) * 3 + j - (frs.flatMap faCells).length = m * 3 + j by omega]
          exact mks_get mkFc_len 1 12 m j (by omega) hj
        obtain ⟨mm, hmm⟩ : ∃ mm, markN 1 m = mm := ⟨_, rfl⟩
        have hmk : mkFc 1 m = [.int .i64 mm, .int .i64 0, .slice none 0 0] := by rw [← hmm]; rfl
        rw [hmk] at ha
        have HMM := Lib.hid hmm
        have c2 : ∀ x' : Calm w.heap.size w, x'.1.cell? ⟨g, (fs.length + m) * 3, none⟩ = some (.int .i64 mm) := fun x' => x'.cell (ha 0 (by decide)) hgl
        have c3 : ∀ x' : Calm w.heap.size w, x'.1.cell? ⟨g, (fs.length + m) * 3 + 1, none⟩ = some (.int .i64 0) := fun x' => x'.cell (ha 1 (by decide)) hgl
        have c4 : ∀ x' : Calm w.heap.size w, x'.1.cell? ⟨g, (fs.length + m) * 3 + 2, none⟩ = some (.slice none 0 0) := fun x' => x'.cell (ha 2 (by decide)) hgl
        have hcall : ∀ x' : Calm w.heap.size w, Calls Tryz.prog 73 #[.agg #[.int .i64 mm, .int .i64 0, .slice none 0 0], .agg #[.int .i64 mm, .int .i64 0, .slice none 0 0]] x'.1 fun e w' => e = .returned (.bool true) ∧ Below x'.1.heap.size x'.1 w' := fun x' =>
          sameMarkFc mm x'.1
        have HC := Lib.hid hcall
        have i1 : ¬ (fs.length : Int) + m < fs.length := by omega
        have i2 : (fs.length : Int) + m < (fs.length : Int) + 12 := by omega
        have i4 : (fs.length : Int) ≤ (fs.length : Int) + m := by omega
        have d1 : decide ((fs.length : Int) + m < fs.length) = false := by simp; omega
        have d2 : decide ((fs.length : Int) ≤ (fs.length : Int) + m) = true := by simp; omega
        have n1 : ((fs.length : Int) + m).toNat = fs.length + m := by omega
        have n2 : IntKind.i64.wrap (m : Int) = m := IntWalk.i64_in _ (by omega)
        have n3 : (0 : Int) ≤ (fs.length : Int) + m := by omega
        clear hcall ha hmm hmk hfl2 hfe
        go_wp2_with fail
        refine wp_region_calm (B := w.heap.size) (W0 := w) hbel (by kernel_rfl) (by kernel_rfl) ?_
        repeat (go_big_quiet_step (first | (go_at_call 102; exact Calm.call (Nat.le_refl _) (markFc_is 1 _ 1 m mm HMM.out (by omega) (by omega) (by omega) (by omega) _)) | (go_at_call 73; exact Calm.call (Nat.le_refl _) (HC.out _))))
        refine wpQuiet_nil ?_
        intro w5 hb5
        clear c2 c3 c4
        go_wp2_with fail
        go_roundw
        case rel => exact ⟨fs.length + m + 1, by omega, by go_num, hb5⟩
        case measure => simp [intOf]; omega
      · go_wp2_with fail
        go_ret
        exact ⟨rfl, hbel⟩
end Go.Proofs.YtiggpcmikhojmaaGreatDoor
