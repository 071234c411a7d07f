/- KeptEntries: entries that were lent are found as they were. Conditions: they lie as their reading says. -/
import Derived.Test.YtljfanhkbbfngaaGLogDoes12
import Derived.Test.YtljfanhkbbfngaaGLogDoes10
import Derived.Test.YtljfanhkbbfngaaGLogDoes4
import Derived.Test.YtljfanhkbbfngaaGLogDoes0
set_option linter.unusedVariables false
set_option linter.unusedSimpArgs false
namespace Go.Proofs.Ytljfanhkbbfngaa
open Go.RowKit
set_option maxRecDepth 20000
set_option maxHeartbeats 4000000 in
theorem keptEs_any (ao : Option Addr) (cap g B : Nat) (fs frs : List En) (w : World) (hx : EnsIn w w.heap.size ao fs) (hL : EnsLent w B g fs.length frs) (hmap : frs.map En.plain = fs.map En.plain) (hd : ∀ f ∈ fs, f.args.length ≤ 1099511627776 ∧ f.vs.length ≤ 1099511627776) (hl : fs.length ≤ 1099511627776) :
    Calls Try.prog 10 #[.slice (some ⟨g, 0, none⟩) fs.length (fs.length + 12 : Nat), .slice ao fs.length cap] w fun e w' => e = .returned (.bool true) ∧ Below w.heap.size w w' := by
  have hrow := hL.row
  have hlent := hL.lent
  have hgl := (hrow.lt g rfl).2
  have hfl : frs.length = fs.length := by have := congrArg List.length hmap; simpa using this
  have hsl : ∀ w', (Instr.sliceAt 22 (.slice (some ⟨g, 0, none⟩) fs.length (fs.length + 12)) none (some (.int .i64 ((fs.length : Int) + 12))) none).run Try.prog w' = .ok (.slice (some ⟨g, 0, none⟩) (fs.length + 12) (fs.length + 12)) w' := fun w' => by
    have h1 := run_sub_h sliceEntry' sizeEntry' (some ⟨g, 0, none⟩) fs.length (fs.length + 12) (fs.length + 12) (Nat.le_refl _) .i64 ((fs.length : Int) + 12) (by omega) w'
    rwa [subA_zero _ _ _ (by intro a ha; cases ha; rfl)] at h1
  have HX := Lib.hid hx
  have HR := Lib.hid hrow
  have HLE := Lib.hid hlent
  have HM := Lib.hid hmap
  have HD := Lib.hid hd
  have HFL := Lib.hid hfl
  clear hx hrow hlent hmap hd hfl hL
  go_enter Try.func10, Try.ntmps10
  go_wp2_with fail
  clear hsl
  go_loopw [6] (fun i wr => ∃ k : Nat, k ≤ fs.length + 12 ∧ i = .int .i64 k ∧ Below w.heap.size w wr) (fun i _ => fs.length + 12 - (intOf i).toNat)
  case atStart => exact ⟨0, by omega, rfl, Below.refl _ _⟩
  case round =>
    obtain ⟨k, hk, rfl, hbel⟩ := hrel
    by_cases hlt : k < fs.length
    · have hky : fs[k]? = some (fs[k]'hlt) := List.getElem?_eq_getElem hlt
      obtain ⟨b, off, hao, hb, hc, ed⟩ := HX.out.at hky
      have hkf : k < frs.length := by rw [HFL.out]; exact hlt
      have hx0 : frs[k]? = some (frs[k]'hkf) := List.getElem?_eq_getElem hkf
      have hfl2 := flat_len (k := 9) enCells_len frs
      have ha : ∀ j, j < 9 → w.cell? ⟨g, k * 9 + j, none⟩ = (enCells (frs[k]'hkf))[j]? := fun j hj => by
        rw [World.ownsRow.cellAt HR.out (k * 9 + j) (by omega), List.getElem?_append_left (by omega)]; exact flat_get (k := 9) enCells_len frs k _ hx0 j hj
      have hle := HLE.out (frs[k]'hkf) (List.getElem_mem hkf)
      have hdl := HD.out (fs[k]'hlt) (List.getElem_mem hlt)
      have hp : (frs[k]'hkf).plain = (fs[k]'hlt).plain := by
        have := congrArg (fun l => l[k]?) HM.out
        simp only [List.getElem?_map, hx0, hky, Option.map_some] at this
        exact Option.some.inj this
      generalize frs[k]'hkf = x at ha hle hp hx0
      generalize fs[k]'hlt = y at hc ed hdl hp hky
      obtain ⟨x0, x1, x2, x3, ck, text, xa, xd, xc, num, xv, xs, xvc⟩ := x
      obtain ⟨y0, y1, y2, y3, ck2, text2, ya, yd, yc, num2, yv, ys, yvc⟩ := y
      simp only [En.plain, EnP.mk.injEq] at hp
      obtain ⟨rfl, rfl, rfl, rfl, rfl, rfl, rfl, rfl, rfl⟩ := hp
      obtain ⟨⟨fg, hfg, hfc, hfL⟩, ⟨vg, hvg, hvc, hvL⟩⟩ := hle
      dsimp only at hdl hfg hfc hfL hvg hvc hvL
      have c0 : ∀ x' : Calm w.heap.size w, x'.1.cell? ⟨b, off + k * 9, none⟩ = some (.int .i64 x0) := fun x' => x'.cell (hc 0 (by decide)) hb
      have c1 : ∀ x' : Calm w.heap.size w, x'.1.cell? ⟨b, off + k * 9 + 1, none⟩ = some (.int .u8 x1) := fun x' => x'.cell (hc 1 (by decide)) hb
      have c2 : ∀ x' : Calm w.heap.size w, x'.1.cell? ⟨b, off + k * 9 + 2, none⟩ = some (.int .i64 x2) := fun x' => x'.cell (hc 2 (by decide)) hb
      have c3 : ∀ x' : Calm w.heap.size w, x'.1.cell? ⟨b, off + k * 9 + 3, none⟩ = some (.int .i64 x3) := fun x' => x'.cell (hc 3 (by decide)) hb
      have c4 : ∀ x' : Calm w.heap.size w, x'.1.cell? ⟨b, off + k * 9 + 4, none⟩ = some (.int .u8 ck) := fun x' => x'.cell (hc 4 (by decide)) hb
      have c5 : ∀ x' : Calm w.heap.size w, x'.1.cell? ⟨b, off + k * 9 + 5, none⟩ = some (.string text) := fun x' => x'.cell (hc 5 (by decide)) hb
      have c6 : ∀ x' : Calm w.heap.size w, x'.1.cell? ⟨b, off + k * 9 + 6, none⟩ = some (.slice ya xd.length yc) := fun x' => x'.cell (hc 6 (by decide)) hb
      have c7 : ∀ x' : Calm w.heap.size w, x'.1.cell? ⟨b, off + k * 9 + 7, none⟩ = some (.int .i64 num) := fun x' => x'.cell (hc 7 (by decide)) hb
      have c8 : ∀ x' : Calm w.heap.size w, x'.1.cell? ⟨b, off + k * 9 + 8, none⟩ = some (.slice yv xs.length yvc) := fun x' => x'.cell (hc 8 (by decide)) hb
      have e0 : ∀ x' : Calm w.heap.size w, x'.1.cell? ⟨g, k * 9, none⟩ = some (.int .i64 x0) := fun x' => x'.cell (ha 0 (by decide)) hgl
      have e1 : ∀ x' : Calm w.heap.size w, x'.1.cell? ⟨g, k * 9 + 1, none⟩ = some (.int .u8 x1) := fun x' => x'.cell (ha 1 (by decide)) hgl
      have e2 : ∀ x' : Calm w.heap.size w, x'.1.cell? ⟨g, k * 9 + 2, none⟩ = some (.int .i64 x2) := fun x' => x'.cell (ha 2 (by decide)) hgl
      have e3 : ∀ x' : Calm w.heap.size w, x'.1.cell? ⟨g, k * 9 + 3, none⟩ = some (.int .i64 x3) := fun x' => x'.cell (ha 3 (by decide)) hgl
      have e4 : ∀ x' : Calm w.heap.size w, x'.1.cell? ⟨g, k * 9 + 4, none⟩ = some (.int .u8 ck) := fun x' => x'.cell (ha 4 (by decide)) hgl
      have e5 : ∀ x' : Calm w.heap.size w, x'.1.cell? ⟨g, k * 9 + 5, none⟩ = some (.string text) := fun x' => x'.cell (ha 5 (by decide)) hgl
      have e6 : ∀ x' : Calm w.heap.size w, x'.1.cell? ⟨g, k * 9 + 6, none⟩ = some (.slice xa xd.length xc) := fun x' => x'.cell (ha 6 (by decide)) hgl
      have e7 : ∀ x' : Calm w.heap.size w, x'.1.cell? ⟨g, k * 9 + 7, none⟩ = some (.int .i64 num) := fun x' => x'.cell (ha 7 (by decide)) hgl
      have e8 : ∀ x' : Calm w.heap.size w, x'.1.cell? ⟨g, k * 9 + 8, none⟩ = some (.slice xv xs.length xvc) := fun x' => x'.cell (ha 8 (by decide)) hgl
      have hcall : ∀ x' : Calm w.heap.size w, Calls Try.prog 30 #[.agg #[.int .i64 x0, .int .u8 x1, .int .i64 x2, .int .i64 x3, .int .u8 ck, .string text, .slice xa xd.length xc, .int .i64 num, .slice xv xs.length xvc], .agg #[.int .i64 x0, .int .u8 x1, .int .i64 x2, .int .i64 x3, .int .u8 ck, .string text, .slice ya xd.length yc, .int .i64 num, .slice yv xs.length yvc]] x'.1 fun e w' => e = .returned (.bool true) ∧ Below x'.1.heap.size x'.1 w' := fun x' => by
        have h := keptEn_any x0 x1 x2 x3 ck text ya yc xd num yv yvc xs fg vg B x'.1 (RowsIn.mono noSub_rising (RowsIn.below noSub_kept ed.1 x'.2 (Nat.le_refl _)) x'.2.size) (RowsIn.mono noSub_rising (RowsIn.below noSub_kept ed.2 x'.2 (Nat.le_refl _)) x'.2.size) (hfL.below x'.2 (Nat.le_refl _)) (hvL.below x'.2 (Nat.le_refl _)) hdl.1 hdl.2
        rw [hfg, hfc, hvg, hvc]; exact h
      have HC := Lib.hid hcall
      subst hao
      have i1 : (k : Int) < fs.length := by omega
      have i2 : (k : Int) < (fs.length : Int) + 12 := by omega
      have i3 : (k : Int) < ((fs.length + 12 : Nat) : Int) := by omega
      have d1 : decide ((fs.length : Int) ≤ k) = false := by simp; omega
      have d2 : decide (fs.length ≤ k) = false := by simp; omega
      have d3 : decide (k < fs.length) = true := by simpa using hlt
      clear hcall ed ha hx0 hky hfL hvL hfg hfc hvg hvc hc hfl2
      go_wp2_with fail
      refine wp_region_calm (B := w.heap.size) (W0 := w) hbel (by kernel_rfl) (by kernel_rfl) ?_
      repeat (go_big_quiet_step ((go_at_call 30; exact Calm.call (Nat.le_refl _) (HC.out _))))
      refine wpQuiet_nil ?_
      intro w5 hb5
      clear c0 e0 c1 e1 c2 e2 c3 e3 c4 e4 c5 e5 c6 e6 c7 e7 c8 e8
      go_wp2_with fail
      go_roundw
      case rel => exact ⟨k + 1, by omega, by go_num, hb5⟩
      case measure => simp [intOf]; omega
    · by_cases hlt2 : k < fs.length + 12
      · obtain ⟨m, rfl⟩ : ∃ m, k = fs.length + m := ⟨k - fs.length, by omega⟩
        have hfl2 := flat_len (k := 9) enCells_len frs
        have hfe := HFL.out
        have ha : ∀ j, j < 9 → w.cell? ⟨g, (fs.length + m) * 9 + j, none⟩ = (mkE 1 m)[j]? := fun j hj => by
          rw [World.ownsRow.cellAt HR.out _ (by omega), List.getElem?_append_right (by omega), show (fs.length + m) * 9 + j - (frs.flatMap enCells).length = m * 9 + j by omega]
          exact mks_get mkE_len 1 12 m j (by omega) hj
        obtain ⟨mm, hmm⟩ : ∃ mm, markN 1 m = mm := ⟨_, rfl⟩
        have hmk : mkE 1 m = [.int .i64 mm, .int .u8 0, .int .i64 0, .int .i64 0, .int .u8 0, .string ByteArray.empty, .slice none 0 0, .int .i64 0, .slice none 0 0] := by rw [← hmm]; rfl
        rw [hmk] at ha
        have HMM := Lib.hid hmm
        have c0 : ∀ x' : Calm w.heap.size w, x'.1.cell? ⟨g, (fs.length + m) * 9, none⟩ = some (.int .i64 mm) := fun x' => x'.cell (ha 0 (by decide)) hgl
        have c1 : ∀ x' : Calm w.heap.size w, x'.1.cell? ⟨g, (fs.length + m) * 9 + 1, none⟩ = some (.int .u8 0) := fun x' => x'.cell (ha 1 (by decide)) hgl
        have c2 : ∀ x' : Calm w.heap.size w, x'.1.cell? ⟨g, (fs.length + m) * 9 + 2, none⟩ = some (.int .i64 0) := fun x' => x'.cell (ha 2 (by decide)) hgl
        have c3 : ∀ x' : Calm w.heap.size w, x'.1.cell? ⟨g, (fs.length + m) * 9 + 3, none⟩ = some (.int .i64 0) := fun x' => x'.cell (ha 3 (by decide)) hgl
        have c4 : ∀ x' : Calm w.heap.size w, x'.1.cell? ⟨g, (fs.length + m) * 9 + 4, none⟩ = some (.int .u8 0) := fun x' => x'.cell (ha 4 (by decide)) hgl
        have c5 : ∀ x' : Calm w.heap.size w, x'.1.cell? ⟨g, (fs.length + m) * 9 + 5, none⟩ = some (.string ByteArray.empty) := fun x' => x'.cell (ha 5 (by decide)) hgl
        have c6 : ∀ x' : Calm w.heap.size w, x'.1.cell? ⟨g, (fs.length + m) * 9 + 6, none⟩ = some (.slice none 0 0) := fun x' => x'.cell (ha 6 (by decide)) hgl
        have c7 : ∀ x' : Calm w.heap.size w, x'.1.cell? ⟨g, (fs.length + m) * 9 + 7, none⟩ = some (.int .i64 0) := fun x' => x'.cell (ha 7 (by decide)) hgl
        have c8 : ∀ x' : Calm w.heap.size w, x'.1.cell? ⟨g, (fs.length + m) * 9 + 8, none⟩ = some (.slice none 0 0) := fun x' => x'.cell (ha 8 (by decide)) hgl
        have hcall : ∀ x' : Calm w.heap.size w, Calls Try.prog 31 #[.agg #[.int .i64 mm, .int .u8 0, .int .i64 0, .int .i64 0, .int .u8 0, .string ByteArray.empty, .slice none 0 0, .int .i64 0, .slice none 0 0], .agg #[.int .i64 mm, .int .u8 0, .int .i64 0, .int .i64 0, .int .u8 0, .string ByteArray.empty, .slice none 0 0, .int .i64 0, .slice none 0 0]] x'.1 fun e w' => e = .returned (.bool true) ∧ Below x'.1.heap.size x'.1 w' := fun x' =>
          sameMarkE mm x'.1
        have HC := Lib.hid hcall
        have i1 : ¬ (fs.length : Int) + m < fs.length := by omega
        have i2 : (fs.length : Int) + m < (fs.length : Int) + 12 := by omega
        have i4 : (fs.length : Int) ≤ (fs.length : Int) + m := by omega
        have d1 : decide ((fs.length : Int) + m < fs.length) = false := by simp; omega
        have d2 : decide ((fs.length : Int) ≤ (fs.length : Int) + m) = true := by simp; omega
        have n1 : ((fs.length : Int) + m).toNat = fs.length + m := by omega
        have n2 : IntKind.i64.wrap (m : Int) = m := IntWalk.i64_in _ (by omega)
        have n3 : (0 : Int) ≤ (fs.length : Int) + m := by omega
        clear hcall ha hmm hmk hfl2 hfe
        go_wp2_with fail
        refine wp_region_calm (B := w.heap.size) (W0 := w) hbel (by kernel_rfl) (by kernel_rfl) ?_
        repeat (go_big_quiet_step (first | (go_at_call 28; exact Calm.call (Nat.le_refl _) (markE_is 1 _ 1 m mm HMM.out (by omega) (by omega) (by omega) (by omega) _)) | (go_at_call 31; exact Calm.call (Nat.le_refl _) (HC.out _))))
        refine wpQuiet_nil ?_
        intro w5 hb5
        clear c0 c1 c2 c3 c4 c5 c6 c7 c8
        go_wp2_with fail
        go_roundw
        case rel => exact ⟨fs.length + m + 1, by omega, by go_num, hb5⟩
        case measure => simp [intOf]; omega
      · go_wp2_with fail
        go_ret
        exact ⟨rfl, hbel⟩
end Go.Proofs.Ytljfanhkbbfngaa
/- Two logs side by side: what a deed leaves of them. Conditions: as each says. -/
namespace Go.Proofs.Ytljfanhkbbfngaa
open Go.RowKit
set_option maxRecDepth 20000
/-- The blocks outside of a stretch. -/
def AV (lo hi g : Nat) : Prop := g < lo ∨ hi ≤ g
/-- A log's blocks are of K. -/
structure LogK (K : Nat → Prop) (lb : Nat) (v : Value) (es : List En) : Prop where
  blk : K lb
  row : ∀ g, v.ownBlock = some g → K g
  ents : ∀ e ∈ es, (∀ g, (argV e).ownBlock = some g → K g) ∧ ∀ g, (votV e).ownBlock = some g → K g
theorem LogAt.inside {K : Nat → Prop} {w : World} {B lb : Nat} {base term : Int} {v : Value} {es : List En} (h : LogAt w B lb base term v es) (hK : ∀ g, g < w.heap.size → K g) : LogK K lb v es :=
  ⟨hK _ h.lt, fun g hg => hK g (World.ownsRow.lt h.ens.row g hg).2, fun e he => ⟨fun g hg => hK g (World.ownsRow.lt (h.ens.own e he).1 g hg).2, fun g hg => hK g (World.ownsRow.lt (h.ens.own e he).2 g hg).2⟩⟩
theorem LogAt.beyond {K : Nat → Prop} {w : World} {B lb : Nat} {base term : Int} {v : Value} {es : List En} (h : LogAt w B lb base term v es) (hK : ∀ g, B ≤ g → g < w.heap.size → K g) : LogK K lb v es :=
  ⟨hK _ h.low h.lt, fun g hg => hK g (World.ownsRow.lt h.ens.row g hg).1 (World.ownsRow.lt h.ens.row g hg).2, fun e he => ⟨fun g hg => hK g (World.ownsRow.lt (h.ens.own e he).1 g hg).1 (World.ownsRow.lt (h.ens.own e he).1 g hg).2, fun g hg => hK g (World.ownsRow.lt (h.ens.own e he).2 g hg).1 (World.ownsRow.lt (h.ens.own e he).2 g hg).2⟩⟩
theorem LogAt.keepsK {K : Nat → Prop} {w w' : World} {B lb : Nat} {base term : Int} {v : Value} {es : List En} (h : LogAt w B lb base term v es) (hk : Keeps K w w') (hl : LogK K lb v es) : LogAt w' B lb base term v es := h.keeps hk hl.blk hl.row hl.ents
theorem Turned.logK {K : Nat → Prop} {lb : Nat} {v v' : Value} {es es' : List En} {w w' : World} (h0 : LogK K lb v es) (ht : Turned lb v v' es es' w w') (hK : ∀ g, w.heap.size ≤ g → K g) : LogK K lb v' es' :=
  ⟨h0.blk, fun g hg => ht.row.elim (fun h => h0.row g (h ▸ hg)) (fun h => hK g (h g hg)), fun e he => (ht.own e he).elim (h0.ents e) (fun h => ⟨fun g hg => hK g (World.ownsRow.lt h.1 g hg).1, fun g hg => hK g (World.ownsRow.lt h.2 g hg).1⟩)⟩
theorem RTurned.rfK {K : Nat → Prop} {rb : Nat} {v v' : Value} {es es' xs : List En} {w w' : World} (h0 : RfK K rb v es) (ht : RTurned rb v v' es es' xs w w') (hK : ∀ g, w.heap.size ≤ g → K g) (hx : ∀ e ∈ xs, enK K e) : RfK K rb v' es' :=
  ⟨h0.blk, fun g hg => ht.row.elim (fun h => h0.row g (h ▸ hg)) (fun h => hK g (h g hg)), fun e he => (ht.from_ e he).elim (h0.sub e) (hx e)⟩
/-- No block of a log is the document's log's. -/
theorem logK_ne {w : World} {B B2 lb rb : Nat} {base term base2 term2 : Int} {v rv : Value} {es fs : List En} (hL : LogAt w B lb base term v es) (hR : RfAt w B2 rb base2 term2 rv fs) : LogK (fun g => g ≠ rb) lb v es := by
  have key : ∀ {T k n : Nat} {u : Value} {xs : List Value} {b : Nat}, w.ownsRow b T k u n xs → T ≠ 39 → ∀ g, u.ownBlock = some g → g ≠ rb := fun h hT g hg e => by
    subst e
    rcases h.2 with ⟨h1, _⟩ | ⟨g', cap, cur, h1, _, g1, _⟩
    · rw [h1] at hg; simp [Value.ownBlock] at hg
    · rw [h1] at hg
      simp [Value.ownBlock] at hg
      subst hg
      rw [hR.blk] at g1
      simp only [Option.some.injEq, Obj.cells.injEq] at g1
      exact hT g1.2.1.symm
  refine ⟨fun e => ?_, key hL.ens.row (by decide), fun e he => ⟨key (hL.ens.own e he).1 (by decide), key (hL.ens.own e he).2 (by decide)⟩⟩
  subst e
  have h1 := hL.blk
  rw [hR.blk] at h1
  simp only [Option.some.injEq, Obj.cells.injEq] at h1
  exact absurd h1.2.1 (by decide)
/-- The document's log where the log's writing method has run. -/
theorem rf_mid {w4 w5 w6 : World} {B lb rb : Nat} {base term : Int} {v v' rv : Value} {es es' fs : List En} (hR4 : RfAt w4 B rb base term rv fs) (hF : RfK (LK lb v) rb rv fs) (ht : Turned lb v v' es es' w4 w5) (hs : w4.heap.size ≤ w5.heap.size) (hb : Below w5.heap.size w5 w6) : RfAt w6 B rb base term rv fs :=
  (hR4.keeps (ht.apt.keeps hs) hF).below hb (Nat.le_refl _)
theorem both_step {w3 w4 w5 w6 w7 : World} {B lb rb : Nat} {base term base' term' : Int} {v v' rv rv' : Value} {es es' fs fs' xs : List En} (hL3 : LogAt w3 B lb base term v es) (hR3 : RfAt w3 B rb base term rv fs) (hF : RfK (LK lb v) rb rv fs) (hb34 : Below w3.heap.size w3 w4)
    (ht : Turned lb v v' es es' w4 w5) (hL5 : LogAt w5 B lb base' term' v' es') (hs45 : w4.heap.size ≤ w5.heap.size) (hb56 : Below w5.heap.size w5 w6) (hr : RTurned rb rv rv' fs fs' xs w6 w7) (hx : ∀ e ∈ xs, enK (fun g => w5.heap.size ≤ g) e) :
    LogAt w7 B lb base' term' v' es' ∧ LogK (AV w3.heap.size w4.heap.size) lb v' es' ∧ RfK (AV w3.heap.size w4.heap.size) rb rv' fs' ∧ RfK (LK lb v') rb rv' fs' ∧ ∀ g, w3.heap.size ≤ g → g < w4.heap.size → w7.heap[g]? = w4.heap[g]? := by
  have hs34 := hb34.size
  have hs56 := hb56.size
  have hin : LogK (fun g => g < w3.heap.size) lb v es := hL3.inside fun g hg => hg
  have hrin : RfK (fun g => g < w3.heap.size) rb rv fs := hR3.inside fun g hg => hg
  have hR6 : RfAt w6 B rb base term rv fs := rf_mid (hR3.below hb34 (Nat.le_refl _)) hF ht hs45 hb56
  have hL6 := hL5.below hb56 (Nat.le_refl _)
  have hL5in : LogK (fun g => g < w5.heap.size) lb v' es' := hL5.inside fun g hg => hg
  refine ⟨hL6.keepsK hr.keeps (logK_ne hL6 hR6), ?_, ?_, ?_, fun g h1 h2 => ?_⟩
  · exact ht.logK ⟨Or.inl hin.blk, fun g hg => Or.inl (hin.row g hg), fun e he => ⟨fun g hg => Or.inl ((hin.ents e he).1 g hg), fun g hg => Or.inl ((hin.ents e he).2 g hg)⟩⟩ fun g hg => Or.inr hg
  · exact hr.rfK (hrin.imp fun g hg => Or.inl hg) (fun g hg => Or.inr (by omega)) (fun e he => (hx e he).imp fun g hg => Or.inr (by omega))
  · have hK : ∀ g, w5.heap.size ≤ g → LK lb v' g := fun g hg => ⟨fun e => by have := hL5in.blk; omega, fun e => by have := hL5in.row g e; omega⟩
    refine hr.rfK ((hF.and hrin).imp fun g hg => ⟨hg.1.1, fun e => ?_⟩) (fun g hg => hK g (by omega)) (fun e he => (hx e he).imp hK)
    rcases ht.row with h | h
    · rw [h] at e; exact hg.1.2 e
    · have := h g e; have := hg.2; omega
  · have h3 : g ≠ lb := fun e => by have := hin.blk; omega
    have h4 : v.ownBlock ≠ some g := fun e => by have := hin.row g e; omega
    have h5 : g ≠ rb := fun e => by have := hrin.blk; omega
    exact (hr.keeps.same g (by omega) h5).trans ((hb56.block g (by omega)).trans (ht.apt g h2 h3 h4))
/-- Entries that were lent, and written over: what lies beside them is kept. -/
theorem OverK.keeps {B T : Nat} {Ts : List TypeId} {w w' : World} (h : OverK B T Ts w w') : Keeps (AV B T) w w' :=
  ⟨h.size, fun g h1 h2 => h2.elim (fun h3 => h.mid.below.block g h3) (fun h3 => h.mid.far g h3 h1)⟩
theorem Blk.blocks {w w' : World} {g m : Nat} {E : TypeId} (h : Blk w g E m) (hs : w'.heap[g]? = w.heap[g]?) : Blk w' g E m := by
  obtain ⟨cs, h1, h2⟩ := h
  exact ⟨cs, hs.trans h1, h2⟩
theorem Room.blocks {w w' : World} {B T n c : Nat} {E : TypeId} {SZ : Nat} {a : Option Addr} (h : Room w B T E SZ a n c) (hs : ∀ g, B ≤ g → g < T → w'.heap[g]? = w.heap[g]?) : Room w' B T E SZ a n c := by
  obtain ⟨g, h1, h2, h3, h4, h5⟩ := h
  exact ⟨g, h1, h2, h3, h4, h5.blocks (hs g h2 h3)⟩
/-- What is lent, as its writing over asks for. -/
structure Lent (w : World) (lo hi g n : Nat) (frs : List En) : Prop where
  lent : EnsLent w lo g n frs
  rooms : ∀ f ∈ frs, EnRoom w lo hi f
  room : Room w lo hi 59 9 (some ⟨g, 0, none⟩) n (n + 12)
theorem Lent.of {w : World} {lo g n : Nat} {frs : List En} (h : EnsLent w lo g n frs) : Lent w lo w.heap.size g n frs := ⟨h, fun f hf => (h.lent f hf).room, h.room⟩
theorem Lent.blocks {w w' : World} {lo hi g n : Nat} {frs : List En} (h : Lent w lo hi g n frs) (hs : ∀ g, lo ≤ g → g < hi → w'.heap[g]? = w.heap[g]?) (hle : hi ≤ w'.heap.size) (hw : w.heap.size = hi) : Lent w' lo hi g n frs :=
  ⟨h.lent.blocks fun g h1 h2 => hs g h1 (by omega), fun f hf => ⟨(h.rooms f hf).args.blocks hs, (h.rooms f hf).vs.blocks hs⟩, h.room.blocks hs⟩
theorem Lent.below {w w' : World} {lo hi g n : Nat} {frs : List En} (h : Lent w lo hi g n frs) (hb : Below w.heap.size w w') : Lent w' lo hi g n frs :=
  ⟨h.lent.below hb (Nat.le_refl _), fun f hf => (h.rooms f hf).below hb, h.room.below hb⟩
end Go.Proofs.Ytljfanhkbbfngaa
/- awake: the document's example, as its law runs it. No condition. -/
namespace Go.Proofs.Ytljfanhkbbfngaa
open Go.RowKit
set_option maxRecDepth 20000
/-- An entry of a term alone. -/
def enT (t : Int) : En := ⟨t, 0, 0, 0, 0, ByteArray.empty, none, [], 0, 0, none, [], 0⟩
theorem ensIn_block {w : World} {b B : Nat} {T : TypeId} {fz : Nat × Nat} (xs : List En) (cs : Array Value) (h : w.heap[b]? = some (.cells cs T fz)) (hcs : cs.toList = xs.flatMap enCells) (hb : b < B) (hs : ∀ x ∈ xs, enSub w B x) : EnsIn w B (some ⟨b, 0, none⟩) xs := by
  refine Or.inr ⟨b, 0, rfl, hb, fun i x hx => ⟨fun j hj => ?_, hs x (List.mem_of_getElem? hx)⟩⟩
  rw [Go.Joins.cell_of_block h (0 + i * 9 + j), ← Array.getElem?_toList, hcs, Nat.zero_add]
  exact flat_get enCells_len xs i x hx j hj
theorem enT_sub (w : World) (B : Nat) (t : Int) : enSub w B (enT t) := ⟨Or.inl rfl, Or.inl rfl⟩
theorem enT_arg (ts : List Int) : EnsArg (ts.map enT) := by
  refine ⟨fun x hx => ?_, fun x hx => ?_⟩ <;> obtain ⟨t, _, rfl⟩ := List.mem_map.1 hx
  · exact ⟨by simp [enT], by simp [enT]⟩
  · exact ⟨fun _ => rfl, fun _ => rfl⟩
theorem enT_small (ts : List Int) : PSmall (ts.map fun t => (enT t).plain) := by
  intro p hp
  obtain ⟨t, _, rfl⟩ := List.mem_map.1 hp
  exact ⟨by simp [enT, En.plain], by simp [enT, En.plain]⟩
set_option maxHeartbeats 2000000 in
theorem awake_any (w : World) : Calls Try.prog 4 #[] w fun e w' => e = .returned (.bool true) ∧ Below w.heap.size w w' := by
  go_enter Try.func4, Try.ntmps4
  go_wp2_with fail
  refine (new_is 5 2 none 0 0 [] w w.heap.size (by omega) (by omega) rfl (Or.inl rfl) (Nat.le_refl _) (fun _ => rfl) (by omega) (enT_arg [])).mono ?_
  rintro e w1 ⟨lb, rfl, h1, b1⟩
  have H1 := Lib.hid h1
  clear h1
  go_wp2_with fail
  refine (append_is w.heap.size lb 5 2 [] (some ⟨w1.heap.size, 0, none⟩) 2 2 [enT 2, enT 3] 6 _ (w1.heap.size + 1) rfl (H1.out.below ((Below.refl _ _).alloc (Nat.le_refl _) _) (Nat.le_refl _)) (by unfold LogNums; simp) (by have := b1.size; simp; omega) rfl (by omega) (ensIn_block _ _ (heap_alloc_new w1 _) rfl (by omega) (fun x hx => by simp at hx; rcases hx with rfl | rfl <;> exact enT_sub _ _ _)) (by simp) (by simp) (by omega) (by simp) (enT_arg [2, 3])).mono ?_
  rintro e w2 ⟨rfl, h2', b2'⟩
  have h2 : LogIs w2 w.heap.size lb 5 2 [(enT 2).plain, (enT 3).plain] := h2'
  have b2 : Below w.heap.size w w2 := (b1.alloc b1.size _).trans b2'
  have H2 := Lib.hid h2
  clear h2 h2' b2' b1
  go_wp2_with fail
  refine (term_is w.heap.size lb 5 2 _ 7 3 true _ (by rfl) H2.out (by unfold LogNums; simp)).mono ?_
  rintro e w3 ⟨rfl, b3⟩
  have H3 := Lib.hid (H2.out.below b3 (Nat.le_refl _))
  have b4 : Below w.heap.size w w3 := b2.trans (b3.mono b2.size)
  clear b2 b3
  go_wp2_with fail
  refine (fit_is w.heap.size lb 5 2 _ 6 2 (some ⟨w3.heap.size, 0, none⟩) 1 1 [enT 4] 0 _ (w3.heap.size + 1) (by rfl) ⟨by simp, by simp, ?_⟩ (H3.out.below ((Below.refl _ _).alloc (Nat.le_refl _) _) (Nat.le_refl _)) (by unfold LogNums; simp) (by omega) (by have := b4.size; simp; omega) rfl (ensIn_block _ _ (heap_alloc_new w3 _) rfl (by omega) (fun x hx => by simp at hx; rcases hx with rfl; exact enT_sub _ _ _)) (by simp) (by simp) (by omega) (by omega) (by simp) (enT_arg [4])).mono ?_
  · intro x hx r ok hr _
    simp at hx
    subst hx
    have : termS 5 2 [(enT 2).plain, (enT 3).plain] (6 + 1 + ((0 : Nat) : Int)) = (3, true) := by rfl
    rw [this] at hr
    simp at hr
    obtain ⟨rfl, _⟩ := hr
    simp [enT, En.plain]
  rintro e w5 ⟨rfl, h5', b5'⟩
  have h5 : LogIs w5 w.heap.size lb 5 2 [(enT 2).plain, (enT 4).plain] := h5'
  have b5 : Below w.heap.size w w5 := (b4.alloc b4.size _).trans b5'
  have H5 := Lib.hid h5
  clear h5 h5' b5' b4
  go_wp2_with fail
  refine (fit_no_is w.heap.size lb 5 2 _ 7 3 4 true _ _ (by rfl) (by simp) H5.out (by unfold LogNums; simp)).mono ?_
  rintro e w6 ⟨rfl, b6⟩
  have H6 := Lib.hid (H5.out.below b6 (Nat.le_refl _))
  have b7 : Below w.heap.size w w6 := b5.trans (b6.mono b5.size)
  clear b5 b6
  go_wp2_with fail
  refine (last_is w.heap.size lb 5 2 _ 7 4 _ (by rfl) H6.out (by unfold LogNums; simp)).mono ?_
  rintro e w8 ⟨rfl, b8⟩
  have H8 := Lib.hid (H6.out.below b8 (Nat.le_refl _))
  have b9 : Below w.heap.size w w8 := b7.trans (b8.mono b7.size)
  clear b7 b8
  go_wp2_with fail
  refine (from_is w.heap.size lb 5 2 _ [(enT 2).plain] 6 1 _ (by rfl) H8.out (by unfold LogNums; simp) b9.size (enT_small [2, 4]) (by omega)).mono ?_
  rintro e w10 ⟨a10, c10, es10, rfl, _, _, b10⟩
  have H10 := Lib.hid (H8.out.below b10 (Nat.le_refl _))
  have b11 : Below w.heap.size w w10 := b9.trans (b10.mono b9.size)
  clear b9 b10
  go_wp2_with fail
  refine (compact_no_is w.heap.size lb 5 2 _ 4 0 _ (by rfl) H10.out (by unfold LogNums; simp)).mono ?_
  rintro e w12 ⟨rfl, b12⟩
  have H12 := Lib.hid (H10.out.below b12 (Nat.le_refl _))
  have b13 : Below w.heap.size w w12 := b11.trans (b12.mono b11.size)
  clear b11 b12
  go_wp2_with fail
  refine (compact_is w.heap.size lb 5 2 2 _ 1 6 _ (by rfl) (by simp) (by rfl) H12.out (by unfold LogNums; simp) b13.size).mono ?_
  rintro e w14 ⟨rfl, h14', b14⟩
  have h14 : LogIs w14 w.heap.size lb 6 2 [(enT 4).plain] := h14'
  have H14 := Lib.hid h14
  have b15 : Below w.heap.size w w14 := b13.trans b14
  clear b13 b14 h14 h14'
  go_wp2_with fail
  refine (from_is w.heap.size lb 6 2 _ [] 6 9 _ (by rfl) H14.out (by unfold LogNums; simp) b15.size (enT_small [4]) (by omega)).mono ?_
  rintro e w16 ⟨a16, c16, es16, rfl, _, _, b16⟩
  have b17 : Below w.heap.size w w16 := b15.trans (b16.mono b15.size)
  clear b15 b16
  go_wp2_with fail
  go_ret
  exact ⟨rfl, b17⟩
end Go.Proofs.Ytljfanhkbbfngaa
/- Pick: any number is brought into 0 to n - 1. Condition: n is at least 1. -/
namespace Go.Proofs.Ytljfanhkbbfngaa
open Go.RowKit
set_option maxRecDepth 20000
theorem pick_eq (a k : Int) (hk : 1 ≤ k) : a.tmod k = a % k ∨ (a.tmod k < 0 ∧ a.tmod k + k = a % k) := by
  have h4 := Int.emod_lt_of_pos a (show 0 < k by omega)
  rw [Int.tmod_eq_emod]
  split
  · left; omega
  · right; omega
theorem pick_any (a k : Int) (hk : 1 ≤ k) (hk2 : k ≤ 2000000) (w : World) :
    Calls Try.prog 12 #[.int .i64 a, .int .i64 k] w fun e w' => e = .returned (.int .i64 (a % k)) ∧ w = w' := by
  have he := pick_eq a k hk
  have hlo : -k < a.tmod k := Int.lt_tmod_of_pos a (by omega)
  have hhi : a.tmod k < k := Int.tmod_lt_of_pos a (by omega)
  have h1 := Int.emod_nonneg a (show k ≠ 0 by omega)
  have HE := Lib.hid he
  clear he
  by_cases hn : a.tmod k < 0
  · go_enter Try.func12, Try.ntmps12
    go_wp2
    go_ret
    exact ⟨ret_int (by have := HE.out; omega), rfl⟩
  · go_enter Try.func12, Try.ntmps12
    go_wp2
    go_ret
    exact ⟨ret_int (by have := HE.out; omega), rfl⟩
end Go.Proofs.Ytljfanhkbbfngaa
/- What LogDoes does with two logs: its parts. Conditions: as each says. -/
namespace Go.Proofs.Ytljfanhkbbfngaa
open Go.RowKit
set_option maxRecDepth 20000
def SmallE (es : List En) : Prop := ∀ e ∈ es, e.args.length ≤ 100 ∧ e.vs.length ≤ 100
theorem smallE_plain {es : List En} (h : plainB es = true) : SmallE es := fun e he => by have := plainB_mem h he; omega
theorem SmallE.of_same {es fs : List En} (hs : SmallE fs) (h : es.map En.plain = fs.map En.plain) : SmallE es := fun e he => by
  have h1 : e.plain ∈ fs.map En.plain := by rw [← h]; exact List.mem_map_of_mem he
  obtain ⟨x, hx, hxe⟩ := List.mem_map.1 h1
  have h2 : x.vs = e.vs := congrArg EnP.vs hxe
  have h3 : x.args = e.args := congrArg EnP.args hxe
  rw [← h2, ← h3]; exact hs x hx
theorem SmallE.small {es : List En} (hs : SmallE es) : ∀ e ∈ es, e.args.length ≤ 1099511627776 ∧ e.vs.length ≤ 1099511627776 := fun e he => by have := hs e he; omega
theorem own_arg {w : World} {B : Nat} {v : Value} {es : List En} (h : EnsOwn w B v es) (hs : SmallE es) : EnsArg es := ⟨hs.small, fun e he => ⟨own_none (h.own e he).1, own_none (h.own e he).2⟩⟩
/-- Two logs that tell the same. -/
structure Both (w : World) (B lb rb : Nat) (base term : Int) (v : Value) (es : List En) (rv : Value) (fs : List En) (s : Int) (n : Nat) : Prop where
  log : LogAt w B lb base term v es
  ref : RfAt w B rb base term rv fs
  far : RfK (LK lb v) rb rv fs
  same : es.map En.plain = fs.map En.plain
  b0 : 0 ≤ base
  sum : base + es.length ≤ s
  len : es.length ≤ n
  small : SmallE es
theorem Both.below {w w' : World} {B lb rb : Nat} {base term : Int} {v rv : Value} {es fs : List En} {s : Int} {n : Nat} (h : Both w B lb rb base term v es rv fs s n) (hb : Below w.heap.size w w') : Both w' B lb rb base term v es rv fs s n :=
  ⟨h.log.below hb (Nat.le_refl _), h.ref.below hb (Nat.le_refl _), h.far, h.same, h.b0, h.sum, h.len, h.small⟩
theorem Both.lens {w : World} {B lb rb : Nat} {base term : Int} {v rv : Value} {es fs : List En} {s : Int} {n : Nat} (h : Both w B lb rb base term v es rv fs s n) : fs.length = es.length := by have := congrArg List.length h.same; simpa using this.symm
theorem Both.arg {w : World} {B lb rb : Nat} {base term : Int} {v rv : Value} {es fs : List En} {s : Int} {n : Nat} (h : Both w B lb rb base term v es rv fs s n) : EnsArg es := own_arg h.log.ens h.small
/-- What a deed leaves, its own entries not yet written over. -/
def Aft (w : World) (B lb rb lo hi : Nat) (s : Int) (n : Nat) : Prop :=
  ∃ (base term : Int) (v : Value) (es : List En) (rv : Value) (fs : List En), Both w B lb rb base term v es rv fs s n ∧ LogK (AV lo hi) lb v es ∧ RfK (AV lo hi) rb rv fs
/-- A block that is none of theirs. -/
structure Aside (gd lb rb : Nat) (v : Value) : Prop where
  lb : lb < gd
  rb : rb < gd
  row : ∀ g, v.ownBlock = some g → g < gd
theorem aft_step {w3 w4 w5 w6 w7 : World} {B lb rb g m gd : Nat} {base term base' term' : Int} {v v' rv rv' : Value} {es es' fs fs' xs frs : List En} {s s' : Int} {n n' : Nat} {cs : Array Value} {E : TypeId} (h : Both w3 B lb rb base term v es rv fs s n) (hb34 : Below w3.heap.size w3 w4)
    (ht : Turned lb v v' es es' w4 w5) (hL5 : LogAt w5 B lb base' term' v' es') (hs45 : w4.heap.size ≤ w5.heap.size) (hb56 : Below w5.heap.size w5 w6) (hr : RTurned rb rv rv' fs fs' xs w6 w7) (hR7 : RfAt w7 B rb base' term' rv' fs') (hx : ∀ e ∈ xs, enK (fun g => w5.heap.size ≤ g) e)
    (hsame : es'.map En.plain = fs'.map En.plain) (b0 : 0 ≤ base') (hsum : base' + es'.length ≤ s') (hlen : es'.length ≤ n') (hsm : SmallE es') (hl : Lent w4 w3.heap.size w4.heap.size g m frs) (hbox : w4.heap[gd]? = some (.cells cs E (0, 0))) (ha : Aside gd lb rb v) (hgd : gd < w3.heap.size) :
    Aft w7 B lb rb w3.heap.size w4.heap.size s' n' ∧ Lent w7 w3.heap.size w4.heap.size g m frs ∧ w7.heap[gd]? = some (.cells cs E (0, 0)) := by
  obtain ⟨q1, q2, q3, q4, q5⟩ := both_step h.log h.ref h.far hb34 ht hL5 hs45 hb56 hr hx
  have hs7 : w4.heap.size ≤ w7.heap.size := Nat.le_trans hs45 (Nat.le_trans hb56.size hr.keeps.size)
  refine ⟨⟨_, _, _, _, _, _, ⟨q1, hR7, q4, hsame, b0, hsum, hlen, hsm⟩, q2, q3⟩, hl.blocks q5 hs7 rfl, ?_⟩
  have hs34 := hb34.size
  have hs56 := hb56.size
  exact (hr.keeps.same gd (by omega) (fun e => by have := ha.rb; omega)).trans ((hb56.block gd (by omega)).trans ((ht.apt gd (by omega) (fun e => by have := ha.lb; omega) (fun e => by have := ha.row gd e; omega)).trans hbox))
theorem turned_same {lb : Nat} {v : Value} {es : List En} {w w' : World} (h : Below w.heap.size w w') : Turned lb v v es es w w' := ⟨Apt.of_below h, Or.inl rfl, fun e he => Or.inl he⟩
theorem lentEs_at (ao : Option Addr) (n cap : Nat) (fs : List En) (w : World) (hn : fs.length = n) (hx : EnsIn w w.heap.size ao fs) (hw : ∀ f ∈ fs, EnWf f) (hs : SmallE fs) (hl : n ≤ 1000000) :
    Calls Try.prog 7 #[.slice ao n cap] w fun e w' => ∃ frs : List En, e = .returned (.slice (some ⟨w.heap.size, 0, none⟩) n (n + 12)) ∧ frs.map En.plain = fs.map En.plain ∧ EnsLent w' w.heap.size w.heap.size n frs ∧ Below w.heap.size w w' := by
  subst hn
  exact lentEs_any ao cap fs w hx (fun f hf => ⟨(hw f hf).anil, (hw f hf).vnil, (hs.small f hf).1, (hs.small f hf).2⟩) (by omega)
theorem keptEs_at (ao : Option Addr) (n cap c g B : Nat) (fs frs : List En) (w : World) (hn : fs.length = n) (hc : c = n + 12) (hx : EnsIn w w.heap.size ao fs) (hL : EnsLent w B g n frs) (hmap : frs.map En.plain = fs.map En.plain) (hs : SmallE fs) (hl : n ≤ 1000000) :
    Calls Try.prog 10 #[.slice (some ⟨g, 0, none⟩) n c, .slice ao n cap] w fun e w' => e = .returned (.bool true) ∧ Below w.heap.size w w' := by
  subst hn hc
  exact keptEs_any ao cap g B fs frs w hx hL hmap hs.small (by omega)
theorem overEs_at (lo hi g n c : Nat) (frs : List En) (w : World) (hn : frs.length = n) (hc : c = n + 12) (hL : Lent w lo hi g n frs) (hs : SmallE frs) (hl : n ≤ 1000000) (hT : hi ≤ w.heap.size) :
    Calls Try.prog 11 #[.slice (some ⟨g, 0, none⟩) n c] w fun e w' => e = .returned (.tuple #[]) ∧ OverK lo hi overEsTs w w' := by
  subst hc
  exact overEs_any lo hi g n (n + 12) frs w hn (hL.lent.rows hn) hL.rooms hL.room hs.small (by omega) hT
/-- What is left where the deed's own entries have been written over. -/
theorem Aft.over {w w' : World} {B lb rb lo hi : Nat} {s : Int} {n : Nat} {Ts : List TypeId} (h : Aft w B lb rb lo hi s n) (ho : OverK lo hi Ts w w') : ∃ (base term : Int) (v : Value) (es : List En) (rv : Value) (fs : List En), Both w' B lb rb base term v es rv fs s n := by
  obtain ⟨base, term, v, es, rv, fs, hb, hl, hr⟩ := h
  exact ⟨base, term, v, es, rv, fs, hb.log.keepsK ho.keeps hl, hb.ref.keeps ho.keeps hr, hb.far, hb.same, hb.b0, hb.sum, hb.len, hb.small⟩
theorem Aft.below {w w' : World} {B lb rb lo hi : Nat} {s : Int} {n : Nat} (h : Aft w B lb rb lo hi s n) (hb : Below w.heap.size w w') : Aft w' B lb rb lo hi s n := by
  obtain ⟨base, term, v, es, rv, fs, h1, hl, hr⟩ := h
  exact ⟨base, term, v, es, rv, fs, h1.below hb, hl, hr⟩
set_option maxHeartbeats 1000000 in
theorem lappend_any (B lb : Nat) (base term : Int) (v : Value) (es : List En) (ao : Option Addr) (m cap : Nat) (xs : List En) (r : Int) (w : World) (hr : r = if m = 0 then 0 else base + es.length + 1) (hL : LogAt w B lb base term v es) (hN : LogNums base es.length 0) (hB : B ≤ w.heap.size) (hn : xs.length = m) (hx : EnsIn w w.heap.size ao xs) (hao : ao = none → cap = 0) (hl : m ≤ 1000000) (hnm : es.length + m ≤ 1000000) (hq : EnsArg xs) :
    Calls Try.prog 14 #[.pointer (some ⟨lb, 0, none⟩), .slice ao m cap] w fun e w' => ∃ v' es', e = .returned (.int .i64 r) ∧ LogAt w' B lb base term v' es' ∧ es'.map En.plain = es.map En.plain ++ xs.map En.plain ∧ Below B w w' ∧ Turned lb v v' es es' w w' := by
  by_cases hm : m = 0
  · subst hm
    obtain rfl : xs = [] := List.eq_nil_of_length_eq_zero hn
    rw [if_pos rfl] at hr
    subst hr
    have c0 := hL.c0
    have HL := Lib.hid hL
    clear hL hx hn hq hao
    go_enter Try.func14, Try.ntmps14
    go_wp2_with (go_at_call 34; (with_reducible refine (there_any lb w c0).mono ?_); rintro e w' ⟨rfl, rfl⟩)
    go_ret
    exact ⟨v, es, rfl, HL.out, by simp, Below.refl _ _, turned_same (Below.refl _ _)⟩
  · rw [if_neg hm] at hr
    subst hr
    refine (append_any B lb base term v es ao m cap xs w w.heap.size hL hN hB hn (by omega) hx (Nat.le_refl _) hao (by omega) (by omega) hq).mono ?_
    rintro e w' ⟨v', es2, h1, h2, h3, h4, h5⟩
    exact ⟨v', es ++ es2, h1, h2, by rw [List.map_append, h3], h4, h5⟩
theorem lfrom_any (B lb : Nat) (base term : Int) (v : Value) (es : List En) (i most : Int) (w : World) (hL : LogAt w B lb base term v es) (hN : LogNums base es.length i) (hB : B ≤ w.heap.size) (hps : SmallE es) (hmost : most ≤ 9223372036854775807) :
    Calls Try.prog 20 #[.pointer (some ⟨lb, 0, none⟩), .int .i64 i, .int .i64 most] w fun e w' => ∃ a n c xs, e = .returned (.slice a n c) ∧ xs.length = n ∧ EnsOwn w' w.heap.size (.slice a n c) xs ∧ xs.map En.plain = fromS base (es.map En.plain) i most ∧ Below w.heap.size w w' := by
  refine (from_is B lb base term (es.map En.plain) _ i most w rfl ⟨v, es, hL, rfl⟩ (by rw [List.length_map]; exact hN) hB (fun p hp => by obtain ⟨x, hx, rfl⟩ := List.mem_map.1 hp; exact hps.small x hx) hmost).mono ?_
  rintro e w' ⟨a, c, xs, h1, h2, h3, h4⟩
  exact ⟨a, _, c, xs, h1, by rw [← h3, List.length_map], h2, h3, h4⟩
end Go.Proofs.Ytljfanhkbbfngaa
