/- LentEntries: a row of entries is copied, each entry's values and voters too, with marks behind all ends. Conditions: the entries lie as their reading says. -/
import Derived.Test.YtljfanhkbbfngaaGLogDoes11
import Derived.Test.YtljfanhkbbfngaaGLogDoes10
import Derived.Test.YtljfanhkbbfngaaGLogDoes1
import Derived.Maps.AppendAt
set_option linter.unusedVariables false
set_option linter.unusedSimpArgs false
namespace Go.Proofs.Ytljfanhkbbfngaa
open Go.RowKit
set_option maxRecDepth 20000
theorem sizeEntry' : ∀ w, (sizeOf (Try.prog.elem 22)).run Try.prog w = .ok 9 w := fun _ => by kernel_rfl
theorem sliceEntry' : Try.prog.underlying 22 = some (.slice (Try.prog.elem 22)) := by kernel_rfl
/-- An entry whose lists are lent. -/
structure EnLent (w : World) (B : Nat) (f : En) : Prop where
  args : ∃ g, f.aao = some ⟨g, 0, none⟩ ∧ f.acap = f.args.length + 12 ∧ LentV w B g f.args
  vs : ∃ g, f.vao = some ⟨g, 0, none⟩ ∧ f.vcap = f.vs.length + 12 ∧ LentI w B g f.vs
theorem EnLent.below {w w' : World} {B B' : Nat} {f : En} (h : EnLent w B f) (hb : Below B' w w') (hB : w.heap.size ≤ B') : EnLent w' B f := by
  obtain ⟨⟨g, h1, h2, h3⟩, ⟨g', h1', h2', h3'⟩⟩ := h
  exact ⟨⟨g, h1, h2, own_below h3 hb hB⟩, ⟨g', h1', h2', own_below h3' hb hB⟩⟩
theorem EnLent.blocks {w w' : World} {B : Nat} {f : En} (h : EnLent w B f) (hs : ∀ g, B ≤ g → g < w.heap.size → w'.heap[g]? = w.heap[g]?) : EnLent w' B f := by
  obtain ⟨⟨g, h1, h2, h3⟩, ⟨g', h1', h2', h3'⟩⟩ := h
  exact ⟨⟨g, h1, h2, own_blocks' h3 hs⟩, ⟨g', h1', h2', own_blocks' h3' hs⟩⟩
theorem EnLent.kept {w w' : World} {B : Nat} {f : En} {row : Option Nat} {B2 E2 S2 n2 : Nat} {u : Value} {xs : List Value} (h : EnLent w B f) (hg : w.grownBy w' row) (hu : w.ownsRow B2 E2 S2 u n2 xs) (he : E2 ≠ 76) (he2 : E2 ≠ 3) (hr : row = u.ownBlock) : EnLent w' B f := by
  obtain ⟨⟨g, h1, h2, h3⟩, ⟨g', h1', h2', h3'⟩⟩ := h
  exact ⟨⟨g, h1, h2, World.ownsRow.kept h3 hg (by rw [hr]; exact own_apart h3 hu (Ne.symm he))⟩, ⟨g', h1', h2', World.ownsRow.kept h3' hg (by rw [hr]; exact own_apart h3' hu (Ne.symm he2))⟩⟩
theorem EnLent.sub {w : World} {B : Nat} {f : En} (h : EnLent w B f) : enSub w w.heap.size f := by
  obtain ⟨⟨g, h1, h2, h3⟩, ⟨g', h1', h2', h3'⟩⟩ := h
  unfold enSub
  rw [h1, h1']
  exact ⟨RowsIn.mono noSub_rising h3.rows h3.lt.2, RowsIn.mono noSub_rising h3'.rows h3'.lt.2⟩
/-- A row of lent entries, with marks behind its end. -/
structure EnsLent (w : World) (B g n : Nat) (frs : List En) : Prop where
  row : w.ownsRow B 59 9 (.slice (some ⟨g, 0, none⟩) (n + 12) (n + 12)) (n + 12) (frs.flatMap enCells ++ mks mkE 1 12)
  lent : ∀ f ∈ frs, EnLent w B f
theorem EnsLent.blocks {w w' : World} {B g n : Nat} {frs : List En} (h : EnsLent w B g n frs) (hs : ∀ g, B ≤ g → g < w.heap.size → w'.heap[g]? = w.heap[g]?) : EnsLent w' B g n frs :=
  ⟨own_blocks' h.row hs, fun f hf => (h.lent f hf).blocks hs⟩
theorem EnsLent.below {w w' : World} {B g n B' : Nat} {frs : List En} (h : EnsLent w B g n frs) (hb : Below B' w w') (hB : w.heap.size ≤ B') : EnsLent w' B g n frs :=
  ⟨own_below h.row hb hB, fun f hf => (h.lent f hf).below hb hB⟩
theorem EnsLent.lt {w : World} {B g n : Nat} {frs : List En} (h : EnsLent w B g n frs) : B ≤ g ∧ g < w.heap.size := World.ownsRow.lt h.row g rfl
theorem EnsLent.rows {w : World} {B g n : Nat} {frs : List En} (h : EnsLent w B g n frs) (hn : frs.length = n) : EnsIn w w.heap.size (some ⟨g, 0, none⟩) frs := by
  refine Or.inr ⟨g, 0, rfl, h.lt.2, fun i x hx => ⟨fun j hj => ?_, (h.lent x (List.mem_of_getElem? hx)).sub⟩⟩
  have hi := (List.getElem?_eq_some_iff.1 hx).1
  have hl := flat_len enCells_len frs
  rw [Nat.zero_add, World.ownsRow.cellAt h.row _ (by omega), List.getElem?_append_left (by omega)]
  exact flat_get enCells_len frs i x hx j hj
def LentEsPost (fs : List En) (w : World) (e : Ending) (w' : World) : Prop :=
  ∃ frs : List En, e = .returned (.slice (some ⟨w.heap.size, 0, none⟩) fs.length (fs.length + 12)) ∧ frs.map En.plain = fs.map En.plain ∧ EnsLent w' w.heap.size w.heap.size fs.length frs ∧ Below w.heap.size w w'
/-- What a copied entry asks for. -/
structure EnOkL (f : En) : Prop where
  anil : f.aao = none → f.acap = 0
  vnil : f.vao = none → f.vcap = 0
  args : f.args.length ≤ 1099511627776
  vs : f.vs.length ≤ 1099511627776
set_option maxHeartbeats 4000000 in
theorem lentEs_any (ao : Option Addr) (cap : Nat) (fs : List En) (w : World) (hx : EnsIn w w.heap.size ao fs) (hq : ∀ f ∈ fs, EnOkL f) (hl : fs.length ≤ 1099511627776) :
    Calls Try.prog 7 #[.slice ao fs.length cap] w (LentEsPost fs w) := by
  obtain ⟨i0, hi, hz0, hz1, hz2⟩ := info_parts infoEn
  have hm1 : (0 : Int) ≤ (fs.length : Int) + 12 := by omega
  have HX := Lib.hid hx
  have HQ := Lib.hid hq
  clear hx hq
  go_enter Try.func7, Try.ntmps7
  go_wp2_with (at_make; refine wpList_make_own _ rfl _ _ 22 rfl w.heap.size 59 i0 (.agg #[.int .i64 0, .int .u8 0, .int .i64 0, .int .i64 0, .int .u8 0, .string ByteArray.empty, .slice none 0 0, .int .i64 0, .slice none 0 0]) 9 Try.underlying22 hi hz0 hz1 .i64 .i64 _ (fs.length + 12) rfl rfl (by omega) (by rw [hz2]; omega) (by unfold maxLen; omega) (Nat.le_refl _) ?_)
  intro w1 hown1 hg1
  have hb1 : Below w.heap.size w w1 := (Below.refl _ _).grown hg1 (Nat.le_refl _) (fun k hk => by cases hk)
  have H1 := Lib.hid hown1
  clear hown1 hg1
  go_wp2_with fail
  go_loopw [3, 4, 5] (fun v i _ wr => ∃ (k : Nat) (frs : List En), k ≤ fs.length ∧ i = .int .i64 k ∧ v = .slice (some ⟨w.heap.size, 0, none⟩) k (fs.length + 12) ∧ frs.map En.plain = (fs.take k).map En.plain ∧ (∀ f ∈ frs, EnLent wr w.heap.size f) ∧
    wr.ownsRow w.heap.size 59 9 (.slice (some ⟨w.heap.size, 0, none⟩) k (fs.length + 12)) k (frs.flatMap enCells) ∧ Below w.heap.size w wr) (fun _ i _ _ => fs.length - (intOf i).toNat)
  case atStart => exact ⟨0, [], by omega, rfl, rfl, by simp, by simp, H1.out, hb1⟩
  case round =>
    clear hb1 H1
    obtain ⟨k, frs, hk, rfl, rfl, hmap, hlf, hown, hbel⟩ := hrel
    have HM := Lib.hid hmap
    have HF := Lib.hid hlf
    have HO := Lib.hid hown
    clear hmap hlf hown
    have hs := hbel.size
    by_cases hlt : k < fs.length
    · have hkx : fs[k]? = some (fs[k]'hlt) := List.getElem?_eq_getElem hlt
      obtain ⟨b, off, hao, hb, hc, hsub⟩ := HX.out.at hkx
      have hq0 := HQ.out _ (List.getElem_mem (l := fs) (n := k) hlt)
      have htk : (fs.take (k + 1)).map En.plain = (fs.take k).map En.plain ++ [(fs[k]'hlt).plain] := by
        rw [List.take_succ_eq_append_getElem hlt, List.map_append]; rfl
      generalize fs[k]'hlt = f at hc hq0 htk hsub
      obtain ⟨x0, x1, x2, x3, ck, text, ao, fd, fc, num, vo, vs, vc⟩ := f
      obtain ⟨hq1, hq3, hq2, hq4⟩ := hq0
      dsimp only at hq1 hq2 hq3 hq4
      have c0 : wr.cell? ⟨b, off + k * 9, none⟩ = some (.int .i64 x0) := (hbel.cell (p := ⟨b, _, none⟩) hb).trans (hc 0 (by decide))
      have c1 : wr.cell? ⟨b, off + k * 9 + 1, none⟩ = some (.int .u8 x1) := (hbel.cell (p := ⟨b, _, none⟩) hb).trans (hc 1 (by decide))
      have c2 : wr.cell? ⟨b, off + k * 9 + 1 + 1, none⟩ = some (.int .i64 x2) := (hbel.cell (p := ⟨b, _, none⟩) hb).trans (hc 2 (by decide))
      have c3 : wr.cell? ⟨b, off + k * 9 + 1 + 1 + 1, none⟩ = some (.int .i64 x3) := (hbel.cell (p := ⟨b, _, none⟩) hb).trans (hc 3 (by decide))
      have c4 : wr.cell? ⟨b, off + k * 9 + 1 + 1 + 1 + 1, none⟩ = some (.int .u8 ck) := (hbel.cell (p := ⟨b, _, none⟩) hb).trans (hc 4 (by decide))
      have c5 : wr.cell? ⟨b, off + k * 9 + 1 + 1 + 1 + 1 + 1, none⟩ = some (.string text) := (hbel.cell (p := ⟨b, _, none⟩) hb).trans (hc 5 (by decide))
      have c6 : wr.cell? ⟨b, off + k * 9 + 1 + 1 + 1 + 1 + 1 + 1, none⟩ = some (.slice ao fd.length fc) := (hbel.cell (p := ⟨b, _, none⟩) hb).trans (hc 6 (by decide))
      have c7 : wr.cell? ⟨b, off + k * 9 + 1 + 1 + 1 + 1 + 1 + 1 + 1, none⟩ = some (.int .i64 num) := (hbel.cell (p := ⟨b, _, none⟩) hb).trans (hc 7 (by decide))
      have c8 : wr.cell? ⟨b, off + k * 9 + 1 + 1 + 1 + 1 + 1 + 1 + 1 + 1, none⟩ = some (.slice vo vs.length vc) := (hbel.cell (p := ⟨b, _, none⟩) hb).trans (hc 8 (by decide))
      have HT := Lib.hid htk
      have HC := Lib.hid hsub
      have HQ1 := Lib.hid hq1
      have HQ3 := Lib.hid hq3
      have i1 : (k : Int) < fs.length := by omega
      subst hao
      clear hc hkx htk hsub hq1 hq3
      go_wp2_with fail
      refine (lentEn_any x0 x1 x2 x3 ck text ao fc fd num vo vc vs wr (RowsIn.mono noSub_rising (RowsIn.below noSub_kept HC.out.1 hbel (Nat.le_refl _)) hs) (RowsIn.mono noSub_rising (RowsIn.below noSub_kept HC.out.2 hbel (Nat.le_refl _)) hs) HQ1.out HQ3.out hq2 hq4).mono ?_
      rintro e w3 ⟨g1, g2, rfl, hL, hV, hb3⟩
      have hown3 := own_below HO.out hb3 (Nat.le_refl _)
      have hlf3 : ∀ f ∈ frs, EnLent w3 w.heap.size f := fun f hf => (HF.out f hf).below hb3 (Nat.le_refl _)
      have hnew : EnLent w3 w.heap.size ⟨x0, x1, x2, x3, ck, text, some ⟨g1, 0, none⟩, fd, fd.length + 12, num, some ⟨g2, 0, none⟩, vs, vs.length + 12⟩ := ⟨⟨g1, rfl, rfl, hL.le hs⟩, ⟨g2, rfl, rfl, hV.le hs⟩⟩
      have hbel3 := hbel.trans (hb3.mono hs)
      have hs3 := hbel3.size
      have HO3 := Lib.hid hown3
      have HF3 := Lib.hid hlf3
      have HN3 := Lib.hid hnew
      clear hown3 hlf3 hnew hL hV c0 c1 c2 c3 c4 c5 c6 c7 c8
      have hlen : ∀ o1 o2, ((w3.alloc o1).alloc o2).heap.size = w3.heap.size + 2 := fun _ _ => by simp
      go_wp2_with (at_builtin; refine wpList_append_fits _ rfl (.tmp 22) (.tmp 24) 22 rfl w.heap.size 59 i0 9 Try.underlying22 hi hz1 w.heap.size k (fs.length + 12) (frs.flatMap enCells) rfl ((HO3.out.alloc _).alloc _) ⟨w3.heap.size + 1, 0, none⟩ 1 1 [.int .i64 x0, .int .u8 x1, .int .i64 x2, .int .i64 x3, .int .u8 ck, .string text, .slice (some ⟨g1, 0, none⟩) fd.length (fd.length + 12), .int .i64 num, .slice (some ⟨g2, 0, none⟩) vs.length (vs.length + 12)] rfl rfl ?c1 (by simp [Value.oneCell']) (by omega) ?_)
      case c1 =>
        have := cells_new (w3.alloc (.cells #[.int .i64 x0, .int .u8 x1, .int .i64 x2, .int .i64 x3, .int .u8 ck, .string text, .slice (some ⟨g1, 0, none⟩) fd.length (fd.length + 12), .int .i64 num, .slice (some ⟨g2, 0, none⟩) vs.length (vs.length + 12)] 59)) 59 [.int .i64 x0, .int .u8 x1, .int .i64 x2, .int .i64 x3, .int .u8 ck, .string text, .slice (some ⟨g1, 0, none⟩) fd.length (fd.length + 12), .int .i64 num, .slice (some ⟨g2, 0, none⟩) vs.length (vs.length + 12)]
        simpa using this
      intro w4 hown4 hg4
      have hA := (HO3.out.alloc (.cells #[.int .i64 x0, .int .u8 x1, .int .i64 x2, .int .i64 x3, .int .u8 ck, .string text, .slice (some ⟨g1, 0, none⟩) fd.length (fd.length + 12), .int .i64 num, .slice (some ⟨g2, 0, none⟩) vs.length (vs.length + 12)] 59)).alloc (.cells #[.int .i64 x0, .int .u8 x1, .int .i64 x2, .int .i64 x3, .int .u8 ck, .string text, .slice (some ⟨g1, 0, none⟩) fd.length (fd.length + 12), .int .i64 num, .slice (some ⟨g2, 0, none⟩) vs.length (vs.length + 12)] 59)
      have hBA : Below w3.heap.size w3 ((w3.alloc (.cells #[.int .i64 x0, .int .u8 x1, .int .i64 x2, .int .i64 x3, .int .u8 ck, .string text, .slice (some ⟨g1, 0, none⟩) fd.length (fd.length + 12), .int .i64 num, .slice (some ⟨g2, 0, none⟩) vs.length (vs.length + 12)] 59)).alloc (.cells #[.int .i64 x0, .int .u8 x1, .int .i64 x2, .int .i64 x3, .int .u8 ck, .string text, .slice (some ⟨g1, 0, none⟩) fd.length (fd.length + 12), .int .i64 num, .slice (some ⟨g2, 0, none⟩) vs.length (vs.length + 12)] 59)) := ((Below.refl _ _).alloc (Nat.le_refl _) _).alloc (by simp) _
      have hlf4 : ∀ f ∈ frs ++ [⟨x0, x1, x2, x3, ck, text, some ⟨g1, 0, none⟩, fd, fd.length + 12, num, some ⟨g2, 0, none⟩, vs, vs.length + 12⟩], EnLent w4 w.heap.size f := fun f hf => by
        rcases List.mem_append.1 hf with hf | hf
        · exact ((HF3.out f hf).below hBA (Nat.le_refl _)).kept hg4 hA (by decide) (by decide) rfl
        · rw [List.mem_singleton.1 hf]
          exact (HN3.out.below hBA (Nat.le_refl _)).kept hg4 hA (by decide) (by decide) rfl
      have hb4 : Below w.heap.size w w4 := (hbel3.trans (hBA.mono hs3)).grown hg4 (by simp; omega) (fun k hk => by cases hk; exact Nat.le_refl _)
      have HF4 := Lib.hid hlf4
      have HO4 := Lib.hid hown4
      clear hlf4 hown4 hg4 hA hBA hlen
      go_wp2_with fail
      go_roundw
      case rel => exact ⟨k + 1, frs ++ [⟨x0, x1, x2, x3, ck, text, some ⟨g1, 0, none⟩, fd, fd.length + 12, num, some ⟨g2, 0, none⟩, vs, vs.length + 12⟩], by omega, by go_num, rfl, by rw [List.map_append, HM.out, HT.out]; rfl, HF4.out, by rw [List.flatMap_append]; exact HO4.out, hb4⟩
      case measure => simp [intOf]; omega
    · obtain rfl : k = fs.length := by omega
      have hM2 := HM.out
      rw [List.take_length] at hM2
      have HM2 := Lib.hid hM2
      clear hM2
      have hsl : ∀ w', (Instr.sliceAt 22 (.slice (some ⟨w.heap.size, 0, none⟩) (fs.length + 12) (fs.length + 12)) none (some (.int .i64 (fs.length : Int))) none).run Try.prog w' = .ok (.slice (some ⟨w.heap.size, 0, none⟩) fs.length (fs.length + 12)) w' := fun w' => by
        have h1 := run_sub_h sliceEntry' sizeEntry' (some ⟨w.heap.size, 0, none⟩) (fs.length + 12) (fs.length + 12) fs.length (by omega) .i64 (fs.length : Int) rfl w'
        rwa [subA_zero _ _ _ (by intro a ha; cases ha; rfl)] at h1
      go_wp2_with fail
      go_loopw [3, 6] (fun v i wr => ∃ q : Nat, q ≤ 12 ∧ i = .int .i64 q ∧ v = .slice (some ⟨w.heap.size, 0, none⟩) (fs.length + q) (fs.length + 12) ∧ (∀ f ∈ frs, EnLent wr w.heap.size f) ∧
        wr.ownsRow w.heap.size 59 9 (.slice (some ⟨w.heap.size, 0, none⟩) (fs.length + q) (fs.length + 12)) (fs.length + q) (frs.flatMap enCells ++ mks mkE 1 q) ∧ Below w.heap.size w wr) (fun _ i _ => 12 - (intOf i).toNat)
      case atStart => exact ⟨0, by omega, rfl, rfl, HF.out, by simpa [mks] using HO.out, hbel⟩
      case round =>
        clear hbel HF HO hs
        obtain ⟨q, hq, rfl, rfl, hlf, hown, hbel⟩ := hrel
        have HF := Lib.hid hlf
        have HO := Lib.hid hown
        clear hlf hown
        have hs := hbel.size
        by_cases hltq : q < 12
        · have i2 : (q : Int) < 12 := by omega
          clear hsl
          go_wp2_with fail
          refine (markE_at 1 _ 1 q (by omega) rfl (by omega) (by omega) wr).mono ?_
          rintro e w3 ⟨rfl, hb3⟩
          have hown3 := own_below HO.out hb3 (Nat.le_refl _)
          have hlf3 : ∀ f ∈ frs, EnLent w3 w.heap.size f := fun f hf => (HF.out f hf).below hb3 (Nat.le_refl _)
          have hbel3 := hbel.trans (hb3.mono hs)
          have hs3 := hbel3.size
          have HO3 := Lib.hid hown3
          have HF3 := Lib.hid hlf3
          clear hown3 hlf3
          go_wp2_with (at_builtin; refine wpList_append_fits _ rfl (.tmp 30) (.tmp 33) 22 rfl w.heap.size 59 i0 9 Try.underlying22 hi hz1 w.heap.size (fs.length + q) (fs.length + 12) (frs.flatMap enCells ++ mks mkE 1 q) rfl (HO3.out.alloc _) ⟨w3.heap.size, 0, none⟩ 1 1 [.int .i64 (markN 1 q), .int .u8 0, .int .i64 0, .int .i64 0, .int .u8 0, .string ⟨#[]⟩, .slice none 0 0, .int .i64 0, .slice none 0 0] rfl rfl (cells_new _ 59 [.int .i64 (markN 1 q), .int .u8 0, .int .i64 0, .int .i64 0, .int .u8 0, .string ⟨#[]⟩, .slice none 0 0, .int .i64 0, .slice none 0 0]) (by simp [Value.oneCell']) (by omega) ?_)
          intro w4 hown4 hg4
          have hA := HO3.out.alloc (.cells #[.int .i64 (markN 1 q), .int .u8 0, .int .i64 0, .int .i64 0, .int .u8 0, .string ⟨#[]⟩, .slice none 0 0, .int .i64 0, .slice none 0 0] 59)
          have hBA : Below w3.heap.size w3 (w3.alloc (.cells #[.int .i64 (markN 1 q), .int .u8 0, .int .i64 0, .int .i64 0, .int .u8 0, .string ⟨#[]⟩, .slice none 0 0, .int .i64 0, .slice none 0 0] 59)) := (Below.refl _ _).alloc (Nat.le_refl _) _
          have hlf4 : ∀ f ∈ frs, EnLent w4 w.heap.size f := fun f hf => ((HF3.out f hf).below hBA (Nat.le_refl _)).kept hg4 hA (by decide) (by decide) rfl
          have hb4 : Below w.heap.size w w4 := (hbel3.trans (hBA.mono hs3)).grown hg4 (by simp; omega) (fun k hk => by cases hk; exact Nat.le_refl _)
          have HF4 := Lib.hid hlf4
          have HO4 := Lib.hid hown4
          clear hlf4 hown4 hg4 hA hBA
          go_wp2_with fail
          go_roundw
          case rel => exact ⟨q + 1, by omega, by go_num, by rw [Nat.add_assoc], HF4.out, by have := HO4.out; rw [mks_succ]; exact this, hb4⟩
          case measure => simp [intOf]; omega
        · obtain rfl : q = 12 := by omega
          go_wp2_with fail
          go_ret
          exact ⟨frs, rfl, HM2.out, ⟨HO.out, HF.out⟩, hbel⟩
end Go.Proofs.Ytljfanhkbbfngaa
/- OverBytes: a lent row of bytes is written over, the marks behind it, too; nothing else is changed. Conditions: the row is a lent one. -/
namespace Go.Proofs.Ytljfanhkbbfngaa
open Go.RowKit
set_option maxRecDepth 20000
end Go.Proofs.Ytljfanhkbbfngaa
/- OverInts, OverValues, OverBytes, OverEntries, OverLetter: what was lent is written over; all keeps its shape, and nothing else is changed. Conditions: the rows have twelve places behind their ends. -/
namespace Go.Proofs.Ytljfanhkbbfngaa
open Go.RowKit
set_option maxRecDepth 20000
theorem size_oI : ∀ w, (sizeOf (Try.prog.elem 24)).run Try.prog w = .ok 1 w := fun _ => by kernel_rfl
theorem slice_oI : Try.prog.underlying 24 = some (.slice (Try.prog.elem 24)) := by kernel_rfl
set_option maxHeartbeats 2000000 in
theorem overI_room (B T : Nat) (a : Option Addr) (n c : Nat) (w : World) (h : Room w B T 3 1 a n c) (hn : n ≤ 1099511627776) :
    Calls Try.prog 53 #[.slice a n c] w fun e w' => e = .returned (.tuple #[]) ∧ OverK B T [3] w w' := by
  obtain ⟨g, rfl, hgB, hgT, rfl, hbk⟩ := h
  have hsl : ∀ w', (Instr.sliceAt 24 (.slice (some ⟨g, 0, none⟩) n (n + 12)) none (some (.int .i64 ((n : Int) + 12))) none).run Try.prog w' = .ok (.slice (some ⟨g, 0, none⟩) (n + 12) (n + 12)) w' := fun w' => by
    have h1 := run_sub_h slice_oI size_oI (some ⟨g, 0, none⟩) n (n + 12) (n + 12) (Nat.le_refl _) .i64 ((n : Int) + 12) (by omega) w'
    rwa [subA_zero _ _ _ (by intro a ha; cases ha; rfl)] at h1
  have HK := Lib.hid hbk
  clear hbk
  go_enter Try.func53, Try.ntmps53
  go_wp2_with fail
  clear hsl
  go_loopw [3] (fun i wr => ∃ q : Nat, q ≤ n + 12 ∧ i = .int .i64 q ∧ Blk wr g 3 ((n + 12) * 1) ∧ OverK B T [3] w wr) (fun i _ => n + 12 - (intOf i).toNat)
  case atStart => exact ⟨0, by omega, rfl, HK.out, OverK.refl _ _ _ _⟩
  case round =>
    obtain ⟨q, hq, rfl, hbk, hov⟩ := hrel
    have HOV := Lib.hid hov
    have HBK := Lib.hid hbk
    clear hov hbk
    by_cases hlt : q < n + 12
    · have i1 : (q : Int) < (n : Int) + 12 := by omega
      have i2 : (q : Int) < ((n + 12 : Nat) : Int) := by omega
      go_wp2_with fail
      refine (markI_at 2 _ 2 q (by omega) rfl (by omega) (by omega) wr).mono ?_
      rintro e w3 ⟨rfl, hb3⟩
      have hov := HOV.out.then_below hb3 (Nat.le_trans (by have := HK.out.lt; omega) HOV.out.size)
      have hbk3 := HBK.out.below hb3 (Nat.le_refl _)
      obtain ⟨o0, d0⟩ := hbk3.cell (i := q) (by omega)
      have f0 : w3.frozen? ⟨g, q, none⟩ = false := hbk3.free _
      have s0 := hov.set hbk3 (by simp) hgB hgT (q) (.int .i64 (markN 2 q))
      have b0 := hbk3.set g (q) (.int .i64 (markN 2 q))
      have SX := Lib.hid s0
      have BX := Lib.hid b0
      clear s0 b0 hov hbk3
      go_wp2_with fail
      go_roundw
      case rel => exact ⟨q + 1, by omega, by go_num, BX.out, SX.out⟩
      case measure => simp [intOf]; omega
    · obtain rfl : q = n + 12 := by omega
      go_wp2_with fail
      go_end0
      exact ⟨rfl, HOV.out⟩
theorem size_oV : ∀ w, (sizeOf (Try.prog.elem 55)).run Try.prog w = .ok 3 w := fun _ => by kernel_rfl
theorem slice_oV : Try.prog.underlying 55 = some (.slice (Try.prog.elem 55)) := by kernel_rfl
set_option maxHeartbeats 2000000 in
theorem overV_room (B T : Nat) (a : Option Addr) (n c : Nat) (w : World) (h : Room w B T 76 3 a n c) (hn : n ≤ 1099511627776) :
    Calls Try.prog 60 #[.slice a n c] w fun e w' => e = .returned (.tuple #[]) ∧ OverK B T [76] w w' := by
  obtain ⟨g, rfl, hgB, hgT, rfl, hbk⟩ := h
  have hsl : ∀ w', (Instr.sliceAt 55 (.slice (some ⟨g, 0, none⟩) n (n + 12)) none (some (.int .i64 ((n : Int) + 12))) none).run Try.prog w' = .ok (.slice (some ⟨g, 0, none⟩) (n + 12) (n + 12)) w' := fun w' => by
    have h1 := run_sub_h slice_oV size_oV (some ⟨g, 0, none⟩) n (n + 12) (n + 12) (Nat.le_refl _) .i64 ((n : Int) + 12) (by omega) w'
    rwa [subA_zero _ _ _ (by intro a ha; cases ha; rfl)] at h1
  have HK := Lib.hid hbk
  clear hbk
  go_enter Try.func60, Try.ntmps60
  go_wp2_with fail
  clear hsl
  go_loopw [3] (fun i wr => ∃ q : Nat, q ≤ n + 12 ∧ i = .int .i64 q ∧ Blk wr g 76 ((n + 12) * 3) ∧ OverK B T [76] w wr) (fun i _ => n + 12 - (intOf i).toNat)
  case atStart => exact ⟨0, by omega, rfl, HK.out, OverK.refl _ _ _ _⟩
  case round =>
    obtain ⟨q, hq, rfl, hbk, hov⟩ := hrel
    have HOV := Lib.hid hov
    have HBK := Lib.hid hbk
    clear hov hbk
    by_cases hlt : q < n + 12
    · have i1 : (q : Int) < (n : Int) + 12 := by omega
      have i2 : (q : Int) < ((n + 12 : Nat) : Int) := by omega
      go_wp2_with fail
      refine (markV_at 2 _ 2 q (by omega) rfl (by omega) (by omega) wr).mono ?_
      rintro e w3 ⟨rfl, hb3⟩
      have hov := HOV.out.then_below hb3 (Nat.le_trans (by have := HK.out.lt; omega) HOV.out.size)
      have hbk3 := HBK.out.below hb3 (Nat.le_refl _)
      obtain ⟨o0, d0⟩ := hbk3.cell (i := q * 3) (by omega)
      have f0 : w3.frozen? ⟨g, q * 3, none⟩ = false := hbk3.free _
      obtain ⟨o1, d1⟩ := hbk3.cell (i := q * 3 + 1) (by omega)
      have f1 : w3.frozen? ⟨g, q * 3 + 1, none⟩ = false := hbk3.free _
      obtain ⟨o2, d2⟩ := hbk3.cell (i := q * 3 + 2) (by omega)
      have f2 : w3.frozen? ⟨g, q * 3 + 2, none⟩ = false := hbk3.free _
      have s0 := hov.set hbk3 (by simp) hgB hgT (q * 3) (.int .u8 0)
      have b0 := hbk3.set g (q * 3) (.int .u8 0)
      have s1 := s0.set b0 (by simp) hgB hgT (q * 3 + 1) (.int .i64 (markN 2 q))
      have b1 := b0.set g (q * 3 + 1) (.int .i64 (markN 2 q))
      have s2 := s1.set b1 (by simp) hgB hgT (q * 3 + 2) (.string ByteArray.empty)
      have b2 := b1.set g (q * 3 + 2) (.string ByteArray.empty)
      have SX := Lib.hid s2
      have BX := Lib.hid b2
      clear s0 b0 s1 b1 s2 b2 hov hbk3
      go_wp2_with fail
      go_roundw
      case rel => exact ⟨q + 1, by omega, by go_num, BX.out, SX.out⟩
      case measure => simp [intOf]; omega
    · obtain rfl : q = n + 12 := by omega
      go_wp2_with fail
      go_end0
      exact ⟨rfl, HOV.out⟩
theorem overC_room (B T : Nat) (ck : Int) (text : ByteArray) (num : Int) (a : Option Addr) (n c : Nat) (w : World) (h : Room w B T 76 3 a n c) (hn : n ≤ 1099511627776) (hB : B ≤ w.heap.size) :
    Calls Try.prog 52 #[.agg #[.int .u8 ck, .string text, .slice a n c, .int .i64 num]] w fun e w' => e = .returned (.tuple #[]) ∧ OverK B T [76] w w' := by
  have hb := (Below.refl w.heap.size w).alloc (Nat.le_refl _) (.cells #[.int .u8 ck, .string text, .slice a n c, .int .i64 num] 57)
  have HB := Lib.hid hb
  have H := Lib.hid (h.below hb)
  clear h hb
  go_enter Try.func52, Try.ntmps52
  go_wp2_with fail
  refine (overV_room B T a n c _ H.out hn).mono ?_
  rintro e w3 ⟨rfl, ho⟩
  go_wp2_with fail
  go_end0
  exact ⟨rfl, ((OverK.refl B T [76] w).then_below HB.out hB).trans ho (fun _ h => h)⟩
/-- An entry whose lists may be written over. -/
structure EnRoom (w : World) (B T : Nat) (f : En) : Prop where
  args : Room w B T 76 3 f.aao f.args.length f.acap
  vs : Room w B T 3 1 f.vao f.vs.length f.vcap
theorem EnRoom.over {w w' : World} {B T : Nat} {f : En} {Ts : List TypeId} (h : EnRoom w B T f) (ho : OverK B T Ts w w') : EnRoom w' B T f := ⟨h.args.over ho, h.vs.over ho⟩
theorem EnRoom.below {w w' : World} {B T : Nat} {f : En} (h : EnRoom w B T f) (hb : Below w.heap.size w w') : EnRoom w' B T f := ⟨h.args.below hb, h.vs.below hb⟩
theorem EnLent.room {w : World} {B : Nat} {f : En} (h : EnLent w B f) : EnRoom w B w.heap.size f := by
  obtain ⟨⟨g, h1, h2, h3⟩, ⟨g', h1', h2', h3'⟩⟩ := h
  exact ⟨⟨g, h1, h3.lt.1, h3.lt.2, h2, Blk.of_own h3⟩, ⟨g', h1', h3'.lt.1, h3'.lt.2, h2', Blk.of_own h3'⟩⟩
def overTs : List TypeId := [76, 3]
set_option maxHeartbeats 2000000 in
theorem overEn_room (B T : Nat) (x0 x1 x2 x3 ck : Int) (text : ByteArray) (ao : Option Addr) (an ac : Nat) (num : Int) (vo : Option Addr) (vn vc : Nat) (w : World) (h : Room w B T 76 3 ao an ac) (h2 : Room w B T 3 1 vo vn vc) (hn : an ≤ 1099511627776) (hn2 : vn ≤ 1099511627776) (hB : B ≤ w.heap.size) (hT : T ≤ w.heap.size) :
    Calls Try.prog 32 #[.agg #[.int .i64 x0, .int .u8 x1, .int .i64 x2, .int .i64 x3, .int .u8 ck, .string text, .slice ao an ac, .int .i64 num, .slice vo vn vc]] w fun e w' => e = .returned (.tuple #[]) ∧ OverK B T overTs w w' := by
  have hb := (Below.refl w.heap.size w).alloc (Nat.le_refl _) (.cells #[.int .i64 x0, .int .u8 x1, .int .i64 x2, .int .i64 x3, .int .u8 ck, .string text, .slice ao an ac, .int .i64 num, .slice vo vn vc] 59)
  have hk := heap_alloc_new w (.cells #[.int .i64 x0, .int .u8 x1, .int .i64 x2, .int .i64 x3, .int .u8 ck, .string text, .slice ao an ac, .int .i64 num, .slice vo vn vc] 59)
  have HB := Lib.hid hb
  have HK := Lib.hid hk
  have H := Lib.hid (h.below hb)
  have H2 := Lib.hid (h2.below hb)
  have HS := Lib.hid (show w.heap.size ≤ (w.alloc (.cells #[.int .i64 x0, .int .u8 x1, .int .i64 x2, .int .i64 x3, .int .u8 ck, .string text, .slice ao an ac, .int .i64 num, .slice vo vn vc] 59)).heap.size from hb.size)
  clear h h2 hb hk
  go_enter Try.func32, Try.ntmps32
  go_wp2_with fail
  refine (overC_room B T ck text num ao an ac _ H.out hn (Nat.le_trans hB HS.out)).mono ?_
  rintro e w3 ⟨rfl, ho⟩
  have hk3 := ho.far _ _ _ HK.out (by decide)
  have c8 : w3.cell? ⟨w.heap.size, 8, none⟩ = some (.slice vo vn vc) := Go.Joins.cell_of_block hk3 8
  have HH := Lib.hid (H2.out.over ho)
  have HO := Lib.hid ((((OverK.refl B T overTs w).then_below HB.out hB).trans ho (by decide)))
  clear hk3 ho
  go_wp2_with fail
  refine (overI_room B T vo vn vc w3 HH.out hn2).mono ?_
  rintro e w4 ⟨rfl, ho⟩
  clear c8
  go_wp2_with fail
  go_end0
  exact ⟨rfl, HO.out.trans ho (by decide)⟩
theorem EnsLent.room {w : World} {B g n : Nat} {frs : List En} (h : EnsLent w B g n frs) : Room w B w.heap.size 59 9 (some ⟨g, 0, none⟩) n (n + 12) := ⟨g, rfl, h.lt.1, h.lt.2, rfl, Blk.of_own h.row⟩
def overEsTs : List TypeId := [76, 3, 59]
set_option maxHeartbeats 4000000 in
theorem overEs_any (B T g n c : Nat) (frs : List En) (w : World) (hn : frs.length = n) (hx : EnsIn w w.heap.size (some ⟨g, 0, none⟩) frs) (hr : ∀ f ∈ frs, EnRoom w B T f) (hroom : Room w B T 59 9 (some ⟨g, 0, none⟩) n c) (hd : ∀ f ∈ frs, f.args.length ≤ 1099511627776 ∧ f.vs.length ≤ 1099511627776) (hl : n ≤ 1099511627776) (hT : T ≤ w.heap.size) :
    Calls Try.prog 11 #[.slice (some ⟨g, 0, none⟩) n c] w fun e w' => e = .returned (.tuple #[]) ∧ OverK B T overEsTs w w' := by
  obtain ⟨g', hg', hgB, hgT, rfl, hbk⟩ := hroom
  cases hg'
  have hsl : ∀ w', (Instr.sliceAt 22 (.slice (some ⟨g, 0, none⟩) n (n + 12)) none (some (.int .i64 ((n : Int) + 12))) none).run Try.prog w' = .ok (.slice (some ⟨g, 0, none⟩) (n + 12) (n + 12)) w' := fun w' => by
    have h1 := run_sub_h sliceEntry' sizeEntry' (some ⟨g, 0, none⟩) n (n + 12) (n + 12) (Nat.le_refl _) .i64 ((n : Int) + 12) (by omega) w'
    rwa [subA_zero _ _ _ (by intro a ha; cases ha; rfl)] at h1
  obtain ⟨cs, hcs, hcz⟩ := hbk
  have hcl : ∀ (k : Nat) (f : En), frs[k]? = some f → ∀ w' : World, w'.heap[g]? = some (.cells cs 59 (0, 0)) → ∀ j, j < 9 → w'.cell? ⟨g, k * 9 + j, none⟩ = (enCells f)[j]? := fun k f hf w' hw' j hj => by
    obtain ⟨b, off, hao, hb, hc, _⟩ := hx.at hf
    cases hao
    have h0 := hc j hj
    rw [Nat.zero_add] at h0
    rw [← h0, Go.Joins.cell_of_block hw', Go.Joins.cell_of_block hcs]
  have HN := Lib.hid hn
  have HC := Lib.hid hcl
  have HD := Lib.hid hd
  have HS := Lib.hid hsl
  have HCZ := Lib.hid hcz
  have HCS := Lib.hid hcs
  have HR := Lib.hid hr
  clear hn hcl hd hsl hcz hcs hx hr
  go_enter Try.func11, Try.ntmps11
  go_wp2_with fail
  go_loopw [2] (fun i wr => ∃ k : Nat, k ≤ n ∧ i = .int .i64 k ∧ (∀ f ∈ frs, EnRoom wr B T f) ∧ wr.heap[g]? = some (.cells cs 59 (0, 0)) ∧ OverK B T overEsTs w wr) (fun i _ => n - (intOf i).toNat)
  case atStart => exact ⟨0, by omega, rfl, HR.out, HCS.out, OverK.refl _ _ _ _⟩
  case round =>
    clear HR HCS
    obtain ⟨k, hk, rfl, hroom, hrow, hov⟩ := hrel
    have HO := Lib.hid hroom
    have HR := Lib.hid hrow
    have HV := Lib.hid hov
    clear hroom hrow hov
    by_cases hlt : k < n
    · have hkf : k < frs.length := by rw [HN.out]; exact hlt
      have hx0 : frs[k]? = some frs[k] := List.getElem?_eq_getElem hkf
      have hc := HC.out k _ hx0 wr HR.out
      have hro := HO.out frs[k] (List.getElem_mem hkf)
      have hdl := HD.out frs[k] (List.getElem_mem hkf)
      generalize frs[k] = x at hc hro hdl hx0
      obtain ⟨x0, x1, x2, x3, ck, text, ao, fd, fc, num, vo, vs, vc⟩ := x
      obtain ⟨an, han⟩ : ∃ an, fd.length = an := ⟨_, rfl⟩
      obtain ⟨vn, hvn⟩ : ∃ vn, vs.length = vn := ⟨_, rfl⟩
      obtain ⟨r1, r2⟩ := hro
      dsimp only at hdl r1 r2
      rw [han] at r1 hdl
      rw [hvn] at r2 hdl
      have c0 : wr.cell? ⟨g, k * 9, none⟩ = some (.int .i64 x0) := hc 0 (by decide)
      have c1 : wr.cell? ⟨g, k * 9 + 1, none⟩ = some (.int .u8 x1) := hc 1 (by decide)
      have c2 : wr.cell? ⟨g, k * 9 + 1 + 1, none⟩ = some (.int .i64 x2) := hc 2 (by decide)
      have c3 : wr.cell? ⟨g, k * 9 + 1 + 1 + 1, none⟩ = some (.int .i64 x3) := hc 3 (by decide)
      have c4 : wr.cell? ⟨g, k * 9 + 1 + 1 + 1 + 1, none⟩ = some (.int .u8 ck) := hc 4 (by decide)
      have c5 : wr.cell? ⟨g, k * 9 + 1 + 1 + 1 + 1 + 1, none⟩ = some (.string text) := hc 5 (by decide)
      have c6 : wr.cell? ⟨g, k * 9 + 1 + 1 + 1 + 1 + 1 + 1, none⟩ = some (.slice ao an fc) := (hc 6 (by decide)).trans (by rw [← han]; rfl)
      have c7 : wr.cell? ⟨g, k * 9 + 1 + 1 + 1 + 1 + 1 + 1 + 1, none⟩ = some (.int .i64 num) := hc 7 (by decide)
      have c8 : wr.cell? ⟨g, k * 9 + 1 + 1 + 1 + 1 + 1 + 1 + 1 + 1, none⟩ = some (.slice vo vn vc) := (hc 8 (by decide)).trans (by rw [← hvn]; rfl)
      have R1 := Lib.hid r1
      have R2 := Lib.hid r2
      have hd1 := hdl.1
      have hd2 := hdl.2
      have i1 : (k : Int) < n := by omega
      have hsz := HV.out.size
      clear hc hx0 han hvn r1 r2 hdl
      go_wp2_with fail
      refine (overEn_room B T x0 x1 x2 x3 ck text ao an fc num vo vn vc wr R1.out R2.out hd1 hd2 (by omega) (by omega)).mono ?_
      rintro e w3 ⟨rfl, ho⟩
      have hro3 : ∀ f ∈ frs, EnRoom w3 B T f := fun f hf => (HO.out f hf).over ho
      have hr3 := ho.far _ _ _ HR.out (by decide)
      have hv3 := HV.out.trans ho (by decide)
      have H1 := Lib.hid hro3
      have H2 := Lib.hid hr3
      have H3 := Lib.hid hv3
      clear hro3 hr3 hv3 ho c0 c1 c2 c3 c4 c5 c6 c7 c8
      go_wp2_with fail
      go_roundw
      case rel => exact ⟨k + 1, by omega, by go_num, H1.out, H2.out, H3.out⟩
      case measure => simp [intOf]; omega
    · obtain rfl : k = n := by omega
      have hsl := HS.out
      go_wp2_with fail
      clear hsl
      go_loopw [4] (fun i wr => ∃ q : Nat, q ≤ k + 12 ∧ i = .int .i64 q ∧ Blk wr g 59 ((k + 12) * 9) ∧ OverK B T overEsTs w wr) (fun i _ => k + 12 - (intOf i).toNat)
      case atStart => exact ⟨0, by omega, rfl, ⟨cs, HR.out, HCZ.out⟩, HV.out⟩
      case round =>
        clear HO HR HV
        obtain ⟨q, hq, rfl, hbk, hov⟩ := hrel
        have HOV := Lib.hid hov
        have HBK := Lib.hid hbk
        clear hov hbk
        have hsz := HOV.out.size
        by_cases hltq : q < k + 12
        · have i1 : (q : Int) < (k : Int) + 12 := by omega
          have i2 : (q : Int) < ((k + 12 : Nat) : Int) := by omega
          go_wp2_with fail
          refine (markE_at 2 _ 2 q (by omega) rfl (by omega) (by omega) wr).mono ?_
          rintro e w3 ⟨rfl, hb3⟩
          have hov := HOV.out.then_below hb3 (by omega)
          have hbk3 := HBK.out.below hb3 (Nat.le_refl _)
          obtain ⟨o0, d0⟩ := hbk3.cell (i := q * 9) (by omega)
          have f0 : w3.frozen? ⟨g, q * 9, none⟩ = false := hbk3.free _
          obtain ⟨o1, d1⟩ := hbk3.cell (i := q * 9 + 1) (by omega)
          have f1 : w3.frozen? ⟨g, q * 9 + 1, none⟩ = false := hbk3.free _
          obtain ⟨o2, d2⟩ := hbk3.cell (i := q * 9 + 2) (by omega)
          have f2 : w3.frozen? ⟨g, q * 9 + 2, none⟩ = false := hbk3.free _
          obtain ⟨o3, d3⟩ := hbk3.cell (i := q * 9 + 3) (by omega)
          have f3 : w3.frozen? ⟨g, q * 9 + 3, none⟩ = false := hbk3.free _
          obtain ⟨o4, d4⟩ := hbk3.cell (i := q * 9 + 4) (by omega)
          have f4 : w3.frozen? ⟨g, q * 9 + 4, none⟩ = false := hbk3.free _
          obtain ⟨o5, d5⟩ := hbk3.cell (i := q * 9 + 5) (by omega)
          have f5 : w3.frozen? ⟨g, q * 9 + 5, none⟩ = false := hbk3.free _
          obtain ⟨o6, d6⟩ := hbk3.cell (i := q * 9 + 6) (by omega)
          have f6 : w3.frozen? ⟨g, q * 9 + 6, none⟩ = false := hbk3.free _
          obtain ⟨o7, d7⟩ := hbk3.cell (i := q * 9 + 7) (by omega)
          have f7 : w3.frozen? ⟨g, q * 9 + 7, none⟩ = false := hbk3.free _
          obtain ⟨o8, d8⟩ := hbk3.cell (i := q * 9 + 8) (by omega)
          have f8 : w3.frozen? ⟨g, q * 9 + 8, none⟩ = false := hbk3.free _
          have s0 := hov.set hbk3 (by decide) hgB hgT (q * 9) (.int .i64 (markN 2 q))
          have b0 := hbk3.set g (q * 9) (.int .i64 (markN 2 q))
          have s1 := s0.set b0 (by decide) hgB hgT (q * 9 + 1) (.int .u8 0)
          have b1 := b0.set g (q * 9 + 1) (.int .u8 0)
          have s2 := s1.set b1 (by decide) hgB hgT (q * 9 + 2) (.int .i64 0)
          have b2 := b1.set g (q * 9 + 2) (.int .i64 0)
          have s3 := s2.set b2 (by decide) hgB hgT (q * 9 + 3) (.int .i64 0)
          have b3 := b2.set g (q * 9 + 3) (.int .i64 0)
          have s4 := s3.set b3 (by decide) hgB hgT (q * 9 + 4) (.int .u8 0)
          have b4 := b3.set g (q * 9 + 4) (.int .u8 0)
          have s5 := s4.set b4 (by decide) hgB hgT (q * 9 + 5) (.string ByteArray.empty)
          have b5 := b4.set g (q * 9 + 5) (.string ByteArray.empty)
          have s6 := s5.set b5 (by decide) hgB hgT (q * 9 + 6) (.slice none 0 0)
          have b6 := b5.set g (q * 9 + 6) (.slice none 0 0)
          have s7 := s6.set b6 (by decide) hgB hgT (q * 9 + 7) (.int .i64 0)
          have b7 := b6.set g (q * 9 + 7) (.int .i64 0)
          have s8 := s7.set b7 (by decide) hgB hgT (q * 9 + 8) (.slice none 0 0)
          have b8 := b7.set g (q * 9 + 8) (.slice none 0 0)
          have SX := Lib.hid s8
          have BX := Lib.hid b8
          clear s0 b0 s1 b1 s2 b2 s3 b3 s4 b4 s5 b5 s6 b6 s7 b7 s8 b8 hov hbk3
          go_wp2_with fail
          go_roundw
          case rel => exact ⟨q + 1, by omega, by go_num, BX.out, SX.out⟩
          case measure => simp [intOf]; omega
        · go_wp2_with fail
          go_end0
          exact ⟨rfl, HOV.out⟩
end Go.Proofs.Ytljfanhkbbfngaa
