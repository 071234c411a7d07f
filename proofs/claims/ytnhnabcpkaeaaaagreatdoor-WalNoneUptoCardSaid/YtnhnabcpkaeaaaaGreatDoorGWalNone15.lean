/- A file turned into another: what a disk's methods have in common. Conditions: the disk lies as its files say. -/
import Derived.Test.YtnhnabcpkaeaaaaGreatDoorGWalNone14
import Derived.Laws.ResultCell
import Derived.Laws.Rows
set_option linter.unusedVariables false
set_option linter.unusedSimpArgs false
namespace Go.Proofs.YtnhnabcpkaeaaaaGreatDoor
open Go.RowKit
set_option maxRecDepth 20000
/-- What a closure made of a file, and the disk then. -/
structure BecIs (k : List UInt8) (db mb room C : Nat) (r : Rv) (f : Fi) (z : Int) (L : Dk) (n : Nat) (w : World) : Prop where
  disk : DiskAt w C db mb room n L
  n : n ≤ 1000000
  rv : RvIs w C r f
theorem turn_none {w : World} {B db mb room n : Nat} {L : Dk} (h : DiskAt w B db mb room n L) (s : ByteArray) (hs : s.size ≤ maxLen) (hg : dGet L s.data.toList = none) (fv : Value) :
    Calls Tryz.prog 38 #[.pointer (some ⟨db, 0, none⟩), .string s, fv] w fun e w' => e = .returned (.int .i64 6) ∧ Below w.heap.size w w' := by
  have hl := ((h.map.look s hs).1 hg).1
  simp only [rvVal, rvZero] at hl
  obtain ⟨d0, d1⟩ := h.cells
  have H := Lib.hid h
  clear h hg
  go_enter Tryz.func38, Tryz.ntmps38
  go_wp2_with fail
  refine (is_any H.out).mono ?_
  rintro e w0 ⟨rfl, rfl⟩
  go_wp2_with fail
  go_ret
  exact ⟨rfl, (Below.refl _ _).alloc (Nat.le_refl _) _⟩
theorem turn_nil (w : World) (s : ByteArray) (fv : Value) :
    Calls Tryz.prog 38 #[.pointer none, .string s, fv] w fun e w' => e = .returned (.int .i64 1) ∧ w = w' := by
  go_enter Tryz.func38, Tryz.ntmps38
  go_wp2_with fail
  refine (is_nil w).mono ?_
  rintro e w0 ⟨rfl, rfl⟩
  go_wp2_with fail
  go_ret
  exact ⟨rfl, by first | rfl | trivial⟩
set_option maxHeartbeats 2000000 in
theorem turn_some {w : World} {B db mb room n : Nat} {L : Dk} (h : DiskAt w B db mb room n L) (s : ByteArray) (hs : s.size ≤ maxLen) (f0 : Fi) (hg : dGet L s.data.toList = some f0) (F : FuncId) (hF : ∀ args w, (callFunc F args).run Tryz.prog w = .ok (.enter F args) w) (caps : Array Value)
    (Ex : Fi → Int → Dk → Nat → Nat → World → Prop)
    (hbec : ∀ r w1, Below w.heap.size w w1 → RvIs w1 B r f0 → Calls Tryz.prog F (#[rvVal r] ++ caps) w1 fun e w2 => ∃ r' f z L' n' C, e = .returned (.tuple #[rvVal r', .int .i64 z]) ∧ BecIs s.data.toList db mb room C r' f z L' n' w2 ∧ Ex f z L' n' C w2) :
    Calls Tryz.prog 38 #[.pointer (some ⟨db, 0, none⟩), .string s, .func (.func F) #[] caps] w fun e w' =>
      ∃ f z L' n' C w2, Ex f z L' n' C w2 ∧ e = .returned (.int .i64 z) ∧ w2.grownBy w' (some mb) ∧ DiskAt w' C db mb room (n' + 1) (if z = 0 then dPut L' s.data.toList f else L') := by
  obtain ⟨r, hl, _, hrv⟩ := (h.map.look s hs).2 f0 hg
  obtain ⟨a1, n1, c1, a2, n2, c2⟩ := r
  simp only [rvVal] at hl
  obtain ⟨d0, d1⟩ := h.cells
  have H := Lib.hid h
  have HR := Lib.hid hrv
  have HBEC := Lib.hid hbec
  have hB := h.le
  clear h hg hrv hbec
  have hb1 := (Below.refl w.heap.size w).alloc (Nat.le_refl _) (.cells #[.slice a1 n1 c1, .slice a2 n2 c2] 70)
  have HB1 := Lib.hid hb1
  clear hb1
  go_enter Tryz.func38, Tryz.ntmps38
  go_wp2_with fail
  refine (is_any H.out).mono ?_
  rintro e w0 ⟨rfl, rfl⟩
  go_wp2_with fail
  generalize w.alloc (.cells #[.slice a1 n1 c1, .slice a2 n2 c2] 70) = w1 at HB1 ⊢
  refine (HBEC.out ⟨a1, n1, c1, a2, n2, c2⟩ w1 HB1.out (HR.out.below HB1.out hB)).mono ?_
  rintro e w2 ⟨r', f, z, L', n', C, rfl, hbc, hEx⟩
  obtain ⟨b1, m1, e1, b2, m2, e2⟩ := r'
  simp only [rvVal]
  obtain ⟨hdk, hn', hrv2⟩ := hbc
  have hb3 := (Below.refl w2.heap.size w2).alloc (Nat.le_refl _) (.cells #[.slice b1 m1 e1, .slice b2 m2 e2] 70)
  have hk3 := heap_alloc_new w2 (.cells #[.slice b1 m1 e1, .slice b2 m2 e2] 70)
  have hd3 := hdk.below hb3 hdk.le
  have hr3 := hrv2.below hb3 hdk.le
  obtain ⟨q0, q1⟩ := hd3.cells
  have k0 := Go.Joins.cell_of_block hk3 0
  have k1 := Go.Joins.cell_of_block hk3 1
  have HEX := Lib.hid hEx
  have HD3 := Lib.hid hd3
  have HR3 := Lib.hid hr3
  have HB3 := Lib.hid hb3
  have HOK := Lib.hid hdk.ok
  clear hEx hdk hrv2 hb3 hk3 hd3 hr3 d0 d1 hl
  by_cases hz : z = 0
  · subst hz
    go_wp2_with fail
    generalize w2.alloc (.cells #[.slice b1 m1 e1, .slice b2 m2 e2] 70) = w3 at HD3 HR3 HB3 q0 q1 k0 k1 ⊢
    go_still_tail 6, (by kernel_rfl)
    change wpList _ _ _ _ _ w3.drew
    have hd9 : DiskAt w3.drew C db mb room n' L' := HD3.out.below (B' := w3.heap.size) (Below.refl _ _).drew HD3.out.le
    have hr9 : RvIs w3.drew C ⟨b1, m1, e1, b2, m2, e2⟩ f := HR3.out.below (B' := w3.heap.size) (Below.refl _ _).drew HD3.out.le
    have hb9 : Below w2.heap.size w2 w3.drew := HB3.out.drew
    generalize w3.drew = w10 at hd9 hr9 hb9 ⊢
    refine wpList_store_dk rfl _ _ _ rfl hd9.map hd9.le hn' rfl s rfl hs _ rfl _ hr9 ?_
    intro w11 hm11 hg11
    have hd11 := hd9.stored0 hm11 hg11 (dPut_ok hd9.ok _ _)
    clear hm11
    go_wp2_with fail
    go_ret
    exact ⟨f, 0, L', n', C, w2, HEX.out, rfl, (below_grown hb9 (some mb)).trans hg11, hd11⟩
  · go_wp2_with fail
    go_ret
    refine ⟨f, z, L', n', C, w2, HEX.out, rfl, below_grown HB3.out (some mb), ?_⟩
    rw [if_neg hz]
    exact HD3.out.more (Nat.le_succ _)
end Go.Proofs.YtnhnabcpkaeaaaaGreatDoor
/- A disk's methods Sync, Read, Cut, Rename, Remove. Conditions: the disk lies as its files say. -/
namespace Go.Proofs.YtnhnabcpkaeaaaaGreatDoor
open Go.RowKit
set_option maxRecDepth 20000
theorem bec_bounds {w : World} {B db mb room n : Nat} {L : Dk} (h : DiskIs w B db mb room n L) {k : List UInt8} {f : Fi} (hg : dGet L k = some f) : f.all.length ≤ 1099511627776 := Nat.le_trans (dUsed_le hg) (Nat.le_trans h.used h.rle)
/-- A file as it was fits. -/
theorem fits_same {L : Dk} (hL : dOk L) {k : List UInt8} {f f2 : Fi} (hg : dGet L k = some f) (hl : f2.all.length ≤ f.all.length) : dUsed (dPut L k f2) ≤ dUsed L := by
  rw [dUsed_put]
  have := dUsed_del hL hg
  omega
theorem results_cell2 {P : Program} {fn : Func} {p u : Tmp} {ty : TypeId} (h : fn.results = #[.cell p ty, .tmp u]) (tmps : Array Value) (w : World) (g : Nat) (t : TypeId) (cs : Array Value) (fr : Nat × Nat) (d : TypeDesc) (v : Value)
    (hp : tmps.getD p undef = .pointer (some ⟨g, 0, none⟩)) (hv : tmps.getD u undef = v) (hg : w.heap[g]? = some (.cells cs t fr))
    (hu : P.underlying ty = some d) (hd : (match d with | .struct _ | .array _ _ => true | _ => false) = true) (hi : (P.info? ty).map (·.size) = some cs.size) :
    (results fn tmps).run P w = .ok (.tuple #[.agg cs, v]) w := by
  rw [results_cell_tmp h, hp, hv]
  simp [asAddr, run_loadVar_row w g t ty cs fr d hg hu hd hi, Result.andThen]
theorem info_rows (x y : Value) : (Tryz.prog.info? 70).map (·.size) = some (#[x, y] : Array Value).size := by kernel_rfl
/-- A closure that tells a row and an error returns. -/
theorem rows_end {f : Func} {p u : Tmp} {R : Ending → World → Prop} {w : World} {g : Nat} {r : Rv} {z : Int} {tmps : Array Value} (hf : f.results = #[.cell p 70, .tmp u]) (hk : w.heap[g]? = some (.cells #[.slice r.a1 r.n1 r.c1, .slice r.a2 r.n2 r.c2] 70 (0, 0)))
    (h2 : tmps.getD p undef = .pointer (some ⟨g, 0, none⟩)) (h3 : tmps.getD u undef = .int .i64 z) (hR : R (.returned (.tuple #[rvVal r, .int .i64 z])) w) : bodyPost Tryz.prog f R .ret ⟨tmps, []⟩ w :=
  bodyPost_ret (results_cell2 hf tmps w g _ _ _ _ _ h2 h3 hk Tryz.underlying70 rfl (info_rows _ _)) rfl hR
theorem block_two {w : World} {g : Nat} {x y a b : Value} {T : TypeId} {fr : Nat × Nat} (h : w.heap[g]? = some (.cells #[x, y] T fr)) : ((w.setCell ⟨g, 0, none⟩ a).setCell ⟨g, 1, none⟩ b).heap[g]? = some (.cells #[a, b] T fr) := by
  have h1 := Go.Joins.block_setCell (i := 0) h a
  have h2 := Go.Joins.block_setCell (i := 1) h1 b
  simpa using h2
theorem grown_two {w : World} {g : Nat} {a b : Value} : w.grownBy ((w.setCell ⟨g, 0, none⟩ a).setCell ⟨g, 1, none⟩ b) (some g) := (grown_set w ⟨g, 0, none⟩ a).trans (grown_set _ ⟨g, 1, none⟩ b)
set_option maxHeartbeats 2000000 in
theorem dsync1 (r : Rv) (f : Fi) (w : World) (h : RvIs w w.heap.size r f) (hl : f.all.length ≤ 1099511627776) :
    Calls Tryz.prog 92 #[rvVal r] w fun e w2 => ∃ r', e = .returned (.tuple #[rvVal r', .int .i64 0]) ∧ RvIs w2 w2.heap.size r' ⟨f.all, []⟩ ∧ Below w.heap.size w w2 := by
  obtain ⟨a1, n1, c1, a2, n2, c2⟩ := r
  have hb1 := (Below.refl w.heap.size w).alloc (Nat.le_refl _) (.cells #[.slice a1 n1 c1, .slice a2 n2 c2] 70)
  have hb2 := hb1.alloc hb1.size (.cells #[.slice none 0 0, .slice none 0 0] 70)
  have hk2 := heap_alloc_new (w.alloc (.cells #[.slice a1 n1 c1, .slice a2 n2 c2] 70)) (.cells #[.slice none 0 0, .slice none 0 0] 70)
  have hs1 : (w.alloc (.cells #[.slice a1 n1 c1, .slice a2 n2 c2] 70)).heap.size = w.heap.size + 1 := by simp
  rw [hs1] at hk2
  have hs2 : ((w.alloc (.cells #[.slice a1 n1 c1, .slice a2 n2 c2] 70)).alloc (.cells #[.slice none 0 0, .slice none 0 0] 70)).heap.size = w.heap.size + 2 := by simp
  have HB2 := Lib.hid hb2
  have HK2 := Lib.hid hk2
  have HS2 := Lib.hid hs2
  have H := Lib.hid h
  have HW := Lib.hid (show BytesWf f.all from BytesWf.app h.w1 h.w2)
  clear hb1 hb2 hk2 hs1 hs2 h
  simp only [rvVal]
  go_enter Tryz.func92, Tryz.ntmps92
  go_wp2_with fail
  generalize (w.alloc (.cells #[.slice a1 n1 c1, .slice a2 n2 c2] 70)).alloc (.cells #[.slice none 0 0, .slice none 0 0] 70) = w2 at HB2 HK2 HS2 ⊢
  refine (whole_file ⟨a1, n1, c1, a2, n2, c2⟩ f w2 w.heap.size (H.out.below HB2.out (Nat.le_refl _)) HB2.out.size hl).mono ?_
  rintro e w3 ⟨a, n, c, rfl, ho, hb3⟩
  have hk3 := (hb3.block (w.heap.size + 1) (by have := HS2.out; omega)).trans HK2.out
  have HK3 := Lib.hid hk3
  have HO := Lib.hid ho
  have HB3 := Lib.hid (HB2.out.trans (hb3.mono HB2.out.size))
  have HS3 := Lib.hid hb3.size
  have k0 := Go.Joins.cell_of_block hk3 0
  have k1 := Go.Joins.cell_of_block hk3 1
  have u0 := Go.Joins.unfrozen_of_block hk3 0
  have u1 := Go.Joins.unfrozen_of_block hk3 1
  clear ho hb3 hk3
  go_wp2_with fail
  have hk4 := block_two (a := .slice a n c) (b := .slice none 0 0) HK3.out
  have hg4 := grown_two (w := w3) (g := w.heap.size + 1) (a := .slice a n c) (b := .slice none 0 0)
  generalize (w3.setCell ⟨w.heap.size + 1, 0, none⟩ (.slice a n c)).setCell ⟨w.heap.size + 1, 1, none⟩ (.slice none 0 0) = w4 at hk4 hg4 ⊢
  refine rows_end (r := ⟨a, n, c, none, 0, 0⟩) rfl hk4 rfl rfl ⟨⟨a, n, c, none, 0, 0⟩, rfl, ?_, HB3.out.grown hg4 HB3.out.size (fun k hk => by cases hk; exact Nat.le_succ _)⟩
  have ho4 := HO.out.kept hg4 (Or.inr (fun e => by have h1 := HO.out.lt _ e; have h2 := HS2.out; omega))
  exact ⟨ho4.len.symm, rfl, ho4.in, Or.inl rfl, HW.out, fun _ h => (by cases h), ho4.nil, fun _ => rfl, bown_cap ho4, Nat.le_refl _⟩
theorem dSync_eq {L : Dk} {k : List UInt8} {f : Fi} (hg : dGet L k = some f) : dSync L k = (dPut L k ⟨f.all, []⟩, 0) := by
  unfold dSync dTurn
  rw [hg]
  rfl
theorem sync_any {w : World} {B db mb room n : Nat} {L : Dk} (h : DiskIs w B db mb room n L) (hn : n ≤ 1000000) (s : ByteArray) (hs : s.size ≤ maxLen) (r : Dk × Int) (hr : dSync L s.data.toList = r) :
    Calls Tryz.prog 53 #[.pointer (some ⟨db, 0, none⟩), .string s] w (DkAt r db mb room (n + 1) w) := by
  subst hr
  cases hg : dGet L s.data.toList with
  | none =>
    have hr : dSync L s.data.toList = (L, 6) := by unfold dSync dTurn; rw [hg]
    rw [hr]
    go_enter Tryz.func53, Tryz.ntmps53
    go_wp2_with fail
    refine (turn_none h.toDiskAt s hs hg _).mono ?_
    rintro e w1 ⟨rfl, hb⟩
    go_wp2_with fail
    go_ret
    exact ⟨rfl, (h.top.below hb (Nat.le_refl _)).top.more (Nat.le_succ _), below_grown hb _⟩
  | some f =>
    rw [dSync_eq hg]
    have hbd := bec_bounds h hg
    have hfit : dUsed (dPut L s.data.toList ⟨f.all, []⟩) ≤ room := Nat.le_trans (fits_same h.ok hg (by simp [Fi.all])) h.used
    go_enter Tryz.func53, Tryz.ntmps53
    go_wp2_with fail
    refine (turn_some h.toDiskAt s hs f hg 92 (fun _ _ => by kernel_rfl) #[] (fun f2 z L2 n2 C w2 => f2 = ⟨f.all, []⟩ ∧ z = 0 ∧ L2 = L ∧ n2 = n ∧ Below w.heap.size w w2) fun r w1 hb1 hr1 => ?_).mono ?_
    · refine (dsync1 r f w1 (hr1.mono (Nat.le_trans h.le hb1.size)) hbd).mono ?_
      rintro e w2 ⟨r', rfl, hr2, hb2⟩
      have hb3 := hb1.trans (hb2.mono hb1.size)
      exact ⟨r', ⟨f.all, []⟩, 0, L, n, _, rfl, ⟨(h.top.toDiskAt.below hb3 (Nat.le_refl _)).top, hn, hr2⟩, rfl, rfl, rfl, rfl, hb3⟩
    · rintro e w3 ⟨f2, z, L2, n2, C, w2, ⟨rfl, rfl, rfl, rfl, hb⟩, rfl, hg3, hd⟩
      go_wp2_with fail
      go_ret
      exact ⟨rfl, ⟨by simpa using hd.top, hfit⟩, (below_grown hb (some mb)).trans hg3⟩
end Go.Proofs.YtnhnabcpkaeaaaaGreatDoor
/- A disk's methods New, Read, Remove. Conditions: the disk lies as its files say. -/
namespace Go.Proofs.YtnhnabcpkaeaaaaGreatDoor
open Go.RowKit
set_option maxRecDepth 20000
theorem below_at {w w' : World} {b : Nat} (hg : w.grownBy w' (some b)) (hb : b ≤ w.heap.size) : Below b w w' := ⟨hg.os, hg.tape, hg.output, hg.size, fun i hi => hg.block i (by omega) (by simp; omega)⟩
/-- Bytes stay where a block without bytes is written. -/
theorem bytes_other {w w' : World} {B g : Nat} {a : Option Addr} {xs : List Int} (h : BytesIn w B a xs) (hB : B ≤ w.heap.size) (hg : w.grownBy w' (some g)) (hc : ∀ o x, w.cell? ⟨g, o, none⟩ ≠ some (bv x)) : BytesIn w' B a xs := by
  rcases h with h | ⟨b, off, h1, h2, h3⟩
  · exact Or.inl h
  · refine Or.inr ⟨b, off, h1, h2, fun i hi => ?_⟩
    have h4 := h3 i hi
    have hne : b ≠ g := by
      rintro rfl
      exact hc _ _ h4
    have hbk := hg.block b (by omega) (by simpa using hne)
    unfold World.cell? at h4 ⊢
    rw [hbk]
    exact h4
theorem RvIs.other {w w' : World} {B g : Nat} {r : Rv} {f : Fi} (h : RvIs w B r f) (hB : B ≤ w.heap.size) (hg : w.grownBy w' (some g)) (hc : ∀ o x, w.cell? ⟨g, o, none⟩ ≠ some (bv x)) : RvIs w' B r f :=
  ⟨h.n1, h.n2, bytes_other h.in1 hB hg hc, bytes_other h.in2 hB hg hc, h.w1, h.w2, h.z1, h.z2, h.k1, h.k2⟩
theorem DkMap.other {w w' : World} {B mb n g : Nat} {L : Dk} (h : DkMap w B mb n L) (hB : B ≤ w.heap.size) (hg : w.grownBy w' (some g)) (hne : mb ≠ g) (hc : ∀ o x, w.cell? ⟨g, o, none⟩ ≠ some (bv x)) : DkMap w' B mb n L := by
  have hlt := h.lt
  obtain ⟨D, ⟨es, ck, hbk, h3⟩, h4⟩ := h
  exact ⟨D, ⟨es, ck, (hg.block mb hlt (by simpa using hne)).trans hbk, h3⟩, ⟨h4.no, fun k f hk => let ⟨r, h1, h2⟩ := h4.yes k f hk; ⟨r, h1, h2.other hB hg hc⟩⟩⟩
theorem DiskAt.other0 {w w' : World} {B db mb room n g : Nat} {L : Dk} (h : DiskAt w B db mb room n L) (hg : w.grownBy w' (some g)) (h1 : mb ≠ g) (h2 : db ≠ g) (hc : ∀ o x, w.cell? ⟨g, o, none⟩ ≠ some (bv x)) : DiskAt w' B db mb room n L :=
  ⟨(hg.block db (Nat.lt_of_lt_of_le h.dlt h.le) (by simpa using h2)).trans h.blk, h.map.other h.le hg h1 hc, h.dlt, h.mlt, Nat.le_trans h.le hg.size, h.ok, h.rle⟩
theorem DiskAt.other {w w' : World} {B db mb room n g : Nat} {L : Dk} (h : DiskAt w B db mb room n L) (hg : w.grownBy w' (some g)) (h1 : mb ≠ g) (h2 : db ≠ g) (hc : ∀ o x, w.cell? ⟨g, o, none⟩ ≠ some (bv x)) : DiskAt w' w'.heap.size db mb room n L :=
  DiskAt.top ⟨(hg.block db (Nat.lt_of_lt_of_le h.dlt h.le) (by simpa using h2)).trans h.blk, h.map.other h.le hg h1 hc, h.dlt, h.mlt, Nat.le_trans h.le hg.size, h.ok, h.rle⟩
theorem no_bytes_one {w : World} {g : Nat} {v : Value} {T : TypeId} {fr : Nat × Nat} (h : w.heap[g]? = some (.cells #[v] T fr)) (hv : ∀ x, v ≠ bv x) : ∀ o x, w.cell? ⟨g, o, none⟩ ≠ some (bv x) := by
  intro o x hx
  have hc := Go.Joins.cell_of_block h o
  rw [hc] at hx
  cases o with
  | zero => simp at hx; exact hv x hx
  | succ o => simp at hx
theorem grownBy_mix {a b c : World} {x y : Nat} (h1 : a.grownBy b (some x)) (h2 : b.grownBy c (some y)) (hy : a.heap.size ≤ y) : a.grownBy c (some x) :=
  ⟨h2.os.trans h1.os, h2.tape.trans h1.tape, h2.output.trans h1.output, Nat.le_trans h1.size h2.size, fun k hk hn => (h2.block k (Nat.lt_of_lt_of_le hk h1.size) (by simp; omega)).trans (h1.block k hk hn)⟩
theorem DkMap.drop {w : World} {B mb n : Nat} {L : Dk} (h : DkMap w B mb n L) (hB : B ≤ w.heap.size) (s : ByteArray) (hs : s.size ≤ maxLen) (ty : TypeId) :
    ∃ w', (Builtin.delete_ #[66, 9] ty #[.map (some mb), .string s]).run Tryz.prog w = .ok (.tuple #[]) w' ∧ DkMap w' B mb n (dDel L s.data.toList) ∧ w.grownBy w' (some mb) := by
  obtain ⟨es, ck, hbk⟩ := h.block
  obtain ⟨D, hown, hh⟩ := h
  obtain ⟨w', hrun, h1, h2⟩ := hown.drop dk_law Tryz.underlying66 (WideMaps.keyOf_string_mk Tryz.underlying9 hs) ty
  exact ⟨w', hrun, ⟨_, h1, (hh.del _).map hB h2.grown hbk⟩, h2.grown⟩
theorem results_cell_bytes {fn : Func} {p u : Tmp} (h : fn.results = #[.cell p 22, .tmp u]) (tmps : Array Value) (w : World) (g : Nat) (v x : Value)
    (hp : tmps.getD p undef = .pointer (some ⟨g, 0, none⟩)) (hv : tmps.getD u undef = x) (hk : w.cell? ⟨g, 0, none⟩ = some v) : (results fn tmps).run Tryz.prog w = .ok (.tuple #[v, x]) w := by
  have hagg : (isAgg 22).run Tryz.prog w = .ok false w := by kernel_rfl
  rw [results_cell_tmp h, hp, hv]
  simp [asAddr, loadVar, Sem.run_bind, hagg, hk, Result.andThen]
/-- A new disk. -/
theorem dnew_any (z : Int) (w : World) (room : Nat) (hz : max z 0 = room) (hr : room ≤ 1099511627776) :
    Calls Tryz.prog 6 #[.int .i64 z] w fun e w' => e = .returned (.pointer (some ⟨w.heap.size + 1, 0, none⟩)) ∧ DiskIs w' w'.heap.size (w.heap.size + 1) w.heap.size room 0 [] ∧ Below w.heap.size w w' := by
  have hmm := @run_makeMap Tryz.prog
  go_enter Tryz.func6, Tryz.ntmps6
  go_wp2_with fail
  have hb1 := (Below.refl w.heap.size w).alloc (Nat.le_refl _) (.map #[] 0)
  have hm1 := DkMap.made w w.heap.size
  have hs1 : (w.alloc (.map #[] 0)).heap.size = w.heap.size + 1 := by simp
  have hb2 := hb1.alloc hb1.size (.cells #[.int .i64 room, .map (some w.heap.size)] 68)
  have hk2 := heap_alloc_new (w.alloc (.map #[] 0)) (.cells #[.int .i64 room, .map (some w.heap.size)] 68)
  have hm2 := hm1.below ((Below.refl _ (w.alloc (.map #[] 0))).alloc (Nat.le_refl _) (.cells #[.int .i64 room, .map (some w.heap.size)] 68)) (by omega) (by omega)
  have hs2 : ((w.alloc (.map #[] 0)).alloc (.cells #[.int .i64 room, .map (some w.heap.size)] 68)).heap.size = w.heap.size + 2 := by simp
  rw [hs1] at hk2
  go_ret
  refine ⟨rfl, ⟨⟨hk2, hm2.mono (by omega) (Nat.le_refl _), by omega, by omega, Nat.le_refl _, List.nodup_nil, hr⟩, Nat.zero_le _⟩, hb2⟩
def DkRead (r : List Int × Int) (L : Dk) (db mb room n : Nat) (w : World) (e : Ending) (w' : World) : Prop :=
  ∃ a m c, e = .returned (.tuple #[.slice a m c, .int .i64 r.2]) ∧ BOwn w' w.heap.size a m c r.1 ∧ DiskIs w' w.heap.size db mb room n L ∧ w.grownBy w' (some mb)
set_option maxHeartbeats 2000000 in
theorem dread1 (r : Rv) (f : Fi) (w : World) (b B : Nat) (x : Value) (h : RvIs w w.heap.size r f) (hl : f.all.length ≤ 1099511627776) (hk : w.heap[b]? = some (.cells #[x] 22 (0, 0))) (hB : B ≤ b) (hf : RvIs w B r f) :
    Calls Tryz.prog 39 #[rvVal r, .pointer (some ⟨b, 0, none⟩)] w fun e w2 => e = .returned (.tuple #[rvVal r, .int .i64 0]) ∧ RvIs w2 B r f ∧ Below b w w2 ∧ w.heap.size ≤ w2.heap.size ∧
      ∃ a m c, w2.heap[b]? = some (.cells #[.slice a m c] 22 (0, 0)) ∧ BOwn w2 w.heap.size a m c f.all := by
  obtain ⟨a1, n1, c1, a2, n2, c2⟩ := r
  have hblt := (Array.getElem?_eq_some_iff.1 hk).1
  have hb1 := (Below.refl w.heap.size w).alloc (Nat.le_refl _) (.cells #[.slice a1 n1 c1, .slice a2 n2 c2] 70)
  have hk1 := heap_alloc_new w (.cells #[.slice a1 n1 c1, .slice a2 n2 c2] 70)
  have hs1 : (w.alloc (.cells #[.slice a1 n1 c1, .slice a2 n2 c2] 70)).heap.size = w.heap.size + 1 := by simp
  have hb21 := (Below.refl _ (w.alloc (.cells #[.slice a1 n1 c1, .slice a2 n2 c2] 70))).alloc (Nat.le_refl _) (.cells #[.slice none 0 0, .slice none 0 0] 70)
  have hb2 := hb1.alloc hb1.size (.cells #[.slice none 0 0, .slice none 0 0] 70)
  have hk2 := heap_alloc_new (w.alloc (.cells #[.slice a1 n1 c1, .slice a2 n2 c2] 70)) (.cells #[.slice none 0 0, .slice none 0 0] 70)
  have hk12 := (hb21.block w.heap.size (by omega)).trans hk1
  rw [hs1] at hk2
  have hs2 : ((w.alloc (.cells #[.slice a1 n1 c1, .slice a2 n2 c2] 70)).alloc (.cells #[.slice none 0 0, .slice none 0 0] 70)).heap.size = w.heap.size + 2 := by simp
  have hkb := (hb2.block b hblt).trans hk
  have HB2 := Lib.hid hb2
  have HK1 := Lib.hid hk12
  have HK2 := Lib.hid hk2
  have HS2 := Lib.hid hs2
  have HKB := Lib.hid hkb
  have H := Lib.hid h
  have HF := Lib.hid hf
  clear hb1 hb2 hk2 hs1 hs2 h hk1 hb21 hk12 hkb hk hf
  simp only [rvVal]
  go_enter Tryz.func39, Tryz.ntmps39
  go_wp2_with fail
  generalize (w.alloc (.cells #[.slice a1 n1 c1, .slice a2 n2 c2] 70)).alloc (.cells #[.slice none 0 0, .slice none 0 0] 70) = w2 at HB2 HK1 HK2 HS2 HKB ⊢
  refine (whole_file ⟨a1, n1, c1, a2, n2, c2⟩ f w2 w.heap.size (H.out.below HB2.out (Nat.le_refl _)) HB2.out.size hl).mono ?_
  rintro e w3 ⟨a, n, c, rfl, ho, hb3⟩
  have hsz := HS2.out
  have hk3b := (hb3.block b (by omega)).trans HKB.out
  have hk31 := (hb3.block w.heap.size (by omega)).trans HK1.out
  have hk32 := (hb3.block (w.heap.size + 1) (by omega)).trans HK2.out
  have HO := Lib.hid ho
  have HB3 := Lib.hid (HB2.out.trans (hb3.mono HB2.out.size))
  have HS3 := Lib.hid hb3.size
  have HK3B := Lib.hid hk3b
  have HK31 := Lib.hid hk31
  have HK32 := Lib.hid hk32
  have ub := Go.Joins.unfrozen_of_block hk3b 0
  have kb := Go.Joins.cell_of_block hk3b 0
  have u1 := Go.Joins.unfrozen_of_block hk32 0
  have u2 := Go.Joins.unfrozen_of_block hk32 1
  have k1 := Go.Joins.cell_of_block hk32 0
  have k2 := Go.Joins.cell_of_block hk32 1
  have p1 := Go.Joins.cell_of_block hk31 0
  have p2 := Go.Joins.cell_of_block hk31 1
  have hne1 : b ≠ w.heap.size := by omega
  have hne2 : b ≠ w.heap.size + 1 := by omega
  clear ho hb3 hk3b hk31 hk32
  go_wp2_with fail
  have hg4 := grown_set w3 ⟨b, 0, none⟩ (.slice a n c)
  have hk4 : (w3.setCell ⟨b, 0, none⟩ (.slice a n c)).heap[b]? = some (.cells #[.slice a n c] 22 (0, 0)) := by
    have h := Go.Joins.block_setCell (i := 0) HK3B.out (.slice a n c)
    simpa using h
  have hsz3 := HS3.out
  have hlt3 := (Array.getElem?_eq_some_iff.1 HK32.out).1
  have hr4 := (hg4.block (w.heap.size + 1) hlt3 (by simp; omega)).trans HK32.out
  generalize w3.setCell ⟨b, 0, none⟩ (.slice a n c) = w4 at hg4 hk4 hr4 ⊢
  have hg5 := grown_two (w := w4) (g := w.heap.size + 1) (a := .slice a1 n1 c1) (b := .slice a2 n2 c2)
  have hk5 := block_two (a := .slice a1 n1 c1) (b := .slice a2 n2 c2) hr4
  generalize (w4.setCell ⟨w.heap.size + 1, 0, none⟩ (.slice a1 n1 c1)).setCell ⟨w.heap.size + 1, 1, none⟩ (.slice a2 n2 c2) = w5 at hg5 hk5 ⊢
  have hk6 := (hg5.block b (Array.getElem?_eq_some_iff.1 hk4).1 (by simp; omega)).trans hk4
  have hsz4 := hg4.size
  have hsz5 := hg5.size
  have hb4 : Below b w w4 := (HB3.out.mono (by omega)).trans (below_at hg4 (by omega))
  have hb5 : Below b w w5 := hb4.trans ((below_at hg5 (by omega)).mono (by omega))
  have ho4 := HO.out.kept hg4 (Or.inr (fun e => by have h1 := HO.out.lt _ e; (try dsimp only at h1); omega))
  have ho5 := ho4.kept hg5 (Or.inr (fun e => by have h1 := HO.out.lt _ e; (try dsimp only at h1); omega))
  refine rows_end (r := ⟨a1, n1, c1, a2, n2, c2⟩) rfl hk5 rfl rfl ⟨rfl, HF.out.below hb5 hB, hb5, by omega, a, n, c, hk6, ho5.le (by omega)⟩
theorem read_none {w : World} {B db mb room n : Nat} {L : Dk} (h : DiskAt w B db mb room n L) (s : ByteArray) (hs : s.size ≤ maxLen) (hg : dGet L s.data.toList = none) :
    Calls Tryz.prog 10 #[.pointer (some ⟨db, 0, none⟩), .string s] w fun e w' => e = .returned (.tuple #[.slice none 0 0, .int .i64 6]) ∧ Below w.heap.size w w' := by
  have hb1 := (Below.refl w.heap.size w).alloc (Nat.le_refl _) (.cells #[.slice none 0 0] 22)
  have hk1 := heap_alloc_new w (.cells #[.slice none 0 0] 22)
  have HB1 := Lib.hid hb1
  have HK1 := Lib.hid hk1
  have hmf : ∀ (fn : Fn) (first cap : Array Value) (w : World), (Instr.makeFunc fn first cap).run Tryz.prog w = .ok (.func fn first cap) w := fun _ _ _ _ => rfl
  clear hb1 hk1
  go_enter Tryz.func10, Tryz.ntmps10
  go_wp2_with fail
  generalize w.alloc (.cells #[.slice none 0 0] 22) = w1 at HB1 HK1 ⊢
  refine (turn_none (h.top.below HB1.out (Nat.le_refl _)) s hs hg _).mono ?_
  rintro e w2 ⟨rfl, hb2⟩
  have hk2 := (hb2.block w.heap.size (Array.getElem?_eq_some_iff.1 HK1.out).1).trans HK1.out
  have hb3 := HB1.out.trans (hb2.mono HB1.out.size)
  have k0 := Go.Joins.cell_of_block hk2 0
  have u0 := Go.Joins.unfrozen_of_block hk2 0
  have HB3 := Lib.hid hb3
  have HK2 := Lib.hid hk2
  clear hk2 hb2 hb3
  go_wp2_with fail
  have hk4 := Go.Joins.block_setCell (i := 0) HK2.out (.slice none 0 0)
  have hg4 := grown_set w2 ⟨w.heap.size, 0, none⟩ (.slice none 0 0)
  exact bodyPost_ret (results_cell_bytes rfl _ _ w.heap.size _ _ rfl rfl (Go.Joins.cell_of_block hk4 0)) rfl ⟨rfl, HB3.out.grown hg4 HB3.out.size (fun k hk => by cases hk; exact Nat.le_refl _)⟩
theorem read_nil (w : World) (s : ByteArray) : Calls Tryz.prog 10 #[.pointer none, .string s] w fun e w' => e = .returned (.tuple #[.slice none 0 0, .int .i64 1]) ∧ Below w.heap.size w w' := by
  have hb1 := (Below.refl w.heap.size w).alloc (Nat.le_refl _) (.cells #[.slice none 0 0] 22)
  have hk1 := heap_alloc_new w (.cells #[.slice none 0 0] 22)
  have HB1 := Lib.hid hb1
  have HK1 := Lib.hid hk1
  have hmf : ∀ (fn : Fn) (first cap : Array Value) (w : World), (Instr.makeFunc fn first cap).run Tryz.prog w = .ok (.func fn first cap) w := fun _ _ _ _ => rfl
  clear hb1 hk1
  go_enter Tryz.func10, Tryz.ntmps10
  go_wp2_with fail
  generalize w.alloc (.cells #[.slice none 0 0] 22) = w1 at HB1 HK1 ⊢
  refine (turn_nil w1 s _).mono ?_
  rintro e w2 ⟨rfl, rfl⟩
  have k0 := Go.Joins.cell_of_block HK1.out 0
  have u0 := Go.Joins.unfrozen_of_block HK1.out 0
  go_wp2_with fail
  have hk4 := Go.Joins.block_setCell (i := 0) HK1.out (.slice none 0 0)
  have hg4 := grown_set w1 ⟨w.heap.size, 0, none⟩ (.slice none 0 0)
  exact bodyPost_ret (results_cell_bytes rfl _ _ w.heap.size _ _ rfl rfl (Go.Joins.cell_of_block hk4 0)) rfl ⟨rfl, HB1.out.grown hg4 HB1.out.size (fun k hk => by cases hk; exact Nat.le_refl _)⟩
/-- All of a file. -/
theorem read_any {w : World} {B db mb room n : Nat} {L : Dk} (h : DiskIs w B db mb room n L) (hn : n ≤ 1000000) (s : ByteArray) (hs : s.size ≤ maxLen) (r : List Int × Int) (hr : dRead L s.data.toList = r) :
    Calls Tryz.prog 10 #[.pointer (some ⟨db, 0, none⟩), .string s] w (DkRead r L db mb room (n + 1) w) := by
  subst hr
  cases hg : dGet L s.data.toList with
  | none =>
    refine (read_none h.toDiskAt s hs hg).mono ?_
    rintro e w1 ⟨rfl, hb⟩
    have hr : dRead L s.data.toList = ([], 6) := by unfold dRead; rw [hg]
    rw [hr]
    exact ⟨none, 0, 0, rfl, ⟨rfl, World.ownsRow_nil _ _ _ _⟩, (h.top.below hb (Nat.le_refl _)).more (Nat.le_succ _), below_grown hb _⟩
  | some f =>
    have hr : dRead L s.data.toList = (f.all, 0) := by unfold dRead; rw [hg]
    rw [hr]
    have hbd := bec_bounds h hg
    have hb1 := (Below.refl w.heap.size w).alloc (Nat.le_refl _) (.cells #[.slice none 0 0] 22)
    have hk1 := heap_alloc_new w (.cells #[.slice none 0 0] 22)
    have hs1 : (w.alloc (.cells #[.slice none 0 0] 22)).heap.size = w.heap.size + 1 := by simp
    have HB1 := Lib.hid hb1
    have HK1 := Lib.hid hk1
    have HS1 := Lib.hid hs1
    have H := Lib.hid h.top
    have hmf : ∀ (fn : Fn) (first cap : Array Value) (w : World), (Instr.makeFunc fn first cap).run Tryz.prog w = .ok (.func fn first cap) w := fun _ _ _ _ => rfl
    have HG := Lib.hid hg
    clear hb1 hk1 hs1 h hr hg
    go_enter Tryz.func10, Tryz.ntmps10
    go_wp2_with fail
    generalize w.alloc (.cells #[.slice none 0 0] 22) = w1 at HB1 HK1 HS1 ⊢
    refine (turn_some (H.out.toDiskAt.below HB1.out (Nat.le_refl _)) s hs f HG.out 39 (fun _ _ => by kernel_rfl) #[.pointer (some ⟨w.heap.size, 0, none⟩)] (fun f2 z L2 n2 C w2 => f2 = f ∧ z = 0 ∧ L2 = L ∧ n2 = n ∧ C = w.heap.size ∧ Below w.heap.size w w2 ∧ w1.heap.size ≤ w2.heap.size ∧
        ∃ a m c, w2.heap[w.heap.size]? = some (.cells #[.slice a m c] 22 (0, 0)) ∧ BOwn w2 w1.heap.size a m c f.all) fun r w2 hb2 hrv => ?_).mono ?_
    · have hr2 := hrv.mono (Nat.le_trans HB1.out.size hb2.size)
      refine (dread1 r f w2 w.heap.size w.heap.size (.slice none 0 0) hr2 hbd ((hb2.block _ (by have := HS1.out; omega)).trans HK1.out) (Nat.le_refl _) hrv).mono ?_
      rintro e w3 ⟨rfl, hr3, hb3, hz3, a, m, c, hk3, ho3⟩
      have hb12 := HB1.out.trans (hb2.mono HB1.out.size)
      have hb13 := hb12.trans hb3
      exact ⟨r, f, 0, L, n, _, rfl, ⟨H.out.toDiskAt.below hb13 (Nat.le_refl _), hn, hr3⟩, rfl, rfl, rfl, rfl, rfl, hb13, Nat.le_trans hb2.size hz3, a, m, c, hk3, ho3.le hb2.size⟩
    · rintro e w3 ⟨f2, z, L2, n2, C, w2, ⟨rfl, rfl, rfl, rfl, rfl, hb2, hz2, a, m, c, hk2, ho2⟩, rfl, hg3, hd⟩
      have hmb := H.out.mlt
      have hd2 : DiskIs w3 w.heap.size db mb room (n2 + 1) L2 := by
        simp only [if_pos] at hd
        exact DiskIs.congr hd H.out.ok (fun k => by rw [dGet_put]; split <;> simp_all [HG.out]) H.out.used
      have hk3 := (hg3.block w.heap.size (Array.getElem?_eq_some_iff.1 hk2).1 (by simp; omega)).trans hk2
      have ho3 := ho2.kept hg3 (Or.inr (fun e => by have h1 := ho2.lt _ e; have h2 := HB1.out.size; omega))
      have hg23 := (below_grown hb2 (some mb)).trans hg3
      have k0 := Go.Joins.cell_of_block hk3 0
      have u0 := Go.Joins.unfrozen_of_block hk3 0
      have HK3 := Lib.hid hk3
      have HD3 := Lib.hid hd2
      have HO3 := Lib.hid ho3
      have HG3 := Lib.hid hg23
      clear hk3 hd2 ho3 hg23 hd hg3 ho2 hk2 hb2
      go_wp2_with fail
      have hk4 := Go.Joins.block_setCell (i := 0) HK3.out (.slice a m c)
      have hg4 : w3.grownBy _ (some w.heap.size) := grown_set w3 ⟨w.heap.size, 0, none⟩ (.slice a m c)
      have hsz3 := HG3.out.size
      refine bodyPost_ret (results_cell_bytes rfl _ _ w.heap.size _ _ rfl rfl (Go.Joins.cell_of_block hk4 0)) rfl ⟨a, m, c, rfl, ?_, ?_, ?_⟩
      · exact (HO3.out.kept hg4 (Or.inr (fun e => by have h1 := HO3.out.lt _ e; have h2 := HB1.out.size; have h3 := HS1.out; (try dsimp only at h1); omega))).le HB1.out.size
      · exact ⟨(HD3.out.toDiskAt.other0 hg4 (by omega) (by have := H.out.dlt; omega) (no_bytes_one HK3.out (fun x h => by cases h))), HD3.out.used⟩
      · exact grownBy_mix HG3.out hg4 (Nat.le_refl _)
/-- A file taken away. -/
theorem remove1 (r : Rv) (f : Fi) (w : World) (B : Nat) (h : RvIs w B r f) (hB : B ≤ w.heap.size) :
    Calls Tryz.prog 73 #[rvVal r] w fun e w2 => e = .returned (.tuple #[rvVal r, .int .i64 0]) ∧ RvIs w2 w2.heap.size r f ∧ Below w.heap.size w w2 := by
  obtain ⟨a1, n1, c1, a2, n2, c2⟩ := r
  have hb1 := (Below.refl w.heap.size w).alloc (Nat.le_refl _) (.cells #[.slice a1 n1 c1, .slice a2 n2 c2] 70)
  have hs1 : (w.alloc (.cells #[.slice a1 n1 c1, .slice a2 n2 c2] 70)).heap.size = w.heap.size + 1 := by simp
  have hb2 := hb1.alloc hb1.size (.cells #[.slice a1 n1 c1, .slice a2 n2 c2] 70)
  have hk2 := heap_alloc_new (w.alloc (.cells #[.slice a1 n1 c1, .slice a2 n2 c2] 70)) (.cells #[.slice a1 n1 c1, .slice a2 n2 c2] 70)
  rw [hs1] at hk2
  have HB2 := Lib.hid hb2
  have HK2 := Lib.hid hk2
  have HR := Lib.hid ((h.below hb2 hB).mono (Nat.le_trans hB hb2.size))
  clear hb1 hb2 hk2 hs1 h
  simp only [rvVal]
  go_enter Tryz.func73, Tryz.ntmps73
  go_wp2_with fail
  exact rows_end (r := ⟨a1, n1, c1, a2, n2, c2⟩) rfl HK2.out rfl rfl ⟨rfl, HR.out, HB2.out⟩
theorem remove_any {w : World} {B db mb room n : Nat} {L : Dk} (h : DiskIs w B db mb room n L) (hn : n ≤ 1000000) (s : ByteArray) (hs : s.size ≤ maxLen) (r : Dk × Int) (hr : dRemove L s.data.toList = r) :
    Calls Tryz.prog 34 #[.pointer (some ⟨db, 0, none⟩), .string s] w (DkAt r db mb room (n + 1) w) := by
  subst hr
  cases hg : dGet L s.data.toList with
  | none =>
    have hr : dRemove L s.data.toList = (L, 6) := by unfold dRemove; rw [hg]
    rw [hr]
    go_enter Tryz.func34, Tryz.ntmps34
    go_wp2_with fail
    refine (turn_none h.toDiskAt s hs hg _).mono ?_
    rintro e w1 ⟨rfl, hb⟩
    go_wp2_with fail
    go_ret
    exact ⟨rfl, (h.top.below hb (Nat.le_refl _)).top.more (Nat.le_succ _), below_grown hb _⟩
  | some f =>
    have hr : dRemove L s.data.toList = (dDel L s.data.toList, 0) := by unfold dRemove; rw [hg]
    rw [hr]
    have H := Lib.hid h.top
    have HG := Lib.hid hg
    clear hr hg
    go_enter Tryz.func34, Tryz.ntmps34
    go_wp2_with fail
    refine (turn_some H.out.toDiskAt s hs f HG.out 73 (fun _ _ => by kernel_rfl) #[] (fun f2 z L2 n2 C w2 => f2 = f ∧ z = 0 ∧ L2 = L ∧ n2 = n ∧ Below w.heap.size w w2) fun r w2 hb2 hr2 => ?_).mono ?_
    · refine (remove1 r f w2 w.heap.size hr2 hb2.size).mono ?_
      rintro e w3 ⟨rfl, hr3, hb3⟩
      have hb13 := hb2.trans (hb3.mono hb2.size)
      exact ⟨r, f, 0, L, n, _, rfl, ⟨(H.out.toDiskAt.below hb13 (Nat.le_refl _)).top, hn, hr3⟩, rfl, rfl, rfl, rfl, hb13⟩
    · rintro e w3 ⟨f2, z, L2, n2, C, w2, ⟨rfl, rfl, rfl, rfl, hb2⟩, rfl, hg3, hd⟩
      simp only [if_pos] at hd
      replace hd := hd.top
      obtain ⟨d0, d1⟩ := hd.cells
      have HD := Lib.hid hd
      have HG3 := Lib.hid ((below_grown hb2 (some mb)).trans hg3)
      clear hd hg3 hb2
      obtain ⟨w4, hrun, hm4, hg4⟩ := HD.out.map.drop (Nat.le_refl _) s hs 0
      have hd4 := HD.out.stored hm4 hg4 (dDel_ok HD.out.ok _)
      clear hm4
      go_wp2_with fail
      go_ret
      have he : ∀ k, dGet (dDel L2 s.data.toList) k = dGet (dDel (dPut L2 s.data.toList f2) s.data.toList) k := fun k => by
        rw [dGet_del, dGet_del, dGet_put]
        split <;> rfl
      exact ⟨rfl, DiskIs.congr hd4 (dDel_ok H.out.ok _) he (Nat.le_trans (dUsed_del_le H.out.ok _) H.out.used), HG3.out.trans hg4⟩
end Go.Proofs.YtnhnabcpkaeaaaaGreatDoor
