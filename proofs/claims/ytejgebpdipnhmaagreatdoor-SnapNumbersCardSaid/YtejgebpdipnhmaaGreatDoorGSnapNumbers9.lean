/- A disk's methods New, Read, Remove. Conditions: the disk lies as its files say. -/
import Derived.Test.YtejgebpdipnhmaaGreatDoorGSnapNumbers8
import Derived.Test.YtejgebpdipnhmaaGreatDoorGSnapNumbers5
import Derived.Test.YtejgebpdipnhmaaGreatDoorGSnapNumbers6
import Derived.Test.YtejgebpdipnhmaaGreatDoorGSnapNumbers4
set_option linter.unusedVariables false
set_option linter.unusedSimpArgs false
namespace Go.Proofs.YtejgebpdipnhmaaGreatDoor
open Go.RowKit
set_option maxRecDepth 20000
theorem below_at {w w' : World} {b : Nat} (hg : w.grownBy w' (some b)) (hb : b ≤ w.heap.size) : Below b w w' := ⟨hg.os, hg.tape, hg.output, hg.size, fun i hi => hg.block i (by omega) (by simp; omega)⟩
/-- Bytes stay where a block without bytes is written. -/
theorem bytes_other {w w' : World} {B g : Nat} {a : Option Addr} {xs : List Int} (h : BytesIn w B a xs) (hB : B ≤ w.heap.size) (hg : w.grownBy w' (some g)) (hc : ∀ o x, w.cell? ⟨g, o, none⟩ ≠ some (bv x)) : BytesIn w' B a xs := by
  rcases h with h | ⟨b, off, h1, h2, h3⟩
  · exact Or.inl h
  · refine Or.inr ⟨b, off, h1, h2, fun i hi => ?_⟩
    have h4 := h3 i hi
    have hne : b ≠ g := by
      rintro rfl
      exact hc _ _ h4
    have hbk := hg.block b (by omega) (by simpa using hne)
    unfold World.cell? at h4 ⊢
    rw [hbk]
    exact h4
theorem RvIs.other {w w' : World} {B g : Nat} {r : Rv} {f : Fi} (h : RvIs w B r f) (hB : B ≤ w.heap.size) (hg : w.grownBy w' (some g)) (hc : ∀ o x, w.cell? ⟨g, o, none⟩ ≠ some (bv x)) : RvIs w' B r f :=
  ⟨h.n1, h.n2, bytes_other h.in1 hB hg hc, bytes_other h.in2 hB hg hc, h.w1, h.w2, h.z1, h.z2, h.k1, h.k2⟩
theorem DkMap.other {w w' : World} {B mb n g : Nat} {L : Dk} (h : DkMap w B mb n L) (hB : B ≤ w.heap.size) (hg : w.grownBy w' (some g)) (hne : mb ≠ g) (hc : ∀ o x, w.cell? ⟨g, o, none⟩ ≠ some (bv x)) : DkMap w' B mb n L := by
  have hlt := h.lt
  obtain ⟨D, ⟨es, ck, hbk, h3⟩, h4⟩ := h
  exact ⟨D, ⟨es, ck, (hg.block mb hlt (by simpa using hne)).trans hbk, h3⟩, ⟨h4.no, fun k f hk => let ⟨r, h1, h2⟩ := h4.yes k f hk; ⟨r, h1, h2.other hB hg hc⟩⟩⟩
theorem DiskAt.other0 {w w' : World} {B db mb room n g : Nat} {L : Dk} (h : DiskAt w B db mb room n L) (hg : w.grownBy w' (some g)) (h1 : mb ≠ g) (h2 : db ≠ g) (hc : ∀ o x, w.cell? ⟨g, o, none⟩ ≠ some (bv x)) : DiskAt w' B db mb room n L :=
  ⟨(hg.block db (Nat.lt_of_lt_of_le h.dlt h.le) (by simpa using h2)).trans h.blk, h.map.other h.le hg h1 hc, h.dlt, h.mlt, Nat.le_trans h.le hg.size, h.ok, h.rle⟩
theorem DiskAt.other {w w' : World} {B db mb room n g : Nat} {L : Dk} (h : DiskAt w B db mb room n L) (hg : w.grownBy w' (some g)) (h1 : mb ≠ g) (h2 : db ≠ g) (hc : ∀ o x, w.cell? ⟨g, o, none⟩ ≠ some (bv x)) : DiskAt w' w'.heap.size db mb room n L :=
  DiskAt.top ⟨(hg.block db (Nat.lt_of_lt_of_le h.dlt h.le) (by simpa using h2)).trans h.blk, h.map.other h.le hg h1 hc, h.dlt, h.mlt, Nat.le_trans h.le hg.size, h.ok, h.rle⟩
theorem no_bytes_one {w : World} {g : Nat} {v : Value} {T : TypeId} {fr : Nat × Nat} (h : w.heap[g]? = some (.cells #[v] T fr)) (hv : ∀ x, v ≠ bv x) : ∀ o x, w.cell? ⟨g, o, none⟩ ≠ some (bv x) := by
  intro o x hx
  have hc := Go.Joins.cell_of_block h o
  rw [hc] at hx
  cases o with
  | zero => simp at hx; exact hv x hx
  | succ o => simp at hx
theorem no_bytes_two {w : World} {g : Nat} {u v : Value} {T : TypeId} {fr : Nat × Nat} (h : w.heap[g]? = some (.cells #[u, v] T fr)) (hu : ∀ x, u ≠ bv x) (hv : ∀ x, v ≠ bv x) : ∀ o x, w.cell? ⟨g, o, none⟩ ≠ some (bv x) := by
  intro o x hx
  have hc := Go.Joins.cell_of_block h o
  rw [hc] at hx
  match o with
  | 0 => simp at hx; exact hu x hx
  | 1 => simp at hx; exact hv x hx
  | o + 2 => simp at hx
theorem grownBy_mix {a b c : World} {x y : Nat} (h1 : a.grownBy b (some x)) (h2 : b.grownBy c (some y)) (hy : a.heap.size ≤ y) : a.grownBy c (some x) :=
  ⟨h2.os.trans h1.os, h2.tape.trans h1.tape, h2.output.trans h1.output, Nat.le_trans h1.size h2.size, fun k hk hn => (h2.block k (Nat.lt_of_lt_of_le hk h1.size) (by simp; omega)).trans (h1.block k hk hn)⟩
theorem DkMap.drop {w : World} {B mb n : Nat} {L : Dk} (h : DkMap w B mb n L) (hB : B ≤ w.heap.size) (s : ByteArray) (hs : s.size ≤ maxLen) (ty : TypeId) :
    ∃ w', (Builtin.delete_ #[120, 9] ty #[.map (some mb), .string s]).run Tryz.prog w = .ok (.tuple #[]) w' ∧ DkMap w' B mb n (dDel L s.data.toList) ∧ w.grownBy w' (some mb) := by
  obtain ⟨es, ck, hbk⟩ := h.block
  obtain ⟨D, hown, hh⟩ := h
  obtain ⟨w', hrun, h1, h2⟩ := hown.drop dk_law Tryz.underlying120 (WideMaps.keyOf_string_mk Tryz.underlying9 hs) ty
  exact ⟨w', hrun, ⟨_, h1, (hh.del _).map hB h2.grown hbk⟩, h2.grown⟩
theorem results_cell_bytes {fn : Func} {p u : Tmp} (h : fn.results = #[.cell p 24, .tmp u]) (tmps : Array Value) (w : World) (g : Nat) (v x : Value)
    (hp : tmps.getD p undef = .pointer (some ⟨g, 0, none⟩)) (hv : tmps.getD u undef = x) (hk : w.cell? ⟨g, 0, none⟩ = some v) : (results fn tmps).run Tryz.prog w = .ok (.tuple #[v, x]) w := by
  have hagg : (isAgg 24).run Tryz.prog w = .ok false w := by kernel_rfl
  rw [results_cell_tmp h, hp, hv]
  simp [asAddr, loadVar, Sem.run_bind, hagg, hk, Result.andThen]
/-- A new disk. -/
theorem dnew_any (z : Int) (w : World) (room : Nat) (hz : max z 0 = room) (hr : room ≤ 1099511627776) :
    Calls Tryz.prog 27 #[.int .i64 z] w fun e w' => e = .returned (.pointer (some ⟨w.heap.size + 1, 0, none⟩)) ∧ DiskIs w' w'.heap.size (w.heap.size + 1) w.heap.size room 0 [] ∧ Below w.heap.size w w' := by
  have hmm := @run_makeMap Tryz.prog
  go_enter Tryz.func27, Tryz.ntmps27
  go_wp2_with fail
  have hb1 := (Below.refl w.heap.size w).alloc (Nat.le_refl _) (.map #[] 0)
  have hm1 := DkMap.made w w.heap.size
  have hs1 : (w.alloc (.map #[] 0)).heap.size = w.heap.size + 1 := by simp
  have hb2 := hb1.alloc hb1.size (.cells #[.int .i64 room, .map (some w.heap.size)] 122)
  have hk2 := heap_alloc_new (w.alloc (.map #[] 0)) (.cells #[.int .i64 room, .map (some w.heap.size)] 122)
  have hm2 := hm1.below ((Below.refl _ (w.alloc (.map #[] 0))).alloc (Nat.le_refl _) (.cells #[.int .i64 room, .map (some w.heap.size)] 122)) (by omega) (by omega)
  have hs2 : ((w.alloc (.map #[] 0)).alloc (.cells #[.int .i64 room, .map (some w.heap.size)] 122)).heap.size = w.heap.size + 2 := by simp
  rw [hs1] at hk2
  go_ret
  refine ⟨rfl, ⟨⟨hk2, hm2.mono (by omega) (Nat.le_refl _), by omega, by omega, Nat.le_refl _, List.nodup_nil, hr⟩, Nat.zero_le _⟩, hb2⟩
def DkRead (r : List Int × Int) (L : Dk) (db mb room n : Nat) (w : World) (e : Ending) (w' : World) : Prop :=
  ∃ a m c, e = .returned (.tuple #[.slice a m c, .int .i64 r.2]) ∧ BOwn w' w.heap.size a m c r.1 ∧ DiskIs w' w.heap.size db mb room n L ∧ w.grownBy w' (some mb)
set_option maxHeartbeats 2000000 in
theorem dread1 (r : Rv) (f : Fi) (w : World) (b B : Nat) (x : Value) (h : RvIs w w.heap.size r f) (hl : f.all.length ≤ 1099511627776) (hk : w.heap[b]? = some (.cells #[x] 24 (0, 0))) (hB : B ≤ b) (hf : RvIs w B r f) :
    Calls Tryz.prog 77 #[rvVal r, .pointer (some ⟨b, 0, none⟩)] w fun e w2 => e = .returned (.tuple #[rvVal r, .int .i64 0]) ∧ RvIs w2 B r f ∧ Below b w w2 ∧ w.heap.size ≤ w2.heap.size ∧
      ∃ a m c, w2.heap[b]? = some (.cells #[.slice a m c] 24 (0, 0)) ∧ BOwn w2 w.heap.size a m c f.all := by
  obtain ⟨a1, n1, c1, a2, n2, c2⟩ := r
  have hblt := (Array.getElem?_eq_some_iff.1 hk).1
  have hb1 := (Below.refl w.heap.size w).alloc (Nat.le_refl _) (.cells #[.slice a1 n1 c1, .slice a2 n2 c2] 125)
  have hk1 := heap_alloc_new w (.cells #[.slice a1 n1 c1, .slice a2 n2 c2] 125)
  have hs1 : (w.alloc (.cells #[.slice a1 n1 c1, .slice a2 n2 c2] 125)).heap.size = w.heap.size + 1 := by simp
  have hb21 := (Below.refl _ (w.alloc (.cells #[.slice a1 n1 c1, .slice a2 n2 c2] 125))).alloc (Nat.le_refl _) (.cells #[.slice none 0 0, .slice none 0 0] 125)
  have hb2 := hb1.alloc hb1.size (.cells #[.slice none 0 0, .slice none 0 0] 125)
  have hk2 := heap_alloc_new (w.alloc (.cells #[.slice a1 n1 c1, .slice a2 n2 c2] 125)) (.cells #[.slice none 0 0, .slice none 0 0] 125)
  have hk12 := (hb21.block w.heap.size (by omega)).trans hk1
  rw [hs1] at hk2
  have hs2 : ((w.alloc (.cells #[.slice a1 n1 c1, .slice a2 n2 c2] 125)).alloc (.cells #[.slice none 0 0, .slice none 0 0] 125)).heap.size = w.heap.size + 2 := by simp
  have hkb := (hb2.block b hblt).trans hk
  have HB2 := Lib.hid hb2
  have HK1 := Lib.hid hk12
  have HK2 := Lib.hid hk2
  have HS2 := Lib.hid hs2
  have HKB := Lib.hid hkb
  have H := Lib.hid h
  have HF := Lib.hid hf
  clear hb1 hb2 hk2 hs1 hs2 h hk1 hb21 hk12 hkb hk hf
  simp only [rvVal]
  go_enter Tryz.func77, Tryz.ntmps77
  go_wp2_with fail
  generalize (w.alloc (.cells #[.slice a1 n1 c1, .slice a2 n2 c2] 125)).alloc (.cells #[.slice none 0 0, .slice none 0 0] 125) = w2 at HB2 HK1 HK2 HS2 HKB ⊢
  refine (whole_file ⟨a1, n1, c1, a2, n2, c2⟩ f w2 w.heap.size (H.out.below HB2.out (Nat.le_refl _)) HB2.out.size hl).mono ?_
  rintro e w3 ⟨a, n, c, rfl, ho, hb3⟩
  have hsz := HS2.out
  have hk3b := (hb3.block b (by omega)).trans HKB.out
  have hk31 := (hb3.block w.heap.size (by omega)).trans HK1.out
  have hk32 := (hb3.block (w.heap.size + 1) (by omega)).trans HK2.out
  have HO := Lib.hid ho
  have HB3 := Lib.hid (HB2.out.trans (hb3.mono HB2.out.size))
  have HS3 := Lib.hid hb3.size
  have HK3B := Lib.hid hk3b
  have HK31 := Lib.hid hk31
  have HK32 := Lib.hid hk32
  have ub := Go.Joins.unfrozen_of_block hk3b 0
  have kb := Go.Joins.cell_of_block hk3b 0
  have u1 := Go.Joins.unfrozen_of_block hk32 0
  have u2 := Go.Joins.unfrozen_of_block hk32 1
  have k1 := Go.Joins.cell_of_block hk32 0
  have k2 := Go.Joins.cell_of_block hk32 1
  have p1 := Go.Joins.cell_of_block hk31 0
  have p2 := Go.Joins.cell_of_block hk31 1
  have hne1 : b ≠ w.heap.size := by omega
  have hne2 : b ≠ w.heap.size + 1 := by omega
  clear ho hb3 hk3b hk31 hk32
  go_wp2_with fail
  have hg4 := grown_set w3 ⟨b, 0, none⟩ (.slice a n c)
  have hk4 : (w3.setCell ⟨b, 0, none⟩ (.slice a n c)).heap[b]? = some (.cells #[.slice a n c] 24 (0, 0)) := by
    have h := Go.Joins.block_setCell (i := 0) HK3B.out (.slice a n c)
    simpa using h
  have hsz3 := HS3.out
  have hlt3 := (Array.getElem?_eq_some_iff.1 HK32.out).1
  have hr4 := (hg4.block (w.heap.size + 1) hlt3 (by simp; omega)).trans HK32.out
  generalize w3.setCell ⟨b, 0, none⟩ (.slice a n c) = w4 at hg4 hk4 hr4 ⊢
  have hg5 := grown_two (w := w4) (g := w.heap.size + 1) (a := .slice a1 n1 c1) (b := .slice a2 n2 c2)
  have hk5 := block_two (a := .slice a1 n1 c1) (b := .slice a2 n2 c2) hr4
  generalize (w4.setCell ⟨w.heap.size + 1, 0, none⟩ (.slice a1 n1 c1)).setCell ⟨w.heap.size + 1, 1, none⟩ (.slice a2 n2 c2) = w5 at hg5 hk5 ⊢
  have hk6 := (hg5.block b (Array.getElem?_eq_some_iff.1 hk4).1 (by simp; omega)).trans hk4
  have hsz4 := hg4.size
  have hsz5 := hg5.size
  have hb4 : Below b w w4 := (HB3.out.mono (by omega)).trans (below_at hg4 (by omega))
  have hb5 : Below b w w5 := hb4.trans ((below_at hg5 (by omega)).mono (by omega))
  have ho4 := HO.out.kept hg4 (Or.inr (fun e => by have h1 := HO.out.lt _ e; (try dsimp only at h1); omega))
  have ho5 := ho4.kept hg5 (Or.inr (fun e => by have h1 := HO.out.lt _ e; (try dsimp only at h1); omega))
  refine rows_end (r := ⟨a1, n1, c1, a2, n2, c2⟩) rfl hk5 rfl rfl ⟨rfl, HF.out.below hb5 hB, hb5, by omega, a, n, c, hk6, ho5.le (by omega)⟩
theorem read_none {w : World} {B db mb room n : Nat} {L : Dk} (h : DiskAt w B db mb room n L) (s : ByteArray) (hs : s.size ≤ maxLen) (hg : dGet L s.data.toList = none) :
    Calls Tryz.prog 39 #[.pointer (some ⟨db, 0, none⟩), .string s] w fun e w' => e = .returned (.tuple #[.slice none 0 0, .int .i64 6]) ∧ Below w.heap.size w w' := by
  have hb1 := (Below.refl w.heap.size w).alloc (Nat.le_refl _) (.cells #[.slice none 0 0] 24)
  have hk1 := heap_alloc_new w (.cells #[.slice none 0 0] 24)
  have HB1 := Lib.hid hb1
  have HK1 := Lib.hid hk1
  have hmf : ∀ (fn : Fn) (first cap : Array Value) (w : World), (Instr.makeFunc fn first cap).run Tryz.prog w = .ok (.func fn first cap) w := fun _ _ _ _ => rfl
  clear hb1 hk1
  go_enter Tryz.func39, Tryz.ntmps39
  go_wp2_with fail
  generalize w.alloc (.cells #[.slice none 0 0] 24) = w1 at HB1 HK1 ⊢
  refine (turn_none (h.top.below HB1.out (Nat.le_refl _)) s hs hg _).mono ?_
  rintro e w2 ⟨rfl, hb2⟩
  have hk2 := (hb2.block w.heap.size (Array.getElem?_eq_some_iff.1 HK1.out).1).trans HK1.out
  have hb3 := HB1.out.trans (hb2.mono HB1.out.size)
  have k0 := Go.Joins.cell_of_block hk2 0
  have u0 := Go.Joins.unfrozen_of_block hk2 0
  have HB3 := Lib.hid hb3
  have HK2 := Lib.hid hk2
  clear hk2 hb2 hb3
  go_wp2_with fail
  have hk4 := Go.Joins.block_setCell (i := 0) HK2.out (.slice none 0 0)
  have hg4 := grown_set w2 ⟨w.heap.size, 0, none⟩ (.slice none 0 0)
  exact bodyPost_ret (results_cell_bytes rfl _ _ w.heap.size _ _ rfl rfl (Go.Joins.cell_of_block hk4 0)) rfl ⟨rfl, HB3.out.grown hg4 HB3.out.size (fun k hk => by cases hk; exact Nat.le_refl _)⟩
/-- All of a file. -/
theorem read_any {w : World} {B db mb room n : Nat} {L : Dk} (h : DiskIs w B db mb room n L) (hn : n ≤ 1000000) (s : ByteArray) (hs : s.size ≤ maxLen) (r : List Int × Int) (hr : dRead L s.data.toList = r) :
    Calls Tryz.prog 39 #[.pointer (some ⟨db, 0, none⟩), .string s] w (DkRead r L db mb room (n + 1) w) := by
  subst hr
  cases hg : dGet L s.data.toList with
  | none =>
    refine (read_none h.toDiskAt s hs hg).mono ?_
    rintro e w1 ⟨rfl, hb⟩
    have hr : dRead L s.data.toList = ([], 6) := by unfold dRead; rw [hg]
    rw [hr]
    exact ⟨none, 0, 0, rfl, ⟨rfl, World.ownsRow_nil _ _ _ _⟩, (h.top.below hb (Nat.le_refl _)).more (Nat.le_succ _), below_grown hb _⟩
  | some f =>
    have hr : dRead L s.data.toList = (f.all, 0) := by unfold dRead; rw [hg]
    rw [hr]
    have hbd := bec_bounds h hg
    have hb1 := (Below.refl w.heap.size w).alloc (Nat.le_refl _) (.cells #[.slice none 0 0] 24)
    have hk1 := heap_alloc_new w (.cells #[.slice none 0 0] 24)
    have hs1 : (w.alloc (.cells #[.slice none 0 0] 24)).heap.size = w.heap.size + 1 := by simp
    have HB1 := Lib.hid hb1
    have HK1 := Lib.hid hk1
    have HS1 := Lib.hid hs1
    have H := Lib.hid h.top
    have hmf : ∀ (fn : Fn) (first cap : Array Value) (w : World), (Instr.makeFunc fn first cap).run Tryz.prog w = .ok (.func fn first cap) w := fun _ _ _ _ => rfl
    have HG := Lib.hid hg
    clear hb1 hk1 hs1 h hr hg
    go_enter Tryz.func39, Tryz.ntmps39
    go_wp2_with fail
    generalize w.alloc (.cells #[.slice none 0 0] 24) = w1 at HB1 HK1 HS1 ⊢
    refine (turn_some (H.out.toDiskAt.below HB1.out (Nat.le_refl _)) s hs f HG.out 77 (fun _ _ => by kernel_rfl) #[.pointer (some ⟨w.heap.size, 0, none⟩)] (fun f2 z L2 n2 C w2 => f2 = f ∧ z = 0 ∧ L2 = L ∧ n2 = n ∧ C = w.heap.size ∧ Below w.heap.size w w2 ∧ w1.heap.size ≤ w2.heap.size ∧
        ∃ a m c, w2.heap[w.heap.size]? = some (.cells #[.slice a m c] 24 (0, 0)) ∧ BOwn w2 w1.heap.size a m c f.all) fun r w2 hb2 hrv => ?_).mono ?_
    · have hr2 := hrv.mono (Nat.le_trans HB1.out.size hb2.size)
      refine (dread1 r f w2 w.heap.size w.heap.size (.slice none 0 0) hr2 hbd ((hb2.block _ (by have := HS1.out; omega)).trans HK1.out) (Nat.le_refl _) hrv).mono ?_
      rintro e w3 ⟨rfl, hr3, hb3, hz3, a, m, c, hk3, ho3⟩
      have hb12 := HB1.out.trans (hb2.mono HB1.out.size)
      have hb13 := hb12.trans hb3
      exact ⟨r, f, 0, L, n, _, rfl, ⟨H.out.toDiskAt.below hb13 (Nat.le_refl _), hn, hr3⟩, rfl, rfl, rfl, rfl, rfl, hb13, Nat.le_trans hb2.size hz3, a, m, c, hk3, ho3.le hb2.size⟩
    · rintro e w3 ⟨f2, z, L2, n2, C, w2, ⟨rfl, rfl, rfl, rfl, rfl, hb2, hz2, a, m, c, hk2, ho2⟩, rfl, hg3, hd⟩
      have hmb := H.out.mlt
      have hd2 : DiskIs w3 w.heap.size db mb room (n2 + 1) L2 := by
        simp only [if_pos] at hd
        exact DiskIs.congr hd H.out.ok (fun k => by rw [dGet_put]; split <;> simp_all [HG.out]) H.out.used
      have hk3 := (hg3.block w.heap.size (Array.getElem?_eq_some_iff.1 hk2).1 (by simp; omega)).trans hk2
      have ho3 := ho2.kept hg3 (Or.inr (fun e => by have h1 := ho2.lt _ e; have h2 := HB1.out.size; omega))
      have hg23 := (below_grown hb2 (some mb)).trans hg3
      have k0 := Go.Joins.cell_of_block hk3 0
      have u0 := Go.Joins.unfrozen_of_block hk3 0
      have HK3 := Lib.hid hk3
      have HD3 := Lib.hid hd2
      have HO3 := Lib.hid ho3
      have HG3 := Lib.hid hg23
      clear hk3 hd2 ho3 hg23 hd hg3 ho2 hk2 hb2
      go_wp2_with fail
      have hk4 := Go.Joins.block_setCell (i := 0) HK3.out (.slice a m c)
      have hg4 : w3.grownBy _ (some w.heap.size) := grown_set w3 ⟨w.heap.size, 0, none⟩ (.slice a m c)
      have hsz3 := HG3.out.size
      refine bodyPost_ret (results_cell_bytes rfl _ _ w.heap.size _ _ rfl rfl (Go.Joins.cell_of_block hk4 0)) rfl ⟨a, m, c, rfl, ?_, ?_, ?_⟩
      · exact (HO3.out.kept hg4 (Or.inr (fun e => by have h1 := HO3.out.lt _ e; have h2 := HB1.out.size; have h3 := HS1.out; (try dsimp only at h1); omega))).le HB1.out.size
      · exact ⟨(HD3.out.toDiskAt.other0 hg4 (by omega) (by have := H.out.dlt; omega) (no_bytes_one HK3.out (fun x h => by cases h))), HD3.out.used⟩
      · exact grownBy_mix HG3.out hg4 (Nat.le_refl _)
/-- A file taken away. -/
theorem remove1 (r : Rv) (f : Fi) (w : World) (B : Nat) (h : RvIs w B r f) (hB : B ≤ w.heap.size) :
    Calls Tryz.prog 125 #[rvVal r] w fun e w2 => e = .returned (.tuple #[rvVal r, .int .i64 0]) ∧ RvIs w2 w2.heap.size r f ∧ Below w.heap.size w w2 := by
  obtain ⟨a1, n1, c1, a2, n2, c2⟩ := r
  have hb1 := (Below.refl w.heap.size w).alloc (Nat.le_refl _) (.cells #[.slice a1 n1 c1, .slice a2 n2 c2] 125)
  have hs1 : (w.alloc (.cells #[.slice a1 n1 c1, .slice a2 n2 c2] 125)).heap.size = w.heap.size + 1 := by simp
  have hb2 := hb1.alloc hb1.size (.cells #[.slice a1 n1 c1, .slice a2 n2 c2] 125)
  have hk2 := heap_alloc_new (w.alloc (.cells #[.slice a1 n1 c1, .slice a2 n2 c2] 125)) (.cells #[.slice a1 n1 c1, .slice a2 n2 c2] 125)
  rw [hs1] at hk2
  have HB2 := Lib.hid hb2
  have HK2 := Lib.hid hk2
  have HR := Lib.hid ((h.below hb2 hB).mono (Nat.le_trans hB hb2.size))
  clear hb1 hb2 hk2 hs1 h
  simp only [rvVal]
  go_enter Tryz.func125, Tryz.ntmps125
  go_wp2_with fail
  exact rows_end (r := ⟨a1, n1, c1, a2, n2, c2⟩) rfl HK2.out rfl rfl ⟨rfl, HR.out, HB2.out⟩
theorem remove_any {w : World} {B db mb room n : Nat} {L : Dk} (h : DiskIs w B db mb room n L) (hn : n ≤ 1000000) (s : ByteArray) (hs : s.size ≤ maxLen) (r : Dk × Int) (hr : dRemove L s.data.toList = r) :
    Calls Tryz.prog 70 #[.pointer (some ⟨db, 0, none⟩), .string s] w (DkAt r db mb room (n + 1) w) := by
  subst hr
  cases hg : dGet L s.data.toList with
  | none =>
    have hr : dRemove L s.data.toList = (L, 6) := by unfold dRemove; rw [hg]
    rw [hr]
    go_enter Tryz.func70, Tryz.ntmps70
    go_wp2_with fail
    refine (turn_none h.toDiskAt s hs hg _).mono ?_
    rintro e w1 ⟨rfl, hb⟩
    go_wp2_with fail
    go_ret
    exact ⟨rfl, (h.top.below hb (Nat.le_refl _)).top.more (Nat.le_succ _), below_grown hb _⟩
  | some f =>
    have hr : dRemove L s.data.toList = (dDel L s.data.toList, 0) := by unfold dRemove; rw [hg]
    rw [hr]
    have H := Lib.hid h.top
    have HG := Lib.hid hg
    clear hr hg
    go_enter Tryz.func70, Tryz.ntmps70
    go_wp2_with fail
    refine (turn_some H.out.toDiskAt s hs f HG.out 125 (fun _ _ => by kernel_rfl) #[] (fun f2 z L2 n2 C w2 => f2 = f ∧ z = 0 ∧ L2 = L ∧ n2 = n ∧ Below w.heap.size w w2) fun r w2 hb2 hr2 => ?_).mono ?_
    · refine (remove1 r f w2 w.heap.size hr2 hb2.size).mono ?_
      rintro e w3 ⟨rfl, hr3, hb3⟩
      have hb13 := hb2.trans (hb3.mono hb2.size)
      exact ⟨r, f, 0, L, n, _, rfl, ⟨(H.out.toDiskAt.below hb13 (Nat.le_refl _)).top, hn, hr3⟩, rfl, rfl, rfl, rfl, hb13⟩
    · rintro e w3 ⟨f2, z, L2, n2, C, w2, ⟨rfl, rfl, rfl, rfl, hb2⟩, rfl, hg3, hd⟩
      simp only [if_pos] at hd
      replace hd := hd.top
      obtain ⟨d0, d1⟩ := hd.cells
      have HD := Lib.hid hd
      have HG3 := Lib.hid ((below_grown hb2 (some mb)).trans hg3)
      clear hd hg3 hb2
      obtain ⟨w4, hrun, hm4, hg4⟩ := HD.out.map.drop (Nat.le_refl _) s hs 0
      have hd4 := HD.out.stored hm4 hg4 (dDel_ok HD.out.ok _)
      clear hm4
      go_wp2_with fail
      go_ret
      have he : ∀ k, dGet (dDel L2 s.data.toList) k = dGet (dDel (dPut L2 s.data.toList f2) s.data.toList) k := fun k => by
        rw [dGet_del, dGet_del, dGet_put]
        split <;> rfl
      exact ⟨rfl, DiskIs.congr hd4 (dDel_ok H.out.ok _) he (Nat.le_trans (dUsed_del_le H.out.ok _) H.out.used), HG3.out.trans hg4⟩
end Go.Proofs.YtejgebpdipnhmaaGreatDoor
/- A snap's reading: what is used on the way. Conditions: as each says. -/
namespace Go.Proofs.YtejgebpdipnhmaaGreatDoor
open Go.RowKit
set_option maxRecDepth 20000
theorem soper_append_int {w : World} {o : Oper} {a : Act} {K : Act → World → Prop} {Q : Exit → Act → World → Prop} (s x : Operand)
    (ho : o.op = .call { callee := .builtin .append, args := #[s, x], argTypes := #[22, 22] })
    (base : Nat) {a1 : Option Addr} {n1 c1 : Nat} {l : List Int} (hs : a.eval s = .slice a1 n1 c1) (hown : IntsOwn w base a1 n1 c1 l)
    (g : Nat) (v : Int) (hk : w.heap[g]? = some (.cells #[.int .i64 v] 3 (0, 0))) (hx : a.eval x = .slice (some ⟨g, 0, none⟩) 1 1) (hlim : n1 + 1 ≤ 1099511627776) (hbase : base ≤ w.heap.size)
    (h : ∀ a2 c2 w', IntsOwn w' base a2 (n1 + 1) c2 (l ++ [v]) → w.grownBy w' (Value.slice a1 n1 c1).ownBlock → K (a.put o.dst (.slice a2 (n1 + 1) c2)) w') : Oper.wp Tryz.prog o a w K Q := by
  obtain ⟨i0, hi, hz0, hz1, hz2⟩ := info_parts infoI
  have hadd : ∀ j, (⟨g, 0, none⟩ : Addr).add j = ⟨g, j, none⟩ := fun j => by unfold Addr.add; split <;> simp_all
  obtain ⟨v', w', hr, h2, h3, _⟩ := run_append_own_at (P := Tryz.prog) w base 22 o.type 3 i0 (.int .i64 0) 1 8 Tryz.underlying22 hi hz0 hz1 hz2 rfl (by decide) _ n1 (l.flatMap iCells) hown ⟨g, 0, none⟩ 1 1 [.int .i64 v] rfl (fun j u hu => by
    rw [hadd, Go.Joins.cell_of_block hk j]
    simpa using hu) (by simp [Value.oneCell']) (by unfold maxLen; omega) (by omega) hbase
  unfold Oper.wp execOp
  simp only [ho, resolve, invoke, builtin, Sem.run_bind, Sem.run_pure, Result.andThen_ok, List.map_toArray, List.map_cons, List.map_nil, hs, hx, hr]
  obtain ⟨a2, c2, rfl⟩ := row_slice h2
  refine h a2 c2 w' ?_ h3
  unfold IntsOwn
  rw [List.flatMap_append]
  exact h2
theorem snumber_any (M rb : Nat) (bad : Bool) (left : List Int) (v : Int) (b2 : Bool) (l2 : List Int) (w : World) (hs : numS bad left = (v, b2, l2)) (h : Rdr w M rb bad left) (hw : BytesWf left) (hl : left.length ≤ 140737488351232) :
    Calls Tryz.prog 32 #[.agg #[.pointer (some ⟨rb, 0, none⟩)]] w (SaidAt M rb v b2 l2 w) := by
  have hba := (Below.refl w.heap.size w).alloc (Nat.le_refl _) (.cells #[.pointer (some ⟨rb, 0, none⟩)] 62)
  have H := Lib.hid (h.below hba)
  have HB := Lib.hid (Only.of_below (rb := rb) hba)
  have HS := Lib.hid hs
  have HW := Lib.hid hw
  clear h hs hw hba
  go_enter Tryz.func32, Tryz.ntmps32
  go_wp2_with fail
  refine (number_at M rb bad left v b2 l2 _ HS.out H.out HW.out hl).mono ?_
  rintro e w1 ⟨rfl, h1, h2⟩
  have H1 := Lib.hid h1
  have H2 := Lib.hid h2
  clear h1 h2
  go_wp2_with fail
  go_ret
  exact ⟨rfl, H1.out, HB.out.trans H2.out⟩
theorem scan_by (ao : Option Addr) (n cap : Nat) (xs : List Int) (r : List (Int × List Int)) (used : Nat) (s : Bool) (w : World) (hn : xs.length = n) (hr : scanS xs = (r, used, s)) (hx : BytesIn w w.heap.size ao xs) (hw : BytesWf xs) (hao : ao = none → cap = 0) (hcap : n ≤ cap) (hl : n ≤ 1099511627776) :
    Calls Tryz.prog 30 #[.slice ao n cap] w fun e w' => ∃ a c frs, e = .returned (.tuple #[.slice a r.length c, .int .i64 used, .bool s]) ∧ frs.map Fr.pair = r ∧ FramesIn w' w'.heap.size a frs ∧ (∀ f ∈ frs, f.data.length ≤ f.cap ∧ (f.ao = none → f.cap = 0)) ∧ Below w.heap.size w w' := by
  refine (scan_at ao n cap xs r used s w w.heap.size hn hr hx (Nat.le_refl _) hw hao hcap hl).mono ?_
  rintro e w' ⟨v, frs, rfl, h1, h2, h3⟩
  obtain ⟨a, c, rfl, _, _, h5⟩ := h2.lie
  refine ⟨a, c, frs, by rw [← h1, List.length_map], h1, h5, fun f hf => ?_, h3⟩
  have h := h2.2.1 f hf
  obtain ⟨a', c', he, _⟩ := own_bytes h
  have hc := own_cap h
  refine ⟨by simpa using hc, fun h0 => ?_⟩
  rcases Go.Joins.ownsRow_forms h with ⟨h6, _⟩ | ⟨g, c2, h6⟩
  · injection h6
  · injection h6 with e1; rw [h0] at e1; cases e1
/-- What is got of what was scanned. -/
def snBy (b : List Int) (n : Nat) (ps : List (Int × List Int)) (used : Nat) : SnP × Int := match ps with
  | [p] => if used ≠ n then (zeroSn, 4) else snRead b p.2
  | _ => (zeroSn, 4)
theorem snGet_by {b : List Int} {n : Nat} {ps : List (Int × List Int)} {used : Nat} {sp : Bool} (hn : b.length = n) (h : scanS b = (ps, used, sp)) : snGet b = snBy b n ps used := by
  subst hn
  unfold snGet snBy
  rw [h]
  match ps with
  | [] => rfl
  | [p] => rfl
  | p :: q :: l => rfl
theorem snBy_no {b : List Int} {n : Nat} {ps : List (Int × List Int)} {used : Nat} (h : ¬ ps.length = 1) : snBy b n ps used = (zeroSn, 4) := by
  match ps, h with
  | [], _ => rfl
  | [p], h => exact absurd rfl h
  | p :: q :: l, _ => rfl
theorem snBy_used {b : List Int} {n : Nat} {p : Int × List Int} {used : Nat} (h : ¬ used = n) : snBy b n [p] used = (zeroSn, 4) := if_pos h
theorem snBy_one {b : List Int} {n : Nat} {p : Int × List Int} : snBy b n [p] n = snRead b p.2 := if_neg (fun h => h rfl)
theorem snRead_by {b d li lt ln : List Int} {ni nt nn : Int} {bi bt bn : Bool} (h0 : numS false d = (ni, bi, li)) (h1 : numS bi li = (nt, bt, lt)) (h2 : numS bt lt = (nn, bn, ln)) :
    snRead b d = if nn < 0 ∨ 7 < nn then (zeroSn, 4) else if (numsS nn.toNat bn ln).2.1 = true then (zeroSn, 4) else sureS b ⟨ni, nt, (numsS nn.toNat bn ln).1, d.drop (24 + 8 * nn.toNat)⟩ := by
  unfold snRead
  rw [h0]
  dsimp only
  rw [h1]
  dsimp only
  rw [h2]
theorem numS_N64 (b : Bool) (l : List Int) : N64 (numS b l).1 := by
  unfold numS
  dsimp only
  rw [IntKind.wrap_i64]
  unfold N64
  omega
theorem numsS_N64 : ∀ (n : Nat) (b : Bool) (l : List Int), ∀ v ∈ (numsS n b l).1, N64 v := by
  intro n
  induction n with
  | zero => intro b l v hv; cases hv
  | succ n ih =>
    intro b l v hv
    unfold numsS at hv
    rcases List.mem_cons.1 hv with rfl | hv
    · exact numS_N64 _ _
    · exact ih _ _ v hv
/-- What was read before the image, if it was. -/
theorem head_len {d li lt ln : List Int} {ni nt nn : Int} {bi bt bn : Bool} (h0 : numS false d = (ni, bi, li)) (h1 : numS bi li = (nt, bt, lt)) (h2 : numS bt lt = (nn, bn, ln)) (n : Nat) (h : (numsS n bn ln).2.1 = false) : 24 + 8 * n ≤ d.length ∧ (numsS n bn ln).1.length = n := by
  have g3 := numsS_rest n bn ln h
  have e2 : (numS bt lt).2.1 = false := by rw [h2]; exact g3.1
  have g2 := numS_rest e2
  have e1 : (numS bi li).2.1 = false := by rw [h1]; exact g2.1
  have g1 := numS_rest e1
  have e0 : (numS false d).2.1 = false := by rw [h0]; exact g1.1
  have g0 := numS_rest e0
  rw [h0] at g0
  rw [h1] at g1
  rw [h2] at g2
  have l0 := congrArg List.length g0.2.1
  have l1 := congrArg List.length g1.2.1
  have l2 := congrArg List.length g2.2.1
  rw [List.length_drop] at l0 l1 l2
  have a3 := g3.2.2.1
  have a0 := g0.2.2
  have a1 := g1.2.2
  have a2 := g2.2.2
  dsimp only at l0 l1 l2
  exact ⟨by omega, g3.2.2.2⟩
theorem rdr_grown {w w' : World} {M rb B : Nat} {bad : Bool} {left : List Int} (h : Rdr w M rb bad left) (hb : Below B w w') (hr : rb < B) (hM : M ≤ B) : Rdr w' M rb bad left := by
  obtain ⟨a, c, h⟩ := h
  refine ⟨a, c, ⟨(hb.block rb hr).trans h.blk, ?_, h.cap, h.nil, Nat.le_trans h.le hb.size⟩⟩
  rcases h.off with h0 | ⟨b, off, h1, h2, h3, h4⟩
  · exact Or.inl h0
  · exact Or.inr ⟨b, off, h1, h2, h3, fun i hi => (hb.cell (p := ⟨b, off + i, none⟩) (Nat.lt_of_lt_of_le h2 hM)).trans (h4 i hi)⟩
theorem sput_at (x : Sn) (n m : Nat) (hn : x.vs.length = n) (hm : x.im.length = m) (w : World) (hx : snSub w w.heap.size x) (hf : SnFine x) (r : List Int × Int) (hr : snPut x.plain = r) :
    Calls Tryz.prog 5 #[.agg #[.int .i64 x.index, .int .i64 x.term, .slice x.va n x.vc, .slice x.ia m x.ic]] w (BytesE r w) := by
  subst hn hm
  exact sput_any x w hx hf r hr
theorem sure_yes {b : List Int} {s : SnP} (h : snPut s = (b, 0)) : sureS b s = (s, 0) := by
  unfold sureS
  rw [h, if_pos ⟨rfl, rfl⟩]
theorem ints_in {w : World} {base n c : Nat} {a : Option Addr} {l : List Int} (hn : l.length = n) (h : IntsOwn w base a n c l) : NumsIn w w.heap.size a l := by
  obtain ⟨a2, c2, he, h2, _⟩ := own_rows (sub := noSub) (B := w.heap.size) iCells_len hn h (fun _ _ => trivial) (Nat.le_refl _)
  injection he with e1 e2 e3
  subst e1
  exact h2
theorem ints_nil {w : World} {base n c : Nat} {a : Option Addr} {l : List Int} (h : IntsOwn w base a n c l) : (a = none → c = 0) ∧ n ≤ c := by
  refine ⟨fun h0 => ?_, own_cap h⟩
  rcases Go.Joins.ownsRow_forms h with ⟨h1, _⟩ | ⟨g, c', h1⟩
  · injection h1
  · rw [h0] at h1; cases h1
/-- A snap of a call's own. -/
def OwnSn (w : World) (base : Nat) (x : Sn) : Prop := IntsOwn w base x.va x.vs.length x.vc x.vs ∧ BOwn w base x.ia x.im.length x.ic x.im
theorem OwnSn.zero (w : World) (base : Nat) : OwnSn w base zeroSx := ⟨IntsOwn.nil _ _, ⟨rfl, World.ownsRow_nil _ _ _ _⟩⟩
theorem zeroSx_fine : SnFine zeroSx := by constructor <;> simp [zeroSx, N64, BytesWf]
def SGetAt (r : SnP × Int) (w : World) (e : Ending) (w' : World) : Prop :=
  ∃ x : Sn, e = .returned (.tuple #[snVal x, .int .i64 r.2]) ∧ x.plain = r.1 ∧ SnFine x ∧ OwnSn w' w.heap.size x ∧ Below w.heap.size w w'
theorem info_sn (x y u v : Value) : (Tryz.prog.info? 26).map (·.size) = some (#[x, y, u, v] : Array Value).size := by kernel_rfl
theorem block_four {w : World} {g : Nat} {x y u v a b c d : Value} {T : TypeId} {fr : Nat × Nat} (h : w.heap[g]? = some (.cells #[x, y, u, v] T fr)) : ((((w.setCell ⟨g, 0, none⟩ a).setCell ⟨g, 1, none⟩ b).setCell ⟨g, 2, none⟩ c).setCell ⟨g, 3, none⟩ d).heap[g]? = some (.cells #[a, b, c, d] T fr) := by
  have h1 := Go.Joins.block_setCell (i := 0) h a
  have h2 := Go.Joins.block_setCell (i := 1) h1 b
  have h3 := Go.Joins.block_setCell (i := 2) h2 c
  have h4 := Go.Joins.block_setCell (i := 3) h3 d
  simpa using h4
theorem grown_four {w : World} {g : Nat} {a b c d : Value} : w.grownBy ((((w.setCell ⟨g, 0, none⟩ a).setCell ⟨g, 1, none⟩ b).setCell ⟨g, 2, none⟩ c).setCell ⟨g, 3, none⟩ d) (some g) :=
  (((grown_set w ⟨g, 0, none⟩ a).trans (grown_set _ ⟨g, 1, none⟩ b)).trans (grown_set _ ⟨g, 2, none⟩ c)).trans (grown_set _ ⟨g, 3, none⟩ d)
/-- A reading ends. -/
theorem sget_end {f : Func} {W w' : World} {x : Sn} {tmps : Array Value} {er : Int} {r : SnP × Int} (hf : f.results = #[.cell 2 26, .tmp 3]) (hk : w'.heap[W.heap.size]? = some (.cells (snArr x) 26 (0, 0))) (hb : Below W.heap.size W w')
    (h2 : tmps.getD 2 undef = .pointer (some ⟨W.heap.size, 0, none⟩)) (h3 : tmps.getD 3 undef = .int .i64 er) (he : r.2 = er) (hp : x.plain = r.1) (hfn : SnFine x) (ho : OwnSn w' W.heap.size x) : bodyPost Tryz.prog f (SGetAt r W) .ret ⟨tmps, []⟩ w' :=
  bodyPost_ret (results_cell2 hf tmps w' W.heap.size _ (snArr x) _ _ _ h2 h3 hk Tryz.underlying26 rfl (info_sn _ _ _ _)) rfl ⟨x, by rw [he]; rfl, hp, hfn, ho, hb⟩
/-- .. with nothing. -/
theorem sget_no {f : Func} {W w' : World} {x y u v : Value} {tmps : Array Value} {r : SnP × Int} (hf : f.results = #[.cell 2 26, .tmp 3]) (hk : w'.heap[W.heap.size]? = some (.cells #[x, y, u, v] 26 (0, 0))) (hb : Below W.heap.size W w')
    (h2 : tmps.getD 2 undef = .pointer (some ⟨W.heap.size, 0, none⟩)) (h3 : tmps.getD 3 undef = .int .i64 4) (hr : r = (zeroSn, 4)) :
    bodyPost Tryz.prog f (SGetAt r W) .ret ⟨tmps, []⟩ ((((w'.setCell ⟨W.heap.size, 0, none⟩ (.int .i64 0)).setCell ⟨W.heap.size, 1, none⟩ (.int .i64 0)).setCell ⟨W.heap.size, 2, none⟩ (.slice none 0 0)).setCell ⟨W.heap.size, 3, none⟩ (.slice none 0 0)) := by
  have hg := grown_four (w := w') (g := W.heap.size) (a := .int .i64 0) (b := .int .i64 0) (c := .slice none 0 0) (d := .slice none 0 0)
  exact sget_end hf (block_four hk) (hb.grown hg hb.size (fun k hk => by cases hk; exact Nat.le_refl _)) h2 h3 (by rw [hr]) (by rw [hr]; rfl) zeroSx_fine (OwnSn.zero _ _)
end Go.Proofs.YtejgebpdipnhmaaGreatDoor
/- Two operations of a region that may come up in either order. Any program. Conditions: as each says. -/
namespace Go.Proofs.YtejgebpdipnhmaaGreatDoor
open Go.RowKit
theorem takeS_two {P : Program} {md : Region.Mode} {ops : Array Oper} {Q : Exit → Act → World → Prop} {S : World → Prop} (i j : Nat) {oi oj : Oper} {fuel : Nat} {listed : Array Bool} {a : Act} {w : World} (hi : ops.toList[i]? = some oi) (hj : ops.toList[j]? = some oj) (hr : Region.ready md ops listed = [i, j]) (hwi : Region.wanted oi (yielded ops a.tmps) = true) (hwj : Region.wanted oj (yielded ops a.tmps) = true)
    (h1 : ∀ K' : Act → World → Prop, Shut (∀ a w, S w → wpAnyH P md ops Q S fuel (listed.setIfInBounds i true) a w → K' a w) → Oper.wp P oi a w K' Q)
    (h2 : ∀ K' : Act → World → Prop, Shut (∀ a w, S w → wpAnyH P md ops Q S fuel (listed.setIfInBounds j true) a w → K' a w) → Oper.wp P oj a w K' Q) : wpAnyH P md ops Q S (fuel + 1) listed a w :=
  wpAnyH_ready (rs := [i, j]) hr (by simp) (AllReadyH.cons (by rw [← Array.getElem?_toList]; exact hi) (fun K hK => by rw [if_pos hwi]; exact h1 K (fun a w hS hW => hK.out a w hS (fun _ => hW)))
    (AllReadyH.cons (by rw [← Array.getElem?_toList]; exact hj) (fun K hK => by rw [if_pos hwj]; exact h2 K (fun a w hS hW => hK.out a w hS (fun _ => hW))) AllReadyH.nil))
end Go.Proofs.YtejgebpdipnhmaaGreatDoor
