/- A disk's files while a loop goes over them; a store at a name that is there. Conditions: the map's block reads as the files. -/
import Derived.Test.YtnhnabcpkaeaaaaGreatDoorGWalNone13
import Derived.Test.YtnhnabcpkaeaaaaGreatDoorGWalNone10
import Derived.Test.YtnhnabcpkaeaaaaGreatDoorGWalNone3
import Derived.Test.YtnhnabcpkaeaaaaGreatDoorGWalNone6
import Derived.StillTailTactics
set_option linter.unusedVariables false
set_option linter.unusedSimpArgs false
namespace Go.Proofs.YtnhnabcpkaeaaaaGreatDoor
open Go.RowKit Go.ChangeMaps Go.MapKept Go.WideShapes
open Go.WideElems (Fit rd rg pl rd_key rd_val rd_mk rg_of)
open Go.Maps (Keyed)
set_option maxRecDepth 20000
theorem left_len (a : Array MapEntry) (seen : Array Nat) : (leftOf a seen).size = ((a.toList.map (·.born)).filter fun x => !seen.contains x).length := by
  unfold leftOf
  rw [← Array.length_toList, Array.toList_filter, List.filter_map, List.length_map]
  rfl
theorem set_same {α : Type} (l : List α) (j : Nat) (x : α) (h : l[j]? = some x) : l.set j x = l := by
  obtain ⟨hj, rfl⟩ := List.getElem?_eq_some_iff.1 h
  exact List.set_getElem_self _
/-- A store at a key that is there, into the map that is ranged over. -/
theorem ranges_store {H : Type} {P : Program} {k t e : TypeId} {R : Value → Option (DataW H × List MemPlace)} {w : World} {b r n : Nat} {D : DataW H} {left : Lit → Bool} {cnt : Nat} (h : w.ranges P k R b r n D left cnt) (K : Keyed P k) (ht : P.underlying t = some (.map k e)) (hn : n < maxLen)
    {key val : Value} {kl : Lit} {d : DataW H} {ps : List MemPlace} (hkey : keyOf P k key = some kl) (hv : R val = some (d, ps)) (hhas : Maps.has D kl = true) :
    ∃ w', (Instr.mapUpdate t (.map (some b)) key val).run P w = .ok () w' ∧ w'.ranges P k R b r n (D.put kl d) left cnt ∧ w.mapTurned w' b := by
  have hne := h.ne
  obtain ⟨es, clock, since, seen, c0, hb, F, hs, rfl, hr, hold, hc, hl1, hl2, hsc, hsk⟩ := h
  obtain ⟨es1, ck1, hrun, F1, hput, _⟩ := Maps.fit_store (R' := R) K ht hb F (Nat.lt_of_le_of_lt hs hn) (fun _ _ _ _ hz => hz) hkey hv
  rcases K.find w hkey es.toList F.keys with ⟨_, h2⟩ | ⟨j, e0, h1, h2, h3⟩
  · exfalso
    obtain ⟨p, hp, hpk⟩ := List.any_eq_true.1 hhas
    obtain ⟨x, hx, rfl⟩ := List.mem_map.1 (mem_sorted.1 hp)
    obtain ⟨y, hy⟩ := F.reads x hx
    have he := WideAt.sameKey_eq hpk
    rw [rg_of hy] at he
    exact h2 x hx (K.inj (he ▸ rd_key hy) hkey)
  · have hj : es[j]? = some e0 := by simpa using h2
    have hrun2 : (Instr.mapUpdate t (.map (some b)) key val).run P w = .ok () (setBlock w b (.map (es.modify j (fun e' => { e' with key := key, val := val })) clock)) := by
      simp [Instr.mapUpdate, run_underlying ht, MapKept.run_getObj_map hb, K.check w false hkey, h1, hj, h3, K.stays w hkey, MapKept.run_setObj_map _ hb, Result.andThen, setBlock]
    have hw : setBlock w b (.map es1 ck1) = setBlock w b (.map (es.modify j (fun e' => { e' with key := key, val := val })) clock) := by
      rw [hrun] at hrun2
      injection hrun2
    have hh := congrArg (fun w' : World => w'.heap[b]?) hw
    rw [heap_setBlock_same hb, heap_setBlock_same hb] at hh
    simp only [Option.some.injEq, Obj.map.injEq] at hh
    obtain ⟨rfl, rfl⟩ := hh
    have hlist : (es.modify j (fun e' => { e' with key := key, val := val })).toList = es.toList.set j { e0 with key := key, val := val } := by rw [Array.toList_modify, modify_eq_set _ _ _ _ h2]
    have hjl : j < es.toList.length := (List.getElem?_eq_some_iff.1 h2).1
    have hje : es.toList[j] = e0 := by rw [List.getElem?_eq_getElem hjl] at h2; exact Option.some.inj h2
    have hm0 : e0 ∈ es.toList := List.mem_of_getElem? h2
    have hborn : (es.modify j (fun e' => { e' with key := key, val := val })).toList.map (·.born) = es.toList.map (·.born) := by
      rw [hlist, List.map_set]
      have hg : (es.toList.map (·.born))[j]? = some e0.born := by rw [List.getElem?_map, h2]; rfl
      exact set_same _ _ _ hg
    have hnew : (rg P k R ⟨key, val, e0.born⟩).1 = kl := by rw [rg_of (rd_mk hkey hv)]
    have hold0 : (rg P k R e0).1 = kl := by
      obtain ⟨y, hy⟩ := F.reads e0 hm0
      rw [rg_of hy]
      have := rd_key hy
      rw [h3, hkey] at this
      exact (Option.some.inj this).symm
    have who : ∀ x ∈ es.toList.set j { e0 with key := key, val := val }, x = { e0 with key := key, val := val } ∨ x ∈ es.toList := fun x hx => (List.mem_or_eq_of_mem_set hx).symm
    refine ⟨_, hrun2, ⟨_, _, since, seen, c0, heap_setBlock_same hb _, F1, by simpa using hs, by rw [DataW.put_eq, hput], (heap_setBlock_other hb _ hne).trans hr, fun x hx => ?_, ?_, fun x hx => ?_, fun kl' hkl' => ?_, hsc, hsk⟩, ⟨es, _, _, _, hb, rfl⟩⟩
    · rw [hlist] at hx
      rcases who x hx with rfl | hx
      · exact hold e0 hm0
      · exact hold x hx
    · rw [left_len, hborn, ← left_len]
      exact hc
    · rw [hlist] at hx
      rcases who x hx with rfl | hx
      · show left (rg P k R ⟨key, val, e0.born⟩).1 = _
        rw [hnew, ← hold0]
        exact hl1 e0 hm0
      · exact hl1 x hx
    · obtain ⟨x, hx, rfl⟩ := hl2 kl' hkl'
      rw [hlist]
      obtain ⟨i, hi, rfl⟩ := List.getElem_of_mem hx
      by_cases hij : i = j
      · subst hij
        refine ⟨{ e0 with key := key, val := val }, List.mem_set hi _, ?_⟩
        show (rg P k R ⟨key, val, e0.born⟩).1 = _
        rw [hnew, hje, hold0]
      · refine ⟨es.toList[i], ?_, rfl⟩
        have : (es.toList.set j { e0 with key := key, val := val })[i]'(by simpa using hi) = es.toList[i] := List.getElem_set_ne (fun e => hij e.symm) _
        exact this ▸ List.getElem_mem _
/-- A loop over the files: which are still to come, how many. -/
def DkRange (w : World) (B mb it n : Nat) (L : Dk) (lf : List UInt8 → Bool) (cnt : Nat) : Prop :=
  ∃ D left, w.ranges Tryz.prog 9 rvElem mb it n D left cnt ∧ DkHas w B D L ∧ ∀ k, left (.string k) = lf k
theorem DkRange.map {w : World} {B mb it n : Nat} {L : Dk} {lf : List UInt8 → Bool} {cnt : Nat} (h : DkRange w B mb it n L lf cnt) : DkMap w B mb n L := let ⟨D, _, h1, h2, _⟩ := h; ⟨D, h1.owns, h2⟩
theorem DkRange.left_eq {w : World} {B mb it n : Nat} {L : Dk} {lf : List UInt8 → Bool} {cnt : Nat} (h : DkRange w B mb it n L lf cnt) : w.rangeLeft mb it = cnt := let ⟨_, _, h1, _, _⟩ := h; h1.left_eq
theorem DkRange.below {w w' : World} {B mb it n : Nat} {L : Dk} {lf : List UInt8 → Bool} {cnt : Nat} (h : DkRange w B mb it n L lf cnt) (hb : Below w.heap.size w w') (hB : B ≤ w.heap.size) : DkRange w' B mb it n L lf cnt := by
  obtain ⟨D, left, h1, h2, h3⟩ := h
  exact ⟨D, left, h1.kept (row := none) ⟨hb.os, hb.tape, hb.output, hb.size, fun i hi _ => hb.block i hi⟩ (by simp) (by simp), h2.below hb hB, h3⟩
section
variable {w : World} {ops : Array Oper} {rest : List Oper} {o : Oper} {a : Act} {Q : Exit → Act → World → Prop}
/-- 'range m'. -/
theorem wpList_range_dk (hg : o.guard = none) (m : Operand) (hop : o.op = Op.range 66 m) {B mb n : Nat} {L : Dk} (hm : a.eval m = .map (some mb)) (h : DkMap w B mb n L) (hB : B ≤ w.heap.size)
    (hK : ∀ w' cnt, DkRange w' B mb w.heap.size n L (fun k => (dGet L k).isSome) cnt → w.grownBy w' none → w'.heap.size = w.heap.size + 1 → wpList Tryz.prog ops Q rest (a.put o.dst (.pointer (some ⟨w.heap.size, 0, none⟩))) w') : wpList Tryz.prog ops Q (o :: rest) a w := by
  obtain ⟨D, hown, hh⟩ := h
  refine wpList_range_own w hg m _ hop 9 70 dk_law Tryz.underlying66 rvElem mb n D hm hown fun w' h1 h2 h3 => ?_
  refine hK w' _ ⟨D, _, h1, hh.below (B' := w.heap.size) ⟨h2.os, h2.tape, h2.output, h2.size, fun i hi => h2.block i hi (by simp)⟩ hB, fun k => ?_⟩ h2 h3
  cases hk : dGet L k with
  | none => rw [hh.no k hk]; simp [hk]
  | some f =>
    obtain ⟨r, hr, _⟩ := hh.yes k f hk
    rw [Maps.has_true_of_atKey hr]; simp [hk]
theorem key_inv {key : Value} {kl : Lit} (h : keyOf Tryz.prog 9 key = some kl) : ∃ s : ByteArray, key = .string s ∧ kl = .string s.data.toList ∧ s.size ≤ maxLen := by
  cases key <;> simp [keyOf, Tryz.underlying9, mapKey] at h
  obtain ⟨h1, rfl⟩ := h
  exact ⟨_, rfl, rfl, h1⟩
/-- The step. -/
theorem wpList_next_dk (hg : o.guard = none) (itv : Operand) (hop : o.op = Op.next itv false) {B mb it n : Nat} {L : Dk} {lf : List UInt8 → Bool} {cnt : Nat} (hit : a.eval itv = .pointer (some ⟨it, 0, none⟩)) (h : DkRange w B mb it n L lf cnt) (hB : B ≤ w.heap.size) (hBi : B ≤ it)
    (hDone : (∀ k, lf k = false) → wpList Tryz.prog ops Q rest (a.put o.dst (.tuple #[.bool false])) w)
    (hMore : ∀ (s : ByteArray) (r : Rv) (f : Fi) (w' : World) (cnt' : Nat), s.size ≤ maxLen → lf s.data.toList = true → dGet L s.data.toList = some f → RvIs w' B r f → DkRange w' B mb it n L (fun x => lf x && !decide (x = s.data.toList)) cnt' → cnt' < cnt →
      w.grownBy w' (some it) → w'.heap.size = w.heap.size → (Instr.entry (.pointer (some ⟨it, 0, none⟩))).run Tryz.prog w' = .ok (.tuple #[.string s, rvVal r]) w' → wpList Tryz.prog ops Q rest (a.put o.dst (.tuple #[.bool true, .string s, rvVal r])) w') :
    wpList Tryz.prog ops Q (o :: rest) a w := by
  obtain ⟨D, left, h1, h2, h3⟩ := h
  refine wpList_next_ranges w hg itv hop 9 dk_law rvElem Value.string rvVal (fun key kl hk => let ⟨s, hs, _⟩ := key_inv hk; ⟨s, hs⟩) (fun v y hv => let ⟨r, hr, _⟩ := rvElem_inv hv; ⟨r, hr⟩) mb it n D left cnt hit h1 (fun _ hl => hDone fun k => by rw [← h3]; exact hl _) ?_
  intro s r kl y w' cnt' hkey hlk hv hat hrg hlt hgr hsz hen
  obtain ⟨s', hs', rfl, hsl⟩ := key_inv hkey
  cases hs'
  obtain ⟨r', hr', rfl⟩ := rvElem_inv hv
  have hbl : Below B w w' := ⟨hgr.os, hgr.tape, hgr.output, hgr.size, fun i hi => hgr.block i (by omega) (by simp; omega)⟩
  have hh' := h2.below hbl (Nat.le_refl _)
  have hre : r' = r := by
    unfold rvVal at hr'
    simp at hr'
    cases r
    cases r'
    simp_all
  subst hre
  cases hg : dGet L s.data.toList with
  | none =>
    have := h2.no _ hg
    rw [Maps.has_true_of_atKey hat] at this
    cases this
  | some f =>
    obtain ⟨r1, hr1, hr2⟩ := hh'.yes _ f hg
    have he := (hat (.held rvZero)).symm.trans (hr1 (.held rvZero))
    simp only [DataW.held.injEq] at he
    subst he
    refine hMore s _ f w' cnt' hsl (by rw [← h3]; exact hlk) hg hr2 ⟨D, _, hrg, hh', fun k => ?_⟩ hlt hgr hsz hen
    show (left (.string k) && !(Lit.string k).sameKey (.string s.data.toList)) = _
    rw [h3]
    congr 2
    by_cases hk : k = s.data.toList
    · subst hk; rw [WideAt.sameKey_self (str_key _)]; simp
    · rw [Maps.sameKey_ne (str_ne hk)]; simp [hk]
end
end Go.Proofs.YtnhnabcpkaeaaaaGreatDoor
/- A disk as it lies in memory; whether there is one; how many bytes it has. Conditions: the disk lies so. -/
namespace Go.Proofs.YtnhnabcpkaeaaaaGreatDoor
open Go.RowKit
set_option maxRecDepth 20000
/-- A disk: its block, its map, its room, its files; all of it below B. -/
structure DiskAt (w : World) (B db mb room n : Nat) (L : Dk) : Prop where
  blk : w.heap[db]? = some (.cells #[.int .i64 room, .map (some mb)] 68 (0, 0))
  map : DkMap w B mb n L
  dlt : db < B
  mlt : mb < B
  le : B ≤ w.heap.size
  ok : dOk L
  rle : room ≤ 1099511627776
theorem DiskAt.below {w w' : World} {B B' db mb room n : Nat} {L : Dk} (h : DiskAt w B db mb room n L) (hb : Below B' w w') (hB : B ≤ B') : DiskAt w' B db mb room n L :=
  ⟨(hb.block db (Nat.lt_of_lt_of_le h.dlt hB)).trans h.blk, h.map.below hb hB (Nat.lt_of_lt_of_le h.mlt hB), h.dlt, h.mlt, Nat.le_trans h.le hb.size, h.ok, h.rle⟩
theorem DiskAt.mono {w : World} {B B' db mb room n : Nat} {L : Dk} (h : DiskAt w B db mb room n L) (hB : B ≤ B') (hle : B' ≤ w.heap.size) : DiskAt w B' db mb room n L :=
  ⟨h.blk, h.map.mono hB (Nat.le_refl _), Nat.lt_of_lt_of_le h.dlt hB, Nat.lt_of_lt_of_le h.mlt hB, hle, h.ok, h.rle⟩
theorem DiskAt.top {w : World} {B db mb room n : Nat} {L : Dk} (h : DiskAt w B db mb room n L) : DiskAt w w.heap.size db mb room n L := h.mono h.le (Nat.le_refl _)
theorem DiskAt.more {w : World} {B db mb room n n' : Nat} {L : Dk} (h : DiskAt w B db mb room n L) (hn : n ≤ n') : DiskAt w B db mb room n' L := ⟨h.blk, h.map.mono (Nat.le_refl _) hn, h.dlt, h.mlt, h.le, h.ok, h.rle⟩
theorem DiskAt.ne {w : World} {B db mb room n : Nat} {L : Dk} (h : DiskAt w B db mb room n L) : db ≠ mb := by
  rintro rfl
  obtain ⟨es, ck, h2⟩ := h.map.block
  rw [h.blk] at h2
  cases h2
/-- The disk after a store into its map, or a deletion from it. -/
theorem DiskAt.stored {w w' : World} {B db mb room n n' : Nat} {L L' : Dk} (h : DiskAt w B db mb room n L) (hm : DkMap w' B mb n' L') (hg : w.grownBy w' (some mb)) (hok : dOk L') : DiskAt w' w'.heap.size db mb room n' L' :=
  DiskAt.mono (B := B) ⟨(hg.block db (Nat.lt_of_lt_of_le h.dlt h.le) (by simpa using h.ne)).trans h.blk, hm, h.dlt, h.mlt, Nat.le_trans h.le hg.size, hok, h.rle⟩ (Nat.le_trans h.le hg.size) (Nat.le_refl _)
theorem DiskAt.stored0 {w w' : World} {B db mb room n n' : Nat} {L L' : Dk} (h : DiskAt w B db mb room n L) (hm : DkMap w' B mb n' L') (hg : w.grownBy w' (some mb)) (hok : dOk L') : DiskAt w' B db mb room n' L' :=
  ⟨(hg.block db (Nat.lt_of_lt_of_le h.dlt h.le) (by simpa using h.ne)).trans h.blk, hm, h.dlt, h.mlt, Nat.le_trans h.le hg.size, hok, h.rle⟩
theorem DiskAt.congr {w : World} {B db mb room n : Nat} {L L' : Dk} (h : DiskAt w B db mb room n L) (hok : dOk L') (he : ∀ k, dGet L' k = dGet L k) : DiskAt w B db mb room n L' := ⟨h.blk, h.map.congr he, h.dlt, h.mlt, h.le, hok, h.rle⟩
theorem below_grown {w w' : World} (h : Below w.heap.size w w') (row : Option Nat) : w.grownBy w' row := ⟨h.os, h.tape, h.output, h.size, fun k hk _ => h.block k hk⟩
theorem DiskAt.cells {w : World} {B db mb room n : Nat} {L : Dk} (h : DiskAt w B db mb room n L) : w.cell? ⟨db, 0, none⟩ = some (.int .i64 room) ∧ w.cell? ⟨db, 1, none⟩ = some (.map (some mb)) :=
  ⟨Go.Joins.cell_of_block h.blk 0, Go.Joins.cell_of_block h.blk 1⟩
/-- .. and its files fit. -/
structure DiskIs (w : World) (B db mb room n : Nat) (L : Dk) : Prop extends DiskAt w B db mb room n L where
  used : dUsed L ≤ room
theorem DiskIs.below {w w' : World} {B B' db mb room n : Nat} {L : Dk} (h : DiskIs w B db mb room n L) (hb : Below B' w w') (hB : B ≤ B') : DiskIs w' B db mb room n L := ⟨h.toDiskAt.below hb hB, h.used⟩
theorem DiskIs.mono {w : World} {B B' db mb room n : Nat} {L : Dk} (h : DiskIs w B db mb room n L) (hB : B ≤ B') (hle : B' ≤ w.heap.size) : DiskIs w B' db mb room n L := ⟨h.toDiskAt.mono hB hle, h.used⟩
theorem DiskIs.top {w : World} {B db mb room n : Nat} {L : Dk} (h : DiskIs w B db mb room n L) : DiskIs w w.heap.size db mb room n L := h.mono h.le (Nat.le_refl _)
theorem DiskIs.more {w : World} {B db mb room n n' : Nat} {L : Dk} (h : DiskIs w B db mb room n L) (hn : n ≤ n') : DiskIs w B db mb room n' L := ⟨h.toDiskAt.more hn, h.used⟩
theorem DiskIs.stored {w w' : World} {B db mb room n n' : Nat} {L L' : Dk} (h : DiskIs w B db mb room n L) (hm : DkMap w' B mb n' L') (hg : w.grownBy w' (some mb)) (hok : dOk L') (hu : dUsed L' ≤ room) : DiskIs w' w'.heap.size db mb room n' L' := ⟨h.toDiskAt.stored hm hg hok, hu⟩
theorem DiskIs.congr {w : World} {B db mb room n : Nat} {L L' : Dk} (h : DiskAt w B db mb room n L) (hok : dOk L') (he : ∀ k, dGet L' k = dGet L k) (hu : dUsed L' ≤ room) : DiskIs w B db mb room n L' := ⟨h.congr hok he, hu⟩
theorem map_some (mb : Nat) (w : World) : (binOp BinOp.eql 66 (.map (some mb)) (.map none)).run Tryz.prog w = .ok (.bool false) w := by kernel_rfl
theorem is_any {w : World} {B db mb room n : Nat} {L : Dk} (h : DiskAt w B db mb room n L) :
    Calls Tryz.prog 23 #[.pointer (some ⟨db, 0, none⟩)] w fun e w' => e = .returned (.int .i64 0) ∧ w = w' := by
  obtain ⟨c0, c1⟩ := h.cells
  clear h
  have hm := map_some mb
  go_enter Tryz.func23, Tryz.ntmps23
  go_wp2_with fail
  go_ret
  exact ⟨rfl, by first | rfl | trivial⟩
theorem is_nil (w : World) : Calls Tryz.prog 23 #[.pointer none] w fun e w' => e = .returned (.int .i64 1) ∧ w = w' := by
  go_enter Tryz.func23, Tryz.ntmps23
  go_wp2_with fail
  go_ret
  exact ⟨rfl, by first | rfl | trivial⟩
theorem size_at (r : Rv) (f : Fi) (w : World) (B : Nat) (h : RvIs w B r f) (hl : f.all.length ≤ 1099511627776) :
    Calls Tryz.prog 28 #[rvVal r] w fun e w' => e = .returned (.int .i64 f.all.length) ∧ Below w.heap.size w w' := size_file r f w B h _ rfl (Nat.le_trans hl (by decide))
theorem used_any {w : World} {B db mb room n : Nat} {L : Dk} (h : DiskIs w B db mb room n L) :
    Calls Tryz.prog 29 #[.pointer (some ⟨db, 0, none⟩)] w fun e w' => e = .returned (.int .i64 (dUsed L)) ∧ Below w.heap.size w w' := by
  obtain ⟨c0, c1⟩ := h.cells
  have H := Lib.hid h
  have hB := h.le
  have hub := Nat.le_trans h.used h.rle
  have hok := h.ok
  clear h
  go_enter Tryz.func29, Tryz.ntmps29
  go_wp2_with fail
  refine (is_any H.out.toDiskAt).mono ?_
  rintro e w1 ⟨rfl, rfl⟩
  go_wp2_with (first | (at_range; refine wpList_range_dk rfl _ rfl rfl H.out.map hB ?_; intro w0 cnt hrg0 hg0 hs0) | fail)
  go_frame
  go_loopw [2] (fun s wr => ∃ lf cnt, DkRange wr B mb w.heap.size n L lf cnt ∧ s = .int .i64 (usedBut lf L) ∧ Below w.heap.size w wr) (fun _ wr => wr.rangeLeft mb w.heap.size)
  case atStart =>
    refine ⟨_, _, hrg0, ?_, ⟨hg0.os, hg0.tape, hg0.output, hg0.size, fun i hi => hg0.block i hi (by simp)⟩⟩
    rw [usedBut_all fun k hk => by
      cases hg : dGet L k with
      | none => exact absurd hk (dGet_none.1 hg)
      | some f => rfl]
    rfl
  case round =>
    obtain ⟨lf, cnt, hrg, rfl, hbel⟩ := hrel
    go_wp2_with (first | (at_next; refine wpList_next_dk rfl _ rfl rfl hrg (Nat.le_trans hB hbel.size) hB ?_ ?_) | fail)
    · intro hl0
      go_wp2_with fail
      go_ret
      exact ⟨ret_int (by rw [usedBut_none hl0]), hbel⟩
    · intro s r f w2 cnt2 hs hlf hgt hrv hrg2 hlt hg2 hs2 hen
      obtain ⟨a1, n1, c1, a2, n2, c2⟩ := r
      simp only [rvVal] at hen ⊢
      have hstep := usedBut_step hok hgt hlf
      have hle := usedBut_le (fun x => lf x && !decide (x = s.data.toList)) L
      have hsum : usedBut lf L + f.all.length ≤ 1099511627776 := by omega
      have hfl : f.all.length ≤ 1099511627776 := by omega
      have hb2 : Below w.heap.size w w2 := hbel.trans ⟨hg2.os, hg2.tape, hg2.output, hg2.size, fun i hi => hg2.block i (Nat.lt_of_lt_of_le hi hbel.size) (by simp; omega)⟩
      have HST := Lib.hid hstep
      clear hstep hle hbel hg2
      go_wp2_with fail
      have hal := (Below.refl w2.heap.size w2).alloc (Nat.le_refl _) (.cells #[.slice a1 n1 c1, .slice a2 n2 c2] 70)
      generalize w2.alloc (.cells #[.slice a1 n1 c1, .slice a2 n2 c2] 70) = w3 at hal ⊢
      have hB2 := Nat.le_trans hB hb2.size
      have hrv3 := hrv.below hal hB2
      refine (size_at ⟨a1, n1, c1, a2, n2, c2⟩ f w3 B hrv3 hfl).mono ?_
      rintro e w4 ⟨rfl, hb4⟩
      have hb5 := hal.trans (hb4.mono hal.size)
      go_wp2_with fail
      have hrg4 := hrg2.below hb5 hB2
      go_roundw
      case rel => exact ⟨_, _, hrg4, by rw [HST.out]; go_num, hb2.trans (hb5.mono hb2.size)⟩
      case measure => rw [hrg4.left_eq, hrg.left_eq]; exact hlt
end Go.Proofs.YtnhnabcpkaeaaaaGreatDoor
/- Bytes put behind a file's. Conditions: the disk lies as its files say. -/
namespace Go.Proofs.YtnhnabcpkaeaaaaGreatDoor
open Go.RowKit
set_option maxRecDepth 20000
/-- What a disk tells and becomes. -/
def DkAt (r : Dk × Int) (db mb room n : Nat) (w : World) (e : Ending) (w' : World) : Prop :=
  e = .returned (.int .i64 r.2) ∧ DiskIs w' w'.heap.size db mb room n r.1 ∧ w.grownBy w' (some mb)
theorem used_at {w : World} {B db mb room n : Nat} {L : Dk} (h : DiskIs w B db mb room n L) (u : Nat) (hu : dUsed L = u) :
    Calls Tryz.prog 29 #[.pointer (some ⟨db, 0, none⟩)] w fun e w' => e = .returned (.int .i64 u) ∧ Below w.heap.size w w' := hu ▸ used_any h
theorem bown_cap {w : World} {base n c : Nat} {a : Option Addr} {L : List Int} (h : BOwn w base a n c L) : n ≤ c := by
  rcases h.row.2 with ⟨h1, h2⟩ | ⟨g, cap, cur, h1, _, _, h2, _⟩
  · omega
  · cases h1; exact h2
set_option maxHeartbeats 2000000 in
theorem append_any {w : World} {B db mb room n : Nat} {L : Dk} (h : DiskIs w B db mb room n L) (hn : n ≤ 1000000) (s : ByteArray) (hs : Named s) (ao : Option Addr) (nb cap : Nat) (bs : List Int) (hb : bs.length = nb)
    (hx : BytesIn w w.heap.size ao bs) (hw : BytesWf bs) (hnil : ao = none → cap = 0) (hl : nb ≤ 1000000000) (r : Dk × Int) (hr : dAppend room L s.data.toList bs = r) :
    Calls Tryz.prog 7 #[.pointer (some ⟨db, 0, none⟩), .string s, .slice ao nb cap] w (DkAt r db mb room (n + 1) w) := by
  have hsm : s.size ≤ maxLen := by have := hs.le; unfold maxLen; omega
  obtain ⟨rv, hrun, hrv⟩ := h.map.look1 s hsm
  obtain ⟨a1, n1, c1, a2, n2, c2⟩ := rv
  have hup : ((dGet L s.data.toList).getD Fi.none).all.length ≤ 1099511627776 := by
    cases hg : dGet L s.data.toList with
    | none => exact Nat.zero_le _
    | some f => exact Nat.le_trans (dUsed_le hg) (Nat.le_trans h.used h.rle)
  obtain ⟨f, hf⟩ : ∃ f, (dGet L s.data.toList).getD Fi.none = f := ⟨_, rfl⟩
  rw [hf] at hrv hup
  simp only [rvVal] at hrun
  obtain ⟨d0, d1⟩ := h.cells
  have H := Lib.hid h
  have HR := Lib.hid hr
  have HF := Lib.hid hf
  have HRV := Lib.hid hrv
  have HX := Lib.hid hx
  have HW := Lib.hid hw
  have HN := Lib.hid hnil
  have HS := Lib.hid hs
  have HBL := Lib.hid hb
  have hBw := h.le
  have hdl := h.dlt
  clear h hr hf hrv hx hw hnil hs hb
  go_enter Tryz.func7, Tryz.ntmps7
  go_wp2_with fail
  refine (is_any H.out.toDiskAt).mono ?_
  rintro e w0 ⟨rfl, rfl⟩
  have hb1 := (Below.refl w.heap.size w).alloc (Nat.le_refl _) (.cells #[.slice a1 n1 c1, .slice a2 n2 c2] 70)
  have hk1 := heap_alloc_new w (.cells #[.slice a1 n1 c1, .slice a2 n2 c2] 70)
  have hs1 : (w.alloc (.cells #[.slice a1 n1 c1, .slice a2 n2 c2] 70)).heap.size = w.heap.size + 1 := by simp
  have hb2 := hb1.alloc hb1.size (.cells #[.slice a2 n2 c2, .slice ao nb cap] 22)
  have hk2 := heap_alloc_new (w.alloc (.cells #[.slice a1 n1 c1, .slice a2 n2 c2] 70)) (.cells #[.slice a2 n2 c2, .slice ao nb cap] 22)
  have hk1b := (((Below.refl _ (w.alloc (.cells #[.slice a1 n1 c1, .slice a2 n2 c2] 70))).alloc (Nat.le_refl _) (.cells #[.slice a2 n2 c2, .slice ao nb cap] 22)).block w.heap.size (by omega)).trans hk1
  have hs2 : ((w.alloc (.cells #[.slice a1 n1 c1, .slice a2 n2 c2] 70)).alloc (.cells #[.slice a2 n2 c2, .slice ao nb cap] 22)).heap.size = w.heap.size + 2 := by simp
  rw [hs1] at hk2
  clear hb1 hk1 hs1
  have HB2 := Lib.hid hb2
  have HK1 := Lib.hid hk1b
  have HK2 := Lib.hid hk2
  have HS2 := Lib.hid hs2
  clear hb2 hk1b hk2 hs2
  go_wp2_with fail
  generalize (w.alloc (.cells #[.slice a1 n1 c1, .slice a2 n2 c2] 70)).alloc (.cells #[.slice a2 n2 c2, .slice ao nb cap] 22) = w2 at HB2 HK1 HK2 HS2 ⊢
  have hs2 := HS2.out
  have hrv := HRV.out
  refine (concat_any (w.heap.size + 1) a2 ao n2 c2 nb cap f.loose bs (f.loose ++ bs) w2 (Go.Joins.cell_of_block HK2.out 0) (Go.Joins.cell_of_block HK2.out 1) (by omega) ((hrv.in2.below HB2.out hBw).mono (by omega)) ((HX.out.below HB2.out (Nat.le_refl _)).mono (by omega)) hrv.z2 HN.out hrv.n2.symm HBL.out rfl (by have := hrv.n2; unfold Fi.all at hup; rw [List.length_append] at hup; dsimp only at this; omega)).mono ?_
  rintro e w3 ⟨a, m, c, rfl, ho, hb3⟩
  have hm : m = n2 + nb := by rw [← ho.len, List.length_append, HBL.out]; have := hrv.n2; dsimp only at this; omega
  subst hm
  have hz3 := hb3.size
  have hk3 := (hb3.block w.heap.size (by omega)).trans HK1.out
  have e1 : w3.cell? ⟨w.heap.size, 1, none⟩ = some (.slice a2 n2 c2) := Go.Joins.cell_of_block hk3 1
  have u1 : w3.frozen? ⟨w.heap.size, 1, none⟩ = false := Go.Joins.unfrozen_of_block hk3 1
  have HO3 := Lib.hid ho
  have HB3 := Lib.hid (HB2.out.trans (hb3.mono (by omega)))
  have HK3 := Lib.hid hk3
  clear ho hb3 hk3 hrv
  go_wp2_with fail
  have hk4 := Go.Joins.block_setCell (i := 1) HK3.out (.slice a (n2 + nb) c)
  have hsc := grown_set w3 ⟨w.heap.size, 1, none⟩ (.slice a (n2 + nb) c)
  have hb4 : Below w.heap.size w (w3.setCell ⟨w.heap.size, 1, none⟩ (.slice a (n2 + nb) c)) := HB3.out.grown hsc HB3.out.size (fun k hk => by cases hk; exact Nat.le_refl _)
  have ho4 := HO3.out.kept hsc (Or.inr (fun e => by have := HO3.out.lt _ e; dsimp only at this; omega))
  generalize w3.setCell ⟨w.heap.size, 1, none⟩ (.slice a (n2 + nb) c) = w4 at hk4 hb4 ho4 ⊢
  clear hsc
  have hsz4 := hb4.size
  have hlt4 := (Array.getElem?_eq_some_iff.1 hk4).1
  have hrv4 : RvIs w4 w4.heap.size ⟨a1, n1, c1, a, n2 + nb, c⟩ ⟨f.firm, f.loose ++ bs⟩ := by
    have h := HRV.out
    refine ⟨h.n1, by have := h.n2; dsimp only at this ⊢; rw [List.length_append, HBL.out, this], (h.in1.below hb4 hBw).mono (by omega), ho4.in, h.w1, BytesWf.app h.w2 HW.out, h.z1, ho4.nil, h.k1, bown_cap ho4⟩
  obtain ⟨tot, htot⟩ : ∃ t, (⟨f.firm, f.loose ++ bs⟩ : Fi).all.length = t := ⟨_, rfl⟩
  have hfl : f.all.length + nb = tot := by rw [← htot]; unfold Fi.all; dsimp only; rw [List.length_append, List.length_append, List.length_append, HBL.out]; omega
  have htl : tot ≤ 2199023255552 := by omega
  obtain ⟨us, hus⟩ : ∃ u, dUsed L = u := ⟨_, rfl⟩
  have hul : us ≤ room := by rw [← hus]; exact H.out.used
  have hrl := H.out.rle
  obtain ⟨g2, hg2⟩ : ∃ g, decide (4194304 < tot) = g := ⟨_, rfl⟩
  obtain ⟨g3, hg3⟩ : ∃ g, decide (room < us + nb) = g := ⟨_, rfl⟩
  have hg2i : decide ((4194304 : Int) < tot) = g2 := by rw [← hg2]; exact decide_eq_decide.2 (by omega)
  have hg3i : decide ((room : Int) < IntKind.i64.wrap ((us : Int) + (nb : Int))) = g3 := by rw [IntWalk.i64_in _ (by omega), ← hg3]; exact decide_eq_decide.2 (by omega)
  obtain ⟨x2, hx2⟩ : ∃ x : Int, (if g2 = true then (3 : Int) else 0) = x := ⟨_, rfl⟩
  obtain ⟨x3, hx3⟩ : ∃ x : Int, (if g3 = true then (5 : Int) else 0) = x := ⟨_, rfl⟩
  obtain ⟨er, her⟩ : ∃ x : Int, firstE 0 x2 x3 = x := ⟨_, rfl⟩
  have hC : ∀ w', Below w4.heap.size w4 w' → w'.cell? ⟨w.heap.size, 0, none⟩ = some (.slice a1 n1 c1) ∧ w'.cell? ⟨w.heap.size, 1, none⟩ = some (.slice a (n2 + nb) c) ∧ w'.cell? ⟨db, 0, none⟩ = some (.int .i64 room) ∧ w'.cell? ⟨db, 1, none⟩ = some (.map (some mb)) := fun w' hb => by
    have hk := (hb.block _ hlt4).trans hk4
    obtain ⟨q0, q1⟩ := ((H.out.below hb4 hBw).below hb (by omega)).cells
    exact ⟨Go.Joins.cell_of_block hk 0, Go.Joins.cell_of_block hk 1, q0, q1⟩
  have HC := Lib.hid hC
  have HB4 := Lib.hid hb4
  have HK4 := Lib.hid hk4
  have HRV4 := Lib.hid hrv4
  have HX2 := Lib.hid hx2
  have HX3 := Lib.hid hx3
  have HER := Lib.hid her
  have HTOT := Lib.hid htot
  have HUS := Lib.hid hus
  have HFL := Lib.hid hfl
  have HG2 := Lib.hid hg2
  have HG3 := Lib.hid hg3
  clear hC hb4 hk4 hrv4 hx2 hx3 her htot hus hfl hg2 hg3 ho4 hz3
  refine heldS_begin (fun w' => Below w4.heap.size w4 w') (by kernel_rfl) ((Below.refl _ _).drew) ?_
  intro hS0
  (first | (refine takeS_no 0 rfl (by kernel_rfl) (by kernel_rfl) (by kernel_rfl) (fun _ _ _ h => h) (by rfl) (by assumption) ?_) | (refine takeS_yes (v := ?_) 0 rfl (by kernel_rfl) (by kernel_rfl) (by kernel_rfl) (fun _ _ _ h => h) (by rfl) (by assumption) ?_ ?_; rotate_left; focus (intro wS hSw; obtain ⟨q0, q1, q2, q3⟩ := HC.out wS hSw; go_simp; first | done | with_reducible rfl)))
  (try simp only [Act.put, List.setIfInBounds_toArray, List.set_cons_zero, List.set_cons_succ])
  (first | (refine takeS_no 5 rfl (by kernel_rfl) (by kernel_rfl) (by kernel_rfl) (fun _ _ _ h => h) (by rfl) (by assumption) ?_) | (refine takeS_yes (v := ?_) 5 rfl (by kernel_rfl) (by kernel_rfl) (by kernel_rfl) (fun _ _ _ h => h) (by rfl) (by assumption) ?_ ?_; rotate_left; focus (intro wS hSw; obtain ⟨q0, q1, q2, q3⟩ := HC.out wS hSw; go_simp; first | done | with_reducible rfl)))
  (try simp only [Act.put, List.setIfInBounds_toArray, List.set_cons_zero, List.set_cons_succ])
  (first | (refine takeS_no 9 rfl (by kernel_rfl) (by kernel_rfl) (by kernel_rfl) (fun _ _ _ h => h) (by rfl) (by assumption) ?_) | (refine takeS_yes (v := ?_) 9 rfl (by kernel_rfl) (by kernel_rfl) (by kernel_rfl) (fun _ _ _ h => h) (by rfl) (by assumption) ?_ ?_; rotate_left; focus (intro wS hSw; obtain ⟨q0, q1, q2, q3⟩ := HC.out wS hSw; go_simp; first | done | with_reducible rfl)))
  (try simp only [Act.put, List.setIfInBounds_toArray, List.set_cons_zero, List.set_cons_succ])
  (first | (refine takeS_no 11 rfl (by kernel_rfl) (by kernel_rfl) (by kernel_rfl) (fun _ _ _ h => h) (by rfl) (by assumption) ?_) | (refine takeS_yes (v := ?_) 11 rfl (by kernel_rfl) (by kernel_rfl) (by kernel_rfl) (fun _ _ _ h => h) (by rfl) (by assumption) ?_ ?_; rotate_left; focus (intro wS hSw; obtain ⟨q0, q1, q2, q3⟩ := HC.out wS hSw; go_simp; first | done | with_reducible rfl)))
  (try simp only [Act.put, List.setIfInBounds_toArray, List.set_cons_zero, List.set_cons_succ])
  (first | (refine takeS_no 12 rfl (by kernel_rfl) (by kernel_rfl) (by kernel_rfl) (fun _ _ _ h => h) (by rfl) (by assumption) ?_) | (refine takeS_yes (v := ?_) 12 rfl (by kernel_rfl) (by kernel_rfl) (by kernel_rfl) (fun _ _ _ h => h) (by rfl) (by assumption) ?_ ?_; rotate_left; focus (intro wS hSw; obtain ⟨q0, q1, q2, q3⟩ := HC.out wS hSw; go_simp; first | done | with_reducible rfl)))
  (try simp only [Act.put, List.setIfInBounds_toArray, List.set_cons_zero, List.set_cons_succ])
  (first | (refine takeS_no 14 rfl (by kernel_rfl) (by kernel_rfl) (by kernel_rfl) (fun _ _ _ h => h) (by rfl) (by assumption) ?_) | (refine takeS_yes (v := ?_) 14 rfl (by kernel_rfl) (by kernel_rfl) (by kernel_rfl) (fun _ _ _ h => h) (by rfl) (by assumption) ?_ ?_; rotate_left; focus (intro wS hSw; obtain ⟨q0, q1, q2, q3⟩ := HC.out wS hSw; go_simp; first | done | with_reducible rfl)))
  (try simp only [Act.put, List.setIfInBounds_toArray, List.set_cons_zero, List.set_cons_succ])
  (first | (refine takeS_no 15 rfl (by kernel_rfl) (by kernel_rfl) (by kernel_rfl) (fun _ _ _ h => h) (by rfl) (by assumption) ?_) | (refine takeS_yes (v := ?_) 15 rfl (by kernel_rfl) (by kernel_rfl) (by kernel_rfl) (fun _ _ _ h => h) (by rfl) (by assumption) ?_ ?_; rotate_left; focus (intro wS hSw; obtain ⟨q0, q1, q2, q3⟩ := HC.out wS hSw; go_simp; first | done | with_reducible rfl)))
  (try simp only [Act.put, List.setIfInBounds_toArray, List.set_cons_zero, List.set_cons_succ])
  (first | (refine takeS_no 16 rfl (by kernel_rfl) (by kernel_rfl) (by kernel_rfl) (fun _ _ _ h => h) (by rfl) (by assumption) ?_) | (refine takeS_yes (v := ?_) 16 rfl (by kernel_rfl) (by kernel_rfl) (by kernel_rfl) (fun _ _ _ h => h) (by rfl) (by assumption) ?_ ?_; rotate_left; focus (intro wS hSw; obtain ⟨q0, q1, q2, q3⟩ := HC.out wS hSw; go_simp; first | done | with_reducible rfl)))
  (try simp only [Act.put, List.setIfInBounds_toArray, List.set_cons_zero, List.set_cons_succ])
  (first | (refine takeS_no 17 rfl (by kernel_rfl) (by kernel_rfl) (by kernel_rfl) (fun _ _ _ h => h) (by rfl) (by assumption) ?_) | (refine takeS_yes (v := ?_) 17 rfl (by kernel_rfl) (by kernel_rfl) (by kernel_rfl) (fun _ _ _ h => h) (by rfl) (by assumption) ?_ ?_; rotate_left; focus (intro wS hSw; obtain ⟨q0, q1, q2, q3⟩ := HC.out wS hSw; go_simp; first | done | with_reducible rfl)))
  (try simp only [Act.put, List.setIfInBounds_toArray, List.set_cons_zero, List.set_cons_succ])
  generalize w4.drew = wd at hS0 ⊢
  have hzd := hS0.size
  refine takeS_alone 1 rfl (by kernel_rfl) (by rfl) (fun K hK => ?_)
  go_simp
  (have c1 := hS0.alloc hzd (.cells #[.string s] 9); have k1 := heap_alloc_new wd (.cells #[.string s] 9); generalize wd.alloc (.cells #[.string s] 9) = w5 at c1 k1 ⊢)
  refine hK.out _ _ (by assumption) ?_
  clear hK K
  (try simp only [Act.put, List.setIfInBounds_toArray, List.set_cons_zero, List.set_cons_succ])
  refine takeS_alone 2 rfl (by kernel_rfl) (by rfl) (fun K hK => ?_)
  go_simp
  (refine (fit_one wd.heap.size s w5 (Go.Joins.cell_of_block k1 0) HS.out).mono ?_; rintro e w6 ⟨rfl, hb⟩; have c2 := c1.trans (hb.mono c1.size); clear hb c1 k1)
  refine hK.out _ _ (by assumption) ?_
  clear hK K
  (try simp only [Act.put, List.setIfInBounds_toArray, List.set_cons_zero, List.set_cons_succ])
  (first | (refine takeS_no 3 rfl (by kernel_rfl) (by kernel_rfl) (by kernel_rfl) (fun _ _ _ h => h) (by rfl) (by assumption) ?_) | (refine takeS_yes (v := ?_) 3 rfl (by kernel_rfl) (by kernel_rfl) (by kernel_rfl) (fun _ _ _ h => h) (by rfl) (by assumption) ?_ ?_; rotate_left; focus (intro wS hSw; obtain ⟨q0, q1, q2, q3⟩ := HC.out wS hSw; go_simp; first | done | with_reducible rfl)))
  (try simp only [Act.put, List.setIfInBounds_toArray, List.set_cons_zero, List.set_cons_succ])
  refine takeS_alone 4 rfl (by kernel_rfl) (by rfl) (fun K hK => ?_)
  go_simp
  (refine (when_at false 2 0 w6 rfl).mono ?_; rintro e w6' ⟨rfl, rfl⟩)
  refine hK.out _ _ (by assumption) ?_
  clear hK K
  (try simp only [Act.put, List.setIfInBounds_toArray, List.set_cons_zero, List.set_cons_succ])
  refine takeS_alone 6 rfl (by kernel_rfl) (by rfl) (fun K hK => ?_)
  go_simp
  (refine (size_file ⟨a1, n1, c1, a, n2 + nb, c⟩ ⟨f.firm, f.loose ++ bs⟩ w6 w4.heap.size (HRV4.out.below c2 (Nat.le_refl _)) tot HTOT.out htl).mono ?_; rintro e w7 ⟨rfl, hb⟩; have c3 := c2.trans (hb.mono c2.size); clear hb c2)
  refine hK.out _ _ (by assumption) ?_
  clear hK K
  (try simp only [Act.put, List.setIfInBounds_toArray, List.set_cons_zero, List.set_cons_succ])
  (first | (refine takeS_no 7 rfl (by kernel_rfl) (by kernel_rfl) (by kernel_rfl) (fun _ _ _ h => h) (by rfl) (by assumption) ?_) | (refine takeS_yes (v := ?_) 7 rfl (by kernel_rfl) (by kernel_rfl) (by kernel_rfl) (fun _ _ _ h => h) (by rfl) (by assumption) ?_ ?_; rotate_left; focus (intro wS hSw; obtain ⟨q0, q1, q2, q3⟩ := HC.out wS hSw; go_simp; first | done | with_reducible rfl)))
  (try simp only [Act.put, List.setIfInBounds_toArray, List.set_cons_zero, List.set_cons_succ])
  refine takeS_alone 8 rfl (by kernel_rfl) (by rfl) (fun K hK => ?_)
  go_simp
  (refine (when_at g2 3 x2 w7 HX2.out).mono ?_; rintro e w7' ⟨rfl, rfl⟩)
  refine hK.out _ _ (by assumption) ?_
  clear hK K
  (try simp only [Act.put, List.setIfInBounds_toArray, List.set_cons_zero, List.set_cons_succ])
  refine takeS_alone 10 rfl (by kernel_rfl) (by rfl) (fun K hK => ?_)
  go_simp
  (refine (used_at ((H.out.below HB4.out hBw).below c3 (by omega)) us HUS.out).mono ?_; rintro e w8 ⟨rfl, hb⟩; have c4 := c3.trans (hb.mono c3.size); clear hb c3)
  refine hK.out _ _ (by assumption) ?_
  clear hK K
  (try simp only [Act.put, List.setIfInBounds_toArray, List.set_cons_zero, List.set_cons_succ])
  (first | (refine takeS_no 13 rfl (by kernel_rfl) (by kernel_rfl) (by kernel_rfl) (fun _ _ _ h => h) (by rfl) (by assumption) ?_) | (refine takeS_yes (v := ?_) 13 rfl (by kernel_rfl) (by kernel_rfl) (by kernel_rfl) (fun _ _ _ h => h) (by rfl) (by assumption) ?_ ?_; rotate_left; focus (intro wS hSw; obtain ⟨q0, q1, q2, q3⟩ := HC.out wS hSw; go_simp; first | done | with_reducible rfl)))
  (try simp only [Act.put, List.setIfInBounds_toArray, List.set_cons_zero, List.set_cons_succ])
  (first | (refine takeS_no 18 rfl (by kernel_rfl) (by kernel_rfl) (by kernel_rfl) (fun _ _ _ h => h) (by rfl) (by assumption) ?_) | (refine takeS_yes (v := ?_) 18 rfl (by kernel_rfl) (by kernel_rfl) (by kernel_rfl) (fun _ _ _ h => h) (by rfl) (by assumption) ?_ ?_; rotate_left; focus (intro wS hSw; obtain ⟨q0, q1, q2, q3⟩ := HC.out wS hSw; go_simp; first | done | with_reducible rfl)))
  (try simp only [Act.put, List.setIfInBounds_toArray, List.set_cons_zero, List.set_cons_succ])
  refine takeS_alone 19 rfl (by kernel_rfl) (by rfl) (fun K hK => ?_)
  go_simp
  (refine (when_at g3 5 x3 w8 HX3.out).mono ?_; rintro e w8' ⟨rfl, rfl⟩)
  refine hK.out _ _ (by assumption) ?_
  clear hK K
  (try simp only [Act.put, List.setIfInBounds_toArray, List.set_cons_zero, List.set_cons_succ])
  refine takeS_alone 20 rfl (by kernel_rfl) (by rfl) (fun K hK => ?_)
  go_simp
  (have c5 := c4.alloc c4.size (.cells #[.int .i64 0, .int .i64 x2, .int .i64 x3] 26); have k5 := heap_alloc_new w8 (.cells #[.int .i64 0, .int .i64 x2, .int .i64 x3] 26); generalize w8.alloc (.cells #[.int .i64 0, .int .i64 x2, .int .i64 x3] 26) = w9 at c5 k5 ⊢)
  refine hK.out _ _ (by assumption) ?_
  clear hK K
  (try simp only [Act.put, List.setIfInBounds_toArray, List.set_cons_zero, List.set_cons_succ])
  refine takeS_alone 21 rfl (by kernel_rfl) (by rfl) (fun K hK => ?_)
  go_simp
  (refine (or_any w8.heap.size 0 x2 x3 er w9 (Go.Joins.cell_of_block k5 0) (Go.Joins.cell_of_block k5 1) (Go.Joins.cell_of_block k5 2) HER.out).mono ?_; rintro e w9' ⟨rfl, rfl⟩)
  refine hK.out _ _ (by assumption) ?_
  clear hK K
  (try simp only [Act.put, List.setIfInBounds_toArray, List.set_cons_zero, List.set_cons_succ])
  (first | (refine takeS_no 22 rfl (by kernel_rfl) (by kernel_rfl) (by kernel_rfl) (fun _ _ _ h => h) (by rfl) (by assumption) ?_) | (refine takeS_yes (v := ?_) 22 rfl (by kernel_rfl) (by kernel_rfl) (by kernel_rfl) (fun _ _ _ h => h) (by rfl) (by assumption) ?_ ?_; rotate_left; focus (intro wS hSw; obtain ⟨q0, q1, q2, q3⟩ := HC.out wS hSw; go_simp; first | done | with_reducible rfl)))
  (try simp only [Act.put, List.setIfInBounds_toArray, List.set_cons_zero, List.set_cons_succ])
  refine wpAnyH_done (by kernel_rfl) ?_ _
  obtain ⟨q0, q1, q2, q3⟩ := HC.out w9 c5
  have hb9 : Below w.heap.size w w9 := HB4.out.trans (c5.mono hsz4)
  have hd9 : DiskIs w9 w9.heap.size db mb room n L := (H.out.below hb9 hBw).mono (Nat.le_trans hBw hb9.size) (Nat.le_refl _)
  have hr9 : RvIs w9 w9.heap.size ⟨a1, n1, c1, a, n2 + nb, c⟩ ⟨f.firm, f.loose ++ bs⟩ := (HRV4.out.below c5 (Nat.le_refl _)).mono c5.size
  have HB9 := Lib.hid hb9
  have HD9 := Lib.hid hd9
  have HR9 := Lib.hid hr9
  clear hb9 hd9 hr9 c4 c5 k5 hS0 hzd
  have hgood := HS.out.good
  have hfl := HFL.out
  have hdap : dAppend room L s.data.toList bs = if g2 = true then (L, 3) else if g3 = true then (L, 5) else (dPut L s.data.toList ⟨f.firm, f.loose ++ bs⟩, 0) := by
    unfold dAppend
    dsimp only
    rw [HF.out, hgood, if_neg (by simp), HUS.out, HBL.out, ← HG2.out, ← HG3.out, hfl]
    simp only [decide_eq_true_eq]
  rw [HR.out] at hdap
  have HDA := Lib.hid hdap
  clear hdap hgood hfl
  by_cases her0 : er = 0
  · have hg2f : g2 = false := by
      cases g2 with
      | false => rfl
      | true =>
        have h := HER.out
        rw [← HX2.out] at h
        simp [firstE] at h
        omega
    have hg3f : g3 = false := by
      cases g3 with
      | false => rfl
      | true =>
        have h := HER.out
        rw [← HX2.out, ← HX3.out, hg2f] at h
        simp [firstE] at h
        omega
    have hr2 := HDA.out
    rw [hg2f, hg3f] at hr2
    simp at hr2
    have HR2 := Lib.hid hr2
    have hus3 : us + nb ≤ room := by
      have h := HG3.out
      rw [hg3f] at h
      simpa using h
    have HU3 := Lib.hid hus3
    subst her0
    clear hr2 hg2f hg3f hus3
    go_wp2_with fail
    go_still_tail 6, (by kernel_rfl)
    change wpList _ _ _ _ _ w9.drew
    have hd9 : DiskIs w9.drew w9.drew.heap.size db mb room n L := HD9.out.below (B' := w9.heap.size) (Below.refl _ _).drew (Nat.le_refl _)
    have hr9 : RvIs w9.drew w9.drew.heap.size ⟨a1, n1, c1, a, n2 + nb, c⟩ ⟨f.firm, f.loose ++ bs⟩ := HR9.out.below (B' := w9.heap.size) (Below.refl _ _).drew (Nat.le_refl _)
    have hb9 : Below w.heap.size w w9.drew := HB9.out.drew
    generalize w9.drew = w10 at hd9 hr9 hb9 ⊢
    refine wpList_store_dk rfl _ _ _ rfl hd9.map (Nat.le_refl _) hn rfl s rfl hsm _ rfl _ hr9 ?_
    intro w11 hm11 hg11
    have hd11 : DiskIs w11 w11.heap.size db mb room (n + 1) (dPut L s.data.toList ⟨f.firm, f.loose ++ bs⟩) :=
      hd9.stored hm11 hg11 (dPut_ok hd9.ok _ _) (by
        have h1 := HUS.out
        have h2 := HU3.out
        have h3 := dUsed_put L s.data.toList ⟨f.firm, f.loose ++ bs⟩
        have h4 := HFL.out
        have h5 := HTOT.out
        have h7 := HF.out
        cases hg : dGet L s.data.toList with
        | none =>
          rw [hg] at h7
          have h8 : f.all.length = 0 := by rw [← h7]; rfl
          rw [dDel_of_none hg] at h3
          omega
        | some f0 =>
          rw [hg] at h7
          have h8 := dUsed_del hd9.ok hg
          have h9 : f0 = f := h7
          rw [h9] at h8
          omega)
    clear hm11
    go_wp2_with fail
    go_ret
    rw [show r = (dPut L s.data.toList ⟨f.firm, f.loose ++ bs⟩, 0) from HR2.out]
    exact ⟨rfl, hd11, (below_grown hb9 (some mb)).trans hg11⟩
  · have hr2 : r = (L, er) := by
      have h := HER.out
      rw [HDA.out]
      rw [← HX2.out, ← HX3.out] at h
      cases g2 <;> cases g3 <;> simp [firstE] at h ⊢
      · exact absurd h.symm her0
      all_goals omega
    have HR2 := Lib.hid hr2
    clear hr2
    go_wp2_with fail
    go_ret
    rw [HR2.out]
    exact ⟨rfl, HD9.out.more (Nat.le_succ n), below_grown HB9.out (some mb)⟩
end Go.Proofs.YtnhnabcpkaeaaaaGreatDoor
