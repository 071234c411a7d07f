/- Which names may be. Conditions: the names of snaps. -/
import Derived.Test.YtejgebpdipnhmaaGreatDoorGSnapNumbers6
import Derived.Lib.OthersKept
import Derived.Lib.TrimU
set_option linter.unusedVariables false
set_option linter.unusedSimpArgs false
namespace Go.Proofs.YtejgebpdipnhmaaGreatDoor
open Go.RowKit
set_option maxRecDepth 20000
def snapS : ByteArray := ⟨#[115, 110, 97, 112]⟩
def newS : ByteArray := ⟨#[115, 110, 97, 112, 46, 110, 101, 119]⟩
def okR (x : Nat) : Prop := (97 ≤ x ∧ x ≤ 122) ∨ (48 ≤ x ∧ x ≤ 57) ∨ x = 46 ∨ x = 45
instance okRDec (x : Nat) : Decidable (okR x) := inferInstanceAs (Decidable (_ ∨ _))
theorem strange_no (x : Nat) (w : World) (h : okR x) : Calls Tryz.prog 122 #[.int .i32 x] w fun e w' => e = .returned (.bool false) ∧ w = w' := by
  unfold okR at h
  have hx : ∀ y : Nat, ((x : Int) = y ↔ x = y) := fun y => by omega
  by_cases h1 : 97 ≤ x
  · by_cases h2 : x ≤ 122
    · go_enter Tryz.func122, Tryz.ntmps122
      go_wp2_with fail
      all_goals (go_ret; exact ⟨by first | rfl | simp, by first | rfl | trivial⟩)
    · omega
  · by_cases h2 : 48 ≤ x
    · have h3 : x ≤ 57 := by omega
      go_enter Tryz.func122, Tryz.ntmps122
      go_wp2_with fail
      all_goals (go_ret; exact ⟨by first | rfl | simp, by first | rfl | trivial⟩)
    · rcases (show x = 46 ∨ x = 45 by omega) with rfl | rfl
      · go_enter Tryz.func122, Tryz.ntmps122
        go_wp2_with fail
        all_goals (go_ret; exact ⟨by first | rfl | simp, by first | rfl | trivial⟩)
      · go_enter Tryz.func122, Tryz.ntmps122
        go_wp2_with fail
        all_goals (go_ret; exact ⟨by first | rfl | simp, by first | rfl | trivial⟩)
/-- Each rune of a name may be. -/
def okS (s : ByteArray) : Prop := ∀ pos, pos < s.size → okR (Utf8.decode s pos).1
theorem index_no (s : ByteArray) (w : World) (h : okS s) : Calls Tryz.prog 191 #[.string s, .func (.func 122) #[] #[], .bool true] w fun e w' => e = .returned (.int .i64 (-1)) ∧ Below w.heap.size w w' := by
  have HS := Lib.hid h
  clear h
  go_enter Tryz.func191, Tryz.ntmps191
  go_wp2_with fail
  go_loopg [] s.size (fun gf wx => ∃ pos : Nat, wx.heap[w.heap.size]? = some (.stringIter s pos) ∧ Below w.heap.size w wx ∧ s.size ≤ pos + gf)
  case atStart => exact ⟨0, World.iter_heap w s 0, (Below.refl _ w).alloc (Nat.le_refl _) _, by omega⟩
  case round =>
    obtain ⟨pos, hit, hbw, hfu⟩ := hrel
    by_cases hps : pos < s.size
    · obtain ⟨g', rfl⟩ : ∃ g', gk = g' + 1 := ⟨gk - 1, by omega⟩
      have hnx := fun ty => Lib.run_next_any_at (P := Tryz.prog) wr w.heap.size s pos ty hit hps
      have hwd := Lib.width_pos s pos
      have hok := HS.out pos hps
      generalize (Utf8.decode s pos).1 = R at hnx hok
      generalize (Utf8.decode s pos).2 = K at hnx hwd
      have hit2 := Lib.iterAt_heap wr w.heap.size s pos (pos + K) hit
      have hbw2 := Lib.below_iterAt hbw (k := w.heap.size) (Nat.le_refl _) s (pos + K)
      generalize wr.iterAt w.heap.size s (pos + K) = W at hnx hit2 hbw2
      go_wp2_with fail
      refine (strange_no R W hok).mono ?_
      rintro e W' ⟨rfl, rfl⟩
      go_wp2_with fail
      go_roundg g'
      case measure => omega
      case rel => exact ⟨pos + K, hit2, hbw2, by omega⟩
    · have hnx := fun ty => Lib.run_next_end_at (P := Tryz.prog) wr w.heap.size s pos ty hit hps
      go_wp2_with fail
      go_ret
      exact ⟨by first | rfl | simp, hbw⟩
theorem indexF_no (s : ByteArray) (w : World) (h : okS s) : Calls Tryz.prog 174 #[.string s, .func (.func 122) #[] #[]] w fun e w' => e = .returned (.int .i64 (-1)) ∧ Below w.heap.size w w' := by
  have HS := Lib.hid h
  clear h
  go_enter Tryz.func174, Tryz.ntmps174
  go_wp2_with fail
  refine (index_no s _ HS.out).mono ?_
  rintro e w1 ⟨rfl, hb⟩
  go_wp2_with fail
  go_ret
  exact ⟨by first | rfl | simp, hb⟩
theorem contains_no (s : ByteArray) (w : World) (h : okS s) : Calls Tryz.prog 123 #[.string s, .func (.func 122) #[] #[]] w fun e w' => e = .returned (.bool false) ∧ Below w.heap.size w w' := by
  have HS := Lib.hid h
  clear h
  go_enter Tryz.func123, Tryz.ntmps123
  go_wp2_with fail
  refine (indexF_no s _ HS.out).mono ?_
  rintro e w1 ⟨rfl, hb⟩
  go_wp2_with fail
  go_ret
  exact ⟨by first | rfl | simp, hb⟩
/-- A name that may be. -/
structure Named (s : ByteArray) : Prop where
  ok : okS s
  pos : 0 < s.size
  le : s.size ≤ 30
  good : goodName s.data.toList = true
  ne : s.toList.isEmpty = false
theorem snap_named : Named snapS := ⟨by show ∀ pos, pos < 4 → okR (Utf8.decode snapS pos).1; decide, by decide, by decide, by decide, by rw [ByteArray.toList_eq]; decide⟩
theorem new_named : Named newS := ⟨by show ∀ pos, pos < 8 → okR (Utf8.decode newS pos).1; decide, by decide, by decide, by decide, by rw [ByteArray.toList_eq]; decide⟩
theorem fit_one (b : Nat) (s : ByteArray) (w : World) (k0 : w.cell? ⟨b, 0, none⟩ = some (.string s)) (h : Named s) : Calls Tryz.prog 63 #[.slice (some ⟨b, 0, none⟩) 1 1] w fun e w' => e = .returned (.bool true) ∧ Below w.heap.size w w' := by
  have h2 := h.pos
  have h3 := h.le
  have j0 := h.ne
  have j1 : ¬ ((30 : Int) < s.size) := by omega
  have HS := Lib.hid h.ok
  clear h
  go_enter Tryz.func63, Tryz.ntmps63
  go_wp2_with fail
  refine wp_loop_rounds 2 ?_
  rw [rounds_succ]
  go_wp2_with fail
  refine (contains_no s _ HS.out).mono ?_
  rintro e w1 ⟨rfl, hb⟩
  have HB := Lib.hid hb
  clear hb
  go_wp2_with fail
  rw [rounds_succ]
  go_wp2_with fail
  go_ret
  exact ⟨by first | rfl | simp, HB.out⟩
theorem fit_two (b : Nat) (s t : ByteArray) (w : World) (k0 : w.cell? ⟨b, 0, none⟩ = some (.string s)) (k1 : w.cell? ⟨b, 1, none⟩ = some (.string t)) (hb : b < w.heap.size) (h : Named s) (g : Named t) : Calls Tryz.prog 63 #[.slice (some ⟨b, 0, none⟩) 2 2] w fun e w' => e = .returned (.bool true) ∧ Below w.heap.size w w' := by
  have h2 := h.pos
  have h3 := h.le
  have j0 := h.ne
  have j1 : ¬ ((30 : Int) < s.size) := by omega
  have g2 := g.pos
  have g3 := g.le
  have l0 := g.ne
  have l1 : ¬ ((30 : Int) < t.size) := by omega
  have l2 : (t.size : Int) ≤ 30 := by omega
  have l3 : decide ((30 : Int) < t.size) = false := decide_eq_false l1
  have HS := Lib.hid h.ok
  have HT := Lib.hid g.ok
  clear h g
  go_enter Tryz.func63, Tryz.ntmps63
  go_wp2_with fail
  refine wp_loop_rounds 3 ?_
  rw [rounds_succ]
  go_wp2_with fail
  refine (contains_no s _ HS.out).mono ?_
  rintro e w1 ⟨rfl, hb1⟩
  have q1 : w1.cell? ⟨b, 1, none⟩ = some (.string t) := (hb1.cell (p := ⟨b, 1, none⟩) hb).trans k1
  have HB := Lib.hid hb1
  clear hb1 k0 k1
  go_wp2_with fail
  rw [rounds_succ]
  go_wp2_with fail
  refine (contains_no t _ HT.out).mono ?_
  rintro e w2 ⟨rfl, hb2⟩
  have HB2 := Lib.hid (HB.out.trans (hb2.mono HB.out.size))
  clear hb2 q1
  go_wp2_with fail
  rw [rounds_succ]
  go_wp2_with fail
  go_ret
  exact ⟨by first | rfl | simp, HB2.out⟩
end Go.Proofs.YtejgebpdipnhmaaGreatDoor
/- A disk's files while a loop goes over them; a store at a name that is there. Conditions: the map's block reads as the files. -/
namespace Go.Proofs.YtejgebpdipnhmaaGreatDoor
open Go.RowKit Go.ChangeMaps Go.MapKept Go.WideShapes
open Go.WideElems (Fit rd rg pl rd_key rd_val rd_mk rg_of)
open Go.Maps (Keyed)
set_option maxRecDepth 20000
theorem left_len (a : Array MapEntry) (seen : Array Nat) : (leftOf a seen).size = ((a.toList.map (·.born)).filter fun x => !seen.contains x).length := by
  unfold leftOf
  rw [← Array.length_toList, Array.toList_filter, List.filter_map, List.length_map]
  rfl
theorem set_same {α : Type} (l : List α) (j : Nat) (x : α) (h : l[j]? = some x) : l.set j x = l := by
  obtain ⟨hj, rfl⟩ := List.getElem?_eq_some_iff.1 h
  exact List.set_getElem_self _
/-- A store at a key that is there, into the map that is ranged over. -/
theorem ranges_store {H : Type} {P : Program} {k t e : TypeId} {R : Value → Option (DataW H × List MemPlace)} {w : World} {b r n : Nat} {D : DataW H} {left : Lit → Bool} {cnt : Nat} (h : w.ranges P k R b r n D left cnt) (K : Keyed P k) (ht : P.underlying t = some (.map k e)) (hn : n < maxLen)
    {key val : Value} {kl : Lit} {d : DataW H} {ps : List MemPlace} (hkey : keyOf P k key = some kl) (hv : R val = some (d, ps)) (hhas : Maps.has D kl = true) :
    ∃ w', (Instr.mapUpdate t (.map (some b)) key val).run P w = .ok () w' ∧ w'.ranges P k R b r n (D.put kl d) left cnt ∧ w.mapTurned w' b := by
  have hne := h.ne
  obtain ⟨es, clock, since, seen, c0, hb, F, hs, rfl, hr, hold, hc, hl1, hl2, hsc, hsk⟩ := h
  obtain ⟨es1, ck1, hrun, F1, hput, _⟩ := Maps.fit_store (R' := R) K ht hb F (Nat.lt_of_le_of_lt hs hn) (fun _ _ _ _ hz => hz) hkey hv
  rcases K.find w hkey es.toList F.keys with ⟨_, h2⟩ | ⟨j, e0, h1, h2, h3⟩
  · exfalso
    obtain ⟨p, hp, hpk⟩ := List.any_eq_true.1 hhas
    obtain ⟨x, hx, rfl⟩ := List.mem_map.1 (mem_sorted.1 hp)
    obtain ⟨y, hy⟩ := F.reads x hx
    have he := WideAt.sameKey_eq hpk
    rw [rg_of hy] at he
    exact h2 x hx (K.inj (he ▸ rd_key hy) hkey)
  · have hj : es[j]? = some e0 := by simpa using h2
    have hrun2 : (Instr.mapUpdate t (.map (some b)) key val).run P w = .ok () (setBlock w b (.map (es.modify j (fun e' => { e' with key := key, val := val })) clock)) := by
      simp [Instr.mapUpdate, run_underlying ht, MapKept.run_getObj_map hb, K.check w false hkey, h1, hj, h3, K.stays w hkey, MapKept.run_setObj_map _ hb, Result.andThen, setBlock]
    have hw : setBlock w b (.map es1 ck1) = setBlock w b (.map (es.modify j (fun e' => { e' with key := key, val := val })) clock) := by
      rw [hrun] at hrun2
      injection hrun2
    have hh := congrArg (fun w' : World => w'.heap[b]?) hw
    rw [heap_setBlock_same hb, heap_setBlock_same hb] at hh
    simp only [Option.some.injEq, Obj.map.injEq] at hh
    obtain ⟨rfl, rfl⟩ := hh
    have hlist : (es.modify j (fun e' => { e' with key := key, val := val })).toList = es.toList.set j { e0 with key := key, val := val } := by rw [Array.toList_modify, modify_eq_set _ _ _ _ h2]
    have hjl : j < es.toList.length := (List.getElem?_eq_some_iff.1 h2).1
    have hje : es.toList[j] = e0 := by rw [List.getElem?_eq_getElem hjl] at h2; exact Option.some.inj h2
    have hm0 : e0 ∈ es.toList := List.mem_of_getElem? h2
    have hborn : (es.modify j (fun e' => { e' with key := key, val := val })).toList.map (·.born) = es.toList.map (·.born) := by
      rw [hlist, List.map_set]
      have hg : (es.toList.map (·.born))[j]? = some e0.born := by rw [List.getElem?_map, h2]; rfl
      exact set_same _ _ _ hg
    have hnew : (rg P k R ⟨key, val, e0.born⟩).1 = kl := by rw [rg_of (rd_mk hkey hv)]
    have hold0 : (rg P k R e0).1 = kl := by
      obtain ⟨y, hy⟩ := F.reads e0 hm0
      rw [rg_of hy]
      have := rd_key hy
      rw [h3, hkey] at this
      exact (Option.some.inj this).symm
    have who : ∀ x ∈ es.toList.set j { e0 with key := key, val := val }, x = { e0 with key := key, val := val } ∨ x ∈ es.toList := fun x hx => (List.mem_or_eq_of_mem_set hx).symm
    refine ⟨_, hrun2, ⟨_, _, since, seen, c0, heap_setBlock_same hb _, F1, by simpa using hs, by rw [DataW.put_eq, hput], (heap_setBlock_other hb _ hne).trans hr, fun x hx => ?_, ?_, fun x hx => ?_, fun kl' hkl' => ?_, hsc, hsk⟩, ⟨es, _, _, _, hb, rfl⟩⟩
    · rw [hlist] at hx
      rcases who x hx with rfl | hx
      · exact hold e0 hm0
      · exact hold x hx
    · rw [left_len, hborn, ← left_len]
      exact hc
    · rw [hlist] at hx
      rcases who x hx with rfl | hx
      · show left (rg P k R ⟨key, val, e0.born⟩).1 = _
        rw [hnew, ← hold0]
        exact hl1 e0 hm0
      · exact hl1 x hx
    · obtain ⟨x, hx, rfl⟩ := hl2 kl' hkl'
      rw [hlist]
      obtain ⟨i, hi, rfl⟩ := List.getElem_of_mem hx
      by_cases hij : i = j
      · subst hij
        refine ⟨{ e0 with key := key, val := val }, List.mem_set hi _, ?_⟩
        show (rg P k R ⟨key, val, e0.born⟩).1 = _
        rw [hnew, hje, hold0]
      · refine ⟨es.toList[i], ?_, rfl⟩
        have : (es.toList.set j { e0 with key := key, val := val })[i]'(by simpa using hi) = es.toList[i] := List.getElem_set_ne (fun e => hij e.symm) _
        exact this ▸ List.getElem_mem _
/-- A loop over the files: which are still to come, how many. -/
def DkRange (w : World) (B mb it n : Nat) (L : Dk) (lf : List UInt8 → Bool) (cnt : Nat) : Prop :=
  ∃ D left, w.ranges Tryz.prog 9 rvElem mb it n D left cnt ∧ DkHas w B D L ∧ ∀ k, left (.string k) = lf k
theorem DkRange.map {w : World} {B mb it n : Nat} {L : Dk} {lf : List UInt8 → Bool} {cnt : Nat} (h : DkRange w B mb it n L lf cnt) : DkMap w B mb n L := let ⟨D, _, h1, h2, _⟩ := h; ⟨D, h1.owns, h2⟩
theorem DkRange.left_eq {w : World} {B mb it n : Nat} {L : Dk} {lf : List UInt8 → Bool} {cnt : Nat} (h : DkRange w B mb it n L lf cnt) : w.rangeLeft mb it = cnt := let ⟨_, _, h1, _, _⟩ := h; h1.left_eq
theorem DkRange.below {w w' : World} {B mb it n : Nat} {L : Dk} {lf : List UInt8 → Bool} {cnt : Nat} (h : DkRange w B mb it n L lf cnt) (hb : Below w.heap.size w w') (hB : B ≤ w.heap.size) : DkRange w' B mb it n L lf cnt := by
  obtain ⟨D, left, h1, h2, h3⟩ := h
  exact ⟨D, left, h1.kept (row := none) ⟨hb.os, hb.tape, hb.output, hb.size, fun i hi _ => hb.block i hi⟩ (by simp) (by simp), h2.below hb hB, h3⟩
section
variable {w : World} {ops : Array Oper} {rest : List Oper} {o : Oper} {a : Act} {Q : Exit → Act → World → Prop}
/-- 'range m'. -/
theorem wpList_range_dk (hg : o.guard = none) (m : Operand) (hop : o.op = Op.range 120 m) {B mb n : Nat} {L : Dk} (hm : a.eval m = .map (some mb)) (h : DkMap w B mb n L) (hB : B ≤ w.heap.size)
    (hK : ∀ w' cnt, DkRange w' B mb w.heap.size n L (fun k => (dGet L k).isSome) cnt → w.grownBy w' none → w'.heap.size = w.heap.size + 1 → wpList Tryz.prog ops Q rest (a.put o.dst (.pointer (some ⟨w.heap.size, 0, none⟩))) w') : wpList Tryz.prog ops Q (o :: rest) a w := by
  obtain ⟨D, hown, hh⟩ := h
  refine wpList_range_own w hg m _ hop 9 125 dk_law Tryz.underlying120 rvElem mb n D hm hown fun w' h1 h2 h3 => ?_
  refine hK w' _ ⟨D, _, h1, hh.below (B' := w.heap.size) ⟨h2.os, h2.tape, h2.output, h2.size, fun i hi => h2.block i hi (by simp)⟩ hB, fun k => ?_⟩ h2 h3
  cases hk : dGet L k with
  | none => rw [hh.no k hk]; simp [hk]
  | some f =>
    obtain ⟨r, hr, _⟩ := hh.yes k f hk
    rw [Maps.has_true_of_atKey hr]; simp [hk]
theorem key_inv {key : Value} {kl : Lit} (h : keyOf Tryz.prog 9 key = some kl) : ∃ s : ByteArray, key = .string s ∧ kl = .string s.data.toList ∧ s.size ≤ maxLen := by
  cases key <;> simp [keyOf, Tryz.underlying9, mapKey] at h
  obtain ⟨h1, rfl⟩ := h
  exact ⟨_, rfl, rfl, h1⟩
/-- The step. -/
theorem wpList_next_dk (hg : o.guard = none) (itv : Operand) (hop : o.op = Op.next itv false) {B mb it n : Nat} {L : Dk} {lf : List UInt8 → Bool} {cnt : Nat} (hit : a.eval itv = .pointer (some ⟨it, 0, none⟩)) (h : DkRange w B mb it n L lf cnt) (hB : B ≤ w.heap.size) (hBi : B ≤ it)
    (hDone : (∀ k, lf k = false) → wpList Tryz.prog ops Q rest (a.put o.dst (.tuple #[.bool false])) w)
    (hMore : ∀ (s : ByteArray) (r : Rv) (f : Fi) (w' : World) (cnt' : Nat), s.size ≤ maxLen → lf s.data.toList = true → dGet L s.data.toList = some f → RvIs w' B r f → DkRange w' B mb it n L (fun x => lf x && !decide (x = s.data.toList)) cnt' → cnt' < cnt →
      w.grownBy w' (some it) → w'.heap.size = w.heap.size → (Instr.entry (.pointer (some ⟨it, 0, none⟩))).run Tryz.prog w' = .ok (.tuple #[.string s, rvVal r]) w' → wpList Tryz.prog ops Q rest (a.put o.dst (.tuple #[.bool true, .string s, rvVal r])) w') :
    wpList Tryz.prog ops Q (o :: rest) a w := by
  obtain ⟨D, left, h1, h2, h3⟩ := h
  refine wpList_next_ranges w hg itv hop 9 dk_law rvElem Value.string rvVal (fun key kl hk => let ⟨s, hs, _⟩ := key_inv hk; ⟨s, hs⟩) (fun v y hv => let ⟨r, hr, _⟩ := rvElem_inv hv; ⟨r, hr⟩) mb it n D left cnt hit h1 (fun _ hl => hDone fun k => by rw [← h3]; exact hl _) ?_
  intro s r kl y w' cnt' hkey hlk hv hat hrg hlt hgr hsz hen
  obtain ⟨s', hs', rfl, hsl⟩ := key_inv hkey
  cases hs'
  obtain ⟨r', hr', rfl⟩ := rvElem_inv hv
  have hbl : Below B w w' := ⟨hgr.os, hgr.tape, hgr.output, hgr.size, fun i hi => hgr.block i (by omega) (by simp; omega)⟩
  have hh' := h2.below hbl (Nat.le_refl _)
  have hre : r' = r := by
    unfold rvVal at hr'
    simp at hr'
    cases r
    cases r'
    simp_all
  subst hre
  cases hg : dGet L s.data.toList with
  | none =>
    have := h2.no _ hg
    rw [Maps.has_true_of_atKey hat] at this
    cases this
  | some f =>
    obtain ⟨r1, hr1, hr2⟩ := hh'.yes _ f hg
    have he := (hat (.held rvZero)).symm.trans (hr1 (.held rvZero))
    simp only [DataW.held.injEq] at he
    subst he
    refine hMore s _ f w' cnt' hsl (by rw [← h3]; exact hlk) hg hr2 ⟨D, _, hrg, hh', fun k => ?_⟩ hlt hgr hsz hen
    show (left (.string k) && !(Lit.string k).sameKey (.string s.data.toList)) = _
    rw [h3]
    congr 2
    by_cases hk : k = s.data.toList
    · subst hk; rw [WideAt.sameKey_self (str_key _)]; simp
    · rw [Maps.sameKey_ne (str_ne hk)]; simp [hk]
end
end Go.Proofs.YtejgebpdipnhmaaGreatDoor
/- A disk as it lies in memory; whether there is one; how many bytes it has. Conditions: the disk lies so. -/
namespace Go.Proofs.YtejgebpdipnhmaaGreatDoor
open Go.RowKit
set_option maxRecDepth 20000
/-- A disk: its block, its map, its room, its files; all of it below B. -/
structure DiskAt (w : World) (B db mb room n : Nat) (L : Dk) : Prop where
  blk : w.heap[db]? = some (.cells #[.int .i64 room, .map (some mb)] 122 (0, 0))
  map : DkMap w B mb n L
  dlt : db < B
  mlt : mb < B
  le : B ≤ w.heap.size
  ok : dOk L
  rle : room ≤ 1099511627776
theorem DiskAt.below {w w' : World} {B B' db mb room n : Nat} {L : Dk} (h : DiskAt w B db mb room n L) (hb : Below B' w w') (hB : B ≤ B') : DiskAt w' B db mb room n L :=
  ⟨(hb.block db (Nat.lt_of_lt_of_le h.dlt hB)).trans h.blk, h.map.below hb hB (Nat.lt_of_lt_of_le h.mlt hB), h.dlt, h.mlt, Nat.le_trans h.le hb.size, h.ok, h.rle⟩
theorem DiskAt.mono {w : World} {B B' db mb room n : Nat} {L : Dk} (h : DiskAt w B db mb room n L) (hB : B ≤ B') (hle : B' ≤ w.heap.size) : DiskAt w B' db mb room n L :=
  ⟨h.blk, h.map.mono hB (Nat.le_refl _), Nat.lt_of_lt_of_le h.dlt hB, Nat.lt_of_lt_of_le h.mlt hB, hle, h.ok, h.rle⟩
theorem DiskAt.top {w : World} {B db mb room n : Nat} {L : Dk} (h : DiskAt w B db mb room n L) : DiskAt w w.heap.size db mb room n L := h.mono h.le (Nat.le_refl _)
theorem DiskAt.more {w : World} {B db mb room n n' : Nat} {L : Dk} (h : DiskAt w B db mb room n L) (hn : n ≤ n') : DiskAt w B db mb room n' L := ⟨h.blk, h.map.mono (Nat.le_refl _) hn, h.dlt, h.mlt, h.le, h.ok, h.rle⟩
theorem DiskAt.ne {w : World} {B db mb room n : Nat} {L : Dk} (h : DiskAt w B db mb room n L) : db ≠ mb := by
  rintro rfl
  obtain ⟨es, ck, h2⟩ := h.map.block
  rw [h.blk] at h2
  cases h2
/-- The disk after a store into its map, or a deletion from it. -/
theorem DiskAt.stored {w w' : World} {B db mb room n n' : Nat} {L L' : Dk} (h : DiskAt w B db mb room n L) (hm : DkMap w' B mb n' L') (hg : w.grownBy w' (some mb)) (hok : dOk L') : DiskAt w' w'.heap.size db mb room n' L' :=
  DiskAt.mono (B := B) ⟨(hg.block db (Nat.lt_of_lt_of_le h.dlt h.le) (by simpa using h.ne)).trans h.blk, hm, h.dlt, h.mlt, Nat.le_trans h.le hg.size, hok, h.rle⟩ (Nat.le_trans h.le hg.size) (Nat.le_refl _)
theorem DiskAt.stored0 {w w' : World} {B db mb room n n' : Nat} {L L' : Dk} (h : DiskAt w B db mb room n L) (hm : DkMap w' B mb n' L') (hg : w.grownBy w' (some mb)) (hok : dOk L') : DiskAt w' B db mb room n' L' :=
  ⟨(hg.block db (Nat.lt_of_lt_of_le h.dlt h.le) (by simpa using h.ne)).trans h.blk, hm, h.dlt, h.mlt, Nat.le_trans h.le hg.size, hok, h.rle⟩
theorem DiskAt.congr {w : World} {B db mb room n : Nat} {L L' : Dk} (h : DiskAt w B db mb room n L) (hok : dOk L') (he : ∀ k, dGet L' k = dGet L k) : DiskAt w B db mb room n L' := ⟨h.blk, h.map.congr he, h.dlt, h.mlt, h.le, hok, h.rle⟩
theorem below_grown {w w' : World} (h : Below w.heap.size w w') (row : Option Nat) : w.grownBy w' row := ⟨h.os, h.tape, h.output, h.size, fun k hk _ => h.block k hk⟩
theorem DiskAt.cells {w : World} {B db mb room n : Nat} {L : Dk} (h : DiskAt w B db mb room n L) : w.cell? ⟨db, 0, none⟩ = some (.int .i64 room) ∧ w.cell? ⟨db, 1, none⟩ = some (.map (some mb)) :=
  ⟨Go.Joins.cell_of_block h.blk 0, Go.Joins.cell_of_block h.blk 1⟩
/-- .. and its files fit. -/
structure DiskIs (w : World) (B db mb room n : Nat) (L : Dk) : Prop extends DiskAt w B db mb room n L where
  used : dUsed L ≤ room
theorem DiskIs.below {w w' : World} {B B' db mb room n : Nat} {L : Dk} (h : DiskIs w B db mb room n L) (hb : Below B' w w') (hB : B ≤ B') : DiskIs w' B db mb room n L := ⟨h.toDiskAt.below hb hB, h.used⟩
theorem DiskIs.mono {w : World} {B B' db mb room n : Nat} {L : Dk} (h : DiskIs w B db mb room n L) (hB : B ≤ B') (hle : B' ≤ w.heap.size) : DiskIs w B' db mb room n L := ⟨h.toDiskAt.mono hB hle, h.used⟩
theorem DiskIs.top {w : World} {B db mb room n : Nat} {L : Dk} (h : DiskIs w B db mb room n L) : DiskIs w w.heap.size db mb room n L := h.mono h.le (Nat.le_refl _)
theorem DiskIs.more {w : World} {B db mb room n n' : Nat} {L : Dk} (h : DiskIs w B db mb room n L) (hn : n ≤ n') : DiskIs w B db mb room n' L := ⟨h.toDiskAt.more hn, h.used⟩
theorem DiskIs.stored {w w' : World} {B db mb room n n' : Nat} {L L' : Dk} (h : DiskIs w B db mb room n L) (hm : DkMap w' B mb n' L') (hg : w.grownBy w' (some mb)) (hok : dOk L') (hu : dUsed L' ≤ room) : DiskIs w' w'.heap.size db mb room n' L' := ⟨h.toDiskAt.stored hm hg hok, hu⟩
theorem DiskIs.congr {w : World} {B db mb room n : Nat} {L L' : Dk} (h : DiskAt w B db mb room n L) (hok : dOk L') (he : ∀ k, dGet L' k = dGet L k) (hu : dUsed L' ≤ room) : DiskIs w B db mb room n L' := ⟨h.congr hok he, hu⟩
theorem map_some (mb : Nat) (w : World) : (binOp BinOp.eql 120 (.map (some mb)) (.map none)).run Tryz.prog w = .ok (.bool false) w := by kernel_rfl
theorem is_any {w : World} {B db mb room n : Nat} {L : Dk} (h : DiskAt w B db mb room n L) :
    Calls Tryz.prog 59 #[.pointer (some ⟨db, 0, none⟩)] w fun e w' => e = .returned (.int .i64 0) ∧ w = w' := by
  obtain ⟨c0, c1⟩ := h.cells
  clear h
  have hm := map_some mb
  go_enter Tryz.func59, Tryz.ntmps59
  go_wp2_with fail
  go_ret
  exact ⟨rfl, by first | rfl | trivial⟩
theorem size_at (r : Rv) (f : Fi) (w : World) (B : Nat) (h : RvIs w B r f) (hl : f.all.length ≤ 1099511627776) :
    Calls Tryz.prog 64 #[rvVal r] w fun e w' => e = .returned (.int .i64 f.all.length) ∧ Below w.heap.size w w' := size_file r f w B h _ rfl (Nat.le_trans hl (by decide))
theorem used_any {w : World} {B db mb room n : Nat} {L : Dk} (h : DiskIs w B db mb room n L) :
    Calls Tryz.prog 65 #[.pointer (some ⟨db, 0, none⟩)] w fun e w' => e = .returned (.int .i64 (dUsed L)) ∧ Below w.heap.size w w' := by
  obtain ⟨c0, c1⟩ := h.cells
  have H := Lib.hid h
  have hB := h.le
  have hub := Nat.le_trans h.used h.rle
  have hok := h.ok
  clear h
  go_enter Tryz.func65, Tryz.ntmps65
  go_wp2_with fail
  refine (is_any H.out.toDiskAt).mono ?_
  rintro e w1 ⟨rfl, rfl⟩
  go_wp2_with (first | (at_range; refine wpList_range_dk rfl _ rfl rfl H.out.map hB ?_; intro w0 cnt hrg0 hg0 hs0) | fail)
  go_frame
  go_loopw [2] (fun s wr => ∃ lf cnt, DkRange wr B mb w.heap.size n L lf cnt ∧ s = .int .i64 (usedBut lf L) ∧ Below w.heap.size w wr) (fun _ wr => wr.rangeLeft mb w.heap.size)
  case atStart =>
    refine ⟨_, _, hrg0, ?_, ⟨hg0.os, hg0.tape, hg0.output, hg0.size, fun i hi => hg0.block i hi (by simp)⟩⟩
    rw [usedBut_all fun k hk => by
      cases hg : dGet L k with
      | none => exact absurd hk (dGet_none.1 hg)
      | some f => rfl]
    rfl
  case round =>
    obtain ⟨lf, cnt, hrg, rfl, hbel⟩ := hrel
    go_wp2_with (first | (at_next; refine wpList_next_dk rfl _ rfl rfl hrg (Nat.le_trans hB hbel.size) hB ?_ ?_) | fail)
    · intro hl0
      go_wp2_with fail
      go_ret
      exact ⟨ret_int (by rw [usedBut_none hl0]), hbel⟩
    · intro s r f w2 cnt2 hs hlf hgt hrv hrg2 hlt hg2 hs2 hen
      obtain ⟨a1, n1, c1, a2, n2, c2⟩ := r
      simp only [rvVal] at hen ⊢
      have hstep := usedBut_step hok hgt hlf
      have hle := usedBut_le (fun x => lf x && !decide (x = s.data.toList)) L
      have hsum : usedBut lf L + f.all.length ≤ 1099511627776 := by omega
      have hfl : f.all.length ≤ 1099511627776 := by omega
      have hb2 : Below w.heap.size w w2 := hbel.trans ⟨hg2.os, hg2.tape, hg2.output, hg2.size, fun i hi => hg2.block i (Nat.lt_of_lt_of_le hi hbel.size) (by simp; omega)⟩
      have HST := Lib.hid hstep
      clear hstep hle hbel hg2
      go_wp2_with fail
      have hal := (Below.refl w2.heap.size w2).alloc (Nat.le_refl _) (.cells #[.slice a1 n1 c1, .slice a2 n2 c2] 125)
      generalize w2.alloc (.cells #[.slice a1 n1 c1, .slice a2 n2 c2] 125) = w3 at hal ⊢
      have hB2 := Nat.le_trans hB hb2.size
      have hrv3 := hrv.below hal hB2
      refine (size_at ⟨a1, n1, c1, a2, n2, c2⟩ f w3 B hrv3 hfl).mono ?_
      rintro e w4 ⟨rfl, hb4⟩
      have hb5 := hal.trans (hb4.mono hal.size)
      go_wp2_with fail
      have hrg4 := hrg2.below hb5 hB2
      go_roundw
      case rel => exact ⟨_, _, hrg4, by rw [HST.out]; go_num, hb2.trans (hb5.mono hb2.size)⟩
      case measure => rw [hrg4.left_eq, hrg.left_eq]; exact hlt
end Go.Proofs.YtejgebpdipnhmaaGreatDoor
