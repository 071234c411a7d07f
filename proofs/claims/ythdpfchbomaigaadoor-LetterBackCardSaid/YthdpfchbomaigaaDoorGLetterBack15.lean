/- What a read letter is fit for. Conditions: as each says. -/
import Derived.Test.YthdpfchbomaigaaDoorGLetterBack14
import Derived.Test.YthdpfchbomaigaaDoorGLetterBack0
import Derived.Test.YthdpfchbomaigaaDoorGLetterBack3
import Derived.Test.YthdpfchbomaigaaDoorGLetterBack12
import Derived.Test.YthdpfchbomaigaaDoorGLetterBack10
import Derived.Test.YthdpfchbomaigaaDoorGLetterBack9
set_option linter.unusedVariables false
set_option linter.unusedSimpArgs false
namespace Go.Proofs.YthdpfchbomaigaaDoor
open Go.RowKit
set_option maxRecDepth 20000
/-- The parts of what bytes tell. -/
structure FineP (l : LtP) (n : Nat) : Prop where
  kind : 0 ≤ l.kind ∧ l.kind < 256
  fr : N64 l.fr
  too : N64 l.tov
  term : N64 l.term
  index : N64 l.index
  was : N64 l.was
  commit : N64 l.commit
  round : N64 l.round
  en : l.es.length ≤ 16
  vs : BytesWf l.vs
  vn : l.vs.length ≤ n
  im : BytesWf l.im
  ln : l.im.length ≤ n
theorem n64_byte {x : Int} (h : 0 ≤ x ∧ x < 256) : N64 x := by
  unfold N64
  omega
theorem readL_fine {b : List Int} {l : LtP} (hw : BytesWf b) (h : readL b = some l) : FineP l b.length := by
  unfold readL at h
  split at h
  · cases h
  dsimp only at h
  split at h
  · cases h
  rename_i hm
  split at h
  · cases h
  rename_i es r he
  split at h
  · cases h
  split at h
  · cases h
  cases h
  have hc := cntS_wf (hw.drop 44)
  obtain ⟨h1, h2, h3, h4⟩ := readEs_ok _ _ _ _ hc.1 he
  have h5 : ¬ 16 < (cntS (b.drop 44)).1 := fun h => hm (Or.inr h)
  have h6 := congrArg List.length h4
  rw [List.length_append] at h6
  have h7 := hc.2.2.2
  rw [List.length_drop] at h7
  have hv := cntS_wf h3
  have hi := cntS_wf (hv.1.drop (cntS r).1.toNat)
  have h8 := hi.2.2.2
  rw [List.length_drop] at h8
  have h9 := hv.2.2.2
  exact ⟨wf_getD hw 0, n64_byte (wf_getD hw 1), n64_byte (wf_getD hw 2), wrap_N64 _, wrap_N64 _, wrap_N64 _, wrap_N64 _, wrap_N64 _, by dsimp only; omega, hv.1.take _, by dsimp only; rw [List.length_take]; omega, hi.1, by dsimp only; omega⟩
theorem fine_read {w : World} {base : Nat} {b : List Int} {x : Lt} (hw : BytesWf b) (hl : b.length ≤ 4000000) (h : readL b = some x.plain) (ho : OwnLt w base x) (he : ∀ e ∈ x.es, EnFine e) : LtFine x := by
  have f := readL_fine hw h
  have hen : x.es.length ≤ 16 := by have := f.en; unfold Lt.plain at this; dsimp only at this; rw [List.length_map] at this; exact this
  exact ⟨f.kind, f.fr, f.too, f.term, f.index, f.was, f.commit, f.round, he, by omega, fun v hv => n64_byte (f.vs v hv), Nat.le_trans f.vn hl, f.im, Nat.le_trans f.ln hl, own_none ho.1.row, own_none ho.2.1, own_none ho.2.2, own_capG ho.2.2⟩
theorem own_ltSub {w : World} {base : Nat} {x : Lt} (ho : OwnLt w base x) : ltSub w w.heap.size x :=
  ⟨own_rowsIn enCells_len rfl ho.1.row (fun e he => (ho.1.own e he).sub), own_rowsIn iCells_len rfl ho.2.1 (fun _ _ => trivial), by
    obtain ⟨ao, cap, hv, h⟩ := own_bytes ho.2.2
    cases hv
    exact h⟩
end Go.Proofs.YthdpfchbomaigaaDoor
/- bytes.Equal of bytes that lie in blocks. Conditions: bytes are bytes. -/
namespace Go.Proofs.YthdpfchbomaigaaDoor
open Go.RowKit
set_option maxRecDepth 20000
theorem bytesOf_inj : ∀ {xs ys : List Int}, BytesWf xs → BytesWf ys → Lib.bytesOf xs = Lib.bytesOf ys → xs = ys := by
  intro xs
  induction xs with
  | nil =>
    intro ys _ _ h
    cases ys with
    | nil => rfl
    | cons y t => cases h
  | cons x xs ih =>
    intro ys hx hy h
    cases ys with
    | nil => cases h
    | cons y ys =>
      have h2 : UInt8.ofNat x.toNat :: Lib.bytesOf xs = UInt8.ofNat y.toNat :: Lib.bytesOf ys := h
      obtain ⟨e1, e2⟩ := List.cons.inj h2
      have bx := hx x List.mem_cons_self
      have by' := hy y List.mem_cons_self
      have h3 := congrArg UInt8.toNat e1
      rw [UInt8.toNat_ofNat', UInt8.toNat_ofNat', Nat.mod_eq_of_lt (by omega), Nat.mod_eq_of_lt (by omega)] at h3
      have h4 : x = y := by omega
      subst h4
      rw [ih (fun z hz => hx z (List.mem_cons_of_mem _ hz)) (fun z hz => hy z (List.mem_cons_of_mem _ hz)) e2]
theorem conv_nums {w : World} {B n c : Nat} {a : Option Addr} {l : List Int} (hn : l.length = n) (h : BytesIn w B a l) (hnil : a = none → c = 0) : (convert 25 9 (.slice a n c)).run Tryd.prog w = .ok (.string (strOfNums l)) w := by
  subst hn
  rcases h with rfl | ⟨b, off, rfl, _, h3⟩
  · cases a with
    | none =>
      rw [run_convert_bytes_string w _ _ 5 none _ c Tryd.underlying25 Tryd.underlying5 Tryd.underlying9]
      simp [Conv.bytesToString]
      rfl
    | some ad =>
      rw [run_convert_bytes_string w _ _ 5 (some ad) _ c Tryd.underlying25 Tryd.underlying5 Tryd.underlying9]
      simp [Conv.bytesToString]
      rfl
  · exact run_convert_bytes_arg w _ 5 Tryd.underlying25 Tryd.underlying5 b off l.length c l rfl h3 _ Tryd.underlying9
theorem lequal_any (a1 a2 : Option Addr) (n c m d : Nat) (xs ys : List Int) (w : World) (B1 B2 : Nat) (hn : xs.length = n) (hm : ys.length = m) (h1 : BytesIn w B1 a1 xs) (h2 : BytesIn w B2 a2 ys) (n1 : a1 = none → c = 0) (n2 : a2 = none → d = 0) (w1 : BytesWf xs) (w2 : BytesWf ys) :
    Calls Tryd.prog 23 #[.slice a1 n c, .slice a2 m d] w fun e w' => e = .returned (.bool (decide (xs = ys))) ∧ w' = w := by
  refine (Tryd.bytes_Equal _ _ xs ys w (conv_nums hn h1 n1) (conv_nums hm h2 n2)).mono ?_
  rintro e w' ⟨rfl, rfl⟩
  refine ⟨?_, rfl⟩
  have : (Lib.bytesOf xs == Lib.bytesOf ys) = decide (xs = ys) := by
    by_cases he : xs = ys
    · rw [he]; simp
    · rw [decide_eq_false he]
      have : Lib.bytesOf xs ≠ Lib.bytesOf ys := fun h => he (bytesOf_inj w1 w2 h)
      simpa using this
  rw [this]
end Go.Proofs.YthdpfchbomaigaaDoor
/- bytes.Equal of bytes that lie in blocks. Conditions: bytes are bytes. -/
/- What letter gets of bytes. Conditions: the bytes are bytes. -/
namespace Go.Proofs.YthdpfchbomaigaaDoor
open Go.RowKit
set_option maxRecDepth 20000
def GetAt (r : LtP × Int) (w : World) (e : Ending) (w' : World) : Prop :=
  ∃ x : Lt, e = .returned (.tuple #[ltVal x, .int .i64 r.2]) ∧ x.plain = r.1 ∧ LtFine x ∧ OwnLt w' w.heap.size x ∧ Below w.heap.size w w'
/-- .. and the voters of its entries lie apart from its own. -/
def GetSep (r : LtP × Int) (w : World) (e : Ending) (w' : World) : Prop :=
  ∃ x : Lt, e = .returned (.tuple #[ltVal x, .int .i64 r.2]) ∧ x.plain = r.1 ∧ LtFine x ∧ OwnLt w' w.heap.size x ∧ (∀ e ∈ x.es, vApart e x) ∧ Below w.heap.size w w'
theorem zeroT_fine : LtFine zeroT := by constructor <;> simp [zeroT, N64, BytesWf]
theorem OwnLt.zero (w : World) (base : Nat) : OwnLt w base zeroT := ⟨EnsOwn.nil _ _, IntsOwn.nil _ _, World.ownsRow_nil _ _ _ _⟩
theorem get_sep {f : Func} {W w' : World} {x : Lt} {tmps : Array Value} {er : Int} {r : LtP × Int} (hf : f.results = #[.cell 2 27, .tmp 3]) (hk : w'.heap[W.heap.size]? = some (.cells (ltArr x) 27 (0, 0))) (hb : Below W.heap.size W w')
    (h2 : tmps.getD 2 undef = .pointer (some ⟨W.heap.size, 0, none⟩)) (h3 : tmps.getD 3 undef = .int .i64 er) (he : r.2 = er) (hp : x.plain = r.1) (hfn : LtFine x) (ho : OwnLt w' W.heap.size x) (hv : ∀ e ∈ x.es, vApart e x) : bodyPost Tryd.prog f (GetSep r W) .ret ⟨tmps, []⟩ w' :=
  bodyPost_ret (results_cell_row_tmp hf tmps w' W.heap.size _ (ltArr x) _ _ _ h2 h3 hk Tryd.underlying27 rfl (info_lt2 x)) rfl ⟨x, by rw [he]; rfl, hp, hfn, ho, hv, hb⟩
theorem zeroT_sep : ∀ e ∈ zeroT.es, vApart e zeroT := fun e he => by cases he
theorem only_setRow (g : Nat) (w : World) (cs : Array Value) : Only g w (w.setRow g cs) := ⟨by rw [setRow_size]; exact Nat.le_refl _, fun b _ hn => setRow_other w g b cs hn, rfl, rfl, rfl⟩
set_option maxHeartbeats 4000000 in
theorem lget_sep (ao : Option Addr) (n cap : Nat) (b : List Int) (w : World) (r : LtP × Int) (hr : getL b = r) (hn : b.length = n) (hx : BytesIn w w.heap.size ao b) (hw : BytesWf b) (hnil : ao = none → cap = 0) (hcap : n ≤ cap) (hl : n ≤ 140737488351232) :
    Calls Tryd.prog 9 #[.slice ao n cap] w (GetSep r w) := by
  have hb1 := (Below.refl w.heap.size w).alloc (Nat.le_refl _) (.cells (ltArr zeroT) 27)
  have hk1 := heap_alloc_new w (.cells (ltArr zeroT) 27)
  have hs1 : (w.alloc (.cells (ltArr zeroT) 27)).heap.size = w.heap.size + 1 := by simp
  have HB1 := Lib.hid hb1
  have HK1 := Lib.hid hk1
  have HS1 := Lib.hid hs1
  have HR := Lib.hid hr
  have HN := Lib.hid hn
  have HX := Lib.hid hx
  have HW := Lib.hid hw
  clear hb1 hk1 hs1 hr hn hx hw
  go_enter Tryd.func9, Tryd.ntmps9
  by_cases hbig : 1048576 < n
  · have i1 : (1048576 : Int) < n := by omega
    have j1 : decide ((1048576 : Int) < n) = true := decide_eq_true i1
    go_upto_region 2 with fail
    rw [← zeroT_arr]
    have hbk := HK1.out
    go_wp2_with (refine wpList_store_row rfl 27 (.tmp 2) (.tmp 11) rfl w.heap.size (ltArr zeroT) rfl (by first | rfl | simp) 27 _ hbk (info_lt2 zeroT) rfl (ltArr_one zeroT) ?_; rw [setRow_same hbk])
    have hg : r = (zeroL, 4) := by rw [← HR.out]; unfold getL; rw [if_pos (by rw [HN.out]; exact hbig)]
    exact get_sep rfl hbk HB1.out rfl rfl (by rw [hg]) (by rw [hg]; rfl) zeroT_fine (OwnLt.zero _ _) zeroT_sep
  have i1 : ¬ (1048576 : Int) < n := by omega
  have j1 : decide ((1048576 : Int) < n) = false := decide_eq_false i1
  go_wp2_with fail
  rw [← zeroT_arr]
  generalize w.alloc (.cells (ltArr zeroT) 27) = w1 at HB1 HK1 HS1 ⊢
  obtain ⟨ro, hro⟩ : ∃ z, readL b = z := ⟨_, rfl⟩
  have hs1 := HS1.out
  refine (lread_any ao n cap b w1 ro hro HN.out ((HX.out.below HB1.out (Nat.le_refl _)).mono (by omega)) HW.out hnil hcap (by omega)).mono ?_
  rintro e w2 ⟨x, rfl, hok, hb2⟩
  have hs2 := hb2.size
  have HK2 := Lib.hid ((hb2.block w.heap.size (by omega)).trans HK1.out)
  have HB2 := Lib.hid (HB1.out.trans (hb2.mono (by omega)))
  have HOK := Lib.hid hok
  have HRO := Lib.hid hro
  have hk3 := heap_alloc_new w2 (.cells (ltArr zeroT) 27)
  clear hok hro hb2
  rw [zeroT_arr] at hk3
  have hal := (Below.refl w2.heap.size w2).alloc (Nat.le_refl _) (.cells (ltArr x) 27)
  have hbk := (hal.block w.heap.size (by omega)).trans HK2.out
  have HB3 := Lib.hid (HB2.out.trans (hal.mono (by omega)))
  have hkx := heap_alloc_new w2 (.cells (ltArr x) 27)
  cases ro with
  | none =>
    clear hal hkx
    dsimp only [Option.isSome]
    go_wp2_with (first | (refine wpList_store_row rfl 27 (.tmp 4) (.tmp 15) rfl w2.heap.size (ltArr x) rfl (by first | rfl | simp) 27 _ hk3 (info_lt2 x) rfl (ltArr_one x) ?_; rw [World.setRow_alloc_new]) | (refine wpList_store_row rfl 27 (.tmp 2) (.tmp 19) rfl w.heap.size (ltArr zeroT) rfl (by first | rfl | simp) 27 _ hbk (info_lt2 zeroT) rfl (ltArr_one zeroT) ?_; rw [setRow_same hbk]))
    have hg : r = (zeroL, 4) := by rw [← HR.out]; unfold getL; rw [if_neg (by rw [HN.out]; exact hbig), HRO.out]
    exact get_sep rfl hbk HB3.out rfl rfl (by rw [hg]) (by rw [hg]; rfl) zeroT_fine (OwnLt.zero _ _) zeroT_sep
  | some l =>
    dsimp only [Option.isSome]
    obtain ⟨hpl, how, hfv⟩ := HOK.out l rfl
    have hfi : ∀ e ∈ x.es, EnFine e := fun e he => (hfv e he).1
    have HVS := Lib.hid (show ∀ e ∈ x.es, vApart e x from fun e he => (hfv e he).2)
    clear hfv
    have how3 : OwnLt (w2.alloc (.cells (ltArr x) 27)) w1.heap.size x := ⟨how.1.below hal (Nat.le_refl _), how.2.1.below hal (Nat.le_refl _), own_below how.2.2 hal (Nat.le_refl _)⟩
    have hfine := fine_read HW.out (by rw [HN.out]; omega) (by rw [hpl]; exact HRO.out) how hfi
    obtain ⟨⟨bs, er⟩, hput⟩ : ∃ z, putL2 x.plain = z := ⟨_, rfl⟩
    have hrg : (w2.alloc (.cells (ltArr x) 27)).rangeAt w2.heap.size 0 (ltArr x).toList := by
      intro j v hv
      rw [Nat.zero_add, Go.Joins.cell_of_block hkx, ← Array.getElem?_toList]
      exact hv
    have hbw := hfine.bytes
    have HO3 := Lib.hid how3
    have HFN := Lib.hid hfine
    have HPL := Lib.hid hpl
    have HPUT := Lib.hid hput
    have HBW := Lib.hid hbw
    have HKX := Lib.hid hkx
    clear hpl how hfi how3 hfine hput hbw hal hkx
    go_wp2_with (first | (refine wpList_store_row rfl 27 (.tmp 4) (.tmp 15) rfl w2.heap.size (ltArr x) rfl (by first | rfl | simp) 27 _ hk3 (info_lt2 x) rfl (ltArr_one x) ?_; rw [World.setRow_alloc_new]) | (refine wpList_load_mid rfl 27 (.tmp 4) rfl w2.heap.size 0 rfl (ltArr x).toList _ hrg Tryd.underlying27 rfl (info_lt3 x) ?_))
    refine (lput_any x _ (own_ltSub HO3.out) HFN.out bs er HPUT.out).mono ?_
    have hs3 : w2.heap.size < (w2.alloc (.cells (ltArr x) 27)).heap.size := (Array.getElem?_eq_some_iff.1 HKX.out).1
    clear hrg hk3
    generalize w2.alloc (.cells (ltArr x) 27) = w3 at HB3 HO3 HKX hbk hs3 ⊢
    rintro e w4 ⟨a, c4, rfl, hbi, hbn, hbc, hbo, hb4⟩
    have hbk4 := (hb4.block w.heap.size (by omega)).trans hbk
    have hkx4 := (hb4.block w2.heap.size hs3).trans HKX.out
    have HB4 := Lib.hid (HB3.out.trans (hb4.mono (by omega)))
    have HO4 := Lib.hid (show OwnLt w4 w1.heap.size x from ⟨HO3.out.1.below hb4 (Nat.le_refl _), HO3.out.2.1.below hb4 (Nat.le_refl _), own_below HO3.out.2.2 hb4 (Nat.le_refl _)⟩)
    have hgl : getL b = if (putL2 l).2 = 0 ∧ (putL2 l).1 = b then (l, 0) else (zeroL, 4) := by unfold getL; rw [if_neg (by rw [HN.out]; exact hbig), HRO.out]
    have hpe : putL2 l = (bs, er) := by rw [← HPL.out]; exact HPUT.out
    rw [hpe, HR.out] at hgl
    have HGL := Lib.hid hgl
    have HBI := Lib.hid hbi
    have HKX4 := Lib.hid hkx4
    clear hgl hpe hbi hb4 hkx4 hbo hbk HB3 HO3 HKX
    by_cases he0 : er = 0
    · subst he0
      have hwb : BytesWf bs := by
        have hp := HPUT.out
        unfold putL2 at hp
        split at hp
        · cases hp
        · rename_i hrt
          split at hp
          · cases hp
          · cases hp
            exact HBW.out (by simpa using hrt)
      have HWB := Lib.hid hwb
      obtain ⟨bn, hbl⟩ : ∃ z, bs.length = z := ⟨_, rfl⟩
      rw [hbl] at hbc ⊢
      have HBL := Lib.hid hbl
      clear hwb hbl
      go_wp2_with fail
      refine (lequal_any a ao bn c4 n cap bs b w4 _ _ HBL.out HN.out HBI.out (HX.out.below HB4.out (Nat.le_refl _)) hbn hnil HWB.out HW.out).mono ?_
      rintro e w5 ⟨rfl, rfl⟩
      by_cases hsame : bs = b
      · rw [decide_eq_true hsame]
        have hg : r = (l, 0) := by rw [HGL.out, if_pos ⟨by first | trivial | rfl, hsame⟩]
        have HG := Lib.hid hg
        clear hg hsame
        have hrg : w5.rangeAt w2.heap.size 0 (ltArr x).toList := by
          intro j v hv
          rw [Nat.zero_add, Go.Joins.cell_of_block HKX4.out, ← Array.getElem?_toList]
          exact hv
        go_wp2_with (first | (refine wpList_load_mid rfl 27 (.tmp 4) rfl w2.heap.size 0 rfl (ltArr x).toList _ hrg Tryd.underlying27 rfl (info_lt3 x) ?_) | (refine wpList_store_row rfl 27 (.tmp 2) (.tmp 34) rfl w.heap.size (ltArr x) rfl (by first | rfl | simp) 27 _ hbk4 (info_lt2 x) rfl (ltArr_one x) ?_))
        have ho := only_setRow w.heap.size w5 (ltArr x)
        exact get_sep rfl (setRow_heap w5 w.heap.size _ (ltArr x) _ _ hbk4) (HB4.out.trans (ho.toBelow (by have := HB4.out.size; omega) (Nat.le_refl _))) rfl rfl (by rw [HG.out]) (by rw [HG.out]; exact HPL.out) HFN.out ⟨(HO4.out.1.only ho (by omega)).le (by omega), (HO4.out.2.1.only ho (by omega)).le (by omega), Go.Joins.ownsRow_le (own_only' HO4.out.2.2 ho (by omega)) (by omega)⟩ HVS.out
      · rw [decide_eq_false hsame]
        have hg : r = (zeroL, 4) := by rw [HGL.out, if_neg (fun h => hsame h.2)]
        have HG := Lib.hid hg
        clear hg hsame
        go_wp2_with (refine wpList_store_row rfl 27 (.tmp 2) (.tmp 33) rfl w.heap.size (ltArr zeroT) rfl (by first | rfl | simp) 27 _ hbk4 (info_lt2 zeroT) rfl (ltArr_one zeroT) ?_; rw [setRow_same hbk4])
        exact get_sep rfl hbk4 HB4.out rfl rfl (by rw [HG.out]) (by rw [HG.out]; rfl) zeroT_fine (OwnLt.zero _ _) zeroT_sep
    · have j2 : (er == 0) = false := by simpa using he0
      have j3 : (er != 0) = true := by simpa using he0
      have hg : r = (zeroL, 4) := by rw [HGL.out, if_neg (fun h => he0 h.1)]
      have HG := Lib.hid hg
      clear hg
      go_wp2_with (refine wpList_store_row rfl 27 (.tmp 2) (.tmp 33) rfl w.heap.size (ltArr zeroT) rfl (by first | rfl | simp) 27 _ hbk4 (info_lt2 zeroT) rfl (ltArr_one zeroT) ?_; rw [setRow_same hbk4])
      exact get_sep rfl hbk4 HB4.out rfl rfl (by rw [HG.out]) (by rw [HG.out]; rfl) zeroT_fine (OwnLt.zero _ _) zeroT_sep
theorem lget_any (ao : Option Addr) (n cap : Nat) (b : List Int) (w : World) (r : LtP × Int) (hr : getL b = r) (hn : b.length = n) (hx : BytesIn w w.heap.size ao b) (hw : BytesWf b) (hnil : ao = none → cap = 0) (hcap : n ≤ cap) (hl : n ≤ 140737488351232) :
    Calls Tryd.prog 9 #[.slice ao n cap] w (GetAt r w) :=
  (lget_sep ao n cap b w r hr hn hx hw hnil hcap hl).mono fun _ _ ⟨x, h1, h2, h3, h4, _, h6⟩ => ⟨x, h1, h2, h3, h4, h6⟩
end Go.Proofs.YthdpfchbomaigaaDoor
/- SameLetter of letters that read alike. Conditions: the cells lie as their readings say. -/
namespace Go.Proofs.YthdpfchbomaigaaDoor
open Go.RowKit
set_option maxRecDepth 20000
set_option maxHeartbeats 4000000 in
theorem sameL_any (x y : Lt) (w : World) (B : Nat) (hp : x.plain = y.plain) (hx : ltSub w B x) (hy : ltSub w B y) (hB : B ≤ w.heap.size) (hl : x.es.length ≤ 1099511627776) (hl2 : x.vs.length ≤ 1099511627776) (hl3 : x.im.length ≤ 1099511627776) (hsm : ∀ e ∈ x.es, EnSmall e) :
    Calls Tryd.prog 10 #[ltVal x, ltVal y] w fun e w' => e = .returned (.bool true) ∧ Below w.heap.size w w' := by
  obtain ⟨kd, fr, tt, tm, ix, ws, ob, cm, rn, ea, es, ec, va, vs, vc, ia, im, ic⟩ := x
  obtain ⟨kd2, fr2, tt2, tm2, ix2, ws2, ob2, cm2, rn2, ea2, es2, ec2, va2, vs2, vc2, ia2, im2, ic2⟩ := y
  simp only [Lt.plain, LtP.mk.injEq] at hp
  obtain ⟨rfl, rfl, rfl, rfl, rfl, rfl, rfl, rfl, rfl, hes, rfl, rfl⟩ := hp
  unfold ltVal
  dsimp only at hl hl2 hl3 hsm ⊢
  obtain ⟨n, hn⟩ : ∃ n, es.length = n := ⟨_, rfl⟩
  have hn2 : es2.length = n := by rw [← hn]; have := congrArg List.length hes; simpa using this.symm
  obtain ⟨m, hm⟩ : ∃ m, vs.length = m := ⟨_, rfl⟩
  obtain ⟨k, hk⟩ : ∃ k, im.length = k := ⟨_, rfl⟩
  rw [hn] at hl
  rw [hm] at hl2
  rw [hk] at hl3
  rw [hn, hn2, hm, hk]
  have HX := Lib.hid hx
  have HY := Lib.hid hy
  have HES := Lib.hid hes
  have HN := Lib.hid hn
  have HN2 := Lib.hid hn2
  have HM := Lib.hid hm
  have HK := Lib.hid hk
  have HSM := Lib.hid hsm
  clear hx hy hes hn hn2 hm hk hsm
  have hb := ((Below.refl w.heap.size w).alloc (Nat.le_refl _) (.cells #[.int .u8 kd, .int .i64 fr, .int .i64 tt, .int .i64 tm, .int .i64 ix, .int .i64 ws, .bool ob, .int .i64 cm, .int .i64 rn, .slice ea n ec, .slice va m vc, .slice ia k ic] 27)).alloc (by simp) (.cells #[.int .u8 kd, .int .i64 fr, .int .i64 tt, .int .i64 tm, .int .i64 ix, .int .i64 ws, .bool ob, .int .i64 cm, .int .i64 rn, .slice ea2 n ec2, .slice va2 m vc2, .slice ia2 k ic2] 27)
  have hs1 := hb.size
  have k1 : ((w.alloc (.cells #[.int .u8 kd, .int .i64 fr, .int .i64 tt, .int .i64 tm, .int .i64 ix, .int .i64 ws, .bool ob, .int .i64 cm, .int .i64 rn, .slice ea n ec, .slice va m vc, .slice ia k ic] 27)).alloc (.cells #[.int .u8 kd, .int .i64 fr, .int .i64 tt, .int .i64 tm, .int .i64 ix, .int .i64 ws, .bool ob, .int .i64 cm, .int .i64 rn, .slice ea2 n ec2, .slice va2 m vc2, .slice ia2 k ic2] 27)).heap[w.heap.size]? = some (.cells #[.int .u8 kd, .int .i64 fr, .int .i64 tt, .int .i64 tm, .int .i64 ix, .int .i64 ws, .bool ob, .int .i64 cm, .int .i64 rn, .slice ea n ec, .slice va m vc, .slice ia k ic] 27 (0, 0)) :=
    ((World.grownBy_alloc _ _ none).block _ (by simp) (by simp)).trans (heap_alloc_new w _)
  have k2 : ((w.alloc (.cells #[.int .u8 kd, .int .i64 fr, .int .i64 tt, .int .i64 tm, .int .i64 ix, .int .i64 ws, .bool ob, .int .i64 cm, .int .i64 rn, .slice ea n ec, .slice va m vc, .slice ia k ic] 27)).alloc (.cells #[.int .u8 kd, .int .i64 fr, .int .i64 tt, .int .i64 tm, .int .i64 ix, .int .i64 ws, .bool ob, .int .i64 cm, .int .i64 rn, .slice ea2 n ec2, .slice va2 m vc2, .slice ia2 k ic2] 27)).heap[w.heap.size + 1]? = some (.cells #[.int .u8 kd, .int .i64 fr, .int .i64 tt, .int .i64 tm, .int .i64 ix, .int .i64 ws, .bool ob, .int .i64 cm, .int .i64 rn, .slice ea2 n ec2, .slice va2 m vc2, .slice ia2 k ic2] 27 (0, 0)) := by
    have := heap_alloc_new (w.alloc (.cells #[.int .u8 kd, .int .i64 fr, .int .i64 tt, .int .i64 tm, .int .i64 ix, .int .i64 ws, .bool ob, .int .i64 cm, .int .i64 rn, .slice ea n ec, .slice va m vc, .slice ia k ic] 27)) (.cells #[.int .u8 kd, .int .i64 fr, .int .i64 tt, .int .i64 tm, .int .i64 ix, .int .i64 ws, .bool ob, .int .i64 cm, .int .i64 rn, .slice ea2 n ec2, .slice va2 m vc2, .slice ia2 k ic2] 27)
    simpa using this
  have K1 := Lib.hid k1
  have K2 := Lib.hid k2
  clear k1 k2
  go_enter Tryd.func10, Tryd.ntmps10
  go_wp2_with fail
  refine (sameEs_any ea n ec ea2 n ec2 es es2 _ B HN.out HN2.out HES.out (HX.out.1.below enSub_kept (hb.mono hB) (Nat.le_refl _)) (HY.out.1.below enSub_kept (hb.mono hB) (Nat.le_refl _)) (Nat.le_trans hB hs1) hl HSM.out).mono ?_
  rintro e w1 ⟨rfl, hb2⟩
  have hlt1 := (Array.getElem?_eq_some_iff.1 K1.out).1
  have hlt2 := (Array.getElem?_eq_some_iff.1 K2.out).1
  have k3 := (hb2.block _ hlt1).trans K1.out
  have k4 := (hb2.block _ hlt2).trans K2.out
  have c1 : w1.cell? ⟨w.heap.size, 10, none⟩ = some (.slice va m vc) := Go.Joins.cell_of_block k3 10
  have c2 : w1.cell? ⟨w.heap.size + 1, 10, none⟩ = some (.slice va2 m vc2) := Go.Joins.cell_of_block k4 10
  have K3 := Lib.hid k3
  have K4 := Lib.hid k4
  have hb3 := hb.trans (hb2.mono hs1)
  have hs3 := hb3.size
  clear k3 k4 hb2 hb
  go_wp2_with fail
  refine (sameI_any va m vc va2 m vc2 vs _ B HM.out HM.out (HX.out.2.1.below noSub_kept (hb3.mono hB) (Nat.le_refl _)) (HY.out.2.1.below noSub_kept (hb3.mono hB) (Nat.le_refl _)) (Nat.le_trans hB hs3) (by omega)).mono ?_
  rintro e w2 ⟨rfl, hb4⟩
  clear c1 c2
  have k5 := (hb4.block _ (Array.getElem?_eq_some_iff.1 K3.out).1).trans K3.out
  have k6 := (hb4.block _ (Array.getElem?_eq_some_iff.1 K4.out).1).trans K4.out
  have c1 : w2.cell? ⟨w.heap.size, 11, none⟩ = some (.slice ia k ic) := Go.Joins.cell_of_block k5 11
  have c2 : w2.cell? ⟨w.heap.size + 1, 11, none⟩ = some (.slice ia2 k ic2) := Go.Joins.cell_of_block k6 11
  have hb5 := hb3.trans (hb4.mono hs3)
  have hs5 := hb5.size
  clear k5 k6 hb4
  go_wp2_with fail
  refine (sameB_any ia k ic ia2 k ic2 im _ HK.out HK.out ((HX.out.2.2.below (hb5.mono hB) (Nat.le_refl _)).mono (Nat.le_trans hB hs5)) ((HY.out.2.2.below (hb5.mono hB) (Nat.le_refl _)).mono (Nat.le_trans hB hs5)) (by omega)).mono ?_
  rintro e w3 ⟨rfl, hb6⟩
  clear c1 c2
  go_wp2_with fail
  go_ret
  exact ⟨rfl, hb5.trans (hb6.mono hs5)⟩
end Go.Proofs.YthdpfchbomaigaaDoor
/- The example of the laws of layer 21: it is as it must be, and nothing that was there is changed. No condition. -/
namespace Go.Proofs.YthdpfchbomaigaaDoor
open Go.RowKit
set_option maxRecDepth 20000
def awT : Lt := ⟨2, 2, 1, 258, 0, 0, true, 0, 0, none, [], 0, none, [], 0, none, [], 0⟩
def awU : Lt := ⟨2, 2, 1, 258, 1, 0, true, 0, 0, none, [], 0, none, [], 0, none, [], 0⟩
def awB : List Int := [2, 2, 1, 0, 0, 0, 0, 0, 0, 1, 2, 0, 0, 0, 0, 0, 0, 0, 0, 0, 0, 0, 0, 0, 0, 0, 0, 1, 0, 0, 0, 0, 0, 0, 0, 0, 0, 0, 0, 0, 0, 0, 0, 0, 0, 0, 0, 0, 0, 0, 0, 0, 0, 0, 0, 0]
theorem awT_put : putL2 awT.plain = (awB, 0) := by kernel_rfl
theorem awU_put : putL2 awU.plain = ([], 4) := by kernel_rfl
theorem awU_right : rightL awU.plain = false := by kernel_rfl
theorem awB_get : getL awB = (awT.plain, 0) := by kernel_rfl
theorem aw_fine : LtFine awT ∧ LtFine awU := by
  constructor <;> constructor <;> simp [awT, awU, N64, BytesWf]
theorem aw_sub (w : World) (B : Nat) : ltSub w B awT ∧ ltSub w B awU := by
  refine ⟨⟨?_, ?_, ?_⟩, ⟨?_, ?_, ?_⟩⟩ <;> exact Or.inl rfl
theorem awB_wf : BytesWf awB := by
  intro x hx
  have h : awB.all (fun x => decide (0 ≤ x) && decide (x < 256)) = true := by decide +kernel
  have := List.all_eq_true.1 h x hx
  simpa using this
set_option maxHeartbeats 4000000 in
theorem awake21_any (w : World) : Calls Tryd.prog 5 #[] w fun e w' => e = .returned (.bool true) ∧ Below w.heap.size w w' := by
  have P1 := Lib.hid awT_put
  have P2 := Lib.hid awU_put
  go_enter Tryd.func5, Tryd.ntmps5
  go_wp2_with fail
  refine (lput_any awT _ (aw_sub _ _).1 aw_fine.1 awB 0 P1.out).mono ?_
  have hb1 := (Below.refl w.heap.size w).alloc (Nat.le_refl _) (.cells (ltArr awT) 27)
  have hk1 := heap_alloc_new w (.cells (ltArr awT) 27)
  have hs1 : (w.alloc (.cells (ltArr awT) 27)).heap.size = w.heap.size + 1 := by simp
  have hlt1 := (Array.getElem?_eq_some_iff.1 hk1).1
  rintro e w2 ⟨a2, c2, rfl, hi2, hn2, hc2, ho2, hb2⟩
  have hb2 : Below (w.alloc (.cells (ltArr awT) 27)).heap.size (w.alloc (.cells (ltArr awT) 27)) w2 := hb2
  have hk2 := (hb2.block _ hlt1).trans hk1
  have hB2 := hb1.trans (hb2.mono (by omega))
  have hsz2 : w.heap.size + 1 ≤ w2.heap.size := by have := hb2.size; omega
  have hl : awB.length = 56 := by decide +kernel
  rw [hl] at hc2 ⊢
  clear hb2
  have I2 := Lib.hid hi2
  have K2 := Lib.hid hk2
  have B2 := Lib.hid hB2
  have HL := Lib.hid hl
  obtain ⟨b2, o2, rfl, hlt2, hce2⟩ := hi2.resolve_left (by decide)
  have hge2 : w.heap.size + 1 ≤ b2 := by have := ho2 _ rfl; simp at this; omega
  have CE2 := Lib.hid hce2
  clear hce2
  clear hb1 hk1 hs1 hlt1 hb2 hk2 hB2 hi2 ho2 hl
  go_wp2_with fail
  have hws : w2.heap.size ≤ w2.heap.size := Nat.le_refl _
  refine (lget_any (some ⟨b2, o2, none⟩) 56 c2 awB w2 (awT.plain, 0) awB_get HL.out I2.out awB_wf hn2 hc2 (by decide)).mono ?_
  rintro e w3 ⟨x, rfl, hpl, _, _, hb3⟩
  have hK3 := (hb3.block w.heap.size (by omega)).trans K2.out
  have hO3 : Only w.heap.size w2 w3 := Only.of_below hb3
  have hB3 := B2.out.trans (hb3.mono (by omega))
  have hs3 := hb3.size
  obtain ⟨kd, fr, tt, tm, ix, ws, ob, cm, rn, ea, es, ec, va, vs, vc, ia, im, ic⟩ := x
  simp only [Lt.plain, awT, LtP.mk.injEq] at hpl
  obtain ⟨rfl, rfl, rfl, rfl, rfl, rfl, rfl, rfl, rfl, _, _, _⟩ := hpl
  have O3 := Lib.hid hO3
  have K3 := Lib.hid hK3
  have B3 := Lib.hid hB3
  clear hb3 hK3 hO3 hB3 I2 K2 B2 hws
  unfold ltVal
  dsimp only
  go_upto_region 4 with fail
  have hal := (Below.refl w3.heap.size w3).alloc (Nat.le_refl _) (.cells #[.int .u8 2, .int .i64 2, .int .i64 1, .int .i64 258, .int .i64 0, .int .i64 0, .bool true, .int .i64 0, .int .i64 0, .slice ea es.length ec, .slice va 0 vc, .slice ia 0 ic] 27)
  have hk4 := (hal.block w.heap.size (by omega)).trans K3.out
  have hkx := heap_alloc_new w3 (.cells #[.int .u8 2, .int .i64 2, .int .i64 1, .int .i64 258, .int .i64 0, .int .i64 0, .bool true, .int .i64 0, .int .i64 0, .slice ea es.length ec, .slice va 0 vc, .slice ia 0 ic] 27)
  have hs4 := (Array.getElem?_eq_some_iff.1 hkx).1
  have hi4 := O3.out.trans (Only.of_below hal)
  have hB4 := B3.out.trans (hal.mono (by omega))
  generalize w3.alloc (.cells #[.int .u8 2, .int .i64 2, .int .i64 1, .int .i64 258, .int .i64 0, .int .i64 0, .bool true, .int .i64 0, .int .i64 0, .slice ea es.length ec, .slice va 0 vc, .slice ia 0 ic] 27) = w4 at hal hk4 hkx hs4 hi4 hB4 ⊢
  have c4 : w4.cell? ⟨w.heap.size, 4, none⟩ = some (.int .i64 0) := Go.Joins.cell_of_block hk4 4
  have f4 : w4.frozen? ⟨w.heap.size, 4, none⟩ = false := Go.Joins.unfrozen_of_block hk4 4
  have HK4 := Lib.hid hk4
  have HKX := Lib.hid hkx
  have I4 := Lib.hid hi4
  have B4 := Lib.hid hB4
  clear hk4 hkx hi4 hB4 hal
  go_upto_region 5 with fail
  have hk5 : (w4.setCell ⟨w.heap.size, 4, none⟩ (.int .i64 1)).heap[w.heap.size]? = some (.cells (ltArr awU) 27 (0, 0)) := blk_to HK4.out _ rfl
  have ho5 := Only.set w.heap.size w4 4 (.int .i64 1)
  have hx5 := (ho5.2 w3.heap.size (by omega) (by omega)).trans HKX.out
  have hB5 := B4.out.setCell (p := ⟨w.heap.size, 4, none⟩) (Nat.le_refl _) (.int .i64 1)
  have hs5 : (w4.setCell ⟨w.heap.size, 4, none⟩ (.int .i64 1)).heap.size = w4.heap.size := by simp
  clear c4 f4
  generalize w4.setCell ⟨w.heap.size, 4, none⟩ (.int .i64 1) = w5 at hk5 hx5 hB5 hs5 ho5 ⊢
  have O5 := Lib.hid (I4.out.trans ho5)
  have hrg : w5.rangeAt w.heap.size 0 (ltArr awU).toList := by
    intro j v hv
    rw [Nat.zero_add, Go.Joins.cell_of_block hk5, ← Array.getElem?_toList]
    exact hv
  have HK5 := Lib.hid hk5
  have HX5 := Lib.hid hx5
  have B5 := Lib.hid hB5
  clear HK4 HKX I4 B4 hk5 hx5 hB5 ho5 O3 K3 B3
  go_wp2_with (refine wpList_load_mid rfl 27 (.tmp 1) rfl w.heap.size 0 rfl (ltArr awU).toList _ hrg Tryd.underlying27 rfl (info_lt3 awU) ?_)
  refine (lput_any awU _ (aw_sub _ _).2 aw_fine.2 [] 4 P2.out).mono ?_
  rintro e w6 ⟨a6, c6, rfl, _, hn6, _, _, hb6⟩
  have hK6 := (hb6.block w.heap.size (by omega)).trans HK5.out
  have hX6 := (hb6.block w3.heap.size (by omega)).trans HX5.out
  have hB6 := B5.out.trans (hb6.mono (by omega))
  have hO6 := O5.out.trans (Only.of_below hb6)
  have hCE : ∀ i, i < 56 → w6.cell? ⟨b2, o2 + i, none⟩ = some (.int .u8 (awB.getD i 0)) := fun i hi => by
    rw [← CE2.out i (by rw [HL.out]; exact hi)]
    unfold World.cell?
    rw [hO6.2 b2 hlt2 (by omega)]
  have q0 : w6.cell? ⟨b2, o2, none⟩ = some (.int .u8 2) := hCE 0 (by decide)
  have q1 : w6.cell? ⟨b2, o2 + 1, none⟩ = some (.int .u8 2) := hCE 1 (by decide)
  have q2 : w6.cell? ⟨b2, o2 + 2, none⟩ = some (.int .u8 1) := hCE 2 (by decide)
  have q9 : w6.cell? ⟨b2, o2 + 9, none⟩ = some (.int .u8 1) := hCE 9 (by decide)
  have q10 : w6.cell? ⟨b2, o2 + 10, none⟩ = some (.int .u8 2) := hCE 10 (by decide)
  have q27 : w6.cell? ⟨b2, o2 + 27, none⟩ = some (.int .u8 1) := hCE 27 (by decide)
  have x3 : w6.cell? ⟨w3.heap.size, 3, none⟩ = some (.int .i64 258) := Go.Joins.cell_of_block hX6 3
  have x6 : w6.cell? ⟨w3.heap.size, 6, none⟩ = some (.bool true) := Go.Joins.cell_of_block hX6 6
  have k0 : w6.cell? ⟨w.heap.size, 0, none⟩ = some (.int .u8 2) := Go.Joins.cell_of_block hK6 0
  have k1 : w6.cell? ⟨w.heap.size, 1, none⟩ = some (.int .i64 2) := Go.Joins.cell_of_block hK6 1
  have k2 : w6.cell? ⟨w.heap.size, 2, none⟩ = some (.int .i64 1) := Go.Joins.cell_of_block hK6 2
  have k3 : w6.cell? ⟨w.heap.size, 3, none⟩ = some (.int .i64 258) := Go.Joins.cell_of_block hK6 3
  have k4 : w6.cell? ⟨w.heap.size, 4, none⟩ = some (.int .i64 1) := Go.Joins.cell_of_block hK6 4
  have k5 : w6.cell? ⟨w.heap.size, 5, none⟩ = some (.int .i64 0) := Go.Joins.cell_of_block hK6 5
  have k6 : w6.cell? ⟨w.heap.size, 6, none⟩ = some (.bool true) := Go.Joins.cell_of_block hK6 6
  have k7 : w6.cell? ⟨w.heap.size, 7, none⟩ = some (.int .i64 0) := Go.Joins.cell_of_block hK6 7
  have k8 : w6.cell? ⟨w.heap.size, 8, none⟩ = some (.int .i64 0) := Go.Joins.cell_of_block hK6 8
  have k9 : w6.cell? ⟨w.heap.size, 9, none⟩ = some (.slice none 0 0) := Go.Joins.cell_of_block hK6 9
  have k10 : w6.cell? ⟨w.heap.size, 10, none⟩ = some (.slice none 0 0) := Go.Joins.cell_of_block hK6 10
  have k11 : w6.cell? ⟨w.heap.size, 11, none⟩ = some (.slice none 0 0) := Go.Joins.cell_of_block hK6 11
  have B6 := Lib.hid hB6
  clear hrg hK6 hX6 hB6 hO6 hCE hb6
  go_wp2_with fail
  refine (lright_any awU _ (aw_sub _ _).2 aw_fine.2 false awU_right).mono ?_
  rintro e w7 ⟨rfl, hb7⟩
  clear k0 k1 k2 k3 k4 k5 k6 k7 k8 k9 k10 k11 q0 q1 q2 q9 q10 q27 x3 x6
  go_wp2_with fail
  go_ret
  exact ⟨rfl, B6.out.trans (hb7.mono (by have := B6.out.size; omega))⟩
end Go.Proofs.YthdpfchbomaigaaDoor
/- The law LetterOne, walked. Conditions: the bytes lie in memory as they are read. -/
namespace Go.Proofs.YthdpfchbomaigaaDoor
open Go.RowKit
set_option maxRecDepth 20000
theorem enSmall_fine {e : En} (h : EnFine e) : EnSmall e := ⟨Nat.le_trans h.args (by decide), Nat.le_trans h.vn (by decide)⟩
end Go.Proofs.YthdpfchbomaigaaDoor
/- A letter among the arguments. Conditions: it is read as the row reads it, its weights are bounded. -/
namespace Go.Proofs.YthdpfchbomaigaaDoor
open Go.RowKit Go.ChangeShapes
set_option maxRecDepth 20000
theorem cells_lk : Tryd.prog.cellsOf 22 = 1 := by kernel_rfl
theorem cells_bool : Tryd.prog.cellsOf 4 = 1 := by kernel_rfl
theorem cells_ens : Tryd.prog.cellsOf 23 = 1 := by kernel_rfl
theorem cells_bs : Tryd.prog.cellsOf 25 = 1 := by kernel_rfl
theorem cells_b : Tryd.prog.cellsOf 5 = 1 := by kernel_rfl
theorem bytes_b : Tryd.prog.bytesOf 5 = 1 := by kernel_rfl
def bCells (x : Int) : List Value := [.int .u8 x]
theorem b_el {H : Type} {enc : TypeId × Value → H} {W : World} {sp : Nat → Bool} {hd : Bool} (cs : List Value) (n : Nat) (y : DataW H) (pl : List MemPlace) (hl : cs.length = 1) (h : DataW.trod enc Tryd.prog W 0 sp hd n 5 cs = some (y, pl)) (_ : DSized Tryd.prog 5 y) :
    ∃ x : Int, bCells x = cs ∧ noSub W W.heap.size x ∧ (Lit.int .u8 x).wf = true := by
  obtain ⟨k0, e0, _, w0⟩ := DataW.trod_int Tryd.underlying5 h
  exact ⟨k0, e0.symm, trivial, w0⟩
theorem rows_bytes {w : World} {B : Nat} {ao : Option Addr} {xs : List Int} (h : RowsIn 1 bCells noSub w B ao xs) : BytesIn w B ao xs := by
  rcases h with h | ⟨b, off, h1, h2, h3⟩
  · exact Or.inl h
  · refine Or.inr ⟨b, off, h1, h2, fun i hi => ?_⟩
    have hx : xs[i]? = some xs[i] := List.getElem?_eq_getElem hi
    have := (h3 i _ hx).1 0 (by decide)
    rw [Nat.mul_one, Nat.add_zero] at this
    rw [this]
    simp [bCells, List.getD, hx]
/-- What holds of a letter among the arguments. -/
structure LtArg (l : Lt) : Prop where
  kind : (Lit.int .u8 l.kind).wf = true
  fr : (Lit.int .i64 l.fr).wf = true
  tov : (Lit.int .i64 l.tov).wf = true
  term : (Lit.int .i64 l.term).wf = true
  index : (Lit.int .i64 l.index).wf = true
  was : (Lit.int .i64 l.was).wf = true
  commit : (Lit.int .i64 l.commit).wf = true
  round : (Lit.int .i64 l.round).wf = true
  es : ∀ e ∈ l.es, EnWf e
  en : l.es.length * 112 ≤ 140737488351232
  vs : ∀ v ∈ l.vs, (Lit.int .i64 v).wf = true
  vn : l.vs.length * 8 ≤ 140737488351232
  im : BytesWf l.im
  ln : l.im.length ≤ 140737488351232
  enil : l.eo = none → l.ecap = 0
  vnil : l.vo = none → l.vcap = 0
  inil : l.io = none → l.icap = 0
  icap : l.im.length ≤ l.icap
theorem lt_el {H : Type} {enc : TypeId × Value → H} {W : World} {sp : Nat → Bool} {hd : Bool} (cs : List Value) (n : Nat) (y : DataW H) (pl : List MemPlace) (hl : cs.length = 12) (h : DataW.trod enc Tryd.prog W 0 sp hd n 27 cs = some (y, pl)) (hz : DSized Tryd.prog 27 y) :
    ∃ l : Lt, ltVal l = .agg cs.toArray ∧ ltSub W W.heap.size l ∧ LtArg l := by
  obtain ⟨c0, c1, c2, c3, c4, c5, c6, c7, c8, c9, c10, c11, rfl⟩ : ∃ c0 c1 c2 c3 c4 c5 c6 c7 c8 c9 c10 c11, cs = [c0, c1, c2, c3, c4, c5, c6, c7, c8, c9, c10, c11] := by
    match cs, hl with
    | [c0, c1, c2, c3, c4, c5, c6, c7, c8, c9, c10, c11], _ => exact ⟨c0, c1, c2, c3, c4, c5, c6, c7, c8, c9, c10, c11, rfl⟩
  obtain ⟨xs, m, _, hx, _, hlen, hf⟩ := DataW.trod_struct Tryd.underlying27 h
  simp only [Prod.mk.injEq] at hx
  obtain ⟨rfl, _⟩ := hx
  match xs, hlen with
  | [y0, y1, y2, y3, y4, y5, y6, y7, y8, y9, y10, y11], _ =>
    have h0 := hf 0 _ rfl
    have h1 := hf 1 _ rfl
    have h2 := hf 2 _ rfl
    have h3 := hf 3 _ rfl
    have h4 := hf 4 _ rfl
    have h5 := hf 5 _ rfl
    have h6 := hf 6 _ rfl
    have h7 := hf 7 _ rfl
    have h8 := hf 8 _ rfl
    have h9 := hf 9 _ rfl
    have h10 := hf 10 _ rfl
    have h11 := hf 11 _ rfl
    have z9 := DSized.field Tryd.underlying27 hz (i := 9) (y := y9) rfl rfl
    have z10 := DSized.field Tryd.underlying27 hz (i := 10) (y := y10) rfl rfl
    have z11 := DSized.field Tryd.underlying27 hz (i := 11) (y := y11) rfl rfl
    simp [cells_i64, cells_lk, cells_bool, cells_ens, cells_ints, cells_bs] at h0 h1 h2 h3 h4 h5 h6 h7 h8 h9 h10 h11
    obtain ⟨k0, e0, _, w0⟩ := DataW.trod_int Tryd.underlying22 h0
    obtain ⟨k1, e1, _, w1⟩ := DataW.trod_int Tryd.underlying3 h1
    obtain ⟨k2, e2, _, w2⟩ := DataW.trod_int Tryd.underlying3 h2
    obtain ⟨k3, e3, _, w3⟩ := DataW.trod_int Tryd.underlying3 h3
    obtain ⟨k4, e4, _, w4⟩ := DataW.trod_int Tryd.underlying3 h4
    obtain ⟨k5, e5, _, w5⟩ := DataW.trod_int Tryd.underlying3 h5
    obtain ⟨k6, e6, _⟩ := DataW.trod_bool Tryd.underlying4 h6
    obtain ⟨k7, e7, _, w7⟩ := DataW.trod_int Tryd.underlying3 h7
    obtain ⟨k8, e8, _, w8⟩ := DataW.trod_int Tryd.underlying3 h8
    obtain ⟨ea, el, ec, e9, t9⟩ := slice_cell Tryd.underlying23 h9
    obtain ⟨va, vl, vc, e10, t10⟩ := slice_cell Tryd.underlying24 h10
    obtain ⟨ia, il, ic, e11, t11⟩ := slice_cell Tryd.underlying25 h11
    obtain ⟨es, rfl, q1, q2, q3, q4, q5⟩ := open_entries t9 z9
    obtain ⟨vs, rfl, vx, vq, vnil, vcap, vlen⟩ := open_sized (k := 1) (cells := iCells) (sub := noSub) (fun x => (Lit.int .i64 x).wf = true) Tryd.underlying24 cells_i64 (by decide) i_el t10 z10
    obtain ⟨im, rfl, ix, iq, inil, icap, ilen⟩ := open_sized (k := 1) (cells := bCells) (sub := noSub) (fun x => (Lit.int .u8 x).wf = true) Tryd.underlying25 cells_b (by decide) b_el t11 z11
    simp at e0 e1 e2 e3 e4 e5 e6 e7 e8 e9 e10 e11
    subst e0 e1 e2 e3 e4 e5 e6 e7 e8 e9 e10 e11
    rw [bytes_i] at vlen
    rw [bytes_b, Nat.mul_one] at ilen
    exact ⟨⟨k0, k1, k2, k3, k4, k5, k6, k7, k8, ea, es, ec, va, vs, vc, ia, im, ic⟩, rfl, ⟨q1, vx, rows_bytes ix⟩, ⟨w0, w1, w2, w3, w4, w5, w7, w8, q2, q5, vq, vlen, fun x hx => u8_of (iq x hx), ilen, q3, vnil, inil, icap⟩⟩
theorem open_letter {H : Type} {enc : TypeId × Value → H} {W : World} {sp : Nat → Bool} {hd : Bool} {cs : Array Value} {d : DataW H} {p : List MemPlace} (hc : cs.size = Tryd.prog.cellsOf 27) (h : DataW.Trod enc Tryd.prog W 0 sp hd 27 (.agg cs) d p) (hz : DSized Tryd.prog 27 d) :
    ∃ l : Lt, .agg cs = ltVal l ∧ ltSub W W.heap.size l ∧ LtArg l := by
  have h12 : Tryd.prog.cellsOf 27 = 12 := by kernel_rfl
  obtain ⟨n, hn⟩ := h
  obtain ⟨t, e, x, w⟩ := lt_el cs.toList n d p (by rw [Array.length_toList, hc, h12]) (by simpa [Value.cells] using hn) hz
  exact ⟨t, by rw [e], x, w⟩
end Go.Proofs.YthdpfchbomaigaaDoor
