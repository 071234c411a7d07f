/- A snap among the arguments. Conditions: it is read as the row reads it, its weights are bounded. -/
import Derived.Test.YthiijbjhgkeikaaDoorGSnapKeeps3
import Derived.Test.YthiijbjhgkeikaaDoorGSnapKeeps13
import Derived.Test.YthiijbjhgkeikaaDoorGSnapKeeps0
set_option linter.unusedVariables false
set_option linter.unusedSimpArgs false
namespace Go.Proofs.YthiijbjhgkeikaaDoor
open Go.RowKit Go.ChangeShapes
set_option maxRecDepth 20000
theorem scells_bs : Tryd.prog.cellsOf 23 = 1 := by kernel_rfl
theorem scells_b : Tryd.prog.cellsOf 5 = 1 := by kernel_rfl
theorem sbytes_b : Tryd.prog.bytesOf 5 = 1 := by kernel_rfl
def sbCells (x : Int) : List Value := [.int .u8 x]
theorem sb_el {H : Type} {enc : TypeId × Value → H} {W : World} {sp : Nat → Bool} {hd : Bool} (cs : List Value) (n : Nat) (y : DataW H) (pl : List MemPlace) (hl : cs.length = 1) (h : DataW.trod enc Tryd.prog W 0 sp hd n 5 cs = some (y, pl)) (_ : DSized Tryd.prog 5 y) :
    ∃ x : Int, sbCells x = cs ∧ noSub W W.heap.size x ∧ (Lit.int .u8 x).wf = true := by
  obtain ⟨k0, e0, _, w0⟩ := DataW.trod_int Tryd.underlying5 h
  exact ⟨k0, e0.symm, trivial, w0⟩
theorem srows_bytes {w : World} {B : Nat} {ao : Option Addr} {xs : List Int} (h : RowsIn 1 sbCells noSub w B ao xs) : BytesIn w B ao xs := by
  rcases h with h | ⟨b, off, h1, h2, h3⟩
  · exact Or.inl h
  · refine Or.inr ⟨b, off, h1, h2, fun i hi => ?_⟩
    have hx : xs[i]? = some xs[i] := List.getElem?_eq_getElem hi
    have := (h3 i _ hx).1 0 (by decide)
    rw [Nat.mul_one, Nat.add_zero] at this
    rw [this]
    simp [sbCells, List.getD, hx]
/-- What holds of a snap among the arguments. -/
structure SnArg (x : Sn) : Prop where
  index : (Lit.int .i64 x.index).wf = true
  term : (Lit.int .i64 x.term).wf = true
  vs : ∀ v ∈ x.vs, (Lit.int .i64 v).wf = true
  vn : x.vs.length * 8 ≤ 140737488351232
  im : BytesWf x.im
  ln : x.im.length ≤ 140737488351232
  vnil : x.va = none → x.vc = 0
  inil : x.ia = none → x.ic = 0
  vcap : x.vs.length ≤ x.vc
  icap : x.im.length ≤ x.ic
theorem SnArg.fine {x : Sn} (h : SnArg x) (h1 : x.vs.length ≤ 1000000) (h2 : x.im.length ≤ 4000000) : SnFine x :=
  ⟨of_lit h.index, of_lit h.term, fun v hv => of_lit (h.vs v hv), h1, h.im, h2, h.vnil, h.inil, h.vcap, h.icap⟩
theorem sn_el {H : Type} {enc : TypeId × Value → H} {W : World} {sp : Nat → Bool} {hd : Bool} (cs : List Value) (n : Nat) (y : DataW H) (pl : List MemPlace) (hl : cs.length = 4) (h : DataW.trod enc Tryd.prog W 0 sp hd n 25 cs = some (y, pl)) (hz : DSized Tryd.prog 25 y) :
    ∃ x : Sn, snVal x = .agg cs.toArray ∧ snSub W W.heap.size x ∧ SnArg x := by
  obtain ⟨c0, c1, c2, c3, rfl⟩ : ∃ c0 c1 c2 c3, cs = [c0, c1, c2, c3] := by
    match cs, hl with
    | [c0, c1, c2, c3], _ => exact ⟨c0, c1, c2, c3, rfl⟩
  obtain ⟨xs, m, _, hx, _, hlen, hf⟩ := DataW.trod_struct Tryd.underlying25 h
  simp only [Prod.mk.injEq] at hx
  obtain ⟨rfl, _⟩ := hx
  match xs, hlen with
  | [y0, y1, y2, y3], _ =>
    have h0 := hf 0 _ rfl
    have h1 := hf 1 _ rfl
    have h2 := hf 2 _ rfl
    have h3 := hf 3 _ rfl
    have z2 := DSized.field Tryd.underlying25 hz (i := 2) (y := y2) rfl rfl
    have z3 := DSized.field Tryd.underlying25 hz (i := 3) (y := y3) rfl rfl
    simp [cells_i64, cells_ints, scells_bs] at h0 h1 h2 h3
    obtain ⟨k0, e0, _, w0⟩ := DataW.trod_int Tryd.underlying3 h0
    obtain ⟨k1, e1, _, w1⟩ := DataW.trod_int Tryd.underlying3 h1
    obtain ⟨va, vl, vc, e2, t2⟩ := slice_cell Tryd.underlying22 h2
    obtain ⟨ia, il, ic, e3, t3⟩ := slice_cell Tryd.underlying23 h3
    obtain ⟨vs, rfl, vx, vq, vnil, vcap, vlen⟩ := open_sized (k := 1) (cells := iCells) (sub := noSub) (fun x => (Lit.int .i64 x).wf = true) Tryd.underlying22 cells_i64 (by decide) i_el t2 z2
    obtain ⟨im, rfl, ix, iq, inil, icap, ilen⟩ := open_sized (k := 1) (cells := sbCells) (sub := noSub) (fun x => (Lit.int .u8 x).wf = true) Tryd.underlying23 scells_b (by decide) sb_el t3 z3
    simp at e0 e1 e2 e3
    subst e0 e1 e2 e3
    rw [bytes_i] at vlen
    rw [sbytes_b, Nat.mul_one] at ilen
    exact ⟨⟨k0, k1, va, vs, vc, ia, im, ic⟩, rfl, ⟨vx, srows_bytes ix⟩, ⟨w0, w1, vq, vlen, fun x hx => u8_of (iq x hx), ilen, vnil, inil, vcap, icap⟩⟩
end Go.Proofs.YthiijbjhgkeikaaDoor
/- A snap's bytes are got as it; what is got of any bytes is put as just these. Conditions: as the law's statement. -/
namespace Go.Proofs.YthiijbjhgkeikaaDoor
open Go.RowKit Go.ChangeShapes
set_option maxRecDepth 20000
theorem own_sub {w : World} {base : Nat} {x : Sn} (h : OwnSn w base x) : snSub w w.heap.size x := ⟨ints_in rfl h.1, h.2.in⟩
end Go.Proofs.YthiijbjhgkeikaaDoor
/- Pick: any number is brought into 0 to n - 1. Condition: n is at least 1. -/
namespace Go.Proofs.YthiijbjhgkeikaaDoor
open Go.RowKit
set_option maxRecDepth 20000
theorem pick_eq (a k : Int) (hk : 1 ≤ k) : a.tmod k = a % k ∨ (a.tmod k < 0 ∧ a.tmod k + k = a % k) := by
  have h4 := Int.emod_lt_of_pos a (show 0 < k by omega)
  rw [Int.tmod_eq_emod]
  split
  · left; omega
  · right; omega
theorem pick_any (a k : Int) (hk : 1 ≤ k) (hk2 : k ≤ 2000000) (w : World) :
    Calls Tryd.prog 10 #[.int .i64 a, .int .i64 k] w fun e w' => e = .returned (.int .i64 (a % k)) ∧ w = w' := by
  have he := pick_eq a k hk
  have hlo : -k < a.tmod k := Int.lt_tmod_of_pos a (by omega)
  have hhi : a.tmod k < k := Int.tmod_lt_of_pos a (by omega)
  have h1 := Int.emod_nonneg a (show k ≠ 0 by omega)
  have HE := Lib.hid he
  clear he
  by_cases hn : a.tmod k < 0
  · go_enter Tryd.func10, Tryd.ntmps10
    go_wp2
    go_ret
    exact ⟨ret_int (by have := HE.out; omega), rfl⟩
  · go_enter Tryd.func10, Tryd.ntmps10
    go_wp2
    go_ret
    exact ⟨ret_int (by have := HE.out; omega), rfl⟩
end Go.Proofs.YthiijbjhgkeikaaDoor
/- What is used for the stage's theorem: copies of snaps, steps among the arguments, the plain law. Conditions: as each says. -/
namespace Go.Proofs.YthiijbjhgkeikaaDoor
open Go.RowKit Go.ChangeShapes
set_option maxRecDepth 20000
theorem scopyB_any (ao : Option Addr) (n cap : Nat) (xs : List Int) (w : World) (hn : xs.length = n) (hx : BytesIn w w.heap.size ao xs) (hao : ao = none → cap = 0) (hl : n ≤ 1099511627776) :
    Calls Tryd.prog 43 #[.slice ao n cap] w fun e w' => ∃ a c, e = .returned (.slice a n c) ∧ BOwn w' w.heap.size a n c xs ∧ Below w.heap.size w w' := by
  have HX := Lib.hid hx
  have HA := Lib.hid hao
  have HN := Lib.hid hn
  clear hx hao hn
  go_enter Tryd.func43, Tryd.ntmps43
  go_wp2_with (at_builtin; refine wpList_append_bo rfl (.tmp 4) (.tmp 5) rfl w.heap.size rfl (⟨rfl, World.ownsRow_nil _ _ _ _⟩ : BOwn w w.heap.size none 0 0 []) rfl HN.out w.heap.size HX.out HA.out (by omega) (Nat.le_refl _) ?_)
  intro a2 n2 c2 w2 hown hg hn2
  obtain rfl : n2 = n := by omega
  have hb : Below w.heap.size w w2 := (Below.refl w.heap.size w).grown hg (Nat.le_refl _) (fun k hk => by cases hk)
  have HO := Lib.hid hown
  clear hown hg hn2
  go_wp2_with fail
  go_ret
  exact ⟨a2, c2, rfl, HO.out, hb⟩
theorem scopyI_any (ao : Option Addr) (n cap : Nat) (xs : List Int) (w : World) (hn : xs.length = n) (hx : NumsIn w w.heap.size ao xs) (hao : ao = none → cap = 0) (hl : n ≤ 1099511627776) :
    Calls Tryd.prog 42 #[.slice ao n cap] w fun e w' => ∃ a c, e = .returned (.slice a n c) ∧ IntsOwn w' w.heap.size a n c xs ∧ Below w.heap.size w w' := by
  have HX := Lib.hid hx
  have HA := Lib.hid hao
  have HN := Lib.hid hn
  clear hx hao hn
  go_enter Tryd.func42, Tryd.ntmps42
  go_wp2_with (at_builtin; refine wpList_append_rows (sub := noSub) Tryd.underlying22 infoI rfl (by decide) iCells_len iCells_one rfl (.tmp 4) (.tmp 5) rfl w.heap.size (.slice none 0 0) 0 [] rfl (World.ownsRow_nil _ _ _ _) ao n cap xs HN.out rfl w.heap.size HX.out HA.out (by unfold maxLen; omega) (by omega) (Nat.le_refl _) ?_)
  intro v2 w2 hown hg _
  have hb : Below w.heap.size w w2 := (Below.refl w.heap.size w).grown hg (Nat.le_refl _) (fun k hk => by cases hk)
  (try rw [Nat.zero_add, List.nil_append] at hown)
  obtain ⟨a, c, rfl⟩ := row_slice hown
  have HO := Lib.hid hown
  clear hown hg
  go_wp2_with fail
  go_ret
  exact ⟨a, c, rfl, HO.out, hb⟩
set_option maxHeartbeats 4000000 in
/-- A snap's copy. -/
theorem copySnap_any (x : Sn) (w : World) (hx : snSub w w.heap.size x) (hf : SnFine x) :
    Calls Tryd.prog 17 #[snVal x] w fun e w' => ∃ (va : Option Addr) (vc : Nat) (ia : Option Addr) (ic : Nat), e = .returned (.agg #[.int .i64 x.index, .int .i64 x.term, .slice va x.vs.length vc, .slice ia x.im.length ic]) ∧ SnFine ⟨x.index, x.term, va, x.vs, vc, ia, x.im, ic⟩ ∧ OwnSn w' w.heap.size ⟨x.index, x.term, va, x.vs, vc, ia, x.im, ic⟩ ∧ Below w.heap.size w w' := by
  obtain ⟨si, st, va, xs, vc, ia, im, ic⟩ := x
  dsimp only [snVal] at hx ⊢
  obtain ⟨f1, f2, f3, f4, f5, f6, f7, f8, f9, f10⟩ := hf
  dsimp only at f1 f2 f3 f4 f5 f6 f7 f8 f9 f10
  obtain ⟨n, hn⟩ : ∃ n, xs.length = n := ⟨_, rfl⟩
  obtain ⟨m, hm⟩ : ∃ m, im.length = m := ⟨_, rfl⟩
  rw [hn] at f4 ⊢
  rw [hm] at f6 ⊢
  have hb1 := (Below.refl w.heap.size w).alloc (Nat.le_refl _) (.cells #[.int .i64 si, .int .i64 st, .slice va n vc, .slice ia m ic] 25)
  have hk1 := heap_alloc_new w (.cells #[.int .i64 si, .int .i64 st, .slice va n vc, .slice ia m ic] 25)
  have hs1 : (w.alloc (.cells #[.int .i64 si, .int .i64 st, .slice va n vc, .slice ia m ic] 25)).heap.size = w.heap.size + 1 := by simp
  have hb12 := (Below.refl _ (w.alloc (.cells #[.int .i64 si, .int .i64 st, .slice va n vc, .slice ia m ic] 25))).alloc (Nat.le_refl _) (.cells #[.int .i64 0, .int .i64 0, .slice none 0 0, .slice none 0 0] 25)
  have hk2 := heap_alloc_new (w.alloc (.cells #[.int .i64 si, .int .i64 st, .slice va n vc, .slice ia m ic] 25)) (.cells #[.int .i64 0, .int .i64 0, .slice none 0 0, .slice none 0 0] 25)
  have hk12 := (hb12.block w.heap.size (by omega)).trans hk1
  have hs2 : w.heap.size + 2 ≤ ((w.alloc (.cells #[.int .i64 si, .int .i64 st, .slice va n vc, .slice ia m ic] 25)).alloc (.cells #[.int .i64 0, .int .i64 0, .slice none 0 0, .slice none 0 0] 25)).heap.size := by simp
  rw [hs1] at hk2
  have HB2 := Lib.hid (hb1.trans (hb12.mono hb1.size))
  have HK1 := Lib.hid hk12
  have HK2 := Lib.hid hk2
  have HX1 := Lib.hid hx.1
  have HX2 := Lib.hid hx.2
  have HN := Lib.hid hn
  have HM := Lib.hid hm
  have HF := Lib.hid (And.intro f1 (And.intro f2 (And.intro f3 f5)))
  have HV := Lib.hid f7
  have HI := Lib.hid f8
  clear hb1 hk1 hs1 hb12 hk2 hk12 hx hn hm f1 f2 f3 f5 f7 f8 f9 f10
  go_enter Tryd.func17, Tryd.ntmps17
  go_upto_region 1 with fail
  generalize (w.alloc (.cells #[.int .i64 si, .int .i64 st, .slice va n vc, .slice ia m ic] 25)).alloc (.cells #[.int .i64 0, .int .i64 0, .slice none 0 0, .slice none 0 0] 25) = w2 at HB2 HK1 HK2 hs2 ⊢
  have c2 := Go.Joins.cell_of_block HK1.out 2
  go_wp2_with fail
  refine (scopyI_any va n vc xs w2 HN.out ((HX1.out.below noSub_kept HB2.out (Nat.le_refl _)).mono noSub_rising HB2.out.size) HV.out (by omega)).mono ?_
  rintro e w3 ⟨va2, vc2, rfl, ho3, hb3⟩
  have hz3 := hb3.size
  have hk3 := (hb3.block w.heap.size (by omega)).trans HK1.out
  have HK3 := Lib.hid hk3
  have HR3 := Lib.hid ((hb3.block (w.heap.size + 1) (by omega)).trans HK2.out)
  have HB3 := Lib.hid (HB2.out.trans (hb3.mono HB2.out.size))
  have HO3 := Lib.hid ho3
  have u2 := Go.Joins.unfrozen_of_block hk3 2
  have c2' := Go.Joins.cell_of_block hk3 2
  clear c2 hb3 hk3 ho3
  go_upto_region 2 with fail
  have hk4 : (w3.setCell ⟨w.heap.size, 2, none⟩ (.slice va2 n vc2)).heap[w.heap.size]? = some (.cells #[.int .i64 si, .int .i64 st, .slice va2 n vc2, .slice ia m ic] 25 (0, 0)) := by
    have h := Go.Joins.block_setCell (i := 2) HK3.out (.slice va2 n vc2)
    simpa using h
  have hg4 : w3.grownBy _ (some w.heap.size) := grown_set w3 ⟨w.heap.size, 2, none⟩ (.slice va2 n vc2)
  clear u2 c2'
  generalize w3.setCell ⟨w.heap.size, 2, none⟩ (.slice va2 n vc2) = w4 at hk4 hg4 ⊢
  have hz4 := hg4.size
  have HK4 := Lib.hid hk4
  have HR4 := Lib.hid ((hg4.block (w.heap.size + 1) (by omega) (by simp)).trans HR3.out)
  have HB4 := Lib.hid (HB3.out.grown hg4 HB3.out.size (fun k hk => by cases hk; exact Nat.le_refl _))
  have HO4 := Lib.hid (show IntsOwn w4 w2.heap.size va2 n vc2 xs from World.ownsRow.kept HO3.out hg4 (Or.inr fun e => by have h1 := (World.ownsRow.lt HO3.out _ e).1; omega))
  have c3 := Go.Joins.cell_of_block hk4 3
  clear hk4 hg4
  go_wp2_with fail
  refine (scopyB_any ia m ic im w4 HM.out ((HX2.out.below HB4.out (Nat.le_refl _)).mono HB4.out.size) HI.out (by omega)).mono ?_
  rintro e w5 ⟨ia2, ic2, rfl, ho5, hb5⟩
  have hz5 := hb5.size
  have hk5 := (hb5.block w.heap.size (by omega)).trans HK4.out
  have HK5 := Lib.hid hk5
  have HR5 := Lib.hid ((hb5.block (w.heap.size + 1) (by omega)).trans HR4.out)
  have HB5 := Lib.hid (HB4.out.trans (hb5.mono HB4.out.size))
  have HO5 := Lib.hid ho5
  have HV5 := Lib.hid (HO4.out.below hb5 (Nat.le_refl _))
  have u3 := Go.Joins.unfrozen_of_block hk5 3
  have c3' := Go.Joins.cell_of_block hk5 3
  clear c3 hb5 hk5 ho5
  go_upto_region 3 with fail
  have hk6 : (w5.setCell ⟨w.heap.size, 3, none⟩ (.slice ia2 m ic2)).heap[w.heap.size]? = some (.cells #[.int .i64 si, .int .i64 st, .slice va2 n vc2, .slice ia2 m ic2] 25 (0, 0)) := by
    have h := Go.Joins.block_setCell (i := 3) HK5.out (.slice ia2 m ic2)
    simpa using h
  have hg6 : w5.grownBy _ (some w.heap.size) := grown_set w5 ⟨w.heap.size, 3, none⟩ (.slice ia2 m ic2)
  clear u3 c3'
  generalize w5.setCell ⟨w.heap.size, 3, none⟩ (.slice ia2 m ic2) = w6 at hk6 hg6 ⊢
  have hz6 := hg6.size
  have hr6 := (hg6.block (w.heap.size + 1) (by omega) (by simp)).trans HR5.out
  have HR6 := Lib.hid hr6
  have HB6 := Lib.hid (HB5.out.grown hg6 HB5.out.size (fun k hk => by cases hk; exact Nat.le_refl _))
  have HV6 := Lib.hid (show IntsOwn w6 w2.heap.size va2 n vc2 xs from World.ownsRow.kept HV5.out hg6 (Or.inr fun e => by have h1 := (World.ownsRow.lt HV5.out _ e).1; omega))
  have HO6 := Lib.hid (HO5.out.kept hg6 (Or.inr fun e => by have h1 := HO5.out.lt _ e; omega))
  have g0 := Go.Joins.cell_of_block hk6 0
  have g1 := Go.Joins.cell_of_block hk6 1
  have g2 := Go.Joins.cell_of_block hk6 2
  have g3 := Go.Joins.cell_of_block hk6 3
  have u0 := Go.Joins.unfrozen_of_block hr6 0
  have u1 := Go.Joins.unfrozen_of_block hr6 1
  have u2 := Go.Joins.unfrozen_of_block hr6 2
  have u3 := Go.Joins.unfrozen_of_block hr6 3
  have e0 := Go.Joins.cell_of_block hr6 0
  have e1 := Go.Joins.cell_of_block hr6 1
  have e2 := Go.Joins.cell_of_block hr6 2
  have e3 := Go.Joins.cell_of_block hr6 3
  clear hk6 hg6 hr6
  go_wp2_with fail
  have hk7 := block_four (a := .int .i64 si) (b := .int .i64 st) (c := .slice va2 n vc2) (d := .slice ia2 m ic2) HR6.out
  have hg7 := grown_four (w := w6) (g := w.heap.size + 1) (a := .int .i64 si) (b := .int .i64 st) (c := .slice va2 n vc2) (d := .slice ia2 m ic2)
  generalize (((w6.setCell ⟨w.heap.size + 1, 0, none⟩ (.int .i64 si)).setCell ⟨w.heap.size + 1, 1, none⟩ (.int .i64 st)).setCell ⟨w.heap.size + 1, 2, none⟩ (.slice va2 n vc2)).setCell ⟨w.heap.size + 1, 3, none⟩ (.slice ia2 m ic2) = w7 at hk7 hg7 ⊢
  have hv7 : IntsOwn w7 w2.heap.size va2 n vc2 xs := World.ownsRow.kept HV6.out hg7 (Or.inr fun e => by have h1 := (World.ownsRow.lt HV6.out _ e).1; omega)
  have ho7 := HO6.out.kept hg7 (Or.inr fun e => by have h1 := HO6.out.lt _ e; omega)
  refine bodyPost_ret (results_cell_row rfl _ _ (w.heap.size + 1) 25 _ _ _ rfl hk7 Tryd.underlying25 rfl (info_sn _ _ _ _)) rfl ⟨va2, vc2, ia2, ic2, rfl, ⟨HF.out.1, HF.out.2.1, HF.out.2.2.1, ?_, HF.out.2.2.2, ?_, (ints_nil hv7).1, ho7.nil, ?_, ?_⟩, ⟨?_, ?_⟩, HB6.out.grown hg7 HB6.out.size (fun k hk => by cases hk; exact Nat.le_succ _)⟩
  · dsimp only; rw [HN.out]; exact f4
  · dsimp only; rw [HM.out]; exact f6
  · dsimp only; rw [HN.out]; exact (ints_nil hv7).2
  · dsimp only; rw [HM.out]; exact bown_cap ho7
  · dsimp only; rw [HN.out]; exact hv7.le (by omega)
  · dsimp only; rw [HM.out]; exact ho7.le (by omega)
end Go.Proofs.YthiijbjhgkeikaaDoor
/- Steps among the arguments; the plain law of the stage's theorem. Conditions: as each says. -/
namespace Go.Proofs.YthiijbjhgkeikaaDoor
open Go.RowKit Go.ChangeShapes
set_option maxRecDepth 20000
/-- A step. -/
structure SnDo where
  op : Int
  n : Int
  x : Sn
def stCells (s : SnDo) : List Value := [.int .i64 s.op, .int .i64 s.n, .int .i64 s.x.index, .int .i64 s.x.term, .slice s.x.va s.x.vs.length s.x.vc, .slice s.x.ia s.x.im.length s.x.ic]
def stSub (w : World) (B : Nat) (s : SnDo) : Prop := snSub w B s.x
structure StArg (s : SnDo) : Prop where
  op : (Lit.int .i64 s.op).wf = true
  n : (Lit.int .i64 s.n).wf = true
  x : SnArg s.x
theorem scells_do : Tryd.prog.cellsOf 42 = 6 := by kernel_rfl
theorem scells_sn : Tryd.prog.cellsOf 25 = 4 := by kernel_rfl
theorem st_el {H : Type} {enc : TypeId × Value → H} {W : World} {sp : Nat → Bool} {hd : Bool} (cs : List Value) (n : Nat) (y : DataW H) (pl : List MemPlace) (hl : cs.length = 6) (h : DataW.trod enc Tryd.prog W 0 sp hd n 42 cs = some (y, pl)) (hz : DSized Tryd.prog 42 y) :
    ∃ s : SnDo, stCells s = cs ∧ stSub W W.heap.size s ∧ StArg s := by
  obtain ⟨c0, c1, c2, c3, c4, c5, rfl⟩ : ∃ c0 c1 c2 c3 c4 c5, cs = [c0, c1, c2, c3, c4, c5] := by
    match cs, hl with
    | [c0, c1, c2, c3, c4, c5], _ => exact ⟨c0, c1, c2, c3, c4, c5, rfl⟩
  obtain ⟨xs, m, _, hx, _, hlen, hf⟩ := DataW.trod_struct Tryd.underlying42 h
  simp only [Prod.mk.injEq] at hx
  obtain ⟨rfl, _⟩ := hx
  match xs, hlen with
  | [y0, y1, y2], _ =>
    have h0 := hf 0 _ rfl
    have h1 := hf 1 _ rfl
    have h2 := hf 2 _ rfl
    have z2 := DSized.field Tryd.underlying42 hz (i := 2) (y := y2) rfl rfl
    simp [cells_i64, scells_sn] at h0 h1 h2
    obtain ⟨k0, e0, _, w0⟩ := DataW.trod_int Tryd.underlying3 h0
    obtain ⟨k1, e1, _, w1⟩ := DataW.trod_int Tryd.underlying3 h1
    obtain ⟨x, ex, hxs, hxq⟩ := sn_el [c2, c3, c4, c5] _ _ _ rfl h2 z2
    simp at e0 e1
    subst e0 e1
    obtain ⟨si, st, va, vs, vc, ia, im, ic⟩ := x
    simp [snVal] at ex
    obtain ⟨rfl, rfl, rfl, rfl⟩ := ex
    exact ⟨⟨k0, k1, ⟨si, st, va, vs, vc, ia, im, ic⟩⟩, rfl, hxs, ⟨w0, w1, hxq⟩⟩
/-- What the loop keeps: the snap that was stored last with OK stands in the file, wholly synced. -/
structure Keeps (room : Nat) (L : Dk) (was : SnP) (some' : Bool) : Prop where
  yes : some' = true → ∃ b, snPut was = (b, 0) ∧ BytesWf was.im ∧ dGet L snapN = some ⟨b, []⟩
  no : some' = false → was = zeroSn ∧ dGet L snapN = none
theorem Keeps.load {room : Nat} {L : Dk} {was : SnP} {sm : Bool} (h : Keeps room L was sm) : dLoad L = (was, sm, 0) := by
  unfold dLoad
  cases sm with
  | false =>
    obtain ⟨rfl, h2⟩ := h.no rfl
    rw [h2]
  | true =>
    obtain ⟨b, h1, h2, h3⟩ := h.yes rfl
    rw [h3]
    have e : (⟨b, []⟩ : Fi).all = b := by simp [Fi.all]
    dsimp only
    rw [e, snGet_back h2 h1]
    rfl
theorem Keeps.len {room : Nat} {L : Dk} {was : SnP} {sm : Bool} (_ : Keeps room L was sm) (hu : dUsed L ≤ room) (hr : room ≤ 3000) : ∀ f, dGet L snapN = some f → f.all.length ≤ 3000000 := fun f h => by
  have := dUsed_le h
  omega
theorem Keeps.same {room : Nat} {L L' : Dk} {was : SnP} {sm : Bool} (h : Keeps room L was sm) (he : dGet L' snapN = dGet L snapN) : Keeps room L' was sm :=
  ⟨fun h1 => let ⟨b, h2, h3, h4⟩ := h.yes h1; ⟨b, h2, h3, by rw [he, h4]⟩, fun h1 => let ⟨h2, h3⟩ := h.no h1; ⟨h2, by rw [he, h3]⟩⟩
theorem Keeps.crash {room : Nat} {L : Dk} {was : SnP} {sm : Bool} (h : Keeps room L was sm) (z : Int) : Keeps room (dCrash z L) was sm := by
  constructor
  · intro h1
    obtain ⟨b, h2, h3, h4⟩ := h.yes h1
    refine ⟨b, h2, h3, ?_⟩
    unfold dCrash
    rw [dGet_crash, h4]
    simp [Fi.crash]
  · intro h1
    obtain ⟨h2, h3⟩ := h.no h1
    refine ⟨h2, ?_⟩
    unfold dCrash
    rw [dGet_crash, h3]
    rfl
def logN : List UInt8 := [108, 111, 103]
def logS : ByteArray := ⟨#[108, 111, 103]⟩
theorem log_named : Named logS := ⟨by show ∀ pos, pos < 3 → okR (Utf8.decode logS pos).1; decide, by decide, by decide, by decide, by rw [ByteArray.toList_eq]; decide⟩
theorem logS_le : logS.size ≤ maxLen := by decide
theorem append_other (room : Nat) (L : Dk) (k k' : List UInt8) (b : List Int) (h : k' ≠ k) : dGet (dAppend room L k b).1 k' = dGet L k' := by
  unfold dAppend
  dsimp only
  split
  · rfl
  · split
    · rfl
    · split
      · rfl
      · rw [dGet_put, if_neg h]
theorem remove_other (L : Dk) (k k' : List UInt8) (h : k' ≠ k) : dGet (dRemove L k).1 k' = dGet L k' := by
  rw [dRemove_fst, dGet_del, if_neg h]
theorem dDel_twice (L : Dk) (k : List UInt8) : dDel (dDel L k) k = dDel L k := dDel_of_none (by rw [dGet_del, if_pos rfl])
/-- What is wanted of a Store, on a disk without what was left over. -/
def wantS (room : Nat) (L : Dk) (s : SnP) : Int := if (snPut s).2 = 0 ∧ (room : Int) - dUsed L < (snPut s).1.length then 5 else (snPut s).2
theorem store_want {room : Nat} {L : Dk} (hL : dOk L) (hn : dDel L newN = L) (hu : dUsed L ≤ room) (s : SnP) : (dStore room L s).2 = wantS room L s ∧ (wantS room L s ≠ 0 → dGet (dStore room L s).1 snapN = dGet L snapN) ∧ (wantS room L s = 0 → ∃ b, snPut s = (b, 0) ∧ dGet (dStore room L s).1 snapN = some ⟨b, []⟩) := by
  obtain ⟨⟨b, e⟩, hb⟩ : ∃ q, snPut s = q := ⟨_, rfl⟩
  unfold wantS
  rw [hb]
  dsimp only
  by_cases he : e = 0
  · subst he
    by_cases hf : room < dUsed L + b.length
    · have h := dStore_full (room := room) (L := L) hb (by rw [hn]; exact hf)
      rw [h, if_pos ⟨rfl, by omega⟩]
      exact ⟨rfl, fun _ => by rw [hn], fun h => by simp at h⟩
    · have h := dStore_ok (room := room) hL hb (by rw [hn]; omega)
      rw [if_neg (fun h => by have := h.2; omega)]
      refine ⟨h.1, fun h0 => absurd rfl h0, fun _ => ⟨b, rfl, ?_⟩⟩
      rw [h.2.2, if_pos rfl]
  · have h := dStore_bad (room := room) (L := L) hb he
    rw [h, if_neg (fun h => he h.1)]
    exact ⟨rfl, fun _ => rfl, fun h0 => absurd h0 he⟩
end Go.Proofs.YthiijbjhgkeikaaDoor
