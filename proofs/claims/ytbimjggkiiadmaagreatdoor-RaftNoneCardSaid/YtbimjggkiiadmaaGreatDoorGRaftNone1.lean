/- log.copied: entries in memory of their own. Conditions: the entries' cells lie as their readings say. -/
import Derived.Test.YtbimjggkiiadmaaGreatDoorGRaftNone0
import Derived.Deep.RegionLaw
import Derived.Deep.RegionHeld3
set_option linter.unusedVariables false
set_option linter.unusedSimpArgs false
namespace Go.Proofs.YtbimjggkiiadmaaGreatDoor
open Go.RowKit
set_option maxRecDepth 20000
def argV (e : En) : Value := .slice e.aao e.args.length e.acap
def votV (e : En) : Value := .slice e.vao e.vs.length e.vcap
/-- An entry's lists are the call's own. -/
def enOwn (w : World) (base : Nat) (e : En) : Prop :=
  w.ownsRow base 126 3 (argV e) e.args.length (e.args.flatMap vaCells) ∧ w.ownsRow base 3 1 (votV e) e.vs.length (e.vs.flatMap iCells)
def sepE (e f : En) : Prop := ((argV e).ownBlock = none ∨ (argV e).ownBlock ≠ (argV f).ownBlock) ∧ ((votV e).ownBlock = none ∨ (votV e).ownBlock ≠ (votV f).ownBlock)
/-- A row of entries of the call's own, their lists, too, each in a block of its own. -/
structure EnsOwn (w : World) (base : Nat) (v : Value) (es : List En) : Prop where
  row : w.ownsRow base 34 9 v es.length (es.flatMap enCells)
  own : ∀ e ∈ es, enOwn w base e
  sep : es.Pairwise sepE
theorem enOwn.below {w w' : World} {base B : Nat} {e : En} (h : enOwn w base e) (hb : Below B w w') (hB : w.heap.size ≤ B) : enOwn w' base e := ⟨own_below h.1 hb hB, own_below h.2 hb hB⟩
theorem enOwn.le {w : World} {base base' : Nat} {e : En} (h : enOwn w base e) (hB : base' ≤ base) : enOwn w base' e := ⟨Go.Joins.ownsRow_le h.1 hB, Go.Joins.ownsRow_le h.2 hB⟩
theorem EnsOwn.below {w w' : World} {base B : Nat} {v : Value} {es : List En} (h : EnsOwn w base v es) (hb : Below B w w') (hB : w.heap.size ≤ B) : EnsOwn w' base v es :=
  ⟨own_below h.row hb hB, fun e he => (h.own e he).below hb hB, h.sep⟩
theorem EnsOwn.le {w : World} {base base' : Nat} {v : Value} {es : List En} (h : EnsOwn w base v es) (hB : base' ≤ base) : EnsOwn w base' v es := ⟨Go.Joins.ownsRow_le h.row hB, fun e he => (h.own e he).le hB, h.sep⟩
/-- A row of the call's own, as it lies. -/
theorem own_rowsIn {α : Type} {k : Nat} {cells : α → List Value} {sub : World → Nat → α → Prop} (hk : ∀ x, (cells x).length = k) {w : World} {base e n c : Nat} {ao : Option Addr} {xs : List α} (hn : xs.length = n) (h : w.ownsRow base e k (.slice ao n c) n (xs.flatMap cells)) (hs : ∀ x ∈ xs, sub w w.heap.size x) : RowsIn k cells sub w w.heap.size ao xs := by
  subst hn
  obtain ⟨a', c', hv, hin, _⟩ := own_rows hk rfl h hs (Nat.le_refl _)
  cases hv
  exact hin
theorem enOwn.sub {w : World} {base : Nat} {e : En} (h : enOwn w base e) : enSub w w.heap.size e :=
  ⟨own_rowsIn vaCells_len rfl h.1 (fun _ _ => trivial), own_rowsIn iCells_len rfl h.2 (fun _ _ => trivial)⟩
theorem EnsOwn.lie {w : World} {base : Nat} {v : Value} {es : List En} (h : EnsOwn w base v es) : ∃ a c, v = .slice a es.length c ∧ es.length ≤ c ∧ (a = none → c = 0) ∧ EnsIn w w.heap.size a es := by
  obtain ⟨a, c, hv⟩ := row_slice h.row
  subst hv
  exact ⟨a, c, rfl, own_capG h.row, own_none h.row, own_rowsIn enCells_len rfl h.row fun e he => (h.own e he).sub⟩
theorem flat_set {α : Type} {k : Nat} {cells : α → List Value} (hk : ∀ x, (cells x).length = k) (A B : List α) (x : α) (q j : Nat) (hq : A.length = q) (hj : j < k) (u : Value) : ((A ++ x :: B).flatMap cells).set (q * k + j) u = A.flatMap cells ++ ((cells x).set j u ++ B.flatMap cells) := by
  have hA := flat_len hk A
  rw [hq] at hA
  rw [List.flatMap_append, List.flatMap_cons, List.set_append_right _ _ (by omega), hA, show q * k + j - q * k = j by omega, List.set_append_left _ _ (by rw [hk]; exact hj)]
theorem flat_set2 {A : List Value} {c B : List Value} {p j : Nat} (hA : A.length = p) (hj : j < c.length) (u : Value) : (A ++ (c ++ B)).set (p + j) u = A ++ (c.set j u ++ B) := by
  rw [List.set_append_right _ _ (by omega), show p + j - A.length = j by omega, List.set_append_left _ _ hj]
def CopiedAs (xs : List En) (n : Nat) (w : World) (e : Ending) (w' : World) : Prop :=
  ∃ a c es, e = .returned (.slice a n c) ∧ EnsOwn w' w.heap.size (.slice a n c) es ∧ es.map En.plain = xs.map En.plain ∧ Below w.heap.size w w'
set_option maxHeartbeats 2000000 in
theorem copied_any (ao : Option Addr) (n cap : Nat) (xs : List En) (w : World) (B : Nat) (hn : xs.length = n) (hx : EnsIn w B ao xs) (hB : B ≤ w.heap.size) (hao : ao = none → cap = 0) (hl : n ≤ 1099511627776) (hsm : ∀ x ∈ xs, x.args.length ≤ 1099511627776 ∧ x.vs.length ≤ 1099511627776) (hnil : ∀ x ∈ xs, EnNil x) :
    Calls Tryz.prog 51 #[.slice ao n cap] w (CopiedAs xs n w) := by
  have HX := Lib.hid hx
  have HN := Lib.hid hn
  have HA := Lib.hid hao
  have HS := Lib.hid hsm
  have HNIL := Lib.hid hnil
  clear hx hn hao hsm hnil
  go_enter Tryz.func51, Tryz.ntmps51
  go_wp2_with fail
  refine (cloneE_any enSub ao n cap xs w B HN.out HX.out enSub_kept hB HA.out hl).mono ?_
  rintro e w1 ⟨a, c, rfl, hown, hb1⟩
  have HO := Lib.hid hown
  clear hown
  go_wp2_with fail
  go_loopw [4, 9] (fun _ i wr => ∃ (k : Nat) (es : List En), k ≤ n ∧ i = .int .i64 k ∧ es.length = k ∧ es.map En.plain = (xs.take k).map En.plain ∧ (∀ e ∈ es, enOwn wr w.heap.size e) ∧ es.Pairwise sepE ∧ wr.ownsRow w.heap.size 34 9 (.slice a n c) n ((es ++ xs.drop k).flatMap enCells) ∧ Below w.heap.size w wr) (fun _ i _ => n - (intOf i).toNat)
  case atStart => exact ⟨0, [], by omega, rfl, rfl, rfl, by simp, List.Pairwise.nil, by simpa using HO.out, hb1⟩
  case round =>
    clear hb1 HO
    obtain ⟨k, es, hk, rfl, hlen, hmap, hown, hsep, hrow, hbel⟩ := hrel
    have HL := Lib.hid hlen
    have HM := Lib.hid hmap
    have HOW := Lib.hid hown
    have HSP := Lib.hid hsep
    have HR := Lib.hid hrow
    clear hlen hmap hown hsep hrow
    have hs := hbel.size
    by_cases hlt : k < n
    · have hkn : k < xs.length := by rw [HN.out]; exact hlt
      have hdrop : xs.drop k = xs[k] :: xs.drop (k + 1) := List.drop_eq_getElem_cons hkn
      have htake : (xs.take (k + 1)).map En.plain = (xs.take k).map En.plain ++ [xs[k].plain] := by
        rw [List.take_succ_eq_append_getElem hkn, List.map_append]; rfl
      have hsx := HS.out _ (List.getElem_mem hkn)
      have hnx := HNIL.out _ (List.getElem_mem hkn)
      have hxk : xs[k]? = some xs[k] := List.getElem?_eq_getElem hkn
      have hsub : enSub w B xs[k] := by
        obtain ⟨_, _, _, _, _, h⟩ := HX.out.at hxk
        exact h
      generalize xs[k] = x at hdrop htake hsx hnx hsub
      obtain ⟨t, kd, s, q, ck, text, aao, args, acap, num, vao, vs, vcap⟩ := x
      obtain ⟨g, c', hg⟩ : ∃ g c', a = some ⟨g, 0, none⟩ ∧ c' = c := by
        rcases Go.Joins.ownsRow_forms HR.out with ⟨_, hz⟩ | ⟨g, c2, h2⟩
        · omega
        · injection h2 with h3 _ _
          exact ⟨g, c, h3, rfl⟩
      obtain ⟨rfl, _⟩ := hg
      dsimp only at hsx
      have hrow0 := HR.out
      rw [hdrop] at hrow0
      have hget : ∀ j, j < 9 → wr.cell? ⟨g, k * 9 + j, none⟩ = (enCells ⟨t, kd, s, q, ck, text, aao, args, acap, num, vao, vs, vcap⟩)[j]? := by
        intro j hj
        rw [World.ownsRow.cellAt hrow0 _ (by omega)]
        exact flat_get enCells_len _ k _ (by rw [List.getElem?_append_right (by rw [HL.out]; exact Nat.le_refl _), HL.out, Nat.sub_self]; rfl) j hj
      have d8 : wr.cell? ⟨g, k * 9 + 8, none⟩ = some (.slice vao vs.length vcap) := hget 8 (by decide)
      obtain ⟨vn, hvn⟩ : ∃ vn, vs.length = vn := ⟨_, rfl⟩
      obtain ⟨an, han⟩ : ∃ an, args.length = an := ⟨_, rfl⟩
      rw [hvn] at d8 hsx
      rw [han] at hsx
      obtain ⟨hsx1, hsx2⟩ := hsx
      have HVN := Lib.hid hvn
      have HAN := Lib.hid han
      have HSUB := Lib.hid hsub
      have HNX := Lib.hid hnx
      have HD := Lib.hid hdrop
      have HT := Lib.hid htake
      have HR0 := Lib.hid hrow0
      have i1 : (k : Int) < n := by omega
      clear hget hxk hvn han hsub hnx hdrop htake hrow0
      go_wp2_with fail
      refine (cloneI_any noSub vao vn vcap vs wr B HVN.out (HSUB.out.2.below noSub_kept (hbel.mono hB) (Nat.le_refl _)) noSub_kept (by omega) HNX.out.2 (by omega)).mono ?_
      rintro e w2 ⟨a2, c2, rfl, hown2, hb2⟩
      have hs2 := hb2.size
      have hrow2 := own_below HR0.out hb2 (Nat.le_refl _)
      have d8' : w2.cell? ⟨g, k * 9 + 8, none⟩ = some (.slice vao vn vcap) := (hb2.cell (p := ⟨g, k * 9 + 8, none⟩) (HR0.out.lt g rfl).2).trans d8
      have f8 : w2.frozen? ⟨g, k * 9 + 8, none⟩ = false := World.ownsRow.frozenAt hrow2 _
      have st8 := World.ownsRow.stored hrow2 (k * 9 + 8) (.slice a2 vn c2)
      have hset8 := flat_set enCells_len es (xs.drop (k + 1)) ⟨t, kd, s, q, ck, text, aao, args, acap, num, vao, vs, vcap⟩ k 8 HL.out (by decide) (.slice a2 vn c2)
      rw [hset8] at st8
      have hown3 := World.ownsRow.kept hown2 st8.2 (own_apart hown2 hrow2 (by decide))
      have hbw3 : Below w.heap.size w (w2.setCell ⟨g, k * 9 + 8, none⟩ (.slice a2 vn c2)) := (hbel.trans (hb2.mono hs)).setCell (p := ⟨g, k * 9 + 8, none⟩) (hrow2.lt g rfl).1 _
      have HOW3 := Lib.hid (show ∀ e ∈ es, enOwn (w2.setCell ⟨g, k * 9 + 8, none⟩ (.slice a2 vn c2)) w.heap.size e from fun e he => by
        have h1 := (HOW.out e he).below hb2 (Nat.le_refl _)
        exact ⟨World.ownsRow.kept h1.1 st8.2 (own_apart h1.1 hrow2 (by decide)), World.ownsRow.kept h1.2 st8.2 (own_apart h1.2 hrow2 (by decide))⟩)
      have hz3 : (w2.setCell ⟨g, k * 9 + 8, none⟩ (.slice a2 vn c2)).heap.size = w2.heap.size := by simp
      have HR3 := Lib.hid st8.1
      have HO3 := Lib.hid hown3
      have HROW2 := Lib.hid hrow2
      have HOWN2 := Lib.hid hown2
      clear hrow2 st8 hset8 hown3 hown2 d8
      have hbw3' := hbw3
      have hfA := flat_len enCells_len es
      have d6 : (w2.setCell ⟨g, k * 9 + 8, none⟩ (.slice a2 vn c2)).cell? ⟨g, k * 9 + 4 + 2, none⟩ = some (.slice aao an acap) := by
        show (w2.setCell ⟨g, k * 9 + 8, none⟩ (.slice a2 vn c2)).cell? ⟨g, k * 9 + 6, none⟩ = _
        rw [World.ownsRow.cellAt HR3.out _ (by omega), List.getElem?_append_right (by rw [hfA, HL.out]; omega), hfA, HL.out, show k * 9 + 6 - k * 9 = 6 by omega, List.getElem?_append_left (by simp [enCells])]
        simp [enCells, HAN.out]
      have HFA := Lib.hid hfA
      clear hfA
      go_wp2_with fail
      have hfA := HFA.out
      generalize w2.setCell ⟨g, k * 9 + 8, none⟩ (.slice a2 vn c2) = w3 at HR3 HO3 HOW3 hbw3' hz3 d6 ⊢
      clear hbw3 d8' f8
      have hs3 := hbw3'.size
      refine (cloneV_any noSub aao an acap args w3 B HAN.out (HSUB.out.1.below noSub_kept (hbw3'.mono hB) (Nat.le_refl _)) noSub_kept (by omega) HNX.out.1 (by omega)).mono ?_
      rintro e w4 ⟨a4, c4, rfl, hown4, hb4⟩
      have hs4 := hb4.size
      have hrow4 := own_below HR3.out hb4 (Nat.le_refl _)
      have d6' : w4.cell? ⟨g, k * 9 + 4 + 2, none⟩ = some (.slice aao an acap) := (hb4.cell (p := ⟨g, k * 9 + 6, none⟩) (HR3.out.lt g rfl).2).trans d6
      have f6 : w4.frozen? ⟨g, k * 9 + 4 + 2, none⟩ = false := World.ownsRow.frozenAt hrow4 _
      have st6 := World.ownsRow.stored hrow4 (k * 9 + 6) (.slice a4 an c4)
      rw [flat_set2 (by rw [hfA, HL.out]) (by simp [enCells])] at st6
      have hcells : ((enCells ⟨t, kd, s, q, ck, text, aao, args, acap, num, vao, vs, vcap⟩).set 8 (.slice a2 vn c2)).set 6 (.slice a4 an c4) = enCells ⟨t, kd, s, q, ck, text, a4, args, c4, num, a2, vs, c2⟩ := by
        simp [enCells, HAN.out, HVN.out]
      rw [hcells] at st6
      have e46 : k * 9 + 6 = k * 9 + 4 + 2 := rfl
      rw [e46] at st6
      clear e46
      have hbw5 : Below w.heap.size w (w4.setCell ⟨g, k * 9 + 4 + 2, none⟩ (.slice a4 an c4)) := (hbw3'.trans (hb4.mono hs3)).setCell (p := ⟨g, k * 9 + 4 + 2, none⟩) (hrow4.lt g rfl).1 _
      have hnew : enOwn (w4.setCell ⟨g, k * 9 + 4 + 2, none⟩ (.slice a4 an c4)) w.heap.size ⟨t, kd, s, q, ck, text, a4, args, c4, num, a2, vs, c2⟩ := by
        have h1 := Go.Joins.ownsRow_le (World.ownsRow.kept hown4 st6.2 (own_apart hown4 hrow4 (by decide))) hs3
        have h2 := own_below HO3.out hb4 (Nat.le_refl _)
        have h3 := Go.Joins.ownsRow_le (World.ownsRow.kept h2 st6.2 (own_apart h2 hrow4 (by decide))) hs
        unfold enOwn argV votV
        dsimp only
        rw [HAN.out, HVN.out]
        exact ⟨h1, h3⟩
      have hold : ∀ e ∈ es, enOwn (w4.setCell ⟨g, k * 9 + 4 + 2, none⟩ (.slice a4 an c4)) w.heap.size e := fun e he => by
        have h1 := (HOW3.out e he).below hb4 (Nat.le_refl _)
        exact ⟨World.ownsRow.kept h1.1 st6.2 (own_apart h1.1 hrow4 (by decide)), World.ownsRow.kept h1.2 st6.2 (own_apart h1.2 hrow4 (by decide))⟩
      have hsepn : (es ++ [(⟨t, kd, s, q, ck, text, a4, args, c4, num, a2, vs, c2⟩ : En)]).Pairwise sepE := by
        refine List.pairwise_append.2 ⟨HSP.out, List.pairwise_singleton _ _, fun x hx y hy => ?_⟩
        obtain rfl := List.mem_singleton.1 hy
        unfold sepE argV votV
        dsimp only
        rw [HAN.out, HVN.out]
        constructor
        · cases hxb : (Value.slice x.aao x.args.length x.acap).ownBlock with
          | none => exact Or.inl rfl
          | some b =>
            right
            intro h
            have h1 := ((HOW3.out x hx).1.lt b hxb).2
            have h2 := (hown4.lt b h.symm).1
            omega
        · cases hxb : (Value.slice x.vao x.vs.length x.vcap).ownBlock with
          | none => exact Or.inl rfl
          | some b =>
            right
            intro h
            have h1 := ((HOW.out x hx).2.lt b hxb).2
            have h2 := (HOWN2.out.lt b h.symm).1
            omega
      have HR5 := Lib.hid st6.1
      have HOLD := Lib.hid hold
      have HNEW := Lib.hid hnew
      have HSN := Lib.hid hsepn
      clear st6 hcells hrow4 hown4 hold hnew hsepn d6 hfA
      go_wp2_with fail
      go_roundw
      case rel =>
        refine ⟨k + 1, es ++ [⟨t, kd, s, q, ck, text, a4, args, c4, num, a2, vs, c2⟩], by omega, by go_num, by rw [List.length_append, HL.out]; rfl, ?_, ?_, HSN.out, ?_, hbw5⟩
        · rw [List.map_append, HM.out, HT.out]; rfl
        · intro e he
          rcases List.mem_append.1 he with h | h
          · exact HOLD.out e h
          · rw [List.mem_singleton.1 h]; exact HNEW.out
        · have h1 := HR5.out
          rw [List.append_assoc, List.flatMap_append]
          exact h1
      case measure => simp [intOf]; omega
    · obtain rfl : k = n := by omega
      have hrow := HR.out
      have htk : xs.take k = xs := List.take_of_length_le (by rw [HN.out]; exact Nat.le_refl _)
      have hdk : xs.drop k = [] := List.drop_eq_nil_of_le (by rw [HN.out]; exact Nat.le_refl _)
      have hm := HM.out
      rw [htk] at hm
      rw [hdk, List.append_nil] at hrow
      have HRR := Lib.hid hrow
      have HMM := Lib.hid hm
      clear hrow hm htk hdk
      go_wp2_with fail
      go_ret
      exact ⟨a, c, es, rfl, ⟨by rw [HL.out]; exact HRR.out, HOW.out, HSP.out⟩, HMM.out, hbel⟩
end Go.Proofs.YtbimjggkiiadmaaGreatDoor
/- A log as it lies in memory; its reading methods: there, place, Term, Last, Base. Conditions: the log is one that was made. -/
namespace Go.Proofs.YtbimjggkiiadmaaGreatDoor
open Go.RowKit
set_option maxRecDepth 20000
/-- Block lb is a log of these entries behind base, whose term is term. -/
structure LogAt (w : World) (B lb : Nat) (base term : Int) (v : Value) (es : List En) : Prop where
  blk : w.heap[lb]? = some (.cells #[.bool true, .int .i64 base, .int .i64 term, v] 92 (0, 0))
  ens : EnsOwn w B v es
  low : B ≤ lb
theorem LogAt.lt {w : World} {B lb : Nat} {base term : Int} {v : Value} {es : List En} (h : LogAt w B lb base term v es) : lb < w.heap.size := (Array.getElem?_eq_some_iff.1 h.blk).1
theorem LogAt.below {w w' : World} {B B' lb : Nat} {base term : Int} {v : Value} {es : List En} (h : LogAt w B lb base term v es) (hb : Below B' w w') (hB : w.heap.size ≤ B') : LogAt w' B lb base term v es :=
  ⟨(hb.block lb (Nat.lt_of_lt_of_le h.lt hB)).trans h.blk, h.ens.below hb hB, h.low⟩
theorem LogAt.le {w : World} {B B' lb : Nat} {base term : Int} {v : Value} {es : List En} (h : LogAt w B lb base term v es) (hB : B' ≤ B) : LogAt w B' lb base term v es := ⟨h.blk, h.ens.le hB, Nat.le_trans hB h.low⟩
theorem LogAt.c0 {w : World} {B lb : Nat} {base term : Int} {v : Value} {es : List En} (h : LogAt w B lb base term v es) : w.cell? ⟨lb, 0, none⟩ = some (.bool true) := Go.Joins.cell_of_block h.blk 0
theorem LogAt.c1 {w : World} {B lb : Nat} {base term : Int} {v : Value} {es : List En} (h : LogAt w B lb base term v es) : w.cell? ⟨lb, 1, none⟩ = some (.int .i64 base) := Go.Joins.cell_of_block h.blk 1
theorem LogAt.c2 {w : World} {B lb : Nat} {base term : Int} {v : Value} {es : List En} (h : LogAt w B lb base term v es) : w.cell? ⟨lb, 2, none⟩ = some (.int .i64 term) := Go.Joins.cell_of_block h.blk 2
theorem LogAt.c3 {w : World} {B lb : Nat} {base term : Int} {v : Value} {es : List En} (h : LogAt w B lb base term v es) : w.cell? ⟨lb, 3, none⟩ = some v := Go.Joins.cell_of_block h.blk 3
theorem LogAt.form {w : World} {B lb : Nat} {base term : Int} {v : Value} {es : List En} (h : LogAt w B lb base term v es) : ∃ a c, v = .slice a es.length c := row_slice h.ens.row
/-- Of what was there only the log's block and its row of entries are written. -/
def Apt (lb : Nat) (v : Value) (w w' : World) : Prop := ∀ g, g < w.heap.size → g ≠ lb → v.ownBlock ≠ some g → w'.heap[g]? = w.heap[g]?
theorem grown_setL (w : World) (a : Addr) (u : Value) : w.grownBy (w.setCell a u) (some a.block) := ⟨rfl, rfl, rfl, by simp, fun k _ hk => heap_setCell_other _ _ _ _ (fun e => hk (by rw [e]))⟩
theorem Apt.of_below {lb : Nat} {v : Value} {w w' : World} (h : Below w.heap.size w w') : Apt lb v w w' := fun g h1 _ _ => h.block g h1
theorem Apt.grown {lb : Nat} {v : Value} {w w1 w2 : World} {o : Option Nat} (h : Apt lb v w w1) (hs : w.heap.size ≤ w1.heap.size) (hg : w1.grownBy w2 o) (ho : o = v.ownBlock ∨ o = none) : Apt lb v w w2 := fun g h1 h2 h3 =>
  (hg.block g (by omega) (fun e => by rcases ho with rfl | rfl; exact h3 e.symm; cases e)).trans (h g h1 h2 h3)
theorem Apt.store {lb : Nat} {v : Value} {w w1 : World} (h : Apt lb v w w1) (hs : w.heap.size ≤ w1.heap.size) (j : Nat) (u : Value) : Apt lb v w (w1.setCell ⟨lb, j, none⟩ u) := fun g h1 h2 h3 =>
  ((grown_setL w1 ⟨lb, j, none⟩ u).block g (by omega) (fun e => h2 (Option.some.inj e))).trans (h g h1 h2 h3)
theorem Apt.trans' {lb : Nat} {v : Value} {w w1 w2 : World} (h : Apt lb v w w1) (hb : Below w1.heap.size w1 w2) (hs : w.heap.size ≤ w1.heap.size) : Apt lb v w w2 := fun g h1 h2 h3 => (hb.block g (by omega)).trans (h g h1 h2 h3)
/-- What a writing method does to a log. -/
structure Turned (lb : Nat) (v v' : Value) (es es' : List En) (w w' : World) : Prop where
  apt : Apt lb v w w'
  row : v'.ownBlock = v.ownBlock ∨ ∀ g, v'.ownBlock = some g → w.heap.size ≤ g
  own : ∀ e ∈ es', e ∈ es ∨ enOwn w' w.heap.size e
theorem there_any (lb : Nat) (w : World) (h0 : w.cell? ⟨lb, 0, none⟩ = some (.bool true)) :
    Calls Tryz.prog 55 #[.pointer (some ⟨lb, 0, none⟩)] w fun e w' => e = .returned (.bool true) ∧ w = w' := by
  go_enter Tryz.func55, Tryz.ntmps55
  go_wp2_with fail
  go_ret
  exact ⟨rfl, rfl⟩
def placeS (base : Int) (n : Nat) (i : Int) : Int × Bool := if base < i ∧ i - base ≤ n then (i - base - 1, true) else (0, false)
def PlaceAt (k : Int) (ok : Bool) (w : World) (e : Ending) (w' : World) : Prop := e = .returned (.tuple #[.int .i64 k, .bool ok]) ∧ Below w.heap.size w w'
set_option maxHeartbeats 1000000 in
theorem place_any (lb : Nat) (base : Int) (a : Option Addr) (n c : Nat) (i : Int) (w : World) (h0 : w.cell? ⟨lb, 0, none⟩ = some (.bool true)) (h1 : w.cell? ⟨lb, 1, none⟩ = some (.int .i64 base)) (h3 : w.cell? ⟨lb, 3, none⟩ = some (.slice a n c))
    (hb : 0 ≤ base ∧ base ≤ 1152921504606846976) (hi : -1152921504606846976 ≤ i ∧ i ≤ 1152921504606846976) (hn : n ≤ 1099511627776) :
    Calls Tryz.prog 59 #[.pointer (some ⟨lb, 0, none⟩), .int .i64 i] w (PlaceAt (placeS base n i).1 (placeS base n i).2 w) := by
  have w1 : IntKind.i64.wrap (i - base) = i - base := IntWalk.i64_in _ (by omega)
  have hcall : ∀ q, Calls Tryz.prog 55 #[.pointer (some ⟨lb, 0, none⟩)] (w.drewN q) fun e w' => e = .returned (.bool true) ∧ w.drewN q = w' := fun q => there_any lb (w.drewN q) h0
  by_cases c1 : i ≤ base
  · have hs : placeS base n i = (0, false) := if_neg (by omega)
    have d1 : decide (i ≤ base) = true := by simpa using c1
    rw [hs]
    have HC := Lib.hid hcall
    clear hcall hs
    go_enter Tryz.func59, Tryz.ntmps59
    go_wp2_with fail
    go_quiet ((go_at_call 55; exact quietly (HC.out _)))
    go_wp2_with fail
    go_ret2
    exact ⟨rfl, below_drewN (Below.refl _ _) _⟩
  · have d1 : decide (i ≤ base) = false := by simpa using c1
    by_cases c2 : (n : Int) < i - base
    · have hs : placeS base n i = (0, false) := if_neg (by omega)
      have d2 : decide ((n : Int) < i - base) = true := by simpa using c2
      rw [hs]
      have HC := Lib.hid hcall
      clear hcall hs
      go_enter Tryz.func59, Tryz.ntmps59
      go_wp2_with fail
      go_quiet ((go_at_call 55; exact quietly (HC.out _)))
      go_wp2_with fail
      go_ret2
      exact ⟨rfl, below_drewN (Below.refl _ _) _⟩
    · have hs : placeS base n i = (i - base - 1, true) := if_pos (by omega)
      have d2 : decide ((n : Int) < i - base) = false := by simpa using c2
      rw [hs]
      have HC := Lib.hid hcall
      clear hcall hs
      go_enter Tryz.func59, Tryz.ntmps59
      go_wp2_with fail
      go_quiet ((go_at_call 55; exact quietly (HC.out _)))
      go_wp2_with fail
      go_ret2
      exact ⟨rfl, below_drewN (Below.refl _ _) _⟩
end Go.Proofs.YtbimjggkiiadmaaGreatDoor
/- A log's Term, Last, Base; New. Conditions: the log is one that was made; its numbers are not too great. -/
namespace Go.Proofs.YtbimjggkiiadmaaGreatDoor
open Go.RowKit
set_option maxRecDepth 20000
theorem place_at (lb : Nat) (base : Int) (a : Option Addr) (n c : Nat) (i : Int) (k : Int) (ok : Bool) (w : World) (hr : placeS base n i = (k, ok)) (h0 : w.cell? ⟨lb, 0, none⟩ = some (.bool true)) (h1 : w.cell? ⟨lb, 1, none⟩ = some (.int .i64 base)) (h3 : w.cell? ⟨lb, 3, none⟩ = some (.slice a n c))
    (hb : 0 ≤ base ∧ base ≤ 1152921504606846976) (hi : -1152921504606846976 ≤ i ∧ i ≤ 1152921504606846976) (hn : n ≤ 1099511627776) :
    Calls Tryz.prog 59 #[.pointer (some ⟨lb, 0, none⟩), .int .i64 i] w (PlaceAt k ok w) := by
  have h := place_any lb base a n c i w h0 h1 h3 hb hi hn
  rw [hr] at h
  exact h
def En.zero : En := ⟨0, 0, 0, 0, 0, ByteArray.empty, none, [], 0, 0, none, [], 0⟩
/-- The term at an index. -/
def termS (base term : Int) (es : List EnP) (i : Int) : Int × Bool :=
  if base < i ∧ i - base ≤ es.length then ((es.getD (i - base - 1).toNat En.zero.plain).term, true) else if i = base then (term, true) else (0, false)
/-- What bounds a log's numbers. -/
def LogNums (base : Int) (n : Nat) (i : Int) : Prop := 0 ≤ base ∧ base ≤ 1152921504606846976 ∧ -1152921504606846976 ≤ i ∧ i ≤ 1152921504606846976 ∧ n ≤ 1099511627776
theorem term_cell {w : World} {B g n c : Nat} {es : List En} (h : w.ownsRow B 34 9 (.slice (some ⟨g, 0, none⟩) n c) n (es.flatMap enCells)) (hn : es.length = n) {k : Nat} (hk : k < n) : w.cell? ⟨g, k * 9, none⟩ = some (.int .i64 ((es.map En.plain).getD k En.zero.plain).term) := by
  have hk' : k < es.length := by omega
  have hf := flat_get enCells_len es k _ (List.getElem?_eq_getElem hk') 0 (by decide)
  have e : (es.map En.plain).getD k En.zero.plain = es[k].plain := by simp [List.getD, List.getElem?_map, List.getElem?_eq_getElem hk']
  rw [e, World.ownsRow.cellAt h _ (by omega)]
  exact hf
set_option maxHeartbeats 1000000 in
theorem term_any (B lb : Nat) (base term : Int) (v : Value) (es : List En) (i : Int) (r : Int) (ok : Bool) (w : World) (hr : termS base term (es.map En.plain) i = (r, ok)) (hL : LogAt w B lb base term v es) (hN : LogNums base es.length i) :
    Calls Tryz.prog 26 #[.pointer (some ⟨lb, 0, none⟩), .int .i64 i] w (PlaceAt r ok w) := by
  obtain ⟨a, c, hv⟩ := hL.form
  subst hv
  obtain ⟨h1, h2, h3, h4, h5⟩ := hN
  unfold termS at hr
  rw [List.length_map] at hr
  have HL := Lib.hid hL
  have hlt := hL.lt
  obtain ⟨n, hn⟩ : ∃ n, es.length = n := ⟨_, rfl⟩
  rw [hn] at h5 hr
  have hc3 : w.cell? ⟨lb, 3, none⟩ = some (.slice a n c) := by rw [← hn]; exact hL.c3
  have HC3 := Lib.hid hc3
  have HN := Lib.hid hn
  clear hL hn hc3
  by_cases c1 : base < i ∧ i - base ≤ n
  · obtain ⟨k, hk⟩ : ∃ k : Nat, i = base + 1 + k := ⟨(i - base - 1).toNat, by omega⟩
    have hp : placeS base n i = ((k : Int), true) := by unfold placeS; rw [if_pos c1]; rw [hk]; congr 1; omega
    rw [if_pos c1, show (i - base - 1).toNat = k by omega] at hr
    obtain ⟨hr1, hr2⟩ := Prod.mk.injEq .. ▸ hr
    have hkn : k < n := by omega
    have HR1 := Lib.hid hr1
    subst hr2
    have HP := Lib.hid hp
    clear hr hp hr1 hk
    go_enter Tryz.func26, Tryz.ntmps26
    go_wp2_with fail
    refine (place_at lb base a n c i k true w HP.out HL.out.c0 HL.out.c1 HC3.out ⟨h1, h2⟩ ⟨h3, h4⟩ h5).mono ?_
    rintro e w1 ⟨rfl, hb1⟩
    have hL1 := HL.out.below hb1 (Nat.le_refl _)
    obtain ⟨g, c2, hg⟩ := Go.Joins.ownsRow_form (show w1.ownsRow B 34 9 (.slice a n c) n (es.flatMap enCells) by have := hL1.ens.row; rw [HN.out] at this; exact this) (by omega)
    injection hg with hg1 _ _
    subst hg1
    have d0 : w1.cell? ⟨lb, 3, none⟩ = some (.slice (some ⟨g, 0, none⟩) n c) := (hb1.cell (p := ⟨lb, 3, none⟩) hlt).trans HC3.out
    have d1 := term_cell (by have := hL1.ens.row; rw [HN.out] at this; exact this) HN.out hkn
    rw [HR1.out] at d1
    have i1 : (k : Int) < n := by omega
    clear hL1
    go_wp2_with fail
    go_ret2
    exact ⟨rfl, hb1⟩
  · have hp : placeS base n i = (0, false) := if_neg c1
    rw [if_neg c1] at hr
    have HP := Lib.hid hp
    clear hp
    by_cases c2 : i = base
    · rw [if_pos c2] at hr
      obtain ⟨hr1, hr2⟩ := Prod.mk.injEq .. ▸ hr
      subst hr1 hr2 c2
      clear hr
      go_enter Tryz.func26, Tryz.ntmps26
      go_wp2_with fail
      refine (place_at lb i a n c i 0 false w HP.out HL.out.c0 HL.out.c1 HC3.out ⟨h1, h2⟩ ⟨h3, h4⟩ h5).mono ?_
      rintro e w1 ⟨rfl, hb1⟩
      have hL1 := Lib.hid (HL.out.below hb1 (Nat.le_refl _))
      go_wp2_with fail
      refine (there_any lb w1 hL1.out.c0).mono ?_
      rintro e w' ⟨rfl, rfl⟩
      have d1 := hL1.out.c1
      have d2 := hL1.out.c2
      go_wp2_with fail
      go_ret2
      exact ⟨rfl, hb1⟩
    · rw [if_neg c2] at hr
      obtain ⟨hr1, hr2⟩ := Prod.mk.injEq .. ▸ hr
      subst hr1 hr2
      clear hr
      go_enter Tryz.func26, Tryz.ntmps26
      go_wp2_with fail
      refine (place_at lb base a n c i 0 false w HP.out HL.out.c0 HL.out.c1 HC3.out ⟨h1, h2⟩ ⟨h3, h4⟩ h5).mono ?_
      rintro e w1 ⟨rfl, hb1⟩
      have hL1 := Lib.hid (HL.out.below hb1 (Nat.le_refl _))
      go_wp2_with fail
      refine (there_any lb w1 hL1.out.c0).mono ?_
      rintro e w' ⟨rfl, rfl⟩
      have d1 := hL1.out.c1
      have d2 := hL1.out.c2
      go_wp2_with fail
      go_ret2
      exact ⟨rfl, hb1⟩
def lastS (base term : Int) (es : List EnP) : Int × Int := if es.length = 0 then (base, term) else (base + es.length, (es.getD (es.length - 1) En.zero.plain).term)
def TwoAt (a b : Int) (w : World) (e : Ending) (w' : World) : Prop := e = .returned (.tuple #[.int .i64 a, .int .i64 b]) ∧ Below w.heap.size w w'
theorem last_any (B lb : Nat) (base term : Int) (v : Value) (es : List En) (r t : Int) (w : World) (hr : lastS base term (es.map En.plain) = (r, t)) (hL : LogAt w B lb base term v es) (hN : LogNums base es.length 0) :
    Calls Tryz.prog 52 #[.pointer (some ⟨lb, 0, none⟩)] w (TwoAt r t w) := by
  obtain ⟨a, c, hv⟩ := hL.form
  subst hv
  obtain ⟨h1, h2, _, _, h5⟩ := hN
  unfold lastS at hr
  rw [List.length_map] at hr
  have HL := Lib.hid hL
  obtain ⟨n, hn⟩ : ∃ n, es.length = n := ⟨_, rfl⟩
  rw [hn] at h5 hr
  have c0 := hL.c0
  have c1 := hL.c1
  have c2 := hL.c2
  have c3 : w.cell? ⟨lb, 3, none⟩ = some (.slice a n c) := by rw [← hn]; exact hL.c3
  have HN := Lib.hid hn
  clear hL hn
  by_cases h0 : n = 0
  · rw [if_pos h0] at hr
    obtain ⟨hr1, hr2⟩ := Prod.mk.injEq .. ▸ hr
    subst hr1 hr2 h0
    clear hr
    go_enter Tryz.func52, Tryz.ntmps52
    go_wp2_with (go_at_call 55; (with_reducible refine (there_any lb w c0).mono ?_); rintro e w' ⟨rfl, rfl⟩)
    go_quiet (fail)
    go_wp2_with fail
    go_ret2
    exact ⟨rfl, below_drewN (Below.refl _ _) _⟩
  · rw [if_neg h0] at hr
    obtain ⟨hr1, hr2⟩ := Prod.mk.injEq .. ▸ hr
    obtain ⟨m, rfl⟩ : ∃ m, n = m + 1 := ⟨n - 1, by omega⟩
    have hrow : w.ownsRow B 34 9 (.slice a (m + 1) c) (m + 1) (es.flatMap enCells) := by have := HL.out.ens.row; rw [HN.out] at this; exact this
    obtain ⟨g, cc, hg⟩ := Go.Joins.ownsRow_form hrow (by omega)
    injection hg with hg1 _ _
    subst hg1
    have d1 := term_cell hrow HN.out (show m < m + 1 by omega)
    rw [show m + 1 - 1 = m by omega] at hr2
    rw [hr2] at d1
    have w1 : IntKind.i64.wrap ((m : Int) + 1 - 1) = m := by rw [IntWalk.i64_in _ (by omega)]; omega
    have w2 : IntKind.i64.wrap (base + ((m : Int) + 1)) = base + ((m : Int) + 1) := IntWalk.i64_in _ (by omega)
    have i1 : (m : Int) < (m : Int) + 1 := by omega
    have i2 : (0 : Int) < (m : Int) + 1 := by omega
    have i0 : (0 : Int) ≤ m := by omega
    have e1 : (m : Int) + 1 - 1 = m := by omega
    have HR1 := Lib.hid hr1
    clear hr hr1 hr2 hrow h0
    go_enter Tryz.func52, Tryz.ntmps52
    go_wp2_with (go_at_call 55; (with_reducible refine (there_any lb w c0).mono ?_); rintro e w' ⟨rfl, rfl⟩)
    go_quiet (fail)
    go_wp2_with fail
    go_ret2
    exact ⟨by rw [← HR1.out]; push_cast; rfl, below_drewN (Below.refl _ _) _⟩
theorem logBase_any (B lb : Nat) (base term : Int) (v : Value) (es : List En) (w : World) (hL : LogAt w B lb base term v es) :
    Calls Tryz.prog 43 #[.pointer (some ⟨lb, 0, none⟩)] w (TwoAt base term w) := by
  have c0 := hL.c0
  have c1 := hL.c1
  have c2 := hL.c2
  clear hL
  go_enter Tryz.func43, Tryz.ntmps43
  go_wp2_with (go_at_call 55; (with_reducible refine (there_any lb w c0).mono ?_); rintro e w' ⟨rfl, rfl⟩)
  go_quiet (fail)
  go_wp2_with fail
  go_ret2
  exact ⟨rfl, below_drewN (Below.refl _ _) _⟩
/-- What a log is made of. -/
def EnsArg (es : List En) : Prop := (∀ x ∈ es, x.args.length ≤ 1099511627776 ∧ x.vs.length ≤ 1099511627776) ∧ ∀ x ∈ es, EnNil x
def NewAt (base term : Int) (xs : List EnP) (w : World) (e : Ending) (w' : World) : Prop :=
  ∃ lb v es, e = .returned (.pointer (some ⟨lb, 0, none⟩)) ∧ LogAt w' w.heap.size lb base term v es ∧ es.map En.plain = xs ∧ Below w.heap.size w w'
theorem new_any (base term : Int) (ao : Option Addr) (n cap : Nat) (xs : List En) (w : World) (B : Nat) (hb : 0 ≤ base ∧ base ≤ 1099511627776) (ht : 0 ≤ term ∧ term ≤ 1099511627776) (hn : xs.length = n) (hx : EnsIn w B ao xs) (hB : B ≤ w.heap.size) (hao : ao = none → cap = 0) (hl : n ≤ 1099511627776) (hq : EnsArg xs) :
    Calls Tryz.prog 17 #[.int .i64 base, .int .i64 term, .slice ao n cap] w (NewAt base term (xs.map En.plain) w) := by
  have HX := Lib.hid hx
  have HN := Lib.hid hn
  have HA := Lib.hid hao
  have HQ := Lib.hid hq
  obtain ⟨hb1, hb2⟩ := hb
  obtain ⟨ht1, ht2⟩ := ht
  clear hx hn hao hq
  have i1 : ¬ base < 0 := by omega
  have i2 : ¬ 1099511627776 < base := by omega
  have i3 : ¬ term < 0 := by omega
  have i4 : ¬ 1099511627776 < term := by omega
  go_enter Tryz.func17, Tryz.ntmps17
  go_wp2_with fail
  refine (copied_any ao n cap xs w B HN.out HX.out hB HA.out hl HQ.out.1 HQ.out.2).mono ?_
  rintro e w1 ⟨a, c, es, rfl, ho, hm, hb1'⟩
  have HO := Lib.hid ho
  have HM := Lib.hid hm
  clear ho hm
  go_wp2_with fail
  go_ret
  exact ⟨w1.heap.size, _, es, rfl, ⟨heap_alloc_new w1 _, HO.out.below ((Below.refl w1.heap.size w1).alloc (Nat.le_refl _) _) (Nat.le_refl _), hb1'.size⟩, HM.out, hb1'.alloc hb1'.size _⟩
end Go.Proofs.YtbimjggkiiadmaaGreatDoor
/- A slice of a slice: one equation, its address under one name. Conditions: the bounds fit. -/
namespace Go.Proofs.YtbimjggkiiadmaaGreatDoor
open Go.RowKit
/-- The address of a slice from its l-th element on. -/
def subA (ao : Option Addr) (cap l k : Nat) : Option Addr := if cap = l then ao else ao.map (·.add (l * k))
theorem subA_eq_none {ao : Option Addr} {cap l k : Nat} (h : subA ao cap l k = none) : ao = none := by
  unfold subA at h
  split at h
  · exact h
  · cases ao with
    | none => rfl
    | some a => cases h
theorem run_sub_l {P : Program} {t : TypeId} {k : Nat} (ht : P.underlying t = some (.slice (P.elem t))) (hk : ∀ w, (sizeOf (P.elem t)).run P w = .ok k w) (ao : Option Addr) (n cap l : Nat) (hl : l ≤ n) (kl : IntKind) (lo : Int) (el : lo = l) (w : World) :
    (Instr.sliceAt t (.slice ao n cap) (some (.int kl lo)) none none).run P w = .ok (.slice (subA ao cap l k) (n - l) (cap - l)) w := by
  subst el
  rw [run_sliceAt_slice _ _ _ _ _ _ ht, run_slice_l _ _ _ _ _ ht _ _ (by omega) (by omega), hk]
  simp [Result.andThen, sliced, subA]
end Go.Proofs.YtbimjggkiiadmaaGreatDoor
/- A log's From, Append. Conditions: the log is one that was made; its numbers are not too great. -/
namespace Go.Proofs.YtbimjggkiiadmaaGreatDoor
open Go.RowKit
set_option maxRecDepth 20000
theorem sizeEn : ∀ w, (sizeOf (Tryz.prog.elem 23)).run Tryz.prog w = .ok 9 w := fun _ => by kernel_rfl
theorem sliceEn : Tryz.prog.underlying 23 = some (.slice (Tryz.prog.elem 23)) := by kernel_rfl
/-- A part of a row that is only read. -/
theorem EnsIn.sub {w : World} {B : Nat} {a : Option Addr} {c : Nat} {es : List En} (h : EnsIn w B a es) (l m : Nat) (hl : es.length ≤ c) (hlm : l + m ≤ es.length) : EnsIn w B (subA a c l 9) ((es.drop l).take m) := by
  by_cases h0 : es = []
  · subst h0
    simp only [List.drop_nil, List.take_nil]
    exact Or.inl rfl
  · by_cases hc : c = l
    · have : m = 0 := by omega
      subst this
      exact Or.inl (by simp)
    · rcases h with h | ⟨b, off, h1, h2, h3⟩
      · exact absurd h h0
      · subst h1
        have := RowsIn.drop l (show RowsIn 9 enCells enSub w B (some ⟨b, off, none⟩) es from Or.inr ⟨b, off, rfl, h2, h3⟩)
        have e : subA (some ⟨b, off, none⟩) c l 9 = some ⟨b, off + l * 9, none⟩ := by
          unfold subA; rw [if_neg hc]; show some (Addr.add ⟨b, off, none⟩ (l * 9)) = _; rw [Go.WideShapes.add_plain]
        rw [e]
        exact RowsIn.take m this
theorem copied_at (ao : Option Addr) (n cap : Nat) (xs : List En) (ps : List EnP) (w : World) (B : Nat) (hn : xs.length = n) (hps : xs.map En.plain = ps) (hx : EnsIn w B ao xs) (hB : B ≤ w.heap.size) (hao : ao = none → cap = 0) (hl : n ≤ 1099511627776) (hq : EnsArg xs) :
    Calls Tryz.prog 51 #[.slice ao n cap] w fun e w' => ∃ a c es, e = .returned (.slice a n c) ∧ EnsOwn w' w.heap.size (.slice a n c) es ∧ es.map En.plain = ps ∧ Below w.heap.size w w' := by
  subst hps
  exact copied_any ao n cap xs w B hn hx hB hao hl hq.1 hq.2
end Go.Proofs.YtbimjggkiiadmaaGreatDoor
