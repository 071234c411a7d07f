/- log.copied: entries in memory of their own. Conditions: the entries' cells lie as their readings say. -/
import Derived.Test.YtknnbnmogjkcnaaGreatEn
import Derived.Test.YtknnbnmogjkcnaaGreatFrames0
namespace Go.Proofs.YtknnbnmogjkcnaaGreat
open Go.RowKit
set_option maxRecDepth 20000

def argV (e : En) : Value := .slice e.aao e.args.length e.acap
def votV (e : En) : Value := .slice e.vao e.vs.length e.vcap
/-- An entry's lists are the call's own. -/
def enOwn (w : World) (base : Nat) (e : En) : Prop :=
  w.ownsRow base 86 3 (argV e) e.args.length (e.args.flatMap vaCells) ∧ w.ownsRow base 3 1 (votV e) e.vs.length (e.vs.flatMap iCells)
def sepE (e f : En) : Prop := ((argV e).ownBlock = none ∨ (argV e).ownBlock ≠ (argV f).ownBlock) ∧ ((votV e).ownBlock = none ∨ (votV e).ownBlock ≠ (votV f).ownBlock)
/-- A row of entries of the call's own, their lists, too, each in a block of its own. -/
structure EnsOwn (w : World) (base : Nat) (v : Value) (es : List En) : Prop where
  row : w.ownsRow base 38 9 v es.length (es.flatMap enCells)
  own : ∀ e ∈ es, enOwn w base e
  sep : es.Pairwise sepE
theorem enOwn.below {w w' : World} {base B : Nat} {e : En} (h : enOwn w base e) (hb : Below B w w') (hB : w.heap.size ≤ B) : enOwn w' base e := ⟨own_below h.1 hb hB, own_below h.2 hb hB⟩
theorem enOwn.le {w : World} {base base' : Nat} {e : En} (h : enOwn w base e) (hB : base' ≤ base) : enOwn w base' e := ⟨Go.Joins.ownsRow_le h.1 hB, Go.Joins.ownsRow_le h.2 hB⟩
theorem EnsOwn.below {w w' : World} {base B : Nat} {v : Value} {es : List En} (h : EnsOwn w base v es) (hb : Below B w w') (hB : w.heap.size ≤ B) : EnsOwn w' base v es :=
  ⟨own_below h.row hb hB, fun e he => (h.own e he).below hb hB, h.sep⟩
theorem EnsOwn.le {w : World} {base base' : Nat} {v : Value} {es : List En} (h : EnsOwn w base v es) (hB : base' ≤ base) : EnsOwn w base' v es := ⟨Go.Joins.ownsRow_le h.row hB, fun e he => (h.own e he).le hB, h.sep⟩
theorem EnsOwn.nil (w : World) (base : Nat) : EnsOwn w base (.slice none 0 0) [] := ⟨World.ownsRow_nil _ _ _ _, by simp, List.Pairwise.nil⟩
/-- A row of the call's own, as it lies. -/
theorem own_rowsIn {α : Type} {k : Nat} {cells : α → List Value} {sub : World → Nat → α → Prop} (hk : ∀ x, (cells x).length = k) {w : World} {base e n c : Nat} {ao : Option Addr} {xs : List α} (hn : xs.length = n) (h : w.ownsRow base e k (.slice ao n c) n (xs.flatMap cells)) (hs : ∀ x ∈ xs, sub w w.heap.size x) : RowsIn k cells sub w w.heap.size ao xs := by
  subst hn
  obtain ⟨a', c', hv, hin, _⟩ := own_rows hk rfl h hs (Nat.le_refl _)
  cases hv
  exact hin
theorem enOwn.sub {w : World} {base : Nat} {e : En} (h : enOwn w base e) : enSub w w.heap.size e :=
  ⟨own_rowsIn vaCells_len rfl h.1 (fun _ _ => trivial), own_rowsIn iCells_len rfl h.2 (fun _ _ => trivial)⟩
theorem EnsOwn.lie {w : World} {base : Nat} {v : Value} {es : List En} (h : EnsOwn w base v es) : ∃ a c, v = .slice a es.length c ∧ es.length ≤ c ∧ (a = none → c = 0) ∧ EnsIn w w.heap.size a es := by
  obtain ⟨a, c, hv⟩ := row_slice h.row
  subst hv
  exact ⟨a, c, rfl, own_capG h.row, own_none h.row, own_rowsIn enCells_len rfl h.row fun e he => (h.own e he).sub⟩
theorem flat_set {α : Type} {k : Nat} {cells : α → List Value} (hk : ∀ x, (cells x).length = k) (A B : List α) (x : α) (q j : Nat) (hq : A.length = q) (hj : j < k) (u : Value) : ((A ++ x :: B).flatMap cells).set (q * k + j) u = A.flatMap cells ++ ((cells x).set j u ++ B.flatMap cells) := by
  have hA := flat_len hk A
  rw [hq] at hA
  rw [List.flatMap_append, List.flatMap_cons, List.set_append_right _ _ (by omega), hA, show q * k + j - q * k = j by omega, List.set_append_left _ _ (by rw [hk]; exact hj)]
theorem flat_set2 {A : List Value} {c B : List Value} {p j : Nat} (hA : A.length = p) (hj : j < c.length) (u : Value) : (A ++ (c ++ B)).set (p + j) u = A ++ (c.set j u ++ B) := by
  rw [List.set_append_right _ _ (by omega), show p + j - A.length = j by omega, List.set_append_left _ _ hj]
def CopiedAs (xs : List En) (n : Nat) (w : World) (e : Ending) (w' : World) : Prop :=
  ∃ a c es, e = .returned (.slice a n c) ∧ EnsOwn w' w.heap.size (.slice a n c) es ∧ es.map En.plain = xs.map En.plain ∧ Below w.heap.size w w'

set_option maxHeartbeats 2000000 in
theorem copied_any (ao : Option Addr) (n cap : Nat) (xs : List En) (w : World) (B : Nat) (hn : xs.length = n) (hx : EnsIn w B ao xs) (hB : B ≤ w.heap.size) (hao : ao = none → cap = 0) (hl : n ≤ 1099511627776) (hsm : ∀ x ∈ xs, x.args.length ≤ 1099511627776 ∧ x.vs.length ≤ 1099511627776) (hnil : ∀ x ∈ xs, EnNil x) :
    Calls Tryz.prog 14 #[.slice ao n cap] w (CopiedAs xs n w) := by
  have HX := Lib.hid hx
  have HN := Lib.hid hn
  have HA := Lib.hid hao
  have HS := Lib.hid hsm
  have HNIL := Lib.hid hnil
  clear hx hn hao hsm hnil
  go_enter Tryz.func14, Tryz.ntmps14
  go_wp2_with fail
  refine (cloneE_any enSub ao n cap xs w B HN.out HX.out enSub_kept hB HA.out hl).mono ?_
  rintro e w1 ⟨a, c, rfl, hown, hb1⟩
  have HO := Lib.hid hown
  clear hown
  go_wp2_with fail
  go_loopw [4, 9] (fun _ i wr => ∃ (k : Nat) (es : List En), k ≤ n ∧ i = .int .i64 k ∧ es.length = k ∧ es.map En.plain = (xs.take k).map En.plain ∧ (∀ e ∈ es, enOwn wr w.heap.size e) ∧ es.Pairwise sepE ∧ wr.ownsRow w.heap.size 38 9 (.slice a n c) n ((es ++ xs.drop k).flatMap enCells) ∧ Below w.heap.size w wr) (fun _ i _ => n - (intOf i).toNat)
  case atStart => exact ⟨0, [], by omega, rfl, rfl, rfl, by simp, List.Pairwise.nil, by simpa using HO.out, hb1⟩
  case round =>
    clear hb1 HO
    obtain ⟨k, es, hk, rfl, hlen, hmap, hown, hsep, hrow, hbel⟩ := hrel
    have HL := Lib.hid hlen
    have HM := Lib.hid hmap
    have HOW := Lib.hid hown
    have HSP := Lib.hid hsep
    have HR := Lib.hid hrow
    clear hlen hmap hown hsep hrow
    have hs := hbel.size
    by_cases hlt : k < n
    · have hkn : k < xs.length := by rw [HN.out]; exact hlt
      have hdrop : xs.drop k = xs[k] :: xs.drop (k + 1) := List.drop_eq_getElem_cons hkn
      have htake : (xs.take (k + 1)).map En.plain = (xs.take k).map En.plain ++ [xs[k].plain] := by
        rw [List.take_succ_eq_append_getElem hkn, List.map_append]; rfl
      have hsx := HS.out _ (List.getElem_mem hkn)
      have hnx := HNIL.out _ (List.getElem_mem hkn)
      have hxk : xs[k]? = some xs[k] := List.getElem?_eq_getElem hkn
      have hsub : enSub w B xs[k] := by
        obtain ⟨_, _, _, _, _, h⟩ := HX.out.at hxk
        exact h
      generalize xs[k] = x at hdrop htake hsx hnx hsub
      obtain ⟨t, kd, s, q, ck, text, aao, args, acap, num, vao, vs, vcap⟩ := x
      obtain ⟨g, c', hg⟩ : ∃ g c', a = some ⟨g, 0, none⟩ ∧ c' = c := by
        rcases Go.Joins.ownsRow_forms HR.out with ⟨_, hz⟩ | ⟨g, c2, h2⟩
        · omega
        · injection h2 with h3 _ _
          exact ⟨g, c, h3, rfl⟩
      obtain ⟨rfl, _⟩ := hg
      dsimp only at hsx
      have hrow0 := HR.out
      rw [hdrop] at hrow0
      have hget : ∀ j, j < 9 → wr.cell? ⟨g, k * 9 + j, none⟩ = (enCells ⟨t, kd, s, q, ck, text, aao, args, acap, num, vao, vs, vcap⟩)[j]? := by
        intro j hj
        rw [World.ownsRow.cellAt hrow0 _ (by omega)]
        exact flat_get enCells_len _ k _ (by rw [List.getElem?_append_right (by rw [HL.out]; exact Nat.le_refl _), HL.out, Nat.sub_self]; rfl) j hj
      have d8 : wr.cell? ⟨g, k * 9 + 8, none⟩ = some (.slice vao vs.length vcap) := hget 8 (by decide)
      obtain ⟨vn, hvn⟩ : ∃ vn, vs.length = vn := ⟨_, rfl⟩
      obtain ⟨an, han⟩ : ∃ an, args.length = an := ⟨_, rfl⟩
      rw [hvn] at d8 hsx
      rw [han] at hsx
      obtain ⟨hsx1, hsx2⟩ := hsx
      have HVN := Lib.hid hvn
      have HAN := Lib.hid han
      have HSUB := Lib.hid hsub
      have HNX := Lib.hid hnx
      have HD := Lib.hid hdrop
      have HT := Lib.hid htake
      have HR0 := Lib.hid hrow0
      have i1 : (k : Int) < n := by omega
      clear hget hxk hvn han hsub hnx hdrop htake hrow0
      go_wp2_with fail
      refine (cloneI_any noSub vao vn vcap vs wr B HVN.out (HSUB.out.2.below noSub_kept (hbel.mono hB) (Nat.le_refl _)) noSub_kept (by omega) HNX.out.2 (by omega)).mono ?_
      rintro e w2 ⟨a2, c2, rfl, hown2, hb2⟩
      have hs2 := hb2.size
      have hrow2 := own_below HR0.out hb2 (Nat.le_refl _)
      have d8' : w2.cell? ⟨g, k * 9 + 8, none⟩ = some (.slice vao vn vcap) := (hb2.cell (p := ⟨g, k * 9 + 8, none⟩) (HR0.out.lt g rfl).2).trans d8
      have f8 : w2.frozen? ⟨g, k * 9 + 8, none⟩ = false := World.ownsRow.frozenAt hrow2 _
      have st8 := World.ownsRow.stored hrow2 (k * 9 + 8) (.slice a2 vn c2)
      have hset8 := flat_set enCells_len es (xs.drop (k + 1)) ⟨t, kd, s, q, ck, text, aao, args, acap, num, vao, vs, vcap⟩ k 8 HL.out (by decide) (.slice a2 vn c2)
      rw [hset8] at st8
      have hown3 := World.ownsRow.kept hown2 st8.2 (own_apart hown2 hrow2 (by decide))
      have hbw3 : Below w.heap.size w (w2.setCell ⟨g, k * 9 + 8, none⟩ (.slice a2 vn c2)) := (hbel.trans (hb2.mono hs)).setCell (p := ⟨g, k * 9 + 8, none⟩) (hrow2.lt g rfl).1 _
      have HOW3 := Lib.hid (show ∀ e ∈ es, enOwn (w2.setCell ⟨g, k * 9 + 8, none⟩ (.slice a2 vn c2)) w.heap.size e from fun e he => by
        have h1 := (HOW.out e he).below hb2 (Nat.le_refl _)
        exact ⟨World.ownsRow.kept h1.1 st8.2 (own_apart h1.1 hrow2 (by decide)), World.ownsRow.kept h1.2 st8.2 (own_apart h1.2 hrow2 (by decide))⟩)
      have hz3 : (w2.setCell ⟨g, k * 9 + 8, none⟩ (.slice a2 vn c2)).heap.size = w2.heap.size := by simp
      have HR3 := Lib.hid st8.1
      have HO3 := Lib.hid hown3
      have HROW2 := Lib.hid hrow2
      have HOWN2 := Lib.hid hown2
      clear hrow2 st8 hset8 hown3 hown2 d8
      have hbw3' := hbw3
      have hfA := flat_len enCells_len es
      have d6 : (w2.setCell ⟨g, k * 9 + 8, none⟩ (.slice a2 vn c2)).cell? ⟨g, k * 9 + 4 + 2, none⟩ = some (.slice aao an acap) := by
        show (w2.setCell ⟨g, k * 9 + 8, none⟩ (.slice a2 vn c2)).cell? ⟨g, k * 9 + 6, none⟩ = _
        rw [World.ownsRow.cellAt HR3.out _ (by omega), List.getElem?_append_right (by rw [hfA, HL.out]; omega), hfA, HL.out, show k * 9 + 6 - k * 9 = 6 by omega, List.getElem?_append_left (by simp [enCells])]
        simp [enCells, HAN.out]
      have HFA := Lib.hid hfA
      clear hfA
      go_wp2_with fail
      have hfA := HFA.out
      generalize w2.setCell ⟨g, k * 9 + 8, none⟩ (.slice a2 vn c2) = w3 at HR3 HO3 HOW3 hbw3' hz3 d6 ⊢
      clear hbw3 d8' f8
      have hs3 := hbw3'.size
      refine (cloneV_any noSub aao an acap args w3 B HAN.out (HSUB.out.1.below noSub_kept (hbw3'.mono hB) (Nat.le_refl _)) noSub_kept (by omega) HNX.out.1 (by omega)).mono ?_
      rintro e w4 ⟨a4, c4, rfl, hown4, hb4⟩
      have hs4 := hb4.size
      have hrow4 := own_below HR3.out hb4 (Nat.le_refl _)
      have d6' : w4.cell? ⟨g, k * 9 + 4 + 2, none⟩ = some (.slice aao an acap) := (hb4.cell (p := ⟨g, k * 9 + 6, none⟩) (HR3.out.lt g rfl).2).trans d6
      have f6 : w4.frozen? ⟨g, k * 9 + 4 + 2, none⟩ = false := World.ownsRow.frozenAt hrow4 _
      have st6 := World.ownsRow.stored hrow4 (k * 9 + 6) (.slice a4 an c4)
      rw [flat_set2 (by rw [hfA, HL.out]) (by simp [enCells])] at st6
      have hcells : ((enCells ⟨t, kd, s, q, ck, text, aao, args, acap, num, vao, vs, vcap⟩).set 8 (.slice a2 vn c2)).set 6 (.slice a4 an c4) = enCells ⟨t, kd, s, q, ck, text, a4, args, c4, num, a2, vs, c2⟩ := by
        simp [enCells, HAN.out, HVN.out]
      rw [hcells] at st6
      have e46 : k * 9 + 6 = k * 9 + 4 + 2 := rfl
      rw [e46] at st6
      clear e46
      have hbw5 : Below w.heap.size w (w4.setCell ⟨g, k * 9 + 4 + 2, none⟩ (.slice a4 an c4)) := (hbw3'.trans (hb4.mono hs3)).setCell (p := ⟨g, k * 9 + 4 + 2, none⟩) (hrow4.lt g rfl).1 _
      have hnew : enOwn (w4.setCell ⟨g, k * 9 + 4 + 2, none⟩ (.slice a4 an c4)) w.heap.size ⟨t, kd, s, q, ck, text, a4, args, c4, num, a2, vs, c2⟩ := by
        have h1 := Go.Joins.ownsRow_le (World.ownsRow.kept hown4 st6.2 (own_apart hown4 hrow4 (by decide))) hs3
        have h2 := own_below HO3.out hb4 (Nat.le_refl _)
        have h3 := Go.Joins.ownsRow_le (World.ownsRow.kept h2 st6.2 (own_apart h2 hrow4 (by decide))) hs
        unfold enOwn argV votV
        dsimp only
        rw [HAN.out, HVN.out]
        exact ⟨h1, h3⟩
      have hold : ∀ e ∈ es, enOwn (w4.setCell ⟨g, k * 9 + 4 + 2, none⟩ (.slice a4 an c4)) w.heap.size e := fun e he => by
        have h1 := (HOW3.out e he).below hb4 (Nat.le_refl _)
        exact ⟨World.ownsRow.kept h1.1 st6.2 (own_apart h1.1 hrow4 (by decide)), World.ownsRow.kept h1.2 st6.2 (own_apart h1.2 hrow4 (by decide))⟩
      have hsepn : (es ++ [(⟨t, kd, s, q, ck, text, a4, args, c4, num, a2, vs, c2⟩ : En)]).Pairwise sepE := by
        refine List.pairwise_append.2 ⟨HSP.out, List.pairwise_singleton _ _, fun x hx y hy => ?_⟩
        obtain rfl := List.mem_singleton.1 hy
        unfold sepE argV votV
        dsimp only
        rw [HAN.out, HVN.out]
        constructor
        · cases hxb : (Value.slice x.aao x.args.length x.acap).ownBlock with
          | none => exact Or.inl rfl
          | some b =>
            right
            intro h
            have h1 := ((HOW3.out x hx).1.lt b hxb).2
            have h2 := (hown4.lt b h.symm).1
            omega
        · cases hxb : (Value.slice x.vao x.vs.length x.vcap).ownBlock with
          | none => exact Or.inl rfl
          | some b =>
            right
            intro h
            have h1 := ((HOW.out x hx).2.lt b hxb).2
            have h2 := (HOWN2.out.lt b h.symm).1
            omega
      have HR5 := Lib.hid st6.1
      have HOLD := Lib.hid hold
      have HNEW := Lib.hid hnew
      have HSN := Lib.hid hsepn
      clear st6 hcells hrow4 hown4 hold hnew hsepn d6 hfA
      go_wp2_with fail
      go_roundw
      case rel =>
        refine ⟨k + 1, es ++ [⟨t, kd, s, q, ck, text, a4, args, c4, num, a2, vs, c2⟩], by omega, by go_num, by rw [List.length_append, HL.out]; rfl, ?_, ?_, HSN.out, ?_, hbw5⟩
        · rw [List.map_append, HM.out, HT.out]; rfl
        · intro e he
          rcases List.mem_append.1 he with h | h
          · exact HOLD.out e h
          · rw [List.mem_singleton.1 h]; exact HNEW.out
        · have h1 := HR5.out
          rw [List.append_assoc, List.flatMap_append]
          exact h1
      case measure => simp [intOf]; omega
    · obtain rfl : k = n := by omega
      have hrow := HR.out
      have htk : xs.take k = xs := List.take_of_length_le (by rw [HN.out]; exact Nat.le_refl _)
      have hdk : xs.drop k = [] := List.drop_eq_nil_of_le (by rw [HN.out]; exact Nat.le_refl _)
      have hm := HM.out
      rw [htk] at hm
      rw [hdk, List.append_nil] at hrow
      have HRR := Lib.hid hrow
      have HMM := Lib.hid hm
      clear hrow hm htk hdk
      go_wp2_with fail
      go_ret
      exact ⟨a, c, es, rfl, ⟨by rw [HL.out]; exact HRR.out, HOW.out, HSP.out⟩, HMM.out, hbel⟩
end Go.Proofs.YtknnbnmogjkcnaaGreat
