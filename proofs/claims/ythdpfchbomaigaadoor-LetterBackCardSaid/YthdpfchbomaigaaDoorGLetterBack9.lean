/- Letters as they lie in memory. Conditions: as each says. -/
import Derived.Test.YthdpfchbomaigaaDoorGLetterBack5
import Derived.Test.YthdpfchbomaigaaDoorGLetterBack6
import Derived.Test.YthdpfchbomaigaaDoorGLetterBack3
import Derived.Test.YthdpfchbomaigaaDoorGLetterBack8
import Derived.Deep.DeepCutAuto
set_option linter.unusedVariables false
set_option linter.unusedSimpArgs false
namespace Go.Proofs.YthdpfchbomaigaaDoor
open Go.RowKit
set_option maxRecDepth 20000
/-- A letter: its numbers, its entries, voters and image where they lie. -/
structure Lt where
  kind : Int
  fr : Int
  tov : Int
  term : Int
  index : Int
  was : Int
  ok : Bool
  commit : Int
  round : Int
  eo : Option Addr
  es : List En
  ecap : Nat
  vo : Option Addr
  vs : List Int
  vcap : Nat
  io : Option Addr
  im : List Int
  icap : Nat
def Lt.plain (l : Lt) : LtP := ⟨l.kind, l.fr, l.tov, l.term, l.index, l.was, l.ok, l.commit, l.round, l.es.map En.plain, l.vs, l.im⟩
def ltVal (l : Lt) : Value := .agg #[.int .u8 l.kind, .int .i64 l.fr, .int .i64 l.tov, .int .i64 l.term, .int .i64 l.index, .int .i64 l.was, .bool l.ok, .int .i64 l.commit, .int .i64 l.round, .slice l.eo l.es.length l.ecap, .slice l.vo l.vs.length l.vcap, .slice l.io l.im.length l.icap]
def ltSub (w : World) (B : Nat) (l : Lt) : Prop := EnsIn w B l.eo l.es ∧ NumsIn w B l.vo l.vs ∧ BytesIn w B l.io l.im
theorem ltSub_below {w w' : World} {B B' : Nat} {l : Lt} (h : ltSub w B l) (hb : Below B' w w') (hB : B ≤ B') : ltSub w' B l := ⟨h.1.below enSub_kept hb hB, h.2.1.below noSub_kept hb hB, h.2.2.below hb hB⟩
theorem ltSub_mono {w : World} {B B' : Nat} {l : Lt} (h : ltSub w B l) (hB : B ≤ B') : ltSub w B' l := ⟨h.1.mono enSub_rising hB, h.2.1.mono noSub_rising hB, h.2.2.mono hB⟩
/-- An entry that is not too great to be written. -/
structure EnFine (e : En) : Prop where
  wf : EnWf e
  text : e.text.size ≤ 4000000
  args : e.args.length ≤ 4000000
  vn : e.vs.length ≤ 4000000
  argt : ∀ v ∈ e.args, v.text.size ≤ 4000000
  size : (valuesB e.args).length ≤ 400000000
/-- A letter whose parts are not too great. -/
structure LtFine (l : Lt) : Prop where
  kind : 0 ≤ l.kind ∧ l.kind < 256
  fr : N64 l.fr
  tov : N64 l.tov
  term : N64 l.term
  index : N64 l.index
  was : N64 l.was
  commit : N64 l.commit
  round : N64 l.round
  es : ∀ e ∈ l.es, EnFine e
  en : l.es.length ≤ 4000000
  vs : ∀ v ∈ l.vs, N64 v
  vn : l.vs.length ≤ 4000000
  im : BytesWf l.im
  ln : l.im.length ≤ 4000000
  enil : l.eo = none → l.ecap = 0
  vnil : l.vo = none → l.vcap = 0
  inil : l.io = none → l.icap = 0
  icap : l.im.length ≤ l.icap
theorem EnFine.ok {e : En} (h : EnFine e) : EnOk e.plain :=
  ⟨of_lit h.wf.session, of_lit h.wf.seq, of_lit h.wf.num, Nat.lt_of_le_of_lt h.text (by decide), Nat.lt_of_le_of_lt h.args (by decide), valuesB_wf _ h.wf.args⟩
theorem LtFine.ok {l : Lt} (h : LtFine l) : LtOk l.plain := by
  refine ⟨fun e he => ?_, Nat.lt_of_le_of_lt h.ln (by decide)⟩
  obtain ⟨x, hx, rfl⟩ := List.mem_map.1 he
  exact (h.es x hx).ok
theorem LtFine.bytes {l : Lt} (h : LtFine l) (hr : rightL l.plain = true) : BytesWf (bytesL l.plain) := by
  obtain ⟨n1, n2, _, _, _, _, _, _, _, n10, _⟩ := right_nums hr
  have hv : BytesWf l.plain.vs := fun v hv => by have := n10 v hv; omega
  have he : BytesWf (l.plain.es.flatMap entryB) := BytesWf.flat fun e he => by
    obtain ⟨x, hx, rfl⟩ := List.mem_map.1 he
    exact entryB_wf x.plain (h.es x hx).wf.kind (h.es x hx).wf.ck (h.es x hx).wf.args
  have h3 : BytesWf [l.plain.kind, l.plain.fr, l.plain.tov] := by
    intro x hx
    have hk := h.kind
    simp only [List.mem_cons, List.not_mem_nil, or_false] at hx
    rcases hx with rfl | rfl | rfl
    · exact hk
    · omega
    · omega
  unfold bytesL
  refine h3.app (((numB_wf 8 _).app ((numB_wf 8 _).app (numB_wf 8 _))).app (BytesWf.con (by split <;> omega) (((numB_wf 8 _).app (numB_wf 8 _)).app ((numB_wf 4 _).app (he.app ((numB_wf 4 _).app (hv.app ((numB_wf 4 _).app h.im))))))))
end Go.Proofs.YthdpfchbomaigaaDoor
/- Numbers and voters of letters, as the program judges them. Conditions: as each says. -/
namespace Go.Proofs.YthdpfchbomaigaaDoor
open Go.RowKit
set_option maxRecDepth 20000
theorem within_no {n : Int} (h : ¬ (0 ≤ n ∧ n ≤ 1099511627776)) : withinN n = false := by
  cases hw : withinN n with
  | false => rfl
  | true => exact absurd (withinN_iff.1 hw) h
/-- What a test of a row gives, behind a pair. -/
theorem pair_of (g : Bool) : ∃ P : Bool × Bool, g = P.1 := ⟨(g, g), rfl⟩
theorem lwithin_any (ao : Option Addr) (n cap : Nat) (xs : List Int) (w : World) (B : Nat) (hn : xs.length = n) (hx : NumsIn w B ao xs) (hl : n ≤ 4398046511104) (g : Bool) (hg : xs.all withinN = g) :
    Calls Tryd.prog 18 #[.slice ao n cap] w fun e w' => e = .returned (.bool g) ∧ w = w' := by
  have HX := Lib.hid hx
  have HN := Lib.hid hn
  obtain ⟨P, hP⟩ := pair_of g
  rw [hP] at hg
  have HG := Lib.hid hg
  rw [hP]
  clear hx hn hg hP
  go_enter Tryd.func18, Tryd.ntmps18
  go_wp2_with fail
  go_loopw [7] (fun i wr => ∃ k : Nat, k ≤ n ∧ i = .int .i64 k ∧ (xs.take k).all withinN = true ∧ w = wr) (fun i _ => n - (intOf i).toNat)
  case atStart => exact ⟨0, by omega, rfl, rfl, rfl⟩
  case round =>
    obtain ⟨k, hk, rfl, hall, rfl⟩ := hrel
    have HA := Lib.hid hall
    clear hall
    by_cases hlt : k < n
    · have i1 : (k : Int) < n := by omega
      have hkx : xs[k]? = some (xs[k]'(by rw [HN.out]; exact hlt)) := List.getElem?_eq_getElem _
      have htk : xs.take (k + 1) = xs.take k ++ [xs[k]'(by rw [HN.out]; exact hlt)] := List.take_succ_eq_append_getElem _
      have hmem : (xs[k]'(by rw [HN.out]; exact hlt)) ∈ xs := List.getElem_mem _
      obtain ⟨b, off, hao, hb, hc, _⟩ := HX.out.at hkx
      generalize xs[k]'(by rw [HN.out]; exact hlt) = x at hc hkx htk hmem
      have c0 : w.cell? ⟨b, off + k, none⟩ = some (.int .i64 x) := by
        have := hc 0 (by decide)
        rw [Nat.mul_one, Nat.add_zero] at this
        exact this
      subst hao
      have HT := Lib.hid htk
      have HM := Lib.hid hmem
      clear hc hkx htk hmem
      have hbad : ¬ (0 ≤ x ∧ x ≤ 1099511627776) → P.1 = false := fun h => by
        rw [← HG.out]
        cases hh : xs.all withinN with
        | false => rfl
        | true =>
          have := List.all_eq_true.1 hh _ HM.out
          rw [within_no h] at this
          cases this
      have HBAD := Lib.hid hbad
      clear hbad
      by_cases h1 : x < 0
      · have hf := HBAD.out (by omega)
        go_wp2_with fail
        go_ret
        exact ⟨by first | rfl | (rw [hf]; rfl), by first | rfl | trivial⟩
      · by_cases h2 : 1099511627776 < x
        · have hf := HBAD.out (by omega)
          go_wp2_with fail
          go_ret
          exact ⟨by first | rfl | (rw [hf]; rfl), by first | rfl | trivial⟩
        · have hw : withinN x = true := withinN_iff.2 (by omega)
          have HW := Lib.hid hw
          clear hw
          go_wp2_with fail
          go_roundw
          case rel => exact ⟨k + 1, by omega, by go_num, by rw [HT.out, List.all_append, HA.out]; simp [HW.out], by first | rfl | trivial⟩
          case measure => simp [intOf] <;> omega
    · have i1 : ¬ (k : Int) < n := by omega
      obtain rfl : k = n := by omega
      have hfin : P.1 = true := by
        rw [← HG.out]
        have := HA.out
        rw [List.take_of_length_le (by rw [HN.out]; exact Nat.le_refl _)] at this
        exact this
      go_wp2_with fail
      go_ret
      exact ⟨by first | rfl | (rw [hfin]; rfl), by first | rfl | trivial⟩
theorem votersGo_take : ∀ (l : List Int) (last : Int) (k : Nat) (x : Int), l[k]? = some x → votersGo last (l.take k) = true → votersGo last l = true → (l.take k).getLastD last < x ∧ x ≤ 9 := by
  intro l
  induction l with
  | nil => intro last k x h; simp at h
  | cons y l ih =>
    intro last k x h h1 h2
    cases k with
    | zero =>
      simp only [List.getElem?_cons_zero, Option.some.injEq] at h
      subst h
      simp only [votersGo, Bool.and_eq_true, decide_eq_true_eq] at h2
      exact h2.1
    | succ k =>
      simp only [List.getElem?_cons_succ] at h
      simp only [List.take_succ_cons, votersGo, Bool.and_eq_true] at h1 h2
      have := ih y k x h h1.2 h2.2
      rw [List.take_succ_cons, List.getLastD_cons]
      exact this
theorem votersGo_snoc : ∀ (l : List Int) (last x : Int), votersGo last (l ++ [x]) = (votersGo last l && (decide (l.getLastD last < x) && decide (x ≤ 9))) := by
  intro l
  induction l with
  | nil => intro last x; simp [votersGo]
  | cons y l ih =>
    intro last x
    rw [List.cons_append, votersGo, ih, votersGo, List.getLastD_cons]
    simp only [Bool.and_assoc]
theorem lvoters_any (ao : Option Addr) (n cap : Nat) (xs : List Int) (w : World) (B : Nat) (hn : xs.length = n) (hx : NumsIn w B ao xs) (hl : n ≤ 4398046511104) (g : Bool) (hg : votersB xs = g) :
    Calls Tryd.prog 20 #[.slice ao n cap] w fun e w' => e = .returned (.bool g) ∧ w = w' := by
  have HX := Lib.hid hx
  have HN := Lib.hid hn
  obtain ⟨P, hP⟩ := pair_of g
  rw [hP] at hg
  have HG := Lib.hid hg
  rw [hP]
  clear hx hn hg hP
  go_enter Tryd.func20, Tryd.ntmps20
  go_wp2_with fail
  go_loopw [3, 8] (fun m i wr => ∃ k : Nat, k ≤ n ∧ i = .int .i64 k ∧ m = .int .i64 ((xs.take k).getLastD 0) ∧ votersGo 0 (xs.take k) = true ∧ w = wr) (fun _ i _ => n - (intOf i).toNat)
  case atStart => exact ⟨0, by omega, rfl, rfl, rfl, rfl⟩
  case round =>
    obtain ⟨k, hk, rfl, rfl, hall, rfl⟩ := hrel
    have HA := Lib.hid hall
    clear hall
    by_cases hlt : k < n
    · have i1 : (k : Int) < n := by omega
      have hkx : xs[k]? = some (xs[k]'(by rw [HN.out]; exact hlt)) := List.getElem?_eq_getElem _
      have htk : xs.take (k + 1) = xs.take k ++ [xs[k]'(by rw [HN.out]; exact hlt)] := List.take_succ_eq_append_getElem _
      obtain ⟨b, off, hao, hb, hc, _⟩ := HX.out.at hkx
      generalize xs[k]'(by rw [HN.out]; exact hlt) = x at hc hkx htk
      have c0 : w.cell? ⟨b, off + k, none⟩ = some (.int .i64 x) := by
        have := hc 0 (by decide)
        rw [Nat.mul_one, Nat.add_zero] at this
        exact this
      subst hao
      have HT := Lib.hid htk
      have hbad : ¬ ((xs.take k).getLastD 0 < x ∧ x ≤ 9) → P.1 = false := fun h => by
        rw [← HG.out]
        cases hh : votersB xs with
        | false => rfl
        | true =>
          unfold votersB at hh
          rw [Bool.and_eq_true] at hh
          exact absurd (votersGo_take xs 0 k x hkx HA.out hh.1) h
      have HBAD := Lib.hid hbad
      obtain ⟨q, hq⟩ : ∃ q, (xs.take k).getLastD 0 = q := ⟨_, rfl⟩
      rw [hq] at HBAD
      rw [hq]
      have HQ := Lib.hid hq
      clear hc hkx htk hbad hq
      by_cases h1 : x ≤ q
      · have hf := HBAD.out (by omega)
        go_wp2_with fail
        go_ret
        exact ⟨by first | rfl | (rw [hf]; rfl), by first | rfl | trivial⟩
      · by_cases h2 : 9 < x
        · have hf := HBAD.out (by omega)
          go_wp2_with fail
          go_ret
          exact ⟨by first | rfl | (rw [hf]; rfl), by first | rfl | trivial⟩
        · have hv : votersGo 0 (xs.take (k + 1)) = true ∧ (xs.take (k + 1)).getLastD 0 = x := by
            rw [HT.out, votersGo_snoc, HA.out, HQ.out]
            exact ⟨by simp; omega, by simp⟩
          have HV := Lib.hid hv
          clear hv
          go_wp2_with fail
          go_roundw
          case rel => exact ⟨k + 1, by omega, by go_num, by rw [HV.out.2], HV.out.1, by first | rfl | trivial⟩
          case measure => simp [intOf] <;> omega
    · have i1 : ¬ (k : Int) < n := by omega
      obtain rfl : k = n := by omega
      have hall : votersGo 0 xs = true := by
        have := HA.out
        rwa [List.take_of_length_le (by rw [HN.out]; exact Nat.le_refl _)] at this
      have hfin : P.1 = (decide (1 ≤ k) && decide (k ≤ 7)) := by
        rw [← HG.out]
        unfold votersB
        rw [hall, HN.out, Bool.true_and]
      have HF := Lib.hid hfin
      clear hall hfin
      by_cases h1 : 1 ≤ k
      · have j1 : (1 : Int) ≤ k := by omega
        by_cases h2 : k ≤ 7
        · have j2 : (k : Int) ≤ 7 := by omega
          go_wp2_with fail
          go_ret
          exact ⟨by rw [HF.out]; simp [h1, h2]; done, by first | rfl | trivial⟩
        · have j2 : ¬ (k : Int) ≤ 7 := by omega
          go_wp2_with fail
          go_ret
          exact ⟨by rw [HF.out]; simp [h2]; done, by first | rfl | trivial⟩
      · have j1 : ¬ (1 : Int) ≤ k := by omega
        go_wp2_with fail
        go_ret
        exact ⟨by rw [HF.out]; simp [h1]; done, by first | rfl | trivial⟩
end Go.Proofs.YthdpfchbomaigaaDoor
/- Commands and entries of letters, as the program judges them. Conditions: as each says. -/
namespace Go.Proofs.YthdpfchbomaigaaDoor
open Go.RowKit
set_option maxRecDepth 20000
theorem text_no {text : ByteArray} (h : ¬ text = ByteArray.empty) : text.toList.isEmpty = false := by
  cases hh : strB text with
  | nil =>
    have h1 := strN_strB text
    rw [hh] at h1
    exact absurd (h1.symm.trans rfl) h
  | cons c l =>
    have h1 : text = strOfNums (c :: l) := by rw [← hh]; exact (strN_strB text).symm
    rw [h1, Lib.strOfNums_toList]
    rfl
theorem toList_num (s : ByteArray) : s.toList.map (fun c : UInt8 => (c.toNat : Int)) = strB s := by
  have h := Lib.strOfNums_toList (strB s)
  have e : strOfNums (strB s) = s := strN_strB s
  rw [e] at h
  rw [h]
  simp [Lib.bytesOf, strB]
theorem toList_inj {s t : ByteArray} (h : s.toList = t.toList) : s = t := by
  have h1 : strB s = strB t := by rw [← toList_num, ← toList_num, h]
  rw [← strN_strB s, ← strN_strB t, h1]
theorem neq_same (t : TypeId) (h : t = 50) (a b : Int) (s : ByteArray) (w : World) : (binOp .neq t (.agg #[.int .u8 a, .int .i64 b, .string s]) (.agg #[.int .u8 a, .int .i64 b, .string s])).run Tryd.prog w = .ok (.bool false) w := by
  subst h
  simp [go_sem, Tryd.underlying50]
theorem neq_other (t : TypeId) (h : t = 50) (a b : Int) (s : ByteArray) (a2 b2 : Int) (s2 : ByteArray) (hne : ¬ (⟨a, b, s⟩ : Va) = ⟨a2, b2, s2⟩) (w : World) : (binOp .neq t (.agg #[.int .u8 a, .int .i64 b, .string s]) (.agg #[.int .u8 a2, .int .i64 b2, .string s2])).run Tryd.prog w = .ok (.bool true) w := by
  subst h
  simp only [Va.mk.injEq] at hne
  by_cases h1 : a = a2
  · subst h1
    by_cases h2 : b = b2
    · subst h2
      have h3 : ¬ s = s2 := fun h => hne ⟨rfl, rfl, h⟩
      simp [go_sem, Tryd.underlying50]
      exact fun h => h3 (toList_inj h)
    · simp [go_sem, Tryd.underlying50, h2]
  · simp [go_sem, Tryd.underlying50, h1]
def plainG (ck : Int) (text : ByteArray) (num : Int) (n : Nat) : Bool := decide (ck = 0) && (decide (text = ⟨#[]⟩) && (decide (num = 0) && decide (n = 0)))
theorem lplain_any (ck : Int) (text : ByteArray) (ao : Option Addr) (n cap : Nat) (num : Int) (w : World) :
    Calls Tryd.prog 48 #[.agg #[.int .u8 ck, .string text, .slice ao n cap, .int .i64 num]] w fun e w' => e = .returned (.bool (plainG ck text num n)) ∧ Below w.heap.size w w' := by
  have hb := (Below.refl w.heap.size w).alloc (Nat.le_refl _) (.cells #[.int .u8 ck, .string text, .slice ao n cap, .int .i64 num] 45)
  go_enter Tryd.func48, Tryd.ntmps48
  by_cases h1 : ck = 0
  · by_cases h2 : text = ByteArray.empty
    · by_cases h3 : num = 0
      · by_cases h4 : n = 0
        · subst h1 h2 h3 h4
          go_wp2_with fail
          go_ret
          exact ⟨rfl, hb⟩
        · subst h1 h2 h3
          have h5 : ¬ (n : Int) = 0 := by omega
          have h6 : decide ((n : Int) = 0) = false := decide_eq_false h5
          go_wp2_with fail
          go_ret
          exact ⟨by simp [plainG, h4], hb⟩
      · subst h1 h2
        have h6 : decide (num = 0) = false := decide_eq_false h3
        go_wp2_with fail
        go_ret
        exact ⟨by simp [plainG, h3], hb⟩
    · subst h1
      have h3 : decide (text = ByteArray.empty) = false := decide_eq_false h2
      have h4 := text_no h2
      have h2' : ¬ text = ⟨#[]⟩ := h2
      go_wp2_with fail
      go_ret
      exact ⟨by simp [plainG, h2'], hb⟩
  · have h6 : decide (ck = 0) = false := decide_eq_false h1
    go_wp2_with fail
    go_ret
    exact ⟨by simp [plainG, h1], hb⟩
set_option maxHeartbeats 2000000 in
theorem lwhole_any (ck : Int) (text : ByteArray) (ao : Option Addr) (n cap : Nat) (num : Int) (args : List Va) (w : World) (hn : args.length = n) (hx : ValsIn w w.heap.size ao args) (hk : (Lit.int .u8 ck).wf = true) (hw : ∀ v ∈ args, VaArg v) (ht : text.size ≤ 4000000) (ha : n ≤ 4000000) (hat : ∀ v ∈ args, v.text.size ≤ 4000000) (hs : (valuesB args).length ≤ 400000000) (g : Bool) (hg : wholeC ⟨ck, text, args, num⟩ = g) :
    Calls Tryd.prog 49 #[.agg #[.int .u8 ck, .string text, .slice ao n cap, .int .i64 num]] w fun e w' => e = .returned (.bool g) ∧ Below w.heap.size w w' := by
  have hbx := (Below.refl w.heap.size w).alloc (Nat.le_refl _) (.cells #[.int .u8 ck, .string text, .slice ao n cap, .int .i64 num] 45)
  have hkx := heap_alloc_new w (.cells #[.int .u8 ck, .string text, .slice ao n cap, .int .i64 num] 45)
  obtain ⟨L, hL⟩ : ∃ L, commandB ck text num args = L := ⟨_, rfl⟩
  have hlw : BytesWf L := hL ▸ commandB_wf ck text num args hk hw
  have hll : L.length ≤ 410000000 := by rw [← hL, commandB_len]; omega
  obtain ⟨r, hr⟩ : ∃ r, commandS false L = r := ⟨_, rfl⟩
  obtain ⟨P, hP⟩ := pair_of g
  have hg2 : ((!r.2.1 && r.2.2.isEmpty) && (decide (args.length = r.1.args.length) && decide (args = r.1.args))) = P.1 := by
    rw [← hP, ← hg]
    unfold wholeC
    dsimp only
    rw [hL, hr]
  rw [hP]
  have HX := Lib.hid hx
  have HN := Lib.hid hn
  have HAT := Lib.hid hat
  have HL := Lib.hid hL
  have HLW := Lib.hid hlw
  have HR := Lib.hid hr
  have HG := Lib.hid hg2
  have HBX := Lib.hid hbx
  have HKX := Lib.hid hkx
  clear hx hn hk hw hat hL hlw hr hg hg2 hP hbx hkx
  go_enter Tryd.func49, Tryd.ntmps49
  go_wp2_with fail
  have hbx := HBX.out
  have hkx := HKX.out
  have hs0 : (w.alloc (.cells #[.int .u8 ck, .string text, .slice ao n cap, .int .i64 num] 45)).heap.size = w.heap.size + 1 := by simp
  clear HBX HKX
  generalize w.alloc (.cells #[.int .u8 ck, .string text, .slice ao n cap, .int .i64 num] 45) = w0 at hbx hkx hs0 ⊢
  have HX0 := Lib.hid (HX.out.below noSub_kept hbx (Nat.le_refl _))
  refine (HL.out ▸ wcommand_any ck text ao n cap num args w0 HN.out (HX0.out.mono noSub_rising (by omega)) (fun v hv => by have := HAT.out v hv; omega) (by omega) (by omega)).mono ?_
  rintro e w1 ⟨a1, c1, rfl, ho1, hb1⟩
  have HO1 := Lib.hid ho1
  have hz1 := hb1.size
  clear ho1
  go_wp2_with fail
  refine (newReader_any a1 _ c1 L w1 w1.heap.size rfl (own_bytes' HO1.out) (Nat.le_refl _) (own_none HO1.out) (by omega)).mono ?_
  rintro e w2 ⟨rb, rfl, hrb, hrd, hb2⟩
  have HR2 := Lib.hid hrd
  have hz2 := hb2.size
  clear hrd HO1
  go_wp2_with fail
  have hb3 := (Below.refl w2.heap.size w2).alloc (Nat.le_refl _) (.cells #[.pointer (some ⟨rb, 0, none⟩)] 87)
  have hk3 := heap_alloc_new w2 (.cells #[.pointer (some ⟨rb, 0, none⟩)] 87)
  obtain ⟨tb, htb⟩ : ∃ tb, w2.heap.size = tb := ⟨_, rfl⟩
  have hs3 : (w2.alloc (.cells #[.pointer (some ⟨rb, 0, none⟩)] 87)).heap.size = tb + 1 := by simp [htb]
  have hrd3 := HR2.out.below hb3
  have hrb2 := HR2.out.lt
  rw [htb] at hrb2 hk3 ⊢
  generalize w2.alloc (.cells #[.pointer (some ⟨rb, 0, none⟩)] 87) = w3 at hb3 hk3 hs3 hrd3 ⊢
  have hb0 : Below w.heap.size w w3 := ((hbx.trans (hb1.mono (by omega))).trans (hb2.mono (by omega))).trans (hb3.mono (by omega))
  have hkx3 : w3.heap[w.heap.size]? = some (.cells #[.int .u8 ck, .string text, .slice ao n cap, .int .i64 num] 45 (0, 0)) := by
    rw [hb3.block _ (by omega), hb2.block _ (by omega), hb1.block _ (by omega)]
    exact hkx
  have HRD := Lib.hid hrd3
  clear hb1 hb2 hb3 HR2 hkx hbx HX0 hrd3
  refine (rdCommand_any rb rb false L r w3 HR.out HRD.out HLW.out (by omega)).mono ?_
  rintro e w4 ⟨f, hp, he, hv, hr4, ho4⟩
  subst he
  obtain ⟨fk, ft, fo, fas, fc, fn⟩ := f
  obtain ⟨m, hm⟩ : ∃ m, fas.length = m := ⟨_, rfl⟩
  simp only [cmVal]
  rw [hm]
  have hpa : fas = r.1.args := by rw [← hp]; rfl
  have hb4 := hb0.trans (ho4.toBelow (B := w.heap.size) (by omega) (by omega))
  have hkx4 := (ho4.block w.heap.size (by omega) (by omega)).trans hkx3
  have hk4 := (ho4.block tb (by omega) (by omega)).trans hk3
  have d0 : w4.cell? ⟨tb, 0, none⟩ = some (.pointer (some ⟨rb, 0, none⟩)) := Go.Joins.cell_of_block hk4 0
  have hs4 := ho4.size
  have hvi := own_rowsIn vaCells_len rfl hv (fun _ _ => trivial) (sub := noSub)
  have HV := Lib.hid hvi
  have HR4 := Lib.hid hr4
  have HM := Lib.hid hm
  have HPA := Lib.hid hpa
  clear hp hv hr4 ho4 hkx3 hk3 hb0 HRD hm hpa hvi
  have hz5 := (Below.refl w4.heap.size w4).alloc (Nat.le_refl _) (.cells #[.int .u8 fk, .string ft, .slice fo m fc, .int .i64 fn] 45)
  have d1 : ∀ o, (w4.alloc o).cell? ⟨tb, 0, none⟩ = some (.pointer (some ⟨rb, 0, none⟩)) := fun o => ((Below.refl w4.heap.size w4).alloc (Nat.le_refl _) o).cell (p := ⟨tb, 0, none⟩) (show tb < w4.heap.size by omega) |>.trans d0
  have HZ5 := Lib.hid hz5
  clear hz5
  go_wp2_with fail
  clear d0 d1
  have hb5 := HZ5.out
  have hk5 := heap_alloc_new w4 (.cells #[.int .u8 fk, .string ft, .slice fo m fc, .int .i64 fn] 45)
  have hs5 : (w4.alloc (.cells #[.int .u8 fk, .string ft, .slice fo m fc, .int .i64 fn] 45)).heap.size = w4.heap.size + 1 := by simp
  obtain ⟨db, hdb⟩ : ∃ db, w4.heap.size = db := ⟨_, rfl⟩
  clear HZ5
  rw [hdb] at hk5 hs5 ⊢
  generalize w4.alloc (.cells #[.int .u8 fk, .string ft, .slice fo m fc, .int .i64 fn] 45) = w5 at hb5 hk5 hs5 ⊢
  have hr5 := HR4.out.below hb5
  have hkx5 := (hb5.block w.heap.size (by omega)).trans hkx4
  have c2 : w5.cell? ⟨w.heap.size, 2, none⟩ = some (.slice ao n cap) := Go.Joins.cell_of_block hkx5 2
  have f2 : w5.cell? ⟨db, 2, none⟩ = some (.slice fo m fc) := Go.Joins.cell_of_block hk5 2
  obtain ⟨D, hD⟩ : ∃ D, (!r.2.1 && r.2.2.isEmpty) = D := ⟨_, rfl⟩
  have HF2 := Lib.hid f2
  have hbw := hb4.trans (hb5.mono hb4.size)
  have HB5 := Lib.hid hbw
  have HXW := Lib.hid (HX.out.below noSub_kept hbw (Nat.le_refl _))
  have HVW := Lib.hid (HV.out.below noSub_kept hb5 (Nat.le_refl _))
  clear hb4 hb5 hkx4 HX HV HR4 hk4 hkx5 hk5
  refine (done_rd rb rb _ _ w5 hr5).mono ?_
  rw [hD]
  rintro e w6 ⟨rfl, rfl⟩
  clear hr5
  have HG2 := Lib.hid (show (D && (decide (n = m) && decide (args = fas))) = P.1 by rw [← HG.out, ← HN.out, ← HM.out, HPA.out, hD])
  clear HG hD HR
  cases D with
  | false =>
    have hf : P.1 = false := by rw [← HG2.out]; rfl
    go_wp2_with fail
    go_ret
    exact ⟨by first | rfl | (rw [hf]; rfl), HB5.out⟩
  | true =>
    by_cases hnm : n = m
    · subst hnm
      go_wp2_with fail
      clear c2 f2
      go_loopw [30] (fun i wr => ∃ k : Nat, k ≤ n ∧ i = .int .i64 k ∧ args.take k = fas.take k ∧ Below w5.heap.size w5 wr) (fun i _ => n - (intOf i).toNat)
      case atStart => exact ⟨0, by omega, rfl, rfl, Below.refl _ _⟩
      case round =>
        obtain ⟨k, hk, rfl, heq, hbel⟩ := hrel
        have HE := Lib.hid heq
        have hzr := hbel.size
        clear heq
        by_cases hlt : k < n
        · have i1 : (k : Int) < n := by omega
          have hkx : args[k]? = some (args[k]'(by rw [HN.out]; exact hlt)) := List.getElem?_eq_getElem _
          have hky : fas[k]? = some (fas[k]'(by rw [HM.out]; exact hlt)) := List.getElem?_eq_getElem _
          have htx : args.take (k + 1) = args.take k ++ [args[k]'(by rw [HN.out]; exact hlt)] := List.take_succ_eq_append_getElem _
          have hty : fas.take (k + 1) = fas.take k ++ [fas[k]'(by rw [HM.out]; exact hlt)] := List.take_succ_eq_append_getElem _
          obtain ⟨b, off, hao, hb, hc, _⟩ := HXW.out.at hkx
          obtain ⟨b2, off2, hao2, hb2, hc2, _⟩ := HVW.out.at hky
          generalize args[k]'(by rw [HN.out]; exact hlt) = x at hc hkx htx
          generalize fas[k]'(by rw [HM.out]; exact hlt) = y at hc2 hky hty
          obtain ⟨kd, nu, tx⟩ := x
          obtain ⟨kd2, nu2, tx2⟩ := y
          have hq : ∀ w', Below w5.heap.size w5 w' → w'.cell? ⟨b, off + k * 3, none⟩ = some (.int .u8 kd) ∧ w'.cell? ⟨b, off + k * 3 + 1, none⟩ = some (.int .i64 nu) ∧ w'.cell? ⟨b, off + k * 3 + 2, none⟩ = some (.string tx) := fun w' h =>
            ⟨(h.cell (p := ⟨b, _, none⟩) (show b < w5.heap.size by omega)).trans (hc 0 (by decide)), (h.cell (p := ⟨b, _, none⟩) (show b < w5.heap.size by omega)).trans (hc 1 (by decide)), (h.cell (p := ⟨b, _, none⟩) (show b < w5.heap.size by omega)).trans (hc 2 (by decide))⟩
          have hq2 : ∀ w', Below w5.heap.size w5 w' → w'.cell? ⟨b2, off2 + k * 3, none⟩ = some (.int .u8 kd2) ∧ w'.cell? ⟨b2, off2 + k * 3 + 1, none⟩ = some (.int .i64 nu2) ∧ w'.cell? ⟨b2, off2 + k * 3 + 2, none⟩ = some (.string tx2) := fun w' h =>
            ⟨(h.cell (p := ⟨b2, _, none⟩) (show b2 < w5.heap.size by omega)).trans (hc2 0 (by decide)), (h.cell (p := ⟨b2, _, none⟩) (show b2 < w5.heap.size by omega)).trans (hc2 1 (by decide)), (h.cell (p := ⟨b2, _, none⟩) (show b2 < w5.heap.size by omega)).trans (hc2 2 (by decide))⟩
          have HQ2 := Lib.hid hq2
          have HT := Lib.hid (And.intro htx hty)
          subst hao hao2
          obtain ⟨c0, c1, c2⟩ := hq wr hbel
          have c3 : wr.cell? ⟨b, off + k * 3 + 1 + 1, none⟩ = some (.string tx) := c2
          have hba := hbel.alloc hzr (.cells #[.int .u8 kd, .int .i64 nu, .string tx] 50)
          have hka := heap_alloc_new wr (.cells #[.int .u8 kd, .int .i64 nu, .string tx] 50)
          have HBA := Lib.hid hba
          have HKA := Lib.hid hka
          clear hc hc2 hkx hky htx hty hq hq2 hba hka
          go_wp2_with fail
          have hba := HBA.out
          have hka := HKA.out
          obtain ⟨vb, hvb⟩ : ∃ vb, wr.heap.size = vb := ⟨_, rfl⟩
          clear HBA HKA c0 c1 c2 c3
          rw [hvb] at hka ⊢
          generalize wr.alloc (.cells #[.int .u8 kd, .int .i64 nu, .string tx] 50) = w7 at hba hka ⊢
          have v0 : w7.cell? ⟨vb, 0, none⟩ = some (.int .u8 kd) := Go.Joins.cell_of_block hka 0
          have v1 : w7.cell? ⟨vb, 1, none⟩ = some (.int .i64 nu) := Go.Joins.cell_of_block hka 1
          have v2 : w7.cell? ⟨vb, 2, none⟩ = some (.string tx) := Go.Joins.cell_of_block hka 2
          obtain ⟨y0, y1, y2⟩ := HQ2.out w7 hba
          have y3 : w7.cell? ⟨b2, off2 + k * 3 + 1 + 1, none⟩ = some (.string tx2) := y2
          have f2 : w7.cell? ⟨db, 2, none⟩ = some (.slice (some ⟨b2, off2, none⟩) n fc) := (hba.cell (p := ⟨db, 2, none⟩) (show db < w5.heap.size by omega)).trans HF2.out
          by_cases hxy : (⟨kd, nu, tx⟩ : Va) = ⟨kd2, nu2, tx2⟩
          · have hst : args.take (k + 1) = fas.take (k + 1) := by rw [HT.out.1, HT.out.2, HE.out, hxy]
            have HST := Lib.hid hst
            have hne : ∀ w, (binOp .neq 50 (.agg #[.int .u8 kd, .int .i64 nu, .string tx]) (.agg #[.int .u8 kd2, .int .i64 nu2, .string tx2])).run Tryd.prog w = .ok (.bool false) w := by
              cases hxy
              exact neq_same _ rfl _ _ _
            clear hst hxy
            go_quiet (fail)
            go_wp2_with fail
            go_roundw
            case rel => exact ⟨k + 1, by omega, by go_num, HST.out, below_drewN hba _⟩
            case measure => simp [intOf] <;> omega
          · have hf : P.1 = false := by
              rw [← HG2.out]
              have : ¬ args = fas := fun h => hxy (by
                have h1 := HT.out.1
                have h2 := HT.out.2
                rw [h, h2] at h1
                exact (List.singleton_inj.1 (List.append_cancel_left (h1.trans (by rw [HE.out.symm, h])))).symm)
              simp [this]
            have hne := neq_other 50 rfl kd nu tx kd2 nu2 tx2 hxy
            have HBA := Lib.hid (HB5.out.trans (hba.mono HB5.out.size))
            clear hxy
            go_quiet (fail)
            go_wp2_with fail
            go_ret
            exact ⟨by first | rfl | (rw [hf]; rfl), below_drewN HBA.out _⟩
        · have i1 : ¬ (k : Int) < n := by omega
          obtain rfl : k = n := by omega
          have hf : P.1 = true := by
            rw [← HG2.out]
            have := HE.out
            rw [List.take_of_length_le (by rw [HN.out]; exact Nat.le_refl _), List.take_of_length_le (by rw [HM.out]; exact Nat.le_refl _)] at this
            simp [this]
          go_wp2_with fail
          go_ret
          exact ⟨by first | rfl | (rw [hf]; rfl), HB5.out.trans (hbel.mono HB5.out.size)⟩
    · have hf : P.1 = false := by rw [← HG2.out]; simp [hnm]
      have i1 : ¬ (n : Int) = m := by omega
      have i2 : decide ((n : Int) = m) = false := decide_eq_false i1
      go_wp2_with fail
      go_ret
      exact ⟨by first | rfl | (rw [hf]; rfl), HB5.out⟩
end Go.Proofs.YthdpfchbomaigaaDoor
/- Entries of letters, as the program judges them. Conditions: as each says. -/
namespace Go.Proofs.YthdpfchbomaigaaDoor
open Go.RowKit
set_option maxRecDepth 20000
theorem nums_new (w : World) (xs : List Int) (cs : Array Value) (hcs : cs = (xs.map (Value.int .i64)).toArray) : NumsIn (w.alloc (.cells cs 3)) (w.heap.size + 1) (some ⟨w.heap.size, 0, none⟩) xs := by
  subst hcs
  refine Or.inr ⟨w.heap.size, 0, rfl, Nat.lt_succ_self _, fun i x hx => ⟨fun j hj => ?_, trivial⟩⟩
  obtain rfl : j = 0 := by omega
  rw [Go.Joins.cell_of_block (heap_alloc_new w _)]
  simp [hx, iCells]
set_option maxHeartbeats 4000000 in
theorem lentry_any (tm kd ss sq ck : Int) (text : ByteArray) (ao : Option Addr) (n cap : Nat) (args : List Va) (num : Int) (vo : Option Addr) (m vcap : Nat) (vs : List Int) (w : World) (hn : args.length = n) (hm : vs.length = m) (hx : ValsIn w w.heap.size ao args) (hv : NumsIn w w.heap.size vo vs)
    (hk : (Lit.int .u8 ck).wf = true) (hw : ∀ v ∈ args, VaArg v) (ht : text.size ≤ 4000000) (ha : n ≤ 4000000) (hml : m ≤ 4000000) (hat : ∀ v ∈ args, v.text.size ≤ 4000000) (hs : (valuesB args).length ≤ 400000000) (g : Bool) (hg : entryR ⟨tm, kd, ss, sq, ck, text, args, num, vs⟩ = g) :
    Calls Tryd.prog 33 #[.agg #[.int .i64 tm, .int .u8 kd, .int .i64 ss, .int .i64 sq, .int .u8 ck, .string text, .slice ao n cap, .int .i64 num, .slice vo m vcap]] w fun e w' => e = .returned (.bool g) ∧ Below w.heap.size w w' := by
  have hbx := (Below.refl w.heap.size w).alloc (Nat.le_refl _) (.cells #[.int .i64 tm, .int .u8 kd, .int .i64 ss, .int .i64 sq, .int .u8 ck, .string text, .slice ao n cap, .int .i64 num, .slice vo m vcap] 47)
  have hkx := heap_alloc_new w (.cells #[.int .i64 tm, .int .u8 kd, .int .i64 ss, .int .i64 sq, .int .u8 ck, .string text, .slice ao n cap, .int .i64 num, .slice vo m vcap] 47)
  have hs0 : (w.alloc (.cells #[.int .i64 tm, .int .u8 kd, .int .i64 ss, .int .i64 sq, .int .u8 ck, .string text, .slice ao n cap, .int .i64 num, .slice vo m vcap] 47)).heap.size = w.heap.size + 1 := by simp
  obtain ⟨P, hP⟩ := pair_of g
  rw [hP] at hg ⊢
  have HG := Lib.hid hg
  have HX := Lib.hid hx
  have HV := Lib.hid hv
  have HN := Lib.hid hn
  have HM := Lib.hid hm
  have HW := Lib.hid hw
  have HAT := Lib.hid hat
  have HBX := Lib.hid hbx
  have HKX := Lib.hid hkx
  have HS0 := Lib.hid hs0
  obtain ⟨BE, hBE⟩ := pair_of (bareE ⟨tm, kd, ss, sq, ck, text, args, num, vs⟩)
  have HBE := Lib.hid hBE
  clear hBE
  clear hx hv hn hm hw hat hg hP hbx hkx hs0
  go_enter Tryd.func33, Tryd.ntmps33
  go_upto_region 1 with fail
  have hbx := HBX.out
  have hkx := HKX.out
  have hs0 := HS0.out
  clear HBX HKX HS0
  generalize w.alloc (.cells #[.int .i64 tm, .int .u8 kd, .int .i64 ss, .int .i64 sq, .int .u8 ck, .string text, .slice ao n cap, .int .i64 num, .slice vo m vcap] 47) = w0 at hbx hkx hs0 ⊢
  have HC := Lib.hid (fun w' (h : Below (w.heap.size + 1) w0 w') (i : Nat) => (h.cell (p := ⟨w.heap.size, i, none⟩) (Nat.lt_succ_self _)).trans (Go.Joins.cell_of_block hkx i))
  go_cut [3] (fun bv wq => bv = .bool BE.1 ∧ w.heap.size + 1 ≤ wq.heap.size ∧ Below (w.heap.size + 1) w0 wq)
  case first =>
    have c2 : w0.cell? ⟨w.heap.size, 2, none⟩ = some (.int .i64 ss) := Go.Joins.cell_of_block hkx 2
    have c3 : w0.cell? ⟨w.heap.size, 3, none⟩ = some (.int .i64 sq) := Go.Joins.cell_of_block hkx 3
    have c4 : w0.cell? ⟨w.heap.size, 4, none⟩ = some (.int .u8 ck) := Go.Joins.cell_of_block hkx 4
    have c5 : w0.cell? ⟨w.heap.size, 4 + 1, none⟩ = some (.string text) := Go.Joins.cell_of_block hkx 5
    have c6 : w0.cell? ⟨w.heap.size, 4 + 2, none⟩ = some (.slice ao n cap) := Go.Joins.cell_of_block hkx 6
    have c7 : w0.cell? ⟨w.heap.size, 4 + 3, none⟩ = some (.int .i64 num) := Go.Joins.cell_of_block hkx 7
    have c8 : w0.cell? ⟨w.heap.size, 4 + 1 + 1, none⟩ = some (.slice ao n cap) := Go.Joins.cell_of_block hkx 6
    have c9 : w0.cell? ⟨w.heap.size, 4 + 1 + 1 + 1, none⟩ = some (.int .i64 num) := Go.Joins.cell_of_block hkx 7
    clear hkx
    by_cases h1 : ss = 0
    · by_cases h2 : sq = 0
      · have hbe : plainG ck text num n = BE.1 := by
          rw [← HBE.out, h1, h2, ← HN.out]
          rfl
        have HP := Lib.hid hbe
        clear hbe
        subst h1 h2
        go_wp2_with fail
        refine (lplain_any ck text ao n cap num w0).mono ?_
        rw [HP.out]
        rintro e wq ⟨rfl, hb1⟩
        have HB1 := Lib.hid hb1
        clear hb1
        cases hbb : BE.1
        all_goals
          go_wp2_with fail
          go_meet
          exact ⟨by first | rfl | rw [hbb], by have := HB1.out.size; omega, HB1.out.mono (by omega)⟩
      · have hbe : BE.1 = false := by rw [← HBE.out]; unfold bareE; simp [h2]
        have d2 : decide (sq = 0) = false := decide_eq_false h2
        have HP := Lib.hid hbe
        clear hbe
        subst h1
        go_wp2_with fail
        go_meet
        exact ⟨by first | rfl | rw [HP.out], by omega, Below.refl _ _⟩
    · have hbe : BE.1 = false := by rw [← HBE.out]; unfold bareE; simp [h1]
      have d2 : decide (ss = 0) = false := decide_eq_false h1
      have HP := Lib.hid hbe
      clear hbe
      go_wp2_with fail
      go_meet
      exact ⟨by first | rfl | rw [HP.out], by omega, Below.refl _ _⟩
  case rest =>
    obtain ⟨rfl, hsq, hbq⟩ := hcut
    obtain ⟨wq, hwq⟩ : ∃ wq, wc = wq := ⟨_, rfl⟩
    subst hwq
    have e0 : wc.cell? ⟨w.heap.size, 0, none⟩ = some (.int .i64 tm) := HC.out _ hbq 0
    have hzq := (Below.refl wc.heap.size wc).alloc (Nat.le_refl _) (.cells #[.int .i64 tm] 3)
    have HZQ := Lib.hid hzq
    clear hzq hkx
    go_wp2_with fail
    have hzq := HZQ.out
    refine (lwithin_any (some ⟨wc.heap.size, 0, none⟩) 1 1 [tm] (wc.alloc (.cells #[.int .i64 tm] 3)) (wc.heap.size + 1) rfl (nums_new wc [tm] _ rfl) (by decide) (withinN tm) (by simp)).mono ?_
    obtain ⟨wt, hwt⟩ : ∃ wt, withinN tm = wt := ⟨_, rfl⟩
    rw [hwt]
    have HWT := Lib.hid hwt
    clear hwt
    rintro e wz ⟨rfl, rfl⟩
    have hbz := hbq.trans (hzq.mono hsq)
    have HBZ := Lib.hid (hbx.trans (hbz.mono (Nat.le_succ _)))
    have hsz : w.heap.size + 1 ≤ (wc.alloc (.cells #[.int .i64 tm] 3)).heap.size := Nat.le_trans hsq (by simp)
    clear HZQ hzq e0
    generalize wc.alloc (.cells #[.int .i64 tm] 3) = wz at hbz HBZ hsz ⊢
    cases wt with
    | false =>
      have hf : P.1 = false := by rw [← HG.out]; unfold entryR; simp [HWT.out]
      go_wp2_with fail
      go_ret
      exact ⟨by first | rfl | (rw [hf]; rfl), HBZ.out⟩
    | true =>
      have e1 : wz.cell? ⟨w.heap.size, 1, none⟩ = some (.int .u8 kd) := HC.out _ hbz 1
      have e2 : wz.cell? ⟨w.heap.size, 2, none⟩ = some (.int .i64 ss) := HC.out _ hbz 2
      have e3 : wz.cell? ⟨w.heap.size, 3, none⟩ = some (.int .i64 sq) := HC.out _ hbz 3
      have e4 : wz.cell? ⟨w.heap.size, 4, none⟩ = some (.int .u8 ck) := HC.out _ hbz 4
      have e5 : wz.cell? ⟨w.heap.size, 4 + 1, none⟩ = some (.string text) := HC.out _ hbz 5
      have e6 : wz.cell? ⟨w.heap.size, 4 + 2, none⟩ = some (.slice ao n cap) := HC.out _ hbz 6
      have e7 : wz.cell? ⟨w.heap.size, 4 + 3, none⟩ = some (.int .i64 num) := HC.out _ hbz 7
      have e8 : wz.cell? ⟨w.heap.size, 8, none⟩ = some (.slice vo m vcap) := HC.out _ hbz 8
      clear hsq hbq hbx
      by_cases hk1 : kd = 1
      · have HF := Lib.hid (show P.1 = (BE.1 && decide (m = 0)) by rw [← HG.out, ← HBE.out, ← HM.out]; unfold entryR; simp [HWT.out, hk1, bareE, EnP.cm])
        subst hk1
        cases hbb : BE.1
        · rw [hbb] at HF
          go_wp2_with fail
          go_ret
          exact ⟨by rw [HF.out]; rfl, HBZ.out⟩
        · rw [hbb] at HF
          by_cases hm0 : m = 0
          · subst hm0
            go_wp2_with fail
            go_ret
            exact ⟨by rw [HF.out]; rfl, HBZ.out⟩
          · have j1 : ¬ (m : Int) = 0 := by omega
            have j2 : decide ((m : Int) = 0) = false := decide_eq_false j1
            have j3 : ((m : Int) == 0) = false := by simpa using hm0
            go_wp2_with fail
            go_ret
            exact ⟨by rw [HF.out]; simp [hm0], HBZ.out⟩
      · have kk1 : decide (kd = 1) = false := decide_eq_false hk1
        by_cases hk2 : kd = 2
        · have HF := Lib.hid (show P.1 = (decide (0 ≤ ss) && (decide (0 ≤ sq) && (decide (m = 0) && wholeC ⟨ck, text, args, num⟩))) by rw [← HG.out, ← HM.out]; unfold entryR; simp [HWT.out, hk2, EnP.cm])
          subst hk2
          by_cases g1 : 0 ≤ ss
          · by_cases g2 : 0 ≤ sq
            · by_cases hm0 : m = 0
              · subst hm0
                obtain ⟨P3, hP3⟩ := pair_of (wholeC ⟨ck, text, args, num⟩)
                have HF2 := Lib.hid (show P.1 = P3.1 by rw [HF.out, ← hP3]; simp [g1, g2])
                have HP3 := Lib.hid hP3
                clear HF hP3
                go_wp2_with fail
                refine (lwhole_any ck text ao n cap num args wz HN.out ((HX.out.below noSub_kept HBZ.out (Nat.le_refl _)).mono noSub_rising (by omega)) hk HW.out ht ha HAT.out hs P3.1 HP3.out).mono ?_
                rintro e wy ⟨rfl, hby⟩
                have HBY := Lib.hid (HBZ.out.trans (hby.mono (by omega)))
                clear hby
                go_wp2_with fail
                go_ret
                exact ⟨by rw [HF2.out]; rfl, HBY.out⟩
              · have j1 : ¬ (m : Int) = 0 := by omega
                have j2 : decide ((m : Int) = 0) = false := decide_eq_false j1
                have j3 : ((m : Int) == 0) = false := by simpa using hm0
                go_wp2_with fail
                go_ret
                exact ⟨by rw [HF.out]; simp [hm0], HBZ.out⟩
            · have j2 : decide (0 ≤ sq) = false := decide_eq_false g2
              go_wp2_with fail
              go_ret
              exact ⟨by rw [show P.1 = false by rw [HF.out, j2]; simp]; rfl, HBZ.out⟩
          · have j2 : decide (0 ≤ ss) = false := decide_eq_false g1
            go_wp2_with fail
            go_ret
            exact ⟨by rw [show P.1 = false by rw [HF.out, j2]; simp]; rfl, HBZ.out⟩
        · have kk2 : decide (kd = 2) = false := decide_eq_false hk2
          by_cases hk3 : kd = 3
          · have HF := Lib.hid (show P.1 = (BE.1 && votersB vs) by rw [← HG.out, ← HBE.out]; unfold entryR; simp [HWT.out, hk3, bareE, EnP.cm])
            subst hk3
            cases hbb : BE.1
            · rw [hbb] at HF
              go_wp2_with fail
              go_ret
              exact ⟨by rw [HF.out]; rfl, HBZ.out⟩
            · rw [hbb] at HF
              obtain ⟨P3, hP3⟩ := pair_of (votersB vs)
              have HF2 := Lib.hid (show P.1 = P3.1 by rw [HF.out, ← hP3]; rfl)
              have HP3 := Lib.hid hP3
              clear HF hP3
              go_wp2_with fail
              refine (lvoters_any vo m vcap vs wz w.heap.size HM.out (HV.out.below noSub_kept HBZ.out (Nat.le_refl _)) (by omega) P3.1 HP3.out).mono ?_
              rintro e wy ⟨rfl, rfl⟩
              go_wp2_with fail
              go_ret
              exact ⟨by rw [HF2.out]; rfl, HBZ.out⟩
          · have kk3 : decide (kd = 3) = false := decide_eq_false hk3
            have hf : P.1 = false := by rw [← HG.out]; unfold entryR; simp [HWT.out, hk1, hk2, hk3]
            go_wp2_with fail
            go_ret
            exact ⟨by first | rfl | (rw [hf]; rfl), HBZ.out⟩
end Go.Proofs.YthdpfchbomaigaaDoor
