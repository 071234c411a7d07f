/- What is read of bytes is no greater than these. No program. Conditions: as each says. -/
import Derived.Test.YtnhnabcpkaeaaaaGreatDoorGWalNone5
import Derived.Test.YtnhnabcpkaeaaaaGreatDoorGWalNone1
import Derived.Test.YtnhnabcpkaeaaaaGreatDoorGWalNone4
import Derived.Deep.DeepCutAuto
import Derived.Test.YtnhnabcpkaeaaaaGreatDoorGWalNone3
set_option linter.unusedVariables false
set_option linter.unusedSimpArgs false
namespace Go.Proofs.YtnhnabcpkaeaaaaGreatDoor
open Go.RowKit
set_option maxRecDepth 20000
theorem rowS_upto {α : Type} {one : Bool → List Int → α × Bool × List Int} (hs : Shrinks one) (N : Nat) (P : α → Prop) (hP : ∀ b l, BytesWf l → l.length ≤ N → P (one b l).1) : ∀ (n : Nat) (b : Bool) (l : List Int), BytesWf l → l.length ≤ N → ∀ x ∈ (rowS one n b l).1, P x := by
  intro n
  induction n with
  | zero => intro b l _ _ x hx; cases hx
  | succ n ih =>
    intro b l hw hl x hx
    unfold rowS at hx
    split at hx
    · cases hx
    · rcases List.mem_cons.1 hx with rfl | hx
      · exact hP b l hw hl
      · exact ih _ _ (hs b l hw).1 (Nat.le_trans (hs b l hw).2 hl) x hx
theorem rowsS_upto {α : Type} {one : Bool → List Int → α × Bool × List Int} (hs : Shrinks one) (N : Nat) (P : α → Prop) (hP : ∀ b l, BytesWf l → l.length ≤ N → P (one b l).1) (b : Bool) (l : List Int) (hw : BytesWf l) (hl : l.length ≤ N) : ∀ x ∈ (rowsS one b l).1, P x := by
  intro x hx
  have hc := countS_wf (bad := b) hw
  unfold rowsS at hx
  dsimp only at hx
  split at hx
  · cases hx
  · exact rowS_upto hs N P hP _ _ _ hc.2.2.1 (Nat.le_trans hc.2.2.2 hl) x hx
theorem flat_ge {α : Type} {oneB : α → List Int} (h : ∀ x, 1 ≤ (oneB x).length) : ∀ xs : List α, xs.length ≤ (xs.flatMap oneB).length := by
  intro xs
  induction xs with
  | nil => simp
  | cons x xs ih => have := h x; rw [List.flatMap_cons, List.length_append, List.length_cons]; omega
theorem rowsS_few {α : Type} {one : Bool → List Int → α × Bool × List Int} {oneB : α → List Int} (h : ∀ x, 1 ≤ (oneB x).length) (ht : There one oneB) (b : Bool) (l : List Int) (hw : BytesWf l) : (rowsS one b l).1.length ≤ l.length := by
  cases hb : (rowsS one b l).2.1 with
  | false =>
    obtain ⟨_, h2, _⟩ := rowsS_there ht b l hw hb
    have := flat_ge h (rowsS one b l).1
    have h3 := congrArg List.length h2
    simp only [List.length_append] at h3
    omega
  | true =>
    unfold rowsS at hb ⊢
    dsimp only at hb ⊢
    rw [if_pos hb]
    exact Nat.zero_le _
theorem numB_pos (n : Int) : 1 ≤ (numB 8 n).length := by rw [numB_len]; omega
theorem takeS_len (n : Nat) (b : Bool) (l : List Int) : (takeS n b l).1.length ≤ l.length := by
  unfold takeS
  split
  · exact Nat.zero_le _
  · rw [List.length_take]; omega
theorem textS_size (b : Bool) (l : List Int) (hw : BytesWf l) : (textS b l).1.size ≤ l.length := by
  have hc := countS_wf (bad := b) hw
  unfold textS
  dsimp only
  rw [strN_size]
  exact Nat.le_trans (takeS_len _ _ _) hc.2.2.2
theorem valueS_size (b : Bool) (l : List Int) (hw : BytesWf l) : (valueS b l).1.text.size ≤ l.length := by
  have hk := takeS_wf (n := 1) (bad := b) hw
  have hk2 := (kindS_shrinks b l hw).2
  unfold valueS
  dsimp only
  split
  · dsimp only
    split <;> exact Nat.zero_le _
  · split
    · dsimp only
      split
      · exact Nat.zero_le _
      · exact Nat.le_trans (textS_size _ _ hk.2.1) hk2
    · exact Nat.zero_le _
/-- Values that are no more than N, nor any text of theirs. -/
def Fit (N : Nat) (xs : List Va) : Prop := xs.length ≤ N ∧ ∀ v ∈ xs, v.text.size ≤ N
theorem Fit.nil (N : Nat) : Fit N [] := ⟨Nat.zero_le _, fun _ h => by cases h⟩
theorem valuesS_fit (N : Nat) (b : Bool) (l : List Int) (hw : BytesWf l) (hl : l.length ≤ N) : Fit N (valuesS b l).1 :=
  ⟨Nat.le_trans (rowsS_few valueB_pos valueS_there b l hw) hl, rowsS_upto valueS_shrinks N _ (fun b l hw hl => Nat.le_trans (valueS_size b l hw) hl) b l hw hl⟩
theorem commandS_fit (N : Nat) (b : Bool) (l : List Int) (hw : BytesWf l) (hl : l.length ≤ N) : (commandS b l).1.text.size ≤ N ∧ Fit N (commandS b l).1.args := by
  have w1 := kindS_shrinks b l hw
  have w2 := textS_shrinks (kindS b l).2.1 _ w1.1
  have w3 := numS_shrinks (textS (kindS b l).2.1 (kindS b l).2.2).2.1 _ w2.1
  have h1 := textS_size (kindS b l).2.1 _ w1.1
  unfold commandS
  dsimp only
  split
  · exact ⟨Nat.zero_le _, Fit.nil N⟩
  · exact ⟨by dsimp only; omega, valuesS_fit N _ _ w3.1 (by omega)⟩
theorem intsS_len (b : Bool) (l : List Int) (hw : BytesWf l) : (intsS b l).1.length ≤ l.length := rowsS_few numB_pos numS_there b l hw
theorem entryS_fit (N : Nat) (b : Bool) (l : List Int) (hw : BytesWf l) (hl : l.length ≤ N) : (entryS b l).1.text.size ≤ N ∧ Fit N (entryS b l).1.args ∧ (entryS b l).1.vs.length ≤ N := by
  have w1 := numS_shrinks b l hw
  have w2 := kindS_shrinks (numS b l).2.1 _ w1.1
  have w3 := numS_shrinks (kindS (numS b l).2.1 (numS b l).2.2).2.1 _ w2.1
  have w4 := numS_shrinks (numS (kindS (numS b l).2.1 (numS b l).2.2).2.1 (kindS (numS b l).2.1 (numS b l).2.2).2.2).2.1 _ w3.1
  unfold entryS
  dsimp only
  have w5 := commandS_shrinks (numS (numS (kindS (numS b l).2.1 (numS b l).2.2).2.1 (kindS (numS b l).2.1 (numS b l).2.2).2.2).2.1 (numS (kindS (numS b l).2.1 (numS b l).2.2).2.1 (kindS (numS b l).2.1 (numS b l).2.2).2.2).2.2).2.1 _ w4.1
  have h5 := commandS_fit N (numS (numS (kindS (numS b l).2.1 (numS b l).2.2).2.1 (kindS (numS b l).2.1 (numS b l).2.2).2.2).2.1 (numS (kindS (numS b l).2.1 (numS b l).2.2).2.1 (kindS (numS b l).2.1 (numS b l).2.2).2.2).2.2).2.1 _ w4.1 (by omega)
  have h6 := intsS_len (commandS (numS (numS (kindS (numS b l).2.1 (numS b l).2.2).2.1 (kindS (numS b l).2.1 (numS b l).2.2).2.2).2.1 (numS (kindS (numS b l).2.1 (numS b l).2.2).2.1 (kindS (numS b l).2.1 (numS b l).2.2).2.2).2.2).2.1 (numS (numS (kindS (numS b l).2.1 (numS b l).2.2).2.1 (kindS (numS b l).2.1 (numS b l).2.2).2.2).2.1 (numS (kindS (numS b l).2.1 (numS b l).2.2).2.1 (kindS (numS b l).2.1 (numS b l).2.2).2.2).2.2).2.2).2.1 _ w5.1
  split
  · exact ⟨Nat.zero_le _, Fit.nil N, Nat.zero_le _⟩
  · exact ⟨h5.1, h5.2, by dsimp only; omega⟩
end Go.Proofs.YtnhnabcpkaeaaaaGreatDoor
/- What frames make of a wal, in plain Lean. No program. Conditions: as each says. -/
namespace Go.Proofs.YtnhnabcpkaeaaaaGreatDoor
open Go Go.RowKit
/-- What a file says. -/
structure WP where
  term : Int
  vote : Int
  base : Int
  before : Int
  L : List EnP
def WP.zero : WP := ⟨0, 0, 0, 0, []⟩
/-- Is a reader done? -/
def isDone (b : Bool) (l : List Int) : Bool := !b && l.isEmpty
/-- A frame is done; none: it can't be. -/
def doW (s : WP) (kind : Int) (data : List Int) : Option WP :=
  let a := numS false data
  if kind = 1 then
    let b := numS a.2.1 a.2.2
    if isDone b.2.1 b.2.2 = true ∧ (0 ≤ a.1 ∧ a.1 ≤ 1099511627776) ∧ (0 ≤ b.1 ∧ b.1 ≤ 9) then some { s with term := a.1, vote := b.1 } else none
  else if kind = 2 then
    let e := entryS a.2.1 a.2.2
    if isDone e.2.1 e.2.2 = true ∧ s.base < a.1 ∧ a.1 ≤ s.base + s.L.length + 1 then some { s with L := s.L.take (a.1 - s.base - 1).toNat ++ [e.1] } else none
  else if kind = 3 then
    let b := numS a.2.1 a.2.2
    if isDone b.2.1 b.2.2 = true ∧ (0 ≤ a.1 ∧ a.1 ≤ 1099511627776) ∧ (0 ≤ b.1 ∧ b.1 ≤ 1099511627776) then some ⟨s.term, s.vote, a.1, b.1, []⟩ else none
  else none
def doAll (s : WP) : List (Int × List Int) → Option WP
  | [] => some s
  | p :: r => match doW s p.1 p.2 with
    | none => none
    | some t => doAll t r
def SmallP (e : EnP) : Prop := e.args.length ≤ 1099511627776 ∧ e.vs.length ≤ 1099511627776
/-- Numbers as they may be; at most n entries. -/
structure WP.Ok (s : WP) (n : Nat) : Prop where
  base : 0 ≤ s.base ∧ s.base ≤ 1099511627776
  len : s.L.length ≤ n
  small : ∀ e ∈ s.L, SmallP e
theorem WP.Ok.zero (n : Nat) : WP.Ok WP.zero n := ⟨by simp [WP.zero], Nat.zero_le _, fun e he => by cases he⟩
theorem WP.Ok.mono {s : WP} {m n : Nat} (h : s.Ok m) (hm : m ≤ n) : s.Ok n := ⟨h.base, Nat.le_trans h.len hm, h.small⟩
theorem doW_ok {s t : WP} {n : Nat} {kind : Int} {data : List Int} (h : s.Ok n) (hw : BytesWf data) (hl : data.length ≤ 1099511627776) (hd : doW s kind data = some t) : t.Ok (n + 1) := by
  unfold doW at hd
  dsimp only at hd
  split at hd
  · split at hd
    · cases hd; exact ⟨h.base, Nat.le_succ_of_le h.len, h.small⟩
    · cases hd
  · split at hd
    · split at hd
      · cases hd
        have hsh := numS_shrinks false data hw
        have hf := entryS_fit 1099511627776 (numS false data).2.1 (numS false data).2.2 hsh.1 (Nat.le_trans hsh.2 hl)
        refine ⟨h.base, ?_, fun e he => ?_⟩
        · have := h.len
          simp only [List.length_append, List.length_take, List.length_singleton]
          omega
        · rcases List.mem_append.1 he with he | he
          · exact h.small e (List.mem_of_mem_take he)
          · rw [List.mem_singleton.1 he]
            exact ⟨hf.2.1.1, hf.2.2⟩
      · cases hd
    · split at hd
      · split at hd
        · rename_i hc
          cases hd
          exact ⟨hc.2.1, Nat.zero_le _, fun e he => by cases he⟩
        · cases hd
      · cases hd
theorem doAll_snoc (s : WP) (l : List (Int × List Int)) (p : Int × List Int) : doAll s (l ++ [p]) = (doAll s l).bind fun t => doW t p.1 p.2 := by
  induction l generalizing s with
  | nil =>
    show doAll s [p] = _
    unfold doAll
    cases h : doW s p.1 p.2 with
    | none => simp [doAll, h]
    | some t => simp [doAll, h]
  | cons q r ih =>
    rw [List.cons_append]
    unfold doAll
    cases doW s q.1 q.2 with
    | none => rfl
    | some t => exact ih t
theorem doAll_none {s : WP} {l : List (Int × List Int)} {k : Nat} {t : WP} {p : Int × List Int} (h : doAll s (l.take k) = some t) (hp : l[k]? = some p) (hd : doW t p.1 p.2 = none) : doAll s l = none := by
  induction l generalizing s k with
  | nil => simp at hp
  | cons q r ih =>
    cases k with
    | zero =>
      simp at h hp
      subst hp
      simp only [doAll, Option.some.injEq] at h
      subst h
      unfold doAll
      rw [hd]
    | succ k =>
      rw [List.take_succ_cons] at h
      unfold doAll at h ⊢
      cases hq : doW s q.1 q.2 with
      | none => rfl
      | some u =>
        rw [hq] at h
        exact ih h (by simpa using hp)
end Go.Proofs.YtnhnabcpkaeaaaaGreatDoor
/- wal.copied: entries in memory of their own. Conditions: the entries' cells lie as their readings say. -/
namespace Go.Proofs.YtnhnabcpkaeaaaaGreatDoor
open Go.RowKit
set_option maxRecDepth 20000
set_option maxHeartbeats 2000000 in
theorem wcopied_any (ao : Option Addr) (n cap : Nat) (xs : List En) (w : World) (B : Nat) (hn : xs.length = n) (hx : EnsIn w B ao xs) (hB : B ≤ w.heap.size) (hao : ao = none → cap = 0) (hl : n ≤ 1099511627776) (hsm : ∀ x ∈ xs, x.args.length ≤ 1099511627776 ∧ x.vs.length ≤ 1099511627776) (hnil : ∀ x ∈ xs, EnNil x) :
    Calls Tryz.prog 45 #[.slice ao n cap] w (CopiedAs xs n w) := by
  have HX := Lib.hid hx
  have HN := Lib.hid hn
  have HA := Lib.hid hao
  have HS := Lib.hid hsm
  have HNIL := Lib.hid hnil
  clear hx hn hao hsm hnil
  go_enter Tryz.func45, Tryz.ntmps45
  go_wp2_with fail
  refine (cloneE_any enSub ao n cap xs w B HN.out HX.out enSub_kept hB HA.out hl).mono ?_
  rintro e w1 ⟨a, c, rfl, hown, hb1⟩
  have HO := Lib.hid hown
  clear hown
  go_wp2_with fail
  go_loopw [4, 9] (fun _ i wr => ∃ (k : Nat) (es : List En), k ≤ n ∧ i = .int .i64 k ∧ es.length = k ∧ es.map En.plain = (xs.take k).map En.plain ∧ (∀ e ∈ es, enOwn wr w.heap.size e) ∧ es.Pairwise sepE ∧ wr.ownsRow w.heap.size 60 9 (.slice a n c) n ((es ++ xs.drop k).flatMap enCells) ∧ Below w.heap.size w wr) (fun _ i _ => n - (intOf i).toNat)
  case atStart => exact ⟨0, [], by omega, rfl, rfl, rfl, by simp, List.Pairwise.nil, by simpa using HO.out, hb1⟩
  case round =>
    clear hb1 HO
    obtain ⟨k, es, hk, rfl, hlen, hmap, hown, hsep, hrow, hbel⟩ := hrel
    have HL := Lib.hid hlen
    have HM := Lib.hid hmap
    have HOW := Lib.hid hown
    have HSP := Lib.hid hsep
    have HR := Lib.hid hrow
    clear hlen hmap hown hsep hrow
    have hs := hbel.size
    by_cases hlt : k < n
    · have hkn : k < xs.length := by rw [HN.out]; exact hlt
      have hdrop : xs.drop k = xs[k] :: xs.drop (k + 1) := List.drop_eq_getElem_cons hkn
      have htake : (xs.take (k + 1)).map En.plain = (xs.take k).map En.plain ++ [xs[k].plain] := by
        rw [List.take_succ_eq_append_getElem hkn, List.map_append]; rfl
      have hsx := HS.out _ (List.getElem_mem hkn)
      have hnx := HNIL.out _ (List.getElem_mem hkn)
      have hxk : xs[k]? = some xs[k] := List.getElem?_eq_getElem hkn
      have hsub : enSub w B xs[k] := by
        obtain ⟨_, _, _, _, _, h⟩ := HX.out.at hxk
        exact h
      generalize xs[k] = x at hdrop htake hsx hnx hsub
      obtain ⟨t, kd, s, q, ck, text, aao, args, acap, num, vao, vs, vcap⟩ := x
      obtain ⟨g, c', hg⟩ : ∃ g c', a = some ⟨g, 0, none⟩ ∧ c' = c := by
        rcases Go.Joins.ownsRow_forms HR.out with ⟨_, hz⟩ | ⟨g, c2, h2⟩
        · omega
        · injection h2 with h3 _ _
          exact ⟨g, c, h3, rfl⟩
      obtain ⟨rfl, _⟩ := hg
      dsimp only at hsx
      have hrow0 := HR.out
      rw [hdrop] at hrow0
      have hget : ∀ j, j < 9 → wr.cell? ⟨g, k * 9 + j, none⟩ = (enCells ⟨t, kd, s, q, ck, text, aao, args, acap, num, vao, vs, vcap⟩)[j]? := by
        intro j hj
        rw [World.ownsRow.cellAt hrow0 _ (by omega)]
        exact flat_get enCells_len _ k _ (by rw [List.getElem?_append_right (by rw [HL.out]; exact Nat.le_refl _), HL.out, Nat.sub_self]; rfl) j hj
      have d8 : wr.cell? ⟨g, k * 9 + 8, none⟩ = some (.slice vao vs.length vcap) := hget 8 (by decide)
      obtain ⟨vn, hvn⟩ : ∃ vn, vs.length = vn := ⟨_, rfl⟩
      obtain ⟨an, han⟩ : ∃ an, args.length = an := ⟨_, rfl⟩
      rw [hvn] at d8 hsx
      rw [han] at hsx
      obtain ⟨hsx1, hsx2⟩ := hsx
      have HVN := Lib.hid hvn
      have HAN := Lib.hid han
      have HSUB := Lib.hid hsub
      have HNX := Lib.hid hnx
      have HD := Lib.hid hdrop
      have HT := Lib.hid htake
      have HR0 := Lib.hid hrow0
      have i1 : (k : Int) < n := by omega
      clear hget hxk hvn han hsub hnx hdrop htake hrow0
      go_wp2_with fail
      refine (cloneI_any noSub vao vn vcap vs wr B HVN.out (HSUB.out.2.below noSub_kept (hbel.mono hB) (Nat.le_refl _)) noSub_kept (by omega) HNX.out.2 (by omega)).mono ?_
      rintro e w2 ⟨a2, c2, rfl, hown2, hb2⟩
      have hs2 := hb2.size
      have hrow2 := own_below HR0.out hb2 (Nat.le_refl _)
      have d8' : w2.cell? ⟨g, k * 9 + 8, none⟩ = some (.slice vao vn vcap) := (hb2.cell (p := ⟨g, k * 9 + 8, none⟩) (HR0.out.lt g rfl).2).trans d8
      have f8 : w2.frozen? ⟨g, k * 9 + 8, none⟩ = false := World.ownsRow.frozenAt hrow2 _
      have st8 := World.ownsRow.stored hrow2 (k * 9 + 8) (.slice a2 vn c2)
      have hset8 := flat_set enCells_len es (xs.drop (k + 1)) ⟨t, kd, s, q, ck, text, aao, args, acap, num, vao, vs, vcap⟩ k 8 HL.out (by decide) (.slice a2 vn c2)
      rw [hset8] at st8
      have hown3 := World.ownsRow.kept hown2 st8.2 (own_apart hown2 hrow2 (by decide))
      have hbw3 : Below w.heap.size w (w2.setCell ⟨g, k * 9 + 8, none⟩ (.slice a2 vn c2)) := (hbel.trans (hb2.mono hs)).setCell (p := ⟨g, k * 9 + 8, none⟩) (hrow2.lt g rfl).1 _
      have HOW3 := Lib.hid (show ∀ e ∈ es, enOwn (w2.setCell ⟨g, k * 9 + 8, none⟩ (.slice a2 vn c2)) w.heap.size e from fun e he => by
        have h1 := (HOW.out e he).below hb2 (Nat.le_refl _)
        exact ⟨World.ownsRow.kept h1.1 st8.2 (own_apart h1.1 hrow2 (by decide)), World.ownsRow.kept h1.2 st8.2 (own_apart h1.2 hrow2 (by decide))⟩)
      have hz3 : (w2.setCell ⟨g, k * 9 + 8, none⟩ (.slice a2 vn c2)).heap.size = w2.heap.size := by simp
      have HR3 := Lib.hid st8.1
      have HO3 := Lib.hid hown3
      have HROW2 := Lib.hid hrow2
      have HOWN2 := Lib.hid hown2
      clear hrow2 st8 hset8 hown3 hown2 d8
      have hbw3' := hbw3
      have hfA := flat_len enCells_len es
      have d6 : (w2.setCell ⟨g, k * 9 + 8, none⟩ (.slice a2 vn c2)).cell? ⟨g, k * 9 + 4 + 2, none⟩ = some (.slice aao an acap) := by
        show (w2.setCell ⟨g, k * 9 + 8, none⟩ (.slice a2 vn c2)).cell? ⟨g, k * 9 + 6, none⟩ = _
        rw [World.ownsRow.cellAt HR3.out _ (by omega), List.getElem?_append_right (by rw [hfA, HL.out]; omega), hfA, HL.out, show k * 9 + 6 - k * 9 = 6 by omega, List.getElem?_append_left (by simp [enCells])]
        simp [enCells, HAN.out]
      have HFA := Lib.hid hfA
      clear hfA
      go_wp2_with fail
      have hfA := HFA.out
      generalize w2.setCell ⟨g, k * 9 + 8, none⟩ (.slice a2 vn c2) = w3 at HR3 HO3 HOW3 hbw3' hz3 d6 ⊢
      clear hbw3 d8' f8
      have hs3 := hbw3'.size
      refine (cloneV_any noSub aao an acap args w3 B HAN.out (HSUB.out.1.below noSub_kept (hbw3'.mono hB) (Nat.le_refl _)) noSub_kept (by omega) HNX.out.1 (by omega)).mono ?_
      rintro e w4 ⟨a4, c4, rfl, hown4, hb4⟩
      have hs4 := hb4.size
      have hrow4 := own_below HR3.out hb4 (Nat.le_refl _)
      have d6' : w4.cell? ⟨g, k * 9 + 4 + 2, none⟩ = some (.slice aao an acap) := (hb4.cell (p := ⟨g, k * 9 + 6, none⟩) (HR3.out.lt g rfl).2).trans d6
      have f6 : w4.frozen? ⟨g, k * 9 + 4 + 2, none⟩ = false := World.ownsRow.frozenAt hrow4 _
      have st6 := World.ownsRow.stored hrow4 (k * 9 + 6) (.slice a4 an c4)
      rw [flat_set2 (by rw [hfA, HL.out]) (by simp [enCells])] at st6
      have hcells : ((enCells ⟨t, kd, s, q, ck, text, aao, args, acap, num, vao, vs, vcap⟩).set 8 (.slice a2 vn c2)).set 6 (.slice a4 an c4) = enCells ⟨t, kd, s, q, ck, text, a4, args, c4, num, a2, vs, c2⟩ := by
        simp [enCells, HAN.out, HVN.out]
      rw [hcells] at st6
      have e46 : k * 9 + 6 = k * 9 + 4 + 2 := rfl
      rw [e46] at st6
      clear e46
      have hbw5 : Below w.heap.size w (w4.setCell ⟨g, k * 9 + 4 + 2, none⟩ (.slice a4 an c4)) := (hbw3'.trans (hb4.mono hs3)).setCell (p := ⟨g, k * 9 + 4 + 2, none⟩) (hrow4.lt g rfl).1 _
      have hnew : enOwn (w4.setCell ⟨g, k * 9 + 4 + 2, none⟩ (.slice a4 an c4)) w.heap.size ⟨t, kd, s, q, ck, text, a4, args, c4, num, a2, vs, c2⟩ := by
        have h1 := Go.Joins.ownsRow_le (World.ownsRow.kept hown4 st6.2 (own_apart hown4 hrow4 (by decide))) hs3
        have h2 := own_below HO3.out hb4 (Nat.le_refl _)
        have h3 := Go.Joins.ownsRow_le (World.ownsRow.kept h2 st6.2 (own_apart h2 hrow4 (by decide))) hs
        unfold enOwn argV votV
        dsimp only
        rw [HAN.out, HVN.out]
        exact ⟨h1, h3⟩
      have hold : ∀ e ∈ es, enOwn (w4.setCell ⟨g, k * 9 + 4 + 2, none⟩ (.slice a4 an c4)) w.heap.size e := fun e he => by
        have h1 := (HOW3.out e he).below hb4 (Nat.le_refl _)
        exact ⟨World.ownsRow.kept h1.1 st6.2 (own_apart h1.1 hrow4 (by decide)), World.ownsRow.kept h1.2 st6.2 (own_apart h1.2 hrow4 (by decide))⟩
      have hsepn : (es ++ [(⟨t, kd, s, q, ck, text, a4, args, c4, num, a2, vs, c2⟩ : En)]).Pairwise sepE := by
        refine List.pairwise_append.2 ⟨HSP.out, List.pairwise_singleton _ _, fun x hx y hy => ?_⟩
        obtain rfl := List.mem_singleton.1 hy
        unfold sepE argV votV
        dsimp only
        rw [HAN.out, HVN.out]
        constructor
        · cases hxb : (Value.slice x.aao x.args.length x.acap).ownBlock with
          | none => exact Or.inl rfl
          | some b =>
            right
            intro h
            have h1 := ((HOW3.out x hx).1.lt b hxb).2
            have h2 := (hown4.lt b h.symm).1
            omega
        · cases hxb : (Value.slice x.vao x.vs.length x.vcap).ownBlock with
          | none => exact Or.inl rfl
          | some b =>
            right
            intro h
            have h1 := ((HOW.out x hx).2.lt b hxb).2
            have h2 := (HOWN2.out.lt b h.symm).1
            omega
      have HR5 := Lib.hid st6.1
      have HOLD := Lib.hid hold
      have HNEW := Lib.hid hnew
      have HSN := Lib.hid hsepn
      clear st6 hcells hrow4 hown4 hold hnew hsepn d6 hfA
      go_wp2_with fail
      go_roundw
      case rel =>
        refine ⟨k + 1, es ++ [⟨t, kd, s, q, ck, text, a4, args, c4, num, a2, vs, c2⟩], by omega, by go_num, by rw [List.length_append, HL.out]; rfl, ?_, ?_, HSN.out, ?_, hbw5⟩
        · rw [List.map_append, HM.out, HT.out]; rfl
        · intro e he
          rcases List.mem_append.1 he with h | h
          · exact HOLD.out e h
          · rw [List.mem_singleton.1 h]; exact HNEW.out
        · have h1 := HR5.out
          rw [List.append_assoc, List.flatMap_append]
          exact h1
      case measure => simp [intOf]; omega
    · obtain rfl : k = n := by omega
      have hrow := HR.out
      have htk : xs.take k = xs := List.take_of_length_le (by rw [HN.out]; exact Nat.le_refl _)
      have hdk : xs.drop k = [] := List.drop_eq_nil_of_le (by rw [HN.out]; exact Nat.le_refl _)
      have hm := HM.out
      rw [htk] at hm
      rw [hdk, List.append_nil] at hrow
      have HRR := Lib.hid hrow
      have HMM := Lib.hid hm
      clear hrow hm htk hdk
      go_wp2_with fail
      go_ret
      exact ⟨a, c, es, rfl, ⟨by rw [HL.out]; exact HRR.out, HOW.out, HSP.out⟩, HMM.out, hbel⟩
end Go.Proofs.YtnhnabcpkaeaaaaGreatDoor
/- A wal as it lies in memory; its reading methods. Conditions: the wal is one that was made. -/
namespace Go.Proofs.YtnhnabcpkaeaaaaGreatDoor
open Go.RowKit
set_option maxRecDepth 20000
/-- Block sb is what a file says: a term, a vote, a base, its term, entries. -/
structure SayAt (w : World) (B sb : Nat) (term vote base before : Int) (v : Value) (es : List En) : Prop where
  blk : w.heap[sb]? = some (.cells #[.int .i64 term, .int .i64 vote, .int .i64 base, .int .i64 before, v] 80 (0, 0))
  ens : EnsOwn w B v es
  low : B ≤ sb
theorem SayAt.lt {w : World} {B sb : Nat} {term vote base before : Int} {v : Value} {es : List En} (h : SayAt w B sb term vote base before v es) : sb < w.heap.size := (Array.getElem?_eq_some_iff.1 h.blk).1
theorem SayAt.below {w w' : World} {B B' sb : Nat} {term vote base before : Int} {v : Value} {es : List En} (h : SayAt w B sb term vote base before v es) (hb : Below B' w w') (hB : w.heap.size ≤ B') : SayAt w' B sb term vote base before v es :=
  ⟨(hb.block sb (Nat.lt_of_lt_of_le h.lt hB)).trans h.blk, h.ens.below hb hB, h.low⟩
/-- Block wb is a wal: of the sayings of block sb and of the disk of block db. -/
structure WalAt (w : World) (B wb sb db : Nat) (term vote base before : Int) (v : Value) (es : List En) : Prop where
  blk : w.heap[wb]? = some (.cells #[.pointer (some ⟨sb, 0, none⟩), .pointer (some ⟨db, 0, none⟩)] 45 (0, 0))
  say : SayAt w B sb term vote base before v es
theorem wdrewN {B : Nat} {a w : World} (h : Below B a w) (n : Nat) : Below B a (w.drewN n) := ⟨h.os, h.tape, h.output, h.size, h.block⟩
theorem wthere_any (wb sb : Nat) (w : World) (h0 : w.cell? ⟨wb, 0, none⟩ = some (.pointer (some ⟨sb, 0, none⟩))) :
    Calls Tryz.prog 44 #[.pointer (some ⟨wb, 0, none⟩)] w fun e w' => e = .returned (.bool true) ∧ w = w' := by
  go_enter Tryz.func44, Tryz.ntmps44
  go_wp2_with fail
  go_ret
  exact ⟨rfl, rfl⟩
theorem wthere_nil (w : World) :
    Calls Tryz.prog 44 #[.pointer none] w fun e w' => e = .returned (.bool false) ∧ w = w' := by
  go_enter Tryz.func44, Tryz.ntmps44
  go_wp2_with fail
  go_ret
  exact ⟨rfl, rfl⟩
theorem wthere_none (wb : Nat) (w : World) (h0 : w.cell? ⟨wb, 0, none⟩ = some (.pointer none)) :
    Calls Tryz.prog 44 #[.pointer (some ⟨wb, 0, none⟩)] w fun e w' => e = .returned (.bool false) ∧ w = w' := by
  go_enter Tryz.func44, Tryz.ntmps44
  go_wp2_with fail
  go_ret
  exact ⟨rfl, rfl⟩
theorem voted_any (B wb sb db : Nat) (term vote base before : Int) (v : Value) (es : List En) (w : World) (h : WalAt w B wb sb db term vote base before v es) :
    Calls Tryz.prog 14 #[.pointer (some ⟨wb, 0, none⟩)] w fun e w' => e = .returned (.tuple #[.int .i64 term, .int .i64 vote]) ∧ Below w.heap.size w w' := by
  have w0 := Go.Joins.cell_of_block h.blk 0
  have s0 := Go.Joins.cell_of_block h.say.blk 0
  have s1 := Go.Joins.cell_of_block h.say.blk 1
  clear h
  go_enter Tryz.func14, Tryz.ntmps14
  go_wp2_with fail
  refine (wthere_any wb sb w w0).mono ?_
  rintro e w' ⟨rfl, rfl⟩
  go_wp2_with fail
  go_quiet (fail)
  go_wp2_with fail
  go_ret2
  exact ⟨rfl, by first | exact wdrewN (Below.refl _ _) _ | exact Below.drew (Below.refl _ _) | exact Below.refl _ _⟩
theorem wbase_any (B wb sb db : Nat) (term vote base before : Int) (v : Value) (es : List En) (w : World) (h : WalAt w B wb sb db term vote base before v es) :
    Calls Tryz.prog 15 #[.pointer (some ⟨wb, 0, none⟩)] w fun e w' => e = .returned (.tuple #[.int .i64 base, .int .i64 before]) ∧ Below w.heap.size w w' := by
  have w0 := Go.Joins.cell_of_block h.blk 0
  have s2 := Go.Joins.cell_of_block h.say.blk 2
  have s3 := Go.Joins.cell_of_block h.say.blk 3
  clear h
  go_enter Tryz.func15, Tryz.ntmps15
  go_wp2_with fail
  refine (wthere_any wb sb w w0).mono ?_
  rintro e w' ⟨rfl, rfl⟩
  go_wp2_with fail
  go_quiet (fail)
  go_wp2_with fail
  go_ret2
  exact ⟨rfl, by first | exact wdrewN (Below.refl _ _) _ | exact Below.drew (Below.refl _ _) | exact Below.refl _ _⟩
theorem wentries_any (B wb sb db : Nat) (term vote base before : Int) (v : Value) (es : List En) (n : Nat) (w : World) (h : WalAt w B wb sb db term vote base before v es) (hn : es.length = n) (hl : n ≤ 1099511627776) (hsm : ∀ x ∈ es, x.args.length ≤ 1099511627776 ∧ x.vs.length ≤ 1099511627776) :
    Calls Tryz.prog 16 #[.pointer (some ⟨wb, 0, none⟩)] w (CopiedAs es n w) := by
  have w0 := Go.Joins.cell_of_block h.blk 0
  obtain ⟨a, c, hv, h1, h2, h3⟩ := h.say.ens.lie
  have s4 : w.cell? ⟨sb, 4, none⟩ = some (.slice a n c) := by rw [← hn, ← hv]; exact Go.Joins.cell_of_block h.say.blk 4
  have HN := Lib.hid hn
  have HX := Lib.hid h3
  have HA := Lib.hid h2
  have HS := Lib.hid hsm
  have HNIL := Lib.hid (show ∀ x ∈ es, EnNil x from fun x hx => ⟨own_none (h.say.ens.own x hx).1, own_none (h.say.ens.own x hx).2⟩)
  clear h hv h1 h2 h3 hn hsm
  go_enter Tryz.func16, Tryz.ntmps16
  go_wp2_with fail
  refine (wthere_any wb sb w w0).mono ?_
  rintro e w' ⟨rfl, rfl⟩
  go_wp2_with fail
  refine (wcopied_any a n c es w w.heap.size HN.out HX.out (Nat.le_refl _) HA.out hl HS.out HNIL.out).mono ?_
  rintro e w' ⟨a', c', es', rfl, h1, h2, h3⟩
  go_wp2_with fail
  go_ret
  exact ⟨a', c', es', rfl, h1, h2, h3⟩
end Go.Proofs.YtnhnabcpkaeaaaaGreatDoor
/- Small functions of the wal and of its reference. Conditions: as each says. -/
namespace Go.Proofs.YtnhnabcpkaeaaaaGreatDoor
open Go.RowKit
set_option maxRecDepth 20000
theorem wend_any (B sb : Nat) (term vote base before : Int) (v : Value) (es : List En) (n : Nat) (w : World) (h : SayAt w B sb term vote base before v es) (hn : es.length = n) (hl : n ≤ 1099511627776) (hb : 0 ≤ base ∧ base ≤ 1152921504606846976) :
    Calls Tryz.prog 48 #[.pointer (some ⟨sb, 0, none⟩)] w fun e w' => e = .returned (.int .i64 (base + n + 1)) ∧ Below w.heap.size w w' := by
  obtain ⟨a, c, hv, h1, h2, h3⟩ := h.ens.lie
  have s2 := Go.Joins.cell_of_block h.blk 2
  have s4 : w.cell? ⟨sb, 4, none⟩ = some (.slice a n c) := by rw [← hn, ← hv]; exact Go.Joins.cell_of_block h.blk 4
  have w1 : IntKind.i64.wrap (base + n) = base + n := IntWalk.i64_in _ (by omega)
  have w2 : IntKind.i64.wrap (base + n + 1) = base + n + 1 := IntWalk.i64_in _ (by omega)
  clear h hv h1 h2 h3 hn
  go_enter Tryz.func48, Tryz.ntmps48
  go_wp2_with fail
  go_quiet (fail)
  go_wp2_with fail
  go_ret
  exact ⟨rfl, by first | exact wdrewN (Below.refl _ _) _ | exact Below.drew (Below.refl _ _) | exact Below.refl _ _⟩
end Go.Proofs.YtnhnabcpkaeaaaaGreatDoor
/- Two rows of bytes behind each other. Conditions: as each says. -/
namespace Go.Proofs.YtnhnabcpkaeaaaaGreatDoor
open Go.RowKit
set_option maxRecDepth 20000
theorem two_parts {w : World} {g : Nat} {p1 p2 : Pt} (h : w.heap[g]? = some (.cells #[.slice p1.ao p1.data.length p1.cap, .slice p2.ao p2.data.length p2.cap] 22 (0, 0))) (h1 : ptSub w w.heap.size p1) (h2 : ptSub w w.heap.size p2) :
    RowsIn 1 ptCells ptSub w w.heap.size (some ⟨g, 0, none⟩) [p1, p2] := by
  refine Or.inr ⟨g, 0, rfl, (Array.getElem?_eq_some_iff.1 h).1, fun i x hx => ?_⟩
  rcases i with _ | _ | i
  · simp at hx; subst hx
    exact ⟨fun j hj => by obtain rfl : j = 0 := by omega
                          rw [Go.Joins.cell_of_block h]; rfl, h1⟩
  · simp at hx; subst hx
    exact ⟨fun j hj => by obtain rfl : j = 0 := by omega
                          rw [Go.Joins.cell_of_block h]; rfl, h2⟩
  · simp at hx
end Go.Proofs.YtnhnabcpkaeaaaaGreatDoor
/- A frame of two numbers. Conditions: as each says. -/
namespace Go.Proofs.YtnhnabcpkaeaaaaGreatDoor
open Go.RowKit
set_option maxRecDepth 20000
theorem join2_x (g : Nat) (a1 a2 : Option Addr) (n1 n2 c1 c2 : Nat) (l1 l2 L : List Int) (w : World) (hk : w.heap[g]? = some (.cells #[.slice a1 n1 c1, .slice a2 n2 c2] 22 (0, 0)))
    (e1 : l1.length = n1) (e2 : l2.length = n2) (h1 : BytesIn w w.heap.size a1 l1) (h2 : BytesIn w w.heap.size a2 l2) (w1 : BytesWf l1) (w2 : BytesWf l2) (hL : l1 ++ l2 = L) (n : Nat) (hn : L.length = n) (hl : n ≤ 100000000) :
    Calls Tryz.prog 86 #[.slice (some ⟨g, 0, none⟩) 2 2] w fun e w' => ∃ a c, e = .returned (.slice a n c) ∧ BytesIn w' w'.heap.size a L ∧ (a = none → c = 0) ∧ n ≤ c ∧ (∀ ad, a = some ad → w.heap.size ≤ ad.block) ∧ Below w.heap.size w w' := by
  subst e1 e2 hn
  refine (wjoin_any (some ⟨g, 0, none⟩) 2 2 [⟨a1, c1, l1⟩, ⟨a2, c2, l2⟩] L w w.heap.size rfl (by rw [← hL]; simp) (two_parts (p1 := ⟨a1, c1, l1⟩) (p2 := ⟨a2, c2, l2⟩) hk h1 h2) (Nat.le_refl _) (fun p hp => ?_) (Nat.le_refl _) (by omega) (by omega)).mono ?_
  · simp only [List.mem_cons, List.not_mem_nil, or_false] at hp
    rcases hp with rfl | rfl <;> assumption
  · rintro e w' ⟨a, c, rfl, q1, q2, q3, q4, q5⟩
    exact ⟨a, c, rfl, q1, q2, q3, q4, q5⟩
theorem grown_twoW (w : World) (g : Nat) (x y : Value) : w.grownBy ((w.setCell ⟨g, 0, none⟩ x).setCell ⟨g, 1, none⟩ y) (some g) :=
  ⟨rfl, rfl, rfl, by simp, fun k _ hk => (heap_setCell_other _ _ _ _ (fun e => hk (by rw [e]))).trans (heap_setCell_other _ _ _ _ (fun e => hk (by rw [e])))⟩
theorem block_twoW {w : World} {g : Nat} {T : TypeId} {u v : Value} (h : w.heap[g]? = some (.cells #[u, v] T (0, 0))) (x y : Value) : ((w.setCell ⟨g, 0, none⟩ x).setCell ⟨g, 1, none⟩ y).heap[g]? = some (.cells #[x, y] T (0, 0)) :=
  Go.Joins.block_setCell (i := 1) (Go.Joins.block_setCell (i := 0) h x) y
theorem info_frW : (Tryz.prog.info? 83).map (·.size) = some 2 := by kernel_rfl
set_option maxHeartbeats 2000000 in
theorem pair_any (kind x y : Int) (L1 L2 L : List Int) (w : World) (hL1 : numB 8 x = L1) (hL2 : numB 8 y = L2) (hL : L1 ++ L2 = L) :
    Calls Tryz.prog 47 #[.int .i64 kind, .int .i64 x, .int .i64 y] w fun e w' => ∃ a c, e = .returned (.agg #[.int .i64 kind, .slice a 16 c]) ∧ BytesIn w' w'.heap.size a L ∧ (a = none → c = 0) ∧ 16 ≤ c ∧ (∀ ad, a = some ad → w.heap.size ≤ ad.block) ∧ Below w.heap.size w w' := by
  have n1 : L1.length = 8 := by rw [← hL1]; exact numB_len 8 x
  have n2 : L2.length = 8 := by rw [← hL2]; exact numB_len 8 y
  have f1 : BytesWf L1 := by rw [← hL1]; exact numB_wf 8 x
  have f2 : BytesWf L2 := by rw [← hL2]; exact numB_wf 8 y
  have HN1 := Lib.hid n1
  have HN2 := Lib.hid n2
  have HF1 := Lib.hid f1
  have HF2 := Lib.hid f2
  have HL1 := Lib.hid hL1
  have HL2 := Lib.hid hL2
  have HLL := Lib.hid hL
  have hb0 := (Below.refl w.heap.size w).alloc (Nat.le_refl _) (.cells #[.int .i64 0, .slice none 0 0] 83)
  have hk0 := heap_alloc_new w (.cells #[.int .i64 0, .slice none 0 0] 83)
  have hlt0 : w.heap.size < (w.alloc (.cells #[.int .i64 0, .slice none 0 0] 83)).heap.size := by simp
  clear n1 n2 f1 f2 hL1 hL2 hL
  go_enter Tryz.func47, Tryz.ntmps47
  go_upto_region 1 with fail
  generalize w.alloc (.cells #[.int .i64 0, .slice none 0 0] 83) = w0 at hb0 hk0 hlt0 ⊢
  have hz0 := hb0.size
  go_wp2_with fail
  refine (number_w x L1 w0 HL1.out).mono ?_
  rintro e w1 ⟨a1, c1, rfl, ho1, hb1⟩
  have HO1 := Lib.hid ho1
  have hb01 := hb0.trans (hb1.mono hz0)
  have hk1 := (hb1.block _ hlt0).trans hk0
  clear ho1
  rw [HN1.out]
  go_wp2_with fail
  refine (number_w y L2 w1 HL2.out).mono ?_
  rintro e w2 ⟨a2, c2, rfl, ho2, hb2⟩
  have hb02 := hb01.trans (hb2.mono hb01.size)
  have hk2 := (hb2.block _ (Array.getElem?_eq_some_iff.1 hk1).1).trans hk1
  have hx1 : BytesIn w2 w2.heap.size a1 L1 := own_bytes' (own_below HO1.out hb2 (Nat.le_refl _))
  have hx2 : BytesIn w2 w2.heap.size a2 L2 := own_bytes' ho2
  have HX := Lib.hid (And.intro hx1 hx2)
  clear ho2 hx1 hx2 hb1 hb2 hk0 hk1 hb0 hb01 HO1
  rw [HN2.out]
  have hz2 := hb02.size
  have hba := hb02.alloc hz2 (.cells #[.slice a1 8 c1, .slice a2 8 c2] 22)
  have hka := heap_alloc_new w2 (.cells #[.slice a1 8 c1, .slice a2 8 c2] 22)
  have hbn := (Below.refl w2.heap.size w2).alloc (Nat.le_refl _) (.cells #[.slice a1 8 c1, .slice a2 8 c2] 22)
  have hlt2 := (Array.getElem?_eq_some_iff.1 hk2).1
  go_wp2_with fail
  generalize w2.alloc (.cells #[.slice a1 8 c1, .slice a2 8 c2] 22) = wa at hba hka hbn ⊢
  have hk3 := (hbn.block _ hlt2).trans hk2
  have hza := hbn.size
  refine (join2_x w2.heap.size a1 a2 8 8 c1 c2 L1 L2 L wa hka HN1.out HN2.out ((HX.out.1.below hbn (Nat.le_refl _)).mono hza) ((HX.out.2.below hbn (Nat.le_refl _)).mono hza) HF1.out HF2.out HLL.out 16 (by rw [← HLL.out, List.length_append, HN1.out, HN2.out]) (by omega)).mono ?_
  rintro e w3 ⟨a3, c3, rfl, hx3, hn3, hc3, hq3, hb3⟩
  have hk4 := (hb3.block _ (by omega)).trans hk3
  have hbW := hba.trans (hb3.mono hba.size)
  have d0 := Go.Joins.cell_of_block hk4 0
  have d1 := Go.Joins.cell_of_block hk4 1
  have f0 := Go.Joins.unfrozen_of_block hk4 0
  have f1 := Go.Joins.unfrozen_of_block hk4 1
  have hg := grown_twoW w3 w.heap.size (.int .i64 kind) (.slice a3 16 c3)
  have HRES := Lib.hid (block_twoW hk4 (.int .i64 kind) (.slice a3 16 c3))
  go_wp2_with fail
  refine bodyPost_ret (results_cell_row rfl _ _ w.heap.size 83 _ _ _ rfl HRES.out Tryz.underlying83 rfl info_frW) rfl ⟨a3, c3, rfl, ?_, hn3, hc3, (fun ad hq => Nat.le_trans (by omega) (hq3 ad hq)), (hbW.setCell (p := ⟨w.heap.size, 0, none⟩) (Nat.le_refl _) _).setCell (p := ⟨w.heap.size, 1, none⟩) (Nat.le_refl _) _⟩
  rcases hx3 with h | ⟨b, off, e1, hlt, hc⟩
  · exact Or.inl h
  · have hb := hq3 _ e1
    have hlw := hk3
    have hwlt := (Array.getElem?_eq_some_iff.1 hk3).1
    have hne : w.heap.size ≠ b := fun e => by dsimp only at hb; omega
    refine Or.inr ⟨b, off, e1, by have := hg.size; omega, fun i hi => ?_⟩
    exact (World.cell?_setCell_far _ _ _ _ hne).trans ((World.cell?_setCell_far _ _ _ _ hne).trans (hc i hi))
end Go.Proofs.YtnhnabcpkaeaaaaGreatDoor
/- Steps of a region that draws its order, guarded operations and loads included, each taken by its number, in worlds of which something is kept. Any program. Conditions: as each says. -/
namespace Go.Proofs.YtnhnabcpkaeaaaaGreatDoor
open Go.RowKit
variable {P : Program} {md : Region.Mode} {ops : Array Oper} {Q : Exit → Act → World → Prop} {S : World → Prop}
theorem takeS_no (i : Nat) {oi : Oper} {fuel : Nat} {listed : Array Bool} {a : Act} {w : World} (hi : ops.toList[i]? = some oi) (hs : Region.noSelect ops = true) (hf : Region.free md ops listed i = true) (hr : (Region.ready md ops listed).contains i = true)
    (hQ : ∀ c a w, Q (.panic c) (a.put oi.dst undef) w → Q (.panic c) a w) (hw : Region.wanted oi (yielded ops a.tmps) = false) (hS : S w) (h : wpAnyH P md ops Q S fuel (listed.setIfInBounds i true) (a.put oi.dst undef) w) : wpAnyH P md ops Q S (fuel + 1) listed a w :=
  wpAnyH_take (by rw [← Array.getElem?_toList]; exact hi) hs hf hr hQ (Or.inr ⟨hw, rfl⟩) hS h
/-- An operation that yields the same in whatever world of the kind. -/
theorem takeS_yes (i : Nat) {oi : Oper} {v : Value} {fuel : Nat} {listed : Array Bool} {a : Act} {w : World} (hi : ops.toList[i]? = some oi) (hs : Region.noSelect ops = true) (hf : Region.free md ops listed i = true) (hr : (Region.ready md ops listed).contains i = true)
    (hQ : ∀ c a w, Q (.panic c) (a.put oi.dst v) w → Q (.panic c) a w) (hw : Region.wanted oi (yielded ops a.tmps) = true) (hS : S w) (hy : ∀ w, S w → (execOp a.eval oi).run P w = .ok (.value v) w) (h : wpAnyH P md ops Q S fuel (listed.setIfInBounds i true) (a.put oi.dst v) w) : wpAnyH P md ops Q S (fuel + 1) listed a w :=
  wpAnyH_take (by rw [← Array.getElem?_toList]; exact hi) hs hf hr hQ (Or.inl ⟨hw, hy⟩) hS h
/-- An operation that alone may come up. -/
theorem takeS_alone (i : Nat) {oi : Oper} {fuel : Nat} {listed : Array Bool} {a : Act} {w : World} (hi : ops.toList[i]? = some oi) (hr : Region.ready md ops listed = [i]) (hw : Region.wanted oi (yielded ops a.tmps) = true)
    (h : ∀ K' : Act → World → Prop, Shut (∀ a w, S w → wpAnyH P md ops Q S fuel (listed.setIfInBounds i true) a w → K' a w) → Oper.wp P oi a w K' Q) : wpAnyH P md ops Q S (fuel + 1) listed a w :=
  wpAnyH_ready (rs := [i]) hr (by simp) (AllReadyH.cons (by rw [← Array.getElem?_toList]; exact hi) (fun K hK => by rw [if_pos hw]; exact h K (fun a w hS hW => hK.out a w hS (fun _ => hW))) AllReadyH.nil)
theorem heldS_begin {id : Nat} {a : Act} {w : World} (S : World → Prop) (hm : P.follows .mixedOrders = true) (hS : S w.drew) (h : S w.drew → wpAnyH P .any ops Q S ops.size (Array.replicate ops.size false) a w.drew) : (Code.region id ops true).wp P Q a w :=
  wp_region_held_drew hm hS h
end Go.Proofs.YtnhnabcpkaeaaaaGreatDoor
