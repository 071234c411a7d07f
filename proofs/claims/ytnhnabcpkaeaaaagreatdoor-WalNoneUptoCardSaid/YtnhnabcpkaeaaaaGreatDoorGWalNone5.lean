/- What the reader of wire tells of rows and structs: plain definitions and laws; a reader where other blocks grow. Conditions: as each says. -/
import Derived.Test.YtnhnabcpkaeaaaaGreatDoorGWalNone4
import Derived.Test.YtnhnabcpkaeaaaaGreatDoorGWalNone2
import Derived.Test.YtnhnabcpkaeaaaaGreatDoorGWalNone1
set_option linter.unusedVariables false
set_option linter.unusedSimpArgs false
namespace Go.Proofs.YtnhnabcpkaeaaaaGreatDoor
open Go.RowKit
set_option maxRecDepth 20000
/-- So many things, one behind the other, as long as nothing is bad. -/
def rowS {α : Type} (one : Bool → List Int → α × Bool × List Int) : Nat → Bool → List Int → List α × Bool × List Int
  | 0, bad, left => ([], bad, left)
  | n + 1, bad, left => if bad = true then ([], bad, left) else ((one bad left).1 :: (rowS one n (one bad left).2.1 (one bad left).2.2).1, (rowS one n (one bad left).2.1 (one bad left).2.2).2)
/-- A count, and so many things. -/
def rowsS {α : Type} (one : Bool → List Int → α × Bool × List Int) (bad : Bool) (left : List Int) : List α × Bool × List Int :=
  let c := countS bad left
  let r := rowS one c.1.toNat c.2.1 c.2.2
  (if r.2.1 = true then [] else r.1, r.2)
/-- What is left are bytes, and not more. -/
def Shrinks {α : Type} (one : Bool → List Int → α × Bool × List Int) : Prop := ∀ b l, BytesWf l → BytesWf (one b l).2.2 ∧ (one b l).2.2.length ≤ l.length
theorem rowS_bad {α : Type} (one : Bool → List Int → α × Bool × List Int) (n : Nat) (l : List Int) : rowS one n true l = ([], true, l) := by cases n <;> simp [rowS]
theorem rowS_shrinks {α : Type} {one : Bool → List Int → α × Bool × List Int} (h : Shrinks one) : ∀ n, Shrinks (rowS one n) := by
  intro n
  induction n with
  | zero => intro b l hl; exact ⟨hl, Nat.le_refl _⟩
  | succ n ih =>
    intro b l hl
    unfold rowS
    split
    · exact ⟨hl, Nat.le_refl _⟩
    · have h1 := h b l hl
      have h2 := ih (one b l).2.1 (one b l).2.2 h1.1
      exact ⟨h2.1, Nat.le_trans h2.2 h1.2⟩
theorem countS_shrinks : Shrinks countS := fun _ _ h => ⟨(countS_wf h).2.2.1, (countS_wf h).2.2.2⟩
theorem takeS_shrinks (n : Nat) : Shrinks (takeS n) := fun _ _ h => ⟨(takeS_wf h).2.1, (takeS_wf h).2.2.2⟩
theorem rowsS_shrinks {α : Type} {one : Bool → List Int → α × Bool × List Int} (h : Shrinks one) : Shrinks (rowsS one) := fun b l hl =>
  have h1 := countS_shrinks b l hl
  have h2 := rowS_shrinks h (countS b l).1.toNat (countS b l).2.1 (countS b l).2.2 h1.1
  ⟨h2.1, Nat.le_trans h2.2 h1.2⟩
theorem textS_shrinks : Shrinks textS := fun b l hl =>
  have h1 := countS_shrinks b l hl
  have h2 := takeS_shrinks (countS b l).1.toNat (countS b l).2.1 (countS b l).2.2 h1.1
  ⟨h2.1, Nat.le_trans h2.2 h1.2⟩
theorem valueS_shrinks : Shrinks valueS := by
  intro b l hl
  have h1 := takeS_shrinks 1 b l hl
  unfold valueS
  dsimp only
  split
  · have h2 := takeS_shrinks 8 (takeS 1 b l).2.1 (takeS 1 b l).2.2 h1.1
    exact ⟨h2.1, Nat.le_trans h2.2 h1.2⟩
  · split
    · have h2 := textS_shrinks (takeS 1 b l).2.1 (takeS 1 b l).2.2 h1.1
      exact ⟨h2.1, Nat.le_trans h2.2 h1.2⟩
    · exact h1
def valuesS := rowsS valueS
/-- A number. -/
def numS (b : Bool) (l : List Int) : Int × Bool × List Int := (IntKind.i64.wrap (getN (takeS 8 b l).1), (takeS 8 b l).2)
theorem numS_shrinks : Shrinks numS := fun b l hl => takeS_shrinks 8 b l hl
/-- A kind. -/
def kindS (b : Bool) (l : List Int) : Int × Bool × List Int := (getN (takeS 1 b l).1, (takeS 1 b l).2)
theorem kindS_shrinks : Shrinks kindS := fun b l hl => takeS_shrinks 1 b l hl
def intsS := rowsS numS
structure CmP where
  kind : Int
  text : ByteArray
  args : List Va
  num : Int
def commandS (b : Bool) (l : List Int) : CmP × Bool × List Int :=
  let k := kindS b l
  let t := textS k.2.1 k.2.2
  let n := numS t.2.1 t.2.2
  let v := valuesS n.2.1 n.2.2
  (if v.2.1 = true then ⟨0, ByteArray.empty, [], 0⟩ else ⟨k.1, t.1, v.1, n.1⟩, v.2)
def entryS (b : Bool) (l : List Int) : EnP × Bool × List Int :=
  let t := numS b l
  let k := kindS t.2.1 t.2.2
  let s := numS k.2.1 k.2.2
  let q := numS s.2.1 s.2.2
  let c := commandS q.2.1 q.2.2
  let v := intsS c.2.1 c.2.2
  (if v.2.1 = true then ⟨0, 0, 0, 0, 0, ByteArray.empty, [], 0, []⟩ else ⟨t.1, k.1, s.1, q.1, c.1.kind, c.1.text, c.1.args, c.1.num, v.1⟩, v.2)
theorem commandS_shrinks : Shrinks commandS := fun b l hl =>
  have h1 := kindS_shrinks b l hl
  have h2 := textS_shrinks _ _ h1.1
  have h3 := numS_shrinks _ _ h2.1
  have h4 := rowsS_shrinks valueS_shrinks _ _ h3.1
  ⟨h4.1, Nat.le_trans h4.2 (Nat.le_trans h3.2 (Nat.le_trans h2.2 h1.2))⟩
/-- A row of a call's own stays where a reader reads. -/
theorem own_only {w w' : World} {rb base e size n : Nat} {v : Value} {xs : List Value} (h : w.ownsRow base e size v n xs) (ho : Only rb w w') (hr : v.ownBlock ≠ some rb) : w'.ownsRow base e size v n xs := by
  refine ⟨h.1, ?_⟩
  rcases h.2 with hn | ⟨g, cap, cur, rfl, h1, h2, h3⟩
  · exact Or.inl hn
  · refine Or.inr ⟨g, cap, cur, rfl, h1, ?_, h3⟩
    rw [ho.2 g (Array.getElem?_eq_some_iff.1 h2).1 (by rintro rfl; exact hr rfl)]
    exact h2
/-- A reader stays where another block grows. -/
theorem Rdr.grown {w w' : World} {M rb : Nat} {bad : Bool} {left : List Int} {row : Option Nat} (h : Rdr w M rb bad left) (hg : w.grownBy w' row) (hr : ∀ g, row = some g → M ≤ g ∧ g ≠ rb) : Rdr w' M rb bad left := by
  obtain ⟨a, c, h⟩ := h
  refine ⟨a, c, (hg.block rb h.lt (fun e => (hr rb e.symm).2 rfl)).trans h.blk, ?_, h.cap, h.nil, Nat.le_trans h.le hg.size⟩
  rcases h.off with h0 | ⟨b, off, h1, h2, h4, h3⟩
  · exact Or.inl h0
  · exact Or.inr ⟨b, off, h1, h2, h4, fun j hj => (cell_block (hg.block b (by have := h.le; omega) (fun e => by have := (hr b e.symm).1; omega))).trans (h3 j hj)⟩
theorem Only.grown {rb : Nat} {w w1 w2 : World} {row : Option Nat} (h : Only rb w w1) (hg : w1.grownBy w2 row) (hr : ∀ g, row = some g → w.heap.size ≤ g) : Only rb w w2 :=
  ⟨Nat.le_trans h.1 hg.size, fun b hb hn => (hg.block b (Nat.lt_of_lt_of_le hb h.1) (fun e => by have := hr b e.symm; omega)).trans (h.2 b hb hn), hg.os.trans h.3.1, hg.tape.trans h.3.2.1, hg.output.trans h.3.2.2⟩
theorem whole_rd (M rb : Nat) (bad : Bool) (left : List Int) (w : World) (h : Rdr w M rb bad left) (hw : BytesWf left) (hl : left.length ≤ 140737488351232) :
    Calls Tryz.prog 99 #[.pointer (some ⟨rb, 0, none⟩)] w (SaidAt M rb (numS bad left).1 (numS bad left).2.1 (numS bad left).2.2 w) := by
  have HS := Lib.hid (said_any M rb 8 bad left w h hw hl (by omega))
  clear h
  show Calls _ _ _ _ (SaidAt M rb (IntKind.i64.wrap (getN (takeS 8 bad left).1)) (takeS 8 bad left).2.1 (takeS 8 bad left).2.2 w)
  generalize IntKind.i64.wrap (getN (takeS 8 bad left).1) = V at HS ⊢
  generalize (takeS 8 bad left).2 = T at HS ⊢
  go_enter Tryz.func99, Tryz.ntmps99
  go_wp2_with fail
  refine HS.out.mono ?_
  rintro e w1 ⟨rfl, hr, ho⟩
  have HR := Lib.hid hr
  clear hr
  go_wp2_with fail
  go_ret
  exact ⟨rfl, HR.out, ho⟩
/- Rows of values that the reader of wire reads. Conditions: the reader is one that was made. -/
theorem sureRV_rd (M rb : Nat) (bad : Bool) (left : List Int) (a : Option Addr) (n c : Nat) (w : World) (h : Rdr w M rb bad left) :
    Calls Tryz.prog 150 #[.pointer (some ⟨rb, 0, none⟩), .slice a n c] w fun e w' => e = .returned (if bad = true then .slice none 0 0 else .slice a n c) ∧ w = w' := by
  obtain ⟨_, _, _, d1, _, _⟩ := h.cells
  clear h
  cases bad with
  | true =>
    go_enter Tryz.func150, Tryz.ntmps150
    go_wp2_with fail
    go_ret
    exact ⟨rfl, rfl⟩
  | false =>
    go_enter Tryz.func150, Tryz.ntmps150
    go_wp2_with fail
    go_ret
    exact ⟨rfl, rfl⟩
/-- What a row of values that is read is. -/
def GotV (M rb : Nat) (r : List Va × Bool × List Int) (w : World) (e : Ending) (w' : World) : Prop :=
  ∃ a n c, r.1.length = n ∧ e = .returned (.slice a n c) ∧ w'.ownsRow w.heap.size 132 3 (.slice a n c) n (r.1.flatMap vaCells) ∧ Rdr w' M rb r.2.1 r.2.2 ∧ Only rb w w'
set_option maxHeartbeats 4000000 in
theorem rowV_rd (M rb : Nat) (bad : Bool) (left : List Int) (w : World) (h : Rdr w M rb bad left) (hw : BytesWf left) (hl : left.length ≤ 140737488351232) :
    Calls Tryz.prog 141 #[.pointer (some ⟨rb, 0, none⟩), .func (.func 142) #[.pointer (some ⟨rb, 0, none⟩)] #[]] w (GotV M rb (rowsS valueS bad left) w) := by
  have hM : M ≤ w.heap.size := by obtain ⟨a, c, h⟩ := h; exact h.le
  have hrb := h.lt
  have hcw := countS_wf (bad := bad) hw
  have HC := Lib.hid (count_rd M rb bad left w h hw hl)
  unfold rowsS
  dsimp only
  obtain ⟨⟨n0, b0, l0⟩, hc⟩ : ∃ r, countS bad left = r := ⟨_, rfl⟩
  rw [hc] at HC hcw ⊢
  dsimp only at HC hcw ⊢
  obtain ⟨N, rfl⟩ : ∃ N : Nat, n0 = N := ⟨n0.toNat, by omega⟩
  have hN : N ≤ 65536 := by omega
  rw [Int.toNat_natCast]
  obtain ⟨⟨tot, b9, l9⟩, hr⟩ : ∃ r, rowS valueS N b0 l0 = r := ⟨_, rfl⟩
  rw [hr]
  have HRW := Lib.hid hr
  have HCW := Lib.hid hcw
  have hll0 : l0.length ≤ 140737488351232 := by have := hcw.2.2.2; omega
  clear h hc hr hcw
  obtain ⟨R, hQ⟩ : ∃ R, ((if b9 = true then [] else tot, b9, l9) : List Va × Bool × List Int) = R := ⟨_, rfl⟩
  rw [hQ]
  have HQP := Lib.hid hQ
  clear hQ
  go_enter Tryz.func141, Tryz.ntmps141
  go_wp2_with fail
  refine HC.out.mono ?_
  rintro e w0 ⟨rfl, hr0, ho0⟩
  have R0 := Lib.hid hr0
  have O0 := Lib.hid ho0
  clear hr0 ho0 HC
  go_wp2_with fail
  go_loopw [5, 6] (fun v i wr => ∃ (m : Nat) (acc : List Va) (b : Bool) (l : List Int), i = .int .i64 m ∧ (acc ++ (rowS valueS m b l).1, (rowS valueS m b l).2) = (tot, b9, l9) ∧ acc.length + m ≤ 65536 ∧ wr.ownsRow w.heap.size 132 3 v acc.length (acc.flatMap vaCells) ∧ Rdr wr M rb b l ∧ Only rb w wr ∧ BytesWf l ∧ l.length ≤ 140737488351232) (fun _ i _ => (intOf i).toNat)
  case atStart => exact ⟨N, [], b0, l0, rfl, by rw [HRW.out]; rfl, by simpa using hN, World.ownsRow_nil _ _ _ _, R0.out, O0.out, HCW.out.2.2.1, hll0⟩
  case round =>
    clear R0 O0 HCW HRW
    obtain ⟨m, acc, b, l, rfl, heq, hlen, hown, hR, hO, hwf, hll⟩ := hrel
    have HE := Lib.hid heq
    have HOW := Lib.hid hown
    have HR := Lib.hid hR
    have HO := Lib.hid hO
    have HWF := Lib.hid hwf
    obtain ⟨_, _, _, d1, _, _⟩ := hR.cells
    clear heq hown hR hO hwf
    by_cases hend : b = true ∨ m = 0
    · obtain ⟨a, c, hv⟩ := row_slice HOW.out
      subst hv
      have hfin : acc = tot ∧ b = b9 ∧ l = l9 := by
        have h1 := HE.out
        rcases hend with h0 | h0
        · subst h0
          rw [rowS_bad] at h1
          simpa using h1
        · subst h0
          simpa [rowS] using h1
      obtain ⟨rfl, rfl, rfl⟩ := hfin
      obtain ⟨q, hq⟩ : ∃ q, acc.length = q := ⟨_, rfl⟩
      rw [hq] at hlen HOW ⊢
      have HQ := Lib.hid hq
      have hend2 : b = true ∨ (b = false ∧ m = 0) := by
        cases b with
        | true => exact Or.inl rfl
        | false => exact Or.inr ⟨rfl, hend.resolve_left (by simp)⟩
      clear hend hq HE
      rcases hend2 with rfl | ⟨rfl, rfl⟩
      · by_cases hm0 : m = 0
        · subst hm0
          go_wp2_with fail
          refine (sureRV_rd M rb true l a q c wr HR.out).mono ?_
          rintro e w' ⟨he, rfl⟩
          rw [if_pos rfl] at he
          subst he
          go_wp2_with fail
          go_ret
          rw [← HQP.out]
          exact ⟨none, 0, 0, rfl, rfl, World.ownsRow_nil _ _ _ _, HR.out, HO.out⟩
        · obtain ⟨m2, rfl⟩ : ∃ m2, m = m2 + 1 := ⟨m - 1, by omega⟩
          have j1 : (0 : Int) < (m2 : Int) + 1 := by omega
          clear hm0
          go_wp2_with fail
          refine (sureRV_rd M rb true l a q c wr HR.out).mono ?_
          rintro e w' ⟨he, rfl⟩
          rw [if_pos rfl] at he
          subst he
          go_wp2_with fail
          go_ret
          rw [← HQP.out]
          exact ⟨none, 0, 0, rfl, rfl, World.ownsRow_nil _ _ _ _, HR.out, HO.out⟩
      · go_wp2_with fail
        refine (sureRV_rd M rb false l a q c wr HR.out).mono ?_
        rintro e w' ⟨he, rfl⟩
        rw [if_neg (by simp)] at he
        subst he
        go_wp2_with fail
        go_ret
        rw [← HQP.out]
        exact ⟨a, q, c, HQ.out, rfl, HOW.out, HR.out, HO.out⟩
    · obtain ⟨rfl, m', rfl⟩ : b = false ∧ ∃ m', m = m' + 1 := by
        refine ⟨by cases b with
          | true => exact absurd (Or.inl rfl) hend
          | false => rfl, m - 1, by omega⟩
      have j1 : (0 : Int) < (m' : Int) + 1 := by omega
      clear hend
      have hone := value_rd M rb false l wr HR.out HWF.out hll
      have hsh := valueS_shrinks false l HWF.out
      have HE2 := HE.out
      rw [rowS, if_neg (by simp)] at HE2
      generalize valueS false l = r at hone hsh HE2
      obtain ⟨x, b1, l1⟩ := r
      dsimp only at hone hsh HE2
      have H2 := Lib.hid HE2
      have HSH := Lib.hid hsh
      have HONE := Lib.hid hone
      have hsz := HO.out.1
      clear HE2 hsh hone HE
      go_wp2_with fail
      refine HONE.out.mono ?_
      rintro e w1 ⟨he, hr1, ho1⟩
      unfold Va.val at he
      subst he
      have hne : ∀ g, (Value.ownBlock _) = some g → w.heap.size ≤ g := fun g hg => (HOW.out.lt g hg).1
      have HOW1 := Lib.hid (own_only HOW.out ho1 (fun e => by have := hne _ e; omega))
      have R1 := Lib.hid hr1
      have O1 := Lib.hid (HO.out.trans ho1)
      have hsz1 := (HO.out.trans ho1).1
      clear hr1 ho1 HONE d1 HR HO HOW
      go_wp2_with (at_builtin; refine wpList_append_rows (sub := noSub) Tryz.underlying55 infoVa rfl (by decide) vaCells_len vaCells_one rfl (.tmp 23) (.tmp 26) rfl w.heap.size _ acc.length (acc.flatMap vaCells) rfl (HOW1.out.alloc _) (some ⟨w1.heap.size, 0, none⟩) 1 1 [x] rfl rfl (w1.heap.size + 1) (rowsIn_block vaCells_len _ _ (heap_alloc_new w1 _) rfl (by omega) (fun _ _ => trivial)) (by simp) (by unfold maxLen; omega) (by omega) (by simp; omega) ?_)
      intro v2 w2 h2 hg2 _
      have hA := (Below.refl w1.heap.size w1).alloc (Nat.le_refl _) (.cells #[.int .u8 x.kind, .int .i64 x.num, .string x.text] 132)
      have R2 := Lib.hid ((R1.out.below hA).grown hg2 (fun g hg => by have := hne g hg; omega))
      have O2 := Lib.hid ((O1.out.alloc (.cells #[.int .u8 x.kind, .int .i64 x.num, .string x.text] 132)).grown hg2 hne)
      have H3 := Lib.hid h2
      clear hA h2 hg2 HOW1 R1 O1 hne
      go_wp2_with fail
      go_roundw
      case rel => exact ⟨m', acc ++ [x], b1, l1, by go_num, by rw [List.append_assoc]; exact H2.out, by simp; omega, by rw [List.length_append, List.flatMap_append]; exact H3.out, R2.out, O2.out, HSH.out.1, Nat.le_trans HSH.out.2 hll⟩
      case measure => simp [intOf]
/- Rows of ints that the reader of wire reads. Conditions: the reader is one that was made. -/
theorem sureRI_rd (M rb : Nat) (bad : Bool) (left : List Int) (a : Option Addr) (n c : Nat) (w : World) (h : Rdr w M rb bad left) :
    Calls Tryz.prog 128 #[.pointer (some ⟨rb, 0, none⟩), .slice a n c] w fun e w' => e = .returned (if bad = true then .slice none 0 0 else .slice a n c) ∧ w = w' := by
  obtain ⟨_, _, _, d1, _, _⟩ := h.cells
  clear h
  cases bad with
  | true =>
    go_enter Tryz.func128, Tryz.ntmps128
    go_wp2_with fail
    go_ret
    exact ⟨rfl, rfl⟩
  | false =>
    go_enter Tryz.func128, Tryz.ntmps128
    go_wp2_with fail
    go_ret
    exact ⟨rfl, rfl⟩
/-- What a row of ints that is read is. -/
def GotI (M rb : Nat) (r : List Int × Bool × List Int) (w : World) (e : Ending) (w' : World) : Prop :=
  ∃ a n c, r.1.length = n ∧ e = .returned (.slice a n c) ∧ w'.ownsRow w.heap.size 3 1 (.slice a n c) n (r.1.flatMap iCells) ∧ Rdr w' M rb r.2.1 r.2.2 ∧ Only rb w w'
set_option maxHeartbeats 4000000 in
theorem rowI_rd (M rb : Nat) (bad : Bool) (left : List Int) (w : World) (h : Rdr w M rb bad left) (hw : BytesWf left) (hl : left.length ≤ 140737488351232) :
    Calls Tryz.prog 102 #[.pointer (some ⟨rb, 0, none⟩), .func (.func 99) #[.pointer (some ⟨rb, 0, none⟩)] #[]] w (GotI M rb (rowsS numS bad left) w) := by
  have hM : M ≤ w.heap.size := by obtain ⟨a, c, h⟩ := h; exact h.le
  have hrb := h.lt
  have hcw := countS_wf (bad := bad) hw
  have HC := Lib.hid (count_rd M rb bad left w h hw hl)
  unfold rowsS
  dsimp only
  obtain ⟨⟨n0, b0, l0⟩, hc⟩ : ∃ r, countS bad left = r := ⟨_, rfl⟩
  rw [hc] at HC hcw ⊢
  dsimp only at HC hcw ⊢
  obtain ⟨N, rfl⟩ : ∃ N : Nat, n0 = N := ⟨n0.toNat, by omega⟩
  have hN : N ≤ 65536 := by omega
  rw [Int.toNat_natCast]
  obtain ⟨⟨tot, b9, l9⟩, hr⟩ : ∃ r, rowS numS N b0 l0 = r := ⟨_, rfl⟩
  rw [hr]
  have HRW := Lib.hid hr
  have HCW := Lib.hid hcw
  have hll0 : l0.length ≤ 140737488351232 := by have := hcw.2.2.2; omega
  clear h hc hr hcw
  obtain ⟨R, hQ⟩ : ∃ R, ((if b9 = true then [] else tot, b9, l9) : List Int × Bool × List Int) = R := ⟨_, rfl⟩
  rw [hQ]
  have HQP := Lib.hid hQ
  clear hQ
  go_enter Tryz.func102, Tryz.ntmps102
  go_wp2_with fail
  refine HC.out.mono ?_
  rintro e w0 ⟨rfl, hr0, ho0⟩
  have R0 := Lib.hid hr0
  have O0 := Lib.hid ho0
  clear hr0 ho0 HC
  go_wp2_with fail
  go_loopw [5, 6] (fun v i wr => ∃ (m : Nat) (acc : List Int) (b : Bool) (l : List Int), i = .int .i64 m ∧ (acc ++ (rowS numS m b l).1, (rowS numS m b l).2) = (tot, b9, l9) ∧ acc.length + m ≤ 65536 ∧ wr.ownsRow w.heap.size 3 1 v acc.length (acc.flatMap iCells) ∧ Rdr wr M rb b l ∧ Only rb w wr ∧ BytesWf l ∧ l.length ≤ 140737488351232) (fun _ i _ => (intOf i).toNat)
  case atStart => exact ⟨N, [], b0, l0, rfl, by rw [HRW.out]; rfl, by simpa using hN, World.ownsRow_nil _ _ _ _, R0.out, O0.out, HCW.out.2.2.1, hll0⟩
  case round =>
    clear R0 O0 HCW HRW
    obtain ⟨m, acc, b, l, rfl, heq, hlen, hown, hR, hO, hwf, hll⟩ := hrel
    have HE := Lib.hid heq
    have HOW := Lib.hid hown
    have HR := Lib.hid hR
    have HO := Lib.hid hO
    have HWF := Lib.hid hwf
    obtain ⟨_, _, _, d1, _, _⟩ := hR.cells
    clear heq hown hR hO hwf
    by_cases hend : b = true ∨ m = 0
    · obtain ⟨a, c, hv⟩ := row_slice HOW.out
      subst hv
      have hfin : acc = tot ∧ b = b9 ∧ l = l9 := by
        have h1 := HE.out
        rcases hend with h0 | h0
        · subst h0
          rw [rowS_bad] at h1
          simpa using h1
        · subst h0
          simpa [rowS] using h1
      obtain ⟨rfl, rfl, rfl⟩ := hfin
      obtain ⟨q, hq⟩ : ∃ q, acc.length = q := ⟨_, rfl⟩
      rw [hq] at hlen HOW ⊢
      have HQ := Lib.hid hq
      have hend2 : b = true ∨ (b = false ∧ m = 0) := by
        cases b with
        | true => exact Or.inl rfl
        | false => exact Or.inr ⟨rfl, hend.resolve_left (by simp)⟩
      clear hend hq HE
      rcases hend2 with rfl | ⟨rfl, rfl⟩
      · by_cases hm0 : m = 0
        · subst hm0
          go_wp2_with fail
          refine (sureRI_rd M rb true l a q c wr HR.out).mono ?_
          rintro e w' ⟨he, rfl⟩
          rw [if_pos rfl] at he
          subst he
          go_wp2_with fail
          go_ret
          rw [← HQP.out]
          exact ⟨none, 0, 0, rfl, rfl, World.ownsRow_nil _ _ _ _, HR.out, HO.out⟩
        · obtain ⟨m2, rfl⟩ : ∃ m2, m = m2 + 1 := ⟨m - 1, by omega⟩
          have j1 : (0 : Int) < (m2 : Int) + 1 := by omega
          clear hm0
          go_wp2_with fail
          refine (sureRI_rd M rb true l a q c wr HR.out).mono ?_
          rintro e w' ⟨he, rfl⟩
          rw [if_pos rfl] at he
          subst he
          go_wp2_with fail
          go_ret
          rw [← HQP.out]
          exact ⟨none, 0, 0, rfl, rfl, World.ownsRow_nil _ _ _ _, HR.out, HO.out⟩
      · go_wp2_with fail
        refine (sureRI_rd M rb false l a q c wr HR.out).mono ?_
        rintro e w' ⟨he, rfl⟩
        rw [if_neg (by simp)] at he
        subst he
        go_wp2_with fail
        go_ret
        rw [← HQP.out]
        exact ⟨a, q, c, HQ.out, rfl, HOW.out, HR.out, HO.out⟩
    · obtain ⟨rfl, m', rfl⟩ : b = false ∧ ∃ m', m = m' + 1 := by
        refine ⟨by cases b with
          | true => exact absurd (Or.inl rfl) hend
          | false => rfl, m - 1, by omega⟩
      have j1 : (0 : Int) < (m' : Int) + 1 := by omega
      clear hend
      have hone := whole_rd M rb false l wr HR.out HWF.out hll
      have hsh := numS_shrinks false l HWF.out
      have HE2 := HE.out
      rw [rowS, if_neg (by simp)] at HE2
      generalize numS false l = r at hone hsh HE2
      obtain ⟨x, b1, l1⟩ := r
      dsimp only at hone hsh HE2
      have H2 := Lib.hid HE2
      have HSH := Lib.hid hsh
      have HONE := Lib.hid hone
      have hsz := HO.out.1
      clear HE2 hsh hone HE
      go_wp2_with fail
      refine HONE.out.mono ?_
      rintro e w1 ⟨he, hr1, ho1⟩
      skip
      subst he
      have hne : ∀ g, (Value.ownBlock _) = some g → w.heap.size ≤ g := fun g hg => (HOW.out.lt g hg).1
      have HOW1 := Lib.hid (own_only HOW.out ho1 (fun e => by have := hne _ e; omega))
      have R1 := Lib.hid hr1
      have O1 := Lib.hid (HO.out.trans ho1)
      have hsz1 := (HO.out.trans ho1).1
      clear hr1 ho1 HONE d1 HR HO HOW
      go_wp2_with (at_builtin; refine wpList_append_rows (sub := noSub) Tryz.underlying58 infoI rfl (by decide) iCells_len iCells_one rfl (.tmp 23) (.tmp 26) rfl w.heap.size _ acc.length (acc.flatMap iCells) rfl (HOW1.out.alloc _) (some ⟨w1.heap.size, 0, none⟩) 1 1 [x] rfl rfl (w1.heap.size + 1) (rowsIn_block iCells_len _ _ (heap_alloc_new w1 _) rfl (by omega) (fun _ _ => trivial)) (by simp) (by unfold maxLen; omega) (by omega) (by simp; omega) ?_)
      intro v2 w2 h2 hg2 _
      have hA := (Below.refl w1.heap.size w1).alloc (Nat.le_refl _) (.cells #[.int .i64 x] 3)
      have R2 := Lib.hid ((R1.out.below hA).grown hg2 (fun g hg => by have := hne g hg; omega))
      have O2 := Lib.hid ((O1.out.alloc (.cells #[.int .i64 x] 3)).grown hg2 hne)
      have H3 := Lib.hid h2
      clear hA h2 hg2 HOW1 R1 O1 hne
      go_wp2_with fail
      go_roundw
      case rel => exact ⟨m', acc ++ [x], b1, l1, by go_num, by rw [List.append_assoc]; exact H2.out, by simp; omega, by rw [List.length_append, List.flatMap_append]; exact H3.out, R2.out, O2.out, HSH.out.1, Nat.le_trans HSH.out.2 hll⟩
      case measure => simp [intOf]
/- The reader of wire: what is told under names; Values; commands, facts of a call's own. Conditions: the reader is one that was made. -/
theorem valuesS_shrinks : Shrinks valuesS := rowsS_shrinks valueS_shrinks
theorem intsS_shrinks : Shrinks intsS := rowsS_shrinks numS_shrinks
/-- A command: its kind, text, arguments, number. -/
structure Cm where
  kind : Int
  text : ByteArray
  ao : Option Addr
  args : List Va
  cap : Nat
  num : Int
def Cm.plain (c : Cm) : CmP := ⟨c.kind, c.text, c.args, c.num⟩
def cmVal (c : Cm) : Value := .agg #[.int .u8 c.kind, .string c.text, .slice c.ao c.args.length c.cap, .int .i64 c.num]
theorem own_only' {w w' : World} {r base e size n : Nat} {v : Value} {xs : List Value} (h : w.ownsRow base e size v n xs) (ho : Only r w w') (hr : r < base) : w'.ownsRow base e size v n xs := own_only h ho (fun e => by have := (h.lt r e).1; omega)
/-- Values of a call's own. -/
def VasOwn (w : World) (base : Nat) (a : Option Addr) (n c : Nat) (xs : List Va) : Prop := w.ownsRow base 132 3 (.slice a n c) n (xs.flatMap vaCells)
theorem VasOwn.only {w w' : World} {r base n c : Nat} {a : Option Addr} {xs : List Va} (h : VasOwn w base a n c xs) (ho : Only r w w') (hr : r < base) : VasOwn w' base a n c xs := own_only' h ho hr
theorem VasOwn.below {w w' : World} {base n c B : Nat} {a : Option Addr} {xs : List Va} (h : VasOwn w base a n c xs) (hb : Below B w w') (hB : w.heap.size ≤ B) : VasOwn w' base a n c xs := own_below h hb hB
theorem VasOwn.le {w : World} {base base' n c : Nat} {a : Option Addr} {xs : List Va} (h : VasOwn w base a n c xs) (hB : base' ≤ base) : VasOwn w base' a n c xs := Go.Joins.ownsRow_le h hB
theorem VasOwn.nil (w : World) (base : Nat) : VasOwn w base none 0 0 [] := World.ownsRow_nil _ _ _ _
def IntsOwn (w : World) (base : Nat) (a : Option Addr) (n c : Nat) (xs : List Int) : Prop := w.ownsRow base 3 1 (.slice a n c) n (xs.flatMap iCells)
theorem IntsOwn.only {w w' : World} {r base n c : Nat} {a : Option Addr} {xs : List Int} (h : IntsOwn w base a n c xs) (ho : Only r w w') (hr : r < base) : IntsOwn w' base a n c xs := own_only' h ho hr
theorem IntsOwn.below {w w' : World} {base n c B : Nat} {a : Option Addr} {xs : List Int} (h : IntsOwn w base a n c xs) (hb : Below B w w') (hB : w.heap.size ≤ B) : IntsOwn w' base a n c xs := own_below h hb hB
theorem IntsOwn.le {w : World} {base base' n c : Nat} {a : Option Addr} {xs : List Int} (h : IntsOwn w base a n c xs) (hB : base' ≤ base) : IntsOwn w base' a n c xs := Go.Joins.ownsRow_le h hB
theorem IntsOwn.nil (w : World) (base : Nat) : IntsOwn w base none 0 0 [] := World.ownsRow_nil _ _ _ _
/-- What a simple reader tells: a value, and the reader behind it. -/
def ToldAt (M rb : Nat) (v : Value) (b : Bool) (l : List Int) (w : World) (e : Ending) (w' : World) : Prop := e = .returned v ∧ Rdr w' M rb b l ∧ Only rb w w'
theorem whole_at (M rb : Nat) (bad : Bool) (left : List Int) (v : Int) (b2 : Bool) (l2 : List Int) (w : World) (hs : numS bad left = (v, b2, l2)) (h : Rdr w M rb bad left) (hw : BytesWf left) (hl : left.length ≤ 140737488351232) :
    Calls Tryz.prog 99 #[.pointer (some ⟨rb, 0, none⟩)] w (ToldAt M rb (.int .i64 v) b2 l2 w) := by
  have := whole_rd M rb bad left w h hw hl
  rw [hs] at this
  exact this
theorem num_at (M rb : Nat) (bad : Bool) (left : List Int) (v : Int) (b2 : Bool) (l2 : List Int) (w : World) (hs : numS bad left = (v, b2, l2)) (h : Rdr w M rb bad left) (hw : BytesWf left) (hl : left.length ≤ 140737488351232) :
    Calls Tryz.prog 68 #[.pointer (some ⟨rb, 0, none⟩)] w (ToldAt M rb (.int .i64 v) b2 l2 w) := number_at M rb bad left v b2 l2 w hs h hw hl
theorem kind_at (M rb : Nat) (bad : Bool) (left : List Int) (v : Int) (b2 : Bool) (l2 : List Int) (w : World) (hs : kindS bad left = (v, b2, l2)) (h : Rdr w M rb bad left) (hw : BytesWf left) (hl : left.length ≤ 140737488351232) :
    Calls Tryz.prog 100 #[.pointer (some ⟨rb, 0, none⟩)] w (ToldAt M rb (.int .u8 v) b2 l2 w) := by
  have := kind_any M rb bad left w h hw hl
  unfold kindS at hs
  simp only [Prod.mk.injEq] at hs
  obtain ⟨h1, h2⟩ := hs
  rw [h1, h2] at this
  exact this
theorem text_at (M rb : Nat) (bad : Bool) (left : List Int) (v : ByteArray) (b2 : Bool) (l2 : List Int) (w : World) (hs : textS bad left = (v, b2, l2)) (h : Rdr w M rb bad left) (hw : BytesWf left) (hl : left.length ≤ 140737488351232) :
    Calls Tryz.prog 124 #[.pointer (some ⟨rb, 0, none⟩)] w (ToldAt M rb (.string v) b2 l2 w) := by
  have := text_rd M rb bad left w h hw hl
  rw [hs] at this
  exact this
/-- What a row that is read is. -/
def RowVAt (M rb : Nat) (v : List Va) (b : Bool) (l : List Int) (w : World) (e : Ending) (w' : World) : Prop := ∃ a n c, v.length = n ∧ e = .returned (.slice a n c) ∧ VasOwn w' w.heap.size a n c v ∧ Rdr w' M rb b l ∧ Only rb w w'
def RowIAt (M rb : Nat) (v : List Int) (b : Bool) (l : List Int) (w : World) (e : Ending) (w' : World) : Prop := ∃ a n c, v.length = n ∧ e = .returned (.slice a n c) ∧ IntsOwn w' w.heap.size a n c v ∧ Rdr w' M rb b l ∧ Only rb w w'
theorem rowI_at (M rb : Nat) (bad : Bool) (left : List Int) (v : List Int) (b2 : Bool) (l2 : List Int) (w : World) (hs : intsS bad left = (v, b2, l2)) (h : Rdr w M rb bad left) (hw : BytesWf left) (hl : left.length ≤ 140737488351232) :
    Calls Tryz.prog 102 #[.pointer (some ⟨rb, 0, none⟩), .func (.func 99) #[.pointer (some ⟨rb, 0, none⟩)] #[]] w (RowIAt M rb v b2 l2 w) := by
  have := rowI_rd M rb bad left w h hw hl
  unfold intsS at hs
  rw [hs] at this
  exact this
theorem values_at (M rb : Nat) (bad : Bool) (left : List Int) (v : List Va) (b2 : Bool) (l2 : List Int) (w : World) (hs : valuesS bad left = (v, b2, l2)) (h : Rdr w M rb bad left) (hw : BytesWf left) (hl : left.length ≤ 140737488351232) :
    Calls Tryz.prog 125 #[.pointer (some ⟨rb, 0, none⟩)] w (RowVAt M rb v b2 l2 w) := by
  have hr := rowV_rd M rb bad left w h hw hl
  unfold valuesS at hs
  rw [hs] at hr
  have HR := Lib.hid hr
  have HK := Lib.hid (known_any M rb bad left w h)
  have hmf : ∀ (fn : Fn) (first cap : Array Value) (w : World), (Instr.makeFunc fn first cap).run Tryz.prog w = .ok (.func fn first cap) w := fun _ _ _ _ => rfl
  obtain ⟨R, hR⟩ : ∃ R, (v, b2, l2) = R := ⟨_, rfl⟩
  have e1 : v = R.1 := by rw [← hR]
  have e2 : b2 = R.2.1 := by rw [← hR]
  have e3 : l2 = R.2.2 := by rw [← hR]
  rw [hR] at HR
  rw [e1, e2, e3]
  clear hs hr h hR e1 e2 e3
  go_enter Tryz.func125, Tryz.ntmps125
  go_wp2_with fail
  refine HK.out.mono ?_
  rintro e w1 ⟨rfl, rfl⟩
  go_wp2_with fail
  refine HR.out.mono ?_
  rintro e w1 ⟨a, n, c, hn, rfl, ho, hr, hy⟩
  have H1 := Lib.hid hn
  have H2 := Lib.hid ho
  have H3 := Lib.hid hr
  clear hn ho hr
  go_wp2_with fail
  go_ret
  exact ⟨a, n, c, H1.out, rfl, H2.out, H3.out, hy⟩
end Go.Proofs.YtnhnabcpkaeaaaaGreatDoor
/- The writer's facts, commands; Fact, Command, Reply, Entry of wire. Conditions: what is written is not too long. -/
namespace Go.Proofs.YtnhnabcpkaeaaaaGreatDoor
open Go.RowKit
set_option maxRecDepth 20000
/-- A block that is no row of bytes stays where the writer writes. -/
theorem Wrote.sits {B b g : Nat} {bs : List Int} {w w' : World} {cs : Array Value} {T : TypeId} (h : Wrote B b bs w w') (hs : w.heap[g]? = some (.cells cs T (0, 0))) (hn : g ≠ b) (hT : T ≠ 5) : w'.heap[g]? = some (.cells cs T (0, 0)) :=
  h.2.2 g _ hs (by simpa using hn) (by intro c fz hh; injection hh with _ h2 _; exact hT h2)
set_option maxHeartbeats 1000000 in
theorem command_any (B b : Nat) (bs : List Int) (ck : Int) (text : ByteArray) (ao : Option Addr) (n cap : Nat) (num : Int) (args : List Va) (w : World) (hn : args.length = n) (hx : ValsIn w B ao args) (htx : ∀ v ∈ args, v.text.size ≤ 1099511627776) (h : BufIs w B b bs) (hBw : B ≤ w.heap.size) (hnl : n ≤ 1099511627776) (hlim : bs.length + text.size + (valuesB args).length + 40 ≤ 100000000000) :
    Calls Tryz.prog 118 #[.pointer (some ⟨b, 0, none⟩), .agg #[.int .u8 ck, .string text, .slice ao n cap, .int .i64 num]] w fun e w' => e = .returned (.tuple #[]) ∧ Wrote B b (bs ++ commandB ck text num args) w w' := by
  have h1 := (Wrote.start h).alloc hBw (.cells #[.int .u8 ck, .string text, .slice ao n cap, .int .i64 num] 57)
  have hblk := heap_alloc_new w (.cells #[.int .u8 ck, .string text, .slice ao n cap, .int .i64 num] 57)
  have hbl := h.lt
  have H1 := Lib.hid h1
  have HBLK := Lib.hid hblk
  have HX := Lib.hid hx
  have HN := Lib.hid hn
  have HTX := Lib.hid htx
  clear h h1 hblk hx hn htx
  go_enter Tryz.func118, Tryz.ntmps118
  go_wp2_with fail
  have h1 := H1.out
  have hd := HBLK.out
  generalize (w.alloc (.cells #[.int .u8 ck, .string text, .slice ao n cap, .int .i64 num] 57)) = w0 at h1 hd ⊢
  have d0 : w0.cell? ⟨w.heap.size, 0, none⟩ = some (.int .u8 ck) := Go.Joins.cell_of_block hd 0
  have H1' := Lib.hid h1.drew
  have HD := Lib.hid (show w0.drew.heap[w.heap.size]? = some (.cells #[.int .u8 ck, .string text, .slice ao n cap, .int .i64 num] 57 (0, 0)) from hd)
  clear h1 hd H1 HBLK
  go_still_tail 5, (by kernel_rfl)
  change wpList _ _ _ _ _ w0.drew
  generalize w0.drew = w1 at H1' HD ⊢
  clear d0
  go_wp2_with fail
  refine (writeByte_any B b bs ck w1 H1'.out.1 (Nat.le_trans hBw H1'.out.2.1.size) (by omega)).mono ?_
  rintro e w2 ⟨rfl, hw2⟩
  have hd := hw2.sits HD.out (by omega) (by decide)
  have d1 : w2.cell? ⟨w.heap.size, 1, none⟩ = some (.string text) := Go.Joins.cell_of_block hd 1
  have H2 := Lib.hid (H1'.out.trans hw2)
  have HD2 := Lib.hid hd
  clear hw2 hd H1' HD
  go_wp2_with fail
  refine (text_any B b _ text w2 H2.out.1 (Nat.le_trans hBw H2.out.2.1.size) (by simp only [List.length_append, List.length_singleton]; omega)).mono ?_
  rintro e w3 ⟨rfl, hw3⟩
  have hd := hw3.sits HD2.out (by omega) (by decide)
  have d3 : w3.cell? ⟨w.heap.size, 3, none⟩ = some (.int .i64 num) := Go.Joins.cell_of_block hd 3
  have H3 := Lib.hid (H2.out.trans hw3)
  have HD3 := Lib.hid hd
  clear hw3 hd H2 HD2 d1
  go_wp2_with fail
  refine (put1_any B b 8 _ _ num w3 rfl (by omega) (by omega) H3.out.1 (Nat.le_trans hBw H3.out.2.1.size) (by simp only [List.length_append, List.length_singleton, textB_len]; omega)).mono ?_
  rintro e w4 ⟨rfl, hw4⟩
  have hd := hw4.sits HD3.out (by omega) (by decide)
  have d2 : w4.cell? ⟨w.heap.size, 2, none⟩ = some (.slice ao n cap) := Go.Joins.cell_of_block hd 2
  have H4 := Lib.hid (H3.out.trans hw4)
  clear hw4 hd H3 HD3 d3
  go_wp2_with fail
  refine (values_any B b _ ao n cap args w4 HN.out (HX.out.below noSub_kept H4.out.2.1 (Nat.le_refl _)) HTX.out H4.out.1 (Nat.le_trans hBw H4.out.2.1.size) (by simp only [List.length_append, List.length_singleton, textB_len, numB_len]; omega) hnl (by simp only [List.length_append, List.length_singleton, textB_len, numB_len]; omega)).mono ?_
  rintro e w5 ⟨rfl, hw5⟩
  have hw6 := H4.out.trans hw5
  have hbs : bs ++ [ck] ++ textB text ++ numB 8 num ++ valuesB args = bs ++ commandB ck text num args := by simp [commandB]
  rw [hbs] at hw6
  have H6 := Lib.hid hw6
  clear hw5 hw6 d2 hbs
  go_wp2_with fail
  go_end0
  exact ⟨rfl, H6.out⟩
end Go.Proofs.YtnhnabcpkaeaaaaGreatDoor
/- Numbers that are brought into a kind have the same bytes. No program. Conditions: as each says. -/
namespace Go.Proofs.YtnhnabcpkaeaaaaGreatDoor
theorem numB_mod (n k : Int) : numB 8 (n + 18446744073709551616 * k) = numB 8 n := by
  unfold numB
  have e : List.range 8 = [0, 1, 2, 3, 4, 5, 6, 7] := rfl
  rw [e]
  simp only [List.map_cons, List.map_nil, Nat.reduceSub, Nat.reduceMul, Int.reducePow, List.cons.injEq, and_true]
  refine ⟨by omega, by omega, by omega, by omega, by omega, by omega, by omega, by omega⟩
theorem numB_wrap (n : Int) : numB 8 (IntKind.i64.wrap n) = numB 8 n := by
  have hw : IntKind.i64.wrap n = n + 18446744073709551616 * (-(n / 18446744073709551616)) ∨ IntKind.i64.wrap n = n + 18446744073709551616 * (-(n / 18446744073709551616) - 1) := by
    show (if (true && decide (n % 2 ^ 64 ≥ (2 ^ 63 : Int))) = true then n % 2 ^ 64 - 2 ^ 64 else n % 2 ^ 64) = _ ∨ (if (true && decide (n % 2 ^ 64 ≥ (2 ^ 63 : Int))) = true then n % 2 ^ 64 - 2 ^ 64 else n % 2 ^ 64) = _
    have e2 : (2 : Int) ^ 64 = 18446744073709551616 := by decide
    rw [e2]
    split
    · right; omega
    · left; omega
  rcases hw with h | h <;> rw [h, numB_mod]
theorem wrapU_eq (n : Int) : IntKind.u64.wrap n = n % 18446744073709551616 := by
  show (if (false && decide (n % 2 ^ 64 ≥ (2 ^ 63 : Int))) = true then n % 2 ^ 64 - 2 ^ 64 else n % 2 ^ 64) = _
  have e2 : (2 : Int) ^ 64 = 18446744073709551616 := by decide
  rw [e2]
  rfl
theorem wrapU_range (n : Int) : 0 ≤ IntKind.u64.wrap n ∧ IntKind.u64.wrap n < 18446744073709551616 := by
  rw [wrapU_eq]; omega
theorem numB_wrapU (n : Int) : numB 8 (IntKind.u64.wrap n) = numB 8 n := by
  have h : IntKind.u64.wrap n = n + 18446744073709551616 * (-(n / 18446744073709551616)) := by rw [wrapU_eq]; omega
  rw [h, numB_mod]
end Go.Proofs.YtnhnabcpkaeaaaaGreatDoor
/- What was read of bytes, and it was there, is written as just these bytes. No program. Conditions: as each says. -/
namespace Go.Proofs.YtnhnabcpkaeaaaaGreatDoor
open Go.RowKit
set_option maxRecDepth 20000
theorem numB_succ (s : Nat) (n : Int) : numB (s + 1) n = numB s (n / 256) ++ [n % 256] := by
  unfold numB
  rw [List.range_succ, List.map_append]
  congr 1
  · refine List.map_congr_left (fun j hj => ?_)
    have hj := List.mem_range.1 hj
    have e : s + 1 - 1 - j = (s - 1 - j) + 1 := by omega
    rw [e, Nat.mul_add, Int.pow_add, Int.mul_comm, ← Int.ediv_ediv_of_nonneg (by decide)]
    rfl
  · simp
theorem numB_getN (l : List Int) (h : BytesWf l) : numB l.length (getN l) = l := by
  have key : ∀ r : List Int, BytesWf r.reverse → numB r.length (getN r.reverse) = r.reverse := by
    intro r
    induction r with
    | nil => intro _; rfl
    | cons c r ih =>
      intro hw
      rw [List.reverse_cons] at hw ⊢
      have h1 := ih (fun x hx => hw x (List.mem_append_left _ hx))
      have h2 := hw c (by simp)
      rw [getN_snoc, List.length_cons, numB_succ]
      have e1 : (getN r.reverse * 256 + c) / 256 = getN r.reverse := by omega
      have e2 : (getN r.reverse * 256 + c) % 256 = c := by omega
      rw [e1, e2, h1]
  have := key l.reverse (by rwa [List.reverse_reverse])
  rwa [List.reverse_reverse, List.length_reverse] at this
/-- One way: what is read, and it was there, stood there. -/
def There {α : Type} (one : Bool → List Int → α × Bool × List Int) (oneB : α → List Int) : Prop := ∀ b l, BytesWf l → (one b l).2.1 = false → b = false ∧ l = oneB (one b l).1 ++ (one b l).2.2 ∧ BytesWf (one b l).2.2
theorem takeS_there (n : Nat) (b : Bool) (l : List Int) (hw : BytesWf l) (h : (takeS n b l).2.1 = false) : b = false ∧ l = (takeS n b l).1 ++ (takeS n b l).2.2 ∧ (takeS n b l).1.length = n ∧ BytesWf (takeS n b l).1 ∧ BytesWf (takeS n b l).2.2 := by
  unfold takeS at h ⊢
  split at h
  · cases h
  · rename_i hc
    rw [if_neg hc]
    have h1 : b = false := by cases b with | true => exact absurd (Or.inl rfl) hc | false => rfl
    have h2 : n ≤ l.length := by
      rcases Nat.lt_or_ge l.length n with h | h
      · exact absurd (Or.inr h) hc
      · exact h
    exact ⟨h1, (List.take_append_drop n l).symm, by rw [List.length_take]; omega, hw.take n, hw.drop n⟩
theorem numS_there : There numS (numB 8) := by
  intro b l hw h
  obtain ⟨h1, h2, h3, h4, h5⟩ := takeS_there 8 b l hw h
  refine ⟨h1, ?_, h5⟩
  show l = numB 8 (IntKind.i64.wrap (getN (takeS 8 b l).1)) ++ _
  rw [numB_wrap]
  have := numB_getN _ h4
  rw [h3] at this
  rw [this]
  exact h2
theorem kindS_there : There kindS (fun k => [k]) := by
  intro b l hw h
  obtain ⟨h1, h2, h3, h4, h5⟩ := takeS_there 1 b l hw h
  refine ⟨h1, ?_, h5⟩
  show l = [getN (takeS 1 b l).1] ++ (takeS 1 b l).2.2
  obtain ⟨c, hc⟩ : ∃ c, (takeS 1 b l).1 = [c] := by
    generalize (takeS 1 b l).1 = g at h3
    match g, h3 with
    | [c], _ => exact ⟨c, rfl⟩
  rw [hc] at h2 ⊢
  simpa [getN] using h2
theorem countS_there (b : Bool) (l : List Int) (hw : BytesWf l) (h : (countS b l).2.1 = false) : b = false ∧ l = numB 4 ((countS b l).1.toNat : Nat) ++ (countS b l).2.2 ∧ BytesWf (countS b l).2.2 := by
  unfold countS at h ⊢
  split at h
  · cases h
  · rename_i hc
    rw [if_neg hc]
    have hb : (takeS 4 b l).2.1 = false := by
      cases hh : (takeS 4 b l).2.1 with
      | true => exact absurd (Or.inl hh) hc
      | false => rfl
    obtain ⟨h1, h2, h3, h4, h5⟩ := takeS_there 4 b l hw hb
    refine ⟨h1, ?_, h5⟩
    have h6 := (getN_bound _ h4).1
    dsimp only
    rw [Int.toNat_of_nonneg h6]
    have := numB_getN _ h4
    rw [h3] at this
    rw [this]
    exact h2
theorem strB_strN (l : List Int) (h : BytesWf l) : strB (strN l) = l := by
  unfold strB strN
  rw [strOfNums_data, List.map_map]
  conv => rhs; rw [← List.map_id l]
  refine List.map_congr_left (fun n hn => ?_)
  have := h n hn
  show (((UInt8.ofNat n.toNat).toNat : Nat) : Int) = n
  rw [UInt8.toNat_ofNat']
  omega
theorem strN_size (l : List Int) : (strN l).size = l.length := strOfNums_size l
theorem textS_there : There textS textB := by
  intro b l hw h
  unfold textS at h ⊢
  dsimp only at h ⊢
  have hc := countS_wf (bad := b) hw
  obtain ⟨h1, h2, h3, h4, h5⟩ := takeS_there _ _ _ hc.2.2.1 h
  obtain ⟨g1, g2, g3⟩ := countS_there b l hw h1
  refine ⟨g1, ?_, h5⟩
  unfold textB
  rw [strN_size, h3, strB_strN _ h4, List.append_assoc, ← h2]
  exact g2
theorem valueS_there : There valueS valueB := by
  intro b l hw h
  have ht : ∀ h : (takeS 1 b l).2.1 = false, b = false ∧ l = getN (takeS 1 b l).1 :: (takeS 1 b l).2.2 ∧ BytesWf (takeS 1 b l).2.2 := fun h => kindS_there b l hw h
  unfold valueS at h ⊢
  dsimp only at h ⊢
  by_cases h1 : getN (takeS 1 b l).1 = 1
  · rw [if_pos h1] at h ⊢
    dsimp only at h ⊢
    rw [h]
    have hk := takeS_wf (n := 1) (bad := b) hw
    obtain ⟨g1, g2, g3⟩ := numS_there (takeS 1 b l).2.1 (takeS 1 b l).2.2 hk.2.1 h
    obtain ⟨q1, q2, _⟩ := ht g1
    refine ⟨q1, ?_, g3⟩
    rw [if_neg (by simp)]
    unfold valueB
    dsimp only
    rw [if_pos rfl]
    have g2' : (takeS 1 b l).2.2 = numB 8 (IntKind.i64.wrap (getN (takeS 8 (takeS 1 b l).2.1 (takeS 1 b l).2.2).1)) ++ (takeS 8 (takeS 1 b l).2.1 (takeS 1 b l).2.2).2.2 := g2
    rw [List.cons_append, ← g2', ← h1]
    exact q2
  · rw [if_neg h1] at h ⊢
    by_cases h2 : getN (takeS 1 b l).1 = 2
    · rw [if_pos h2] at h ⊢
      dsimp only at h ⊢
      rw [h]
      have hk := takeS_wf (n := 1) (bad := b) hw
      obtain ⟨g1, g2, g3⟩ := textS_there (takeS 1 b l).2.1 (takeS 1 b l).2.2 hk.2.1 h
      obtain ⟨q1, q2, _⟩ := ht g1
      refine ⟨q1, ?_, g3⟩
      rw [if_neg (by simp)]
      unfold valueB
      dsimp only
      rw [if_neg (by decide), if_pos rfl, List.cons_append, ← g2, ← h2]
      exact q2
    · rw [if_neg h2] at h
      cases h
theorem rowS_there {α : Type} {one : Bool → List Int → α × Bool × List Int} {oneB : α → List Int} (h1 : There one oneB) : ∀ (n : Nat) (b : Bool) (l : List Int), BytesWf l → (rowS one n b l).2.1 = false → b = false ∧ l = (rowS one n b l).1.flatMap oneB ++ (rowS one n b l).2.2 ∧ BytesWf (rowS one n b l).2.2 ∧ (rowS one n b l).1.length = n := by
  intro n
  induction n with
  | zero => intro b l hw h; exact ⟨h, rfl, hw, rfl⟩
  | succ n ih =>
    intro b l hw h
    unfold rowS at h ⊢
    split at h
    · rename_i hb
      dsimp only at h
      rw [hb] at h
      cases h
    · rename_i hb
      rw [if_neg hb]
      dsimp only at h ⊢
      have hw1 : ∀ h, BytesWf (one b l).2.2 := fun h => (h1 b l hw h).2.2
      have hbb : b = false := by cases b with | true => exact absurd rfl hb | false => rfl
      cases ho : (one b l).2.1 with
      | true => (try rw [ho] at h); rw [rowS_bad] at h; cases h
      | false =>
        obtain ⟨g1, g2, g3⟩ := h1 b l hw ho
        (try rw [ho] at h)
        (try rw [ho])
        obtain ⟨q1, q2, q3, q4⟩ := ih false _ g3 h
        refine ⟨hbb, ?_, q3, by rw [List.length_cons, q4]⟩
        rw [List.flatMap_cons, List.append_assoc, ← q2]
        exact g2
theorem rowsS_there {α : Type} {one : Bool → List Int → α × Bool × List Int} {oneB : α → List Int} (h1 : There one oneB) : There (rowsS one) (fun xs => numB 4 xs.length ++ xs.flatMap oneB) := by
  intro b l hw h
  unfold rowsS at h ⊢
  dsimp only at h ⊢
  have hc := countS_wf (bad := b) hw
  obtain ⟨g1, g2, g3, g4⟩ := rowS_there h1 _ _ _ hc.2.2.1 h
  obtain ⟨q1, q2, q3⟩ := countS_there b l hw g1
  refine ⟨q1, ?_, g3⟩
  rw [h, if_neg (by simp), g4, List.append_assoc, ← g2]
  exact q2
end Go.Proofs.YtnhnabcpkaeaaaaGreatDoor
/- Fact, Command of wire: the bytes of a form. Conditions: what is written is not too long. -/
namespace Go.Proofs.YtnhnabcpkaeaaaaGreatDoor
open Go.RowKit
set_option maxRecDepth 20000
/-- A block that lay under the writer's. -/
theorem heap_alloc_keep {w : World} {g : Nat} {x : Obj} (h : w.heap[g]? = some x) (o : Obj) : (w.alloc o).heap[g]? = some x :=
  ((World.grownBy_alloc w o none).block g (Array.getElem?_eq_some_iff.1 h).1 (by simp)).trans h
theorem commandB_len (ck : Int) (text : ByteArray) (num : Int) (args : List Va) : (commandB ck text num args).length = 13 + text.size + (valuesB args).length := by
  simp only [commandB, List.length_append, List.length_cons, numB_len, textB_len]; omega
end Go.Proofs.YtnhnabcpkaeaaaaGreatDoor
