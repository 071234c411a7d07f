/- What was read of bytes, and it was there, is written as just these bytes. No program. Conditions: as each says. -/
import Derived.Test.YtnfldkebjeigiaaGreatDoorGWireOne5
namespace Go.Proofs.YtnfldkebjeigiaaGreatDoor
open Go.RowKit
set_option maxRecDepth 20000
theorem numB_succ (s : Nat) (n : Int) : numB (s + 1) n = numB s (n / 256) ++ [n % 256] := by
  unfold numB
  rw [List.range_succ, List.map_append]
  congr 1
  · refine List.map_congr_left (fun j hj => ?_)
    have hj := List.mem_range.1 hj
    have e : s + 1 - 1 - j = (s - 1 - j) + 1 := by omega
    rw [e, Nat.mul_add, Int.pow_add, Int.mul_comm, ← Int.ediv_ediv_of_nonneg (by decide)]
    rfl
  · simp
theorem numB_getN (l : List Int) (h : BytesWf l) : numB l.length (getN l) = l := by
  have key : ∀ r : List Int, BytesWf r.reverse → numB r.length (getN r.reverse) = r.reverse := by
    intro r
    induction r with
    | nil => intro _; rfl
    | cons c r ih =>
      intro hw
      rw [List.reverse_cons] at hw ⊢
      have h1 := ih (fun x hx => hw x (List.mem_append_left _ hx))
      have h2 := hw c (by simp)
      rw [getN_snoc, List.length_cons, numB_succ]
      have e1 : (getN r.reverse * 256 + c) / 256 = getN r.reverse := by omega
      have e2 : (getN r.reverse * 256 + c) % 256 = c := by omega
      rw [e1, e2, h1]
  have := key l.reverse (by rwa [List.reverse_reverse])
  rwa [List.reverse_reverse, List.length_reverse] at this
/-- One way: what is read, and it was there, stood there. -/
def There {α : Type} (one : Bool → List Int → α × Bool × List Int) (oneB : α → List Int) : Prop := ∀ b l, BytesWf l → (one b l).2.1 = false → b = false ∧ l = oneB (one b l).1 ++ (one b l).2.2 ∧ BytesWf (one b l).2.2
theorem takeS_there (n : Nat) (b : Bool) (l : List Int) (hw : BytesWf l) (h : (takeS n b l).2.1 = false) : b = false ∧ l = (takeS n b l).1 ++ (takeS n b l).2.2 ∧ (takeS n b l).1.length = n ∧ BytesWf (takeS n b l).1 ∧ BytesWf (takeS n b l).2.2 := by
  unfold takeS at h ⊢
  split at h
  · cases h
  · rename_i hc
    rw [if_neg hc]
    have h1 : b = false := by cases b with | true => exact absurd (Or.inl rfl) hc | false => rfl
    have h2 : n ≤ l.length := by
      rcases Nat.lt_or_ge l.length n with h | h
      · exact absurd (Or.inr h) hc
      · exact h
    exact ⟨h1, (List.take_append_drop n l).symm, by rw [List.length_take]; omega, hw.take n, hw.drop n⟩
theorem numS_there : There numS (numB 8) := by
  intro b l hw h
  obtain ⟨h1, h2, h3, h4, h5⟩ := takeS_there 8 b l hw h
  refine ⟨h1, ?_, h5⟩
  show l = numB 8 (IntKind.i64.wrap (getN (takeS 8 b l).1)) ++ _
  rw [numB_wrap]
  have := numB_getN _ h4
  rw [h3] at this
  rw [this]
  exact h2
theorem kindS_there : There kindS (fun k => [k]) := by
  intro b l hw h
  obtain ⟨h1, h2, h3, h4, h5⟩ := takeS_there 1 b l hw h
  refine ⟨h1, ?_, h5⟩
  show l = [getN (takeS 1 b l).1] ++ (takeS 1 b l).2.2
  obtain ⟨c, hc⟩ : ∃ c, (takeS 1 b l).1 = [c] := by
    generalize (takeS 1 b l).1 = g at h3
    match g, h3 with
    | [c], _ => exact ⟨c, rfl⟩
  rw [hc] at h2 ⊢
  simpa [getN] using h2
theorem countS_there (b : Bool) (l : List Int) (hw : BytesWf l) (h : (countS b l).2.1 = false) : b = false ∧ l = numB 4 ((countS b l).1.toNat : Nat) ++ (countS b l).2.2 ∧ BytesWf (countS b l).2.2 := by
  unfold countS at h ⊢
  split at h
  · cases h
  · rename_i hc
    rw [if_neg hc]
    have hb : (takeS 4 b l).2.1 = false := by
      cases hh : (takeS 4 b l).2.1 with
      | true => exact absurd (Or.inl hh) hc
      | false => rfl
    obtain ⟨h1, h2, h3, h4, h5⟩ := takeS_there 4 b l hw hb
    refine ⟨h1, ?_, h5⟩
    have h6 := (getN_bound _ h4).1
    dsimp only
    rw [Int.toNat_of_nonneg h6]
    have := numB_getN _ h4
    rw [h3] at this
    rw [this]
    exact h2
theorem strB_strN (l : List Int) (h : BytesWf l) : strB (strN l) = l := by
  unfold strB strN
  rw [strOfNums_data, List.map_map]
  conv => rhs; rw [← List.map_id l]
  refine List.map_congr_left (fun n hn => ?_)
  have := h n hn
  show (((UInt8.ofNat n.toNat).toNat : Nat) : Int) = n
  rw [UInt8.toNat_ofNat']
  omega
theorem strN_size (l : List Int) : (strN l).size = l.length := strOfNums_size l
theorem textS_there : There textS textB := by
  intro b l hw h
  unfold textS at h ⊢
  dsimp only at h ⊢
  have hc := countS_wf (bad := b) hw
  obtain ⟨h1, h2, h3, h4, h5⟩ := takeS_there _ _ _ hc.2.2.1 h
  obtain ⟨g1, g2, g3⟩ := countS_there b l hw h1
  refine ⟨g1, ?_, h5⟩
  unfold textB
  rw [strN_size, h3, strB_strN _ h4, List.append_assoc, ← h2]
  exact g2
theorem valueS_there : There valueS valueB := by
  intro b l hw h
  have ht : ∀ h : (takeS 1 b l).2.1 = false, b = false ∧ l = getN (takeS 1 b l).1 :: (takeS 1 b l).2.2 ∧ BytesWf (takeS 1 b l).2.2 := fun h => kindS_there b l hw h
  unfold valueS at h ⊢
  dsimp only at h ⊢
  by_cases h1 : getN (takeS 1 b l).1 = 1
  · rw [if_pos h1] at h ⊢
    dsimp only at h ⊢
    rw [h]
    have hk := takeS_wf (n := 1) (bad := b) hw
    obtain ⟨g1, g2, g3⟩ := numS_there (takeS 1 b l).2.1 (takeS 1 b l).2.2 hk.2.1 h
    obtain ⟨q1, q2, _⟩ := ht g1
    refine ⟨q1, ?_, g3⟩
    rw [if_neg (by simp)]
    unfold valueB
    dsimp only
    rw [if_pos rfl]
    have g2' : (takeS 1 b l).2.2 = numB 8 (IntKind.i64.wrap (getN (takeS 8 (takeS 1 b l).2.1 (takeS 1 b l).2.2).1)) ++ (takeS 8 (takeS 1 b l).2.1 (takeS 1 b l).2.2).2.2 := g2
    rw [List.cons_append, ← g2', ← h1]
    exact q2
  · rw [if_neg h1] at h ⊢
    by_cases h2 : getN (takeS 1 b l).1 = 2
    · rw [if_pos h2] at h ⊢
      dsimp only at h ⊢
      rw [h]
      have hk := takeS_wf (n := 1) (bad := b) hw
      obtain ⟨g1, g2, g3⟩ := textS_there (takeS 1 b l).2.1 (takeS 1 b l).2.2 hk.2.1 h
      obtain ⟨q1, q2, _⟩ := ht g1
      refine ⟨q1, ?_, g3⟩
      rw [if_neg (by simp)]
      unfold valueB
      dsimp only
      rw [if_neg (by decide), if_pos rfl, List.cons_append, ← g2, ← h2]
      exact q2
    · rw [if_neg h2] at h
      cases h
theorem rowS_there {α : Type} {one : Bool → List Int → α × Bool × List Int} {oneB : α → List Int} (h1 : There one oneB) : ∀ (n : Nat) (b : Bool) (l : List Int), BytesWf l → (rowS one n b l).2.1 = false → b = false ∧ l = (rowS one n b l).1.flatMap oneB ++ (rowS one n b l).2.2 ∧ BytesWf (rowS one n b l).2.2 ∧ (rowS one n b l).1.length = n := by
  intro n
  induction n with
  | zero => intro b l hw h; exact ⟨h, rfl, hw, rfl⟩
  | succ n ih =>
    intro b l hw h
    unfold rowS at h ⊢
    split at h
    · rename_i hb
      dsimp only at h
      rw [hb] at h
      cases h
    · rename_i hb
      rw [if_neg hb]
      dsimp only at h ⊢
      have hw1 : ∀ h, BytesWf (one b l).2.2 := fun h => (h1 b l hw h).2.2
      have hbb : b = false := by cases b with | true => exact absurd rfl hb | false => rfl
      cases ho : (one b l).2.1 with
      | true => (try rw [ho] at h); rw [rowS_bad] at h; cases h
      | false =>
        obtain ⟨g1, g2, g3⟩ := h1 b l hw ho
        (try rw [ho] at h)
        (try rw [ho])
        obtain ⟨q1, q2, q3, q4⟩ := ih false _ g3 h
        refine ⟨hbb, ?_, q3, by rw [List.length_cons, q4]⟩
        rw [List.flatMap_cons, List.append_assoc, ← q2]
        exact g2
theorem rowsS_there {α : Type} {one : Bool → List Int → α × Bool × List Int} {oneB : α → List Int} (h1 : There one oneB) : There (rowsS one) (fun xs => numB 4 xs.length ++ xs.flatMap oneB) := by
  intro b l hw h
  unfold rowsS at h ⊢
  dsimp only at h ⊢
  have hc := countS_wf (bad := b) hw
  obtain ⟨g1, g2, g3, g4⟩ := rowS_there h1 _ _ _ hc.2.2.1 h
  obtain ⟨q1, q2, q3⟩ := countS_there b l hw g1
  refine ⟨q1, ?_, g3⟩
  rw [h, if_neg (by simp), g4, List.append_assoc, ← g2]
  exact q2
theorem valuesS_there : There valuesS valuesB := rowsS_there valueS_there
theorem intsS_there : There intsS (fun xs => numB 4 xs.length ++ xs.flatMap (numB 8)) := rowsS_there numS_there
theorem factS_there : There factS factB := by
  intro b l hw h
  unfold factS at h ⊢
  dsimp only at h ⊢
  have w1 := (numS_shrinks b l hw).1
  obtain ⟨g1, g2, g3⟩ := valuesS_there _ _ (numS_shrinks (numS b l).2.1 _ w1).1 h
  obtain ⟨q1, q2, q3⟩ := numS_there _ _ w1 g1
  obtain ⟨p1, p2, p3⟩ := numS_there b l hw q1
  refine ⟨p1, ?_, g3⟩
  rw [h, if_neg (by simp)]
  unfold factB
  dsimp only
  rw [List.append_assoc, List.append_assoc, ← g2, ← q2]
  exact p2
theorem commandS_there : There commandS (fun c => commandB c.kind c.text c.num c.args) := by
  intro b l hw h
  unfold commandS at h ⊢
  dsimp only at h ⊢
  have w1 := (kindS_shrinks b l hw).1
  have w2 := (textS_shrinks (kindS b l).2.1 _ w1).1
  have w3 := (numS_shrinks (textS (kindS b l).2.1 (kindS b l).2.2).2.1 _ w2).1
  obtain ⟨g1, g2, g3⟩ := valuesS_there _ _ w3 h
  obtain ⟨q1, q2, q3⟩ := numS_there _ _ w2 g1
  obtain ⟨p1, p2, p3⟩ := textS_there _ _ w1 q1
  obtain ⟨o1, o2, o3⟩ := kindS_there b l hw p1
  refine ⟨o1, ?_, g3⟩
  rw [h, if_neg (by simp)]
  unfold commandB
  dsimp only
  simp only [List.append_assoc, List.cons_append]
  rw [← g2, ← q2, ← p2]
  exact o2
theorem factsS_there : There factsS (fun xs => numB 4 xs.length ++ xs.flatMap factB) := rowsS_there factS_there
theorem replyS_there : There replyS replyB := by
  intro b l hw h
  unfold replyS at h ⊢
  dsimp only at h ⊢
  have w1 := (numS_shrinks b l hw).1
  have t1 := numS_there b l hw
  obtain ⟨T, hT⟩ : ∃ T, numS b l = T := ⟨_, rfl⟩
  rw [hT] at h w1 t1 ⊢
  have w2 := (numS_shrinks T.2.1 _ w1).1
  have t2 := numS_there T.2.1 T.2.2 w1
  obtain ⟨N, hN⟩ : ∃ N, numS T.2.1 T.2.2 = N := ⟨_, rfl⟩
  rw [hN] at h w2 t2 ⊢
  have w3 := (rowsS_shrinks factS_shrinks N.2.1 _ w2).1
  change BytesWf (factsS N.2.1 N.2.2).2.2 at w3
  have t3 := factsS_there N.2.1 N.2.2 w2
  obtain ⟨F, hF⟩ : ∃ F, factsS N.2.1 N.2.2 = F := ⟨_, rfl⟩
  rw [hF] at h w3 t3 ⊢
  have t4 := valuesS_there F.2.1 F.2.2 w3 h
  rw [h, if_neg (by simp)]
  obtain ⟨a4, b4, c4⟩ := t4
  obtain ⟨a3, b3, _⟩ := t3 a4
  obtain ⟨a2, b2, _⟩ := t2 a3
  obtain ⟨a1, b1, _⟩ := t1 a2
  refine ⟨a1, ?_, c4⟩
  unfold replyB
  dsimp only at b3 ⊢
  simp only [List.append_assoc] at b3 ⊢
  rw [← b4, ← b3, ← b2]
  exact b1
theorem entryS_there : There entryS entryB := by
  intro b l hw h
  unfold entryS at h ⊢
  dsimp only at h ⊢
  have w1 := (numS_shrinks b l hw).1
  have w2 := (kindS_shrinks (numS b l).2.1 _ w1).1
  have w3 := (numS_shrinks (kindS (numS b l).2.1 (numS b l).2.2).2.1 _ w2).1
  have w4 := (numS_shrinks (numS (kindS (numS b l).2.1 (numS b l).2.2).2.1 (kindS (numS b l).2.1 (numS b l).2.2).2.2).2.1 _ w3).1
  obtain ⟨T, hT⟩ : ∃ T, numS b l = T := ⟨_, rfl⟩
  have t1 := numS_there b l hw
  rw [hT] at h w1 w2 w3 w4 t1 ⊢
  obtain ⟨K, hK⟩ : ∃ K, kindS T.2.1 T.2.2 = K := ⟨_, rfl⟩
  have t2 := kindS_there T.2.1 T.2.2 w1
  rw [hK] at h w2 w3 w4 t2 ⊢
  obtain ⟨S, hS⟩ : ∃ S, numS K.2.1 K.2.2 = S := ⟨_, rfl⟩
  have t3 := numS_there K.2.1 K.2.2 w2
  rw [hS] at h w3 w4 t3 ⊢
  obtain ⟨R, hR⟩ : ∃ R, numS S.2.1 S.2.2 = R := ⟨_, rfl⟩
  have t4 := numS_there S.2.1 S.2.2 w3
  rw [hR] at h w4 t4 ⊢
  have w5 := (commandS_shrinks R.2.1 R.2.2 w4).1
  have t5 := commandS_there R.2.1 R.2.2 w4
  obtain ⟨C, hC⟩ : ∃ C, commandS R.2.1 R.2.2 = C := ⟨_, rfl⟩
  rw [hC] at h w5 t5 ⊢
  have t6 := intsS_there C.2.1 C.2.2 w5 h
  rw [h, if_neg (by simp)]
  obtain ⟨a6, b6, c6⟩ := t6
  obtain ⟨a5, b5, _⟩ := t5 a6
  obtain ⟨a4, b4, _⟩ := t4 a5
  obtain ⟨a3, b3, _⟩ := t3 a4
  obtain ⟨a2, b2, _⟩ := t2 a3
  obtain ⟨a1, b1, _⟩ := t1 a2
  refine ⟨a1, ?_, c6⟩
  unfold entryB
  dsimp only
  simp only [List.append_assoc, List.cons_append]
  rw [List.append_assoc] at b6
  rw [← b6, ← b5, ← b4, ← b3]
  rw [List.singleton_append] at b2
  rw [← b2]
  exact b1
end Go.Proofs.YtnfldkebjeigiaaGreatDoor
/- Fact, Command of wire: the bytes of a form. Conditions: what is written is not too long. -/
namespace Go.Proofs.YtnfldkebjeigiaaGreatDoor
open Go.RowKit
set_option maxRecDepth 20000
/-- A block that lay under the writer's. -/
theorem heap_alloc_keep {w : World} {g : Nat} {x : Obj} (h : w.heap[g]? = some x) (o : Obj) : (w.alloc o).heap[g]? = some x :=
  ((World.grownBy_alloc w o none).block g (Array.getElem?_eq_some_iff.1 h).1 (by simp)).trans h
set_option maxHeartbeats 1000000 in
theorem wfact_any (id ty : Int) (ao : Option Addr) (n cap : Nat) (args : List Va) (w : World) (hn : args.length = n) (hx : ValsIn w w.heap.size ao args) (htx : ∀ v ∈ args, v.text.size ≤ 1099511627776) (hnl : n ≤ 1099511627776) (hlim : (valuesB args).length + 20 ≤ 100000000000) :
    Calls Tryz.prog 17 #[.agg #[.int .i64 id, .int .i64 ty, .slice ao n cap]] w (BytesNew (factB ⟨id, ty, args⟩) w.heap.size w) := by
  have hfl : (factB ⟨id, ty, args⟩).length = 16 + (valuesB args).length := by simp only [factB, List.length_append, numB_len]; omega
  have H := Lib.hid (buf_new (w.alloc (.cells #[.int .i64 id, .int .i64 ty, .slice ao n cap] 27)))
  have hb := ((Below.refl w.heap.size w).alloc (Nat.le_refl _) (.cells #[.int .i64 id, .int .i64 ty, .slice ao n cap] 27)).alloc (by simp) (.cells #[.slice none 0 0, .int .i64 0, .int .i8 0] 97)
  have HB := Lib.hid hb
  have hsz : (w.alloc (.cells #[.int .i64 id, .int .i64 ty, .slice ao n cap] 27)).heap.size = w.heap.size + 1 := by simp
  rw [hsz] at H
  have HX := Lib.hid hx
  have HN := Lib.hid hn
  have HTX := Lib.hid htx
  have HFL := Lib.hid hfl
  clear hb hsz hx hn htx hfl
  go_enter Tryz.func17, Tryz.ntmps17
  go_wp2_with fail
  refine (fact_any (w.heap.size + 1) (w.heap.size + 1) [] id ty ao n cap args _ HN.out ((HX.out.below noSub_kept HB.out (Nat.le_refl _)).mono noSub_rising (Nat.le_succ _)) HTX.out H.out (by simp) hnl (by simp; omega)).mono ?_
  rintro e w1 ⟨rfl, hw⟩
  rw [List.nil_append] at hw
  have HW := Lib.hid hw
  have hb1 := HB.out.trans (hw.2.1.mono (Nat.le_succ _))
  have hs1 : w.heap.size + 1 ≤ w1.heap.size := by have := hw.2.1.size; simp at this; omega
  clear hw
  go_wp2_with fail
  refine (told_any (w.heap.size + 1) (w.heap.size + 1) _ w1 HW.out.1 hs1 (by have := HFL.out; omega)).mono ?_
  rintro e w2 ⟨a, c, rfl, ho, hb2⟩
  have HO := Lib.hid (Go.Joins.ownsRow_le ho hb1.size)
  have hb3 := hb1.trans (hb2.mono hb1.size)
  clear ho hb1 hb2
  go_wp2_with fail
  go_ret
  exact ⟨a, c, rfl, HO.out, hb3⟩
theorem wtext_any (s : ByteArray) (w : World) (hl : s.size ≤ 1099511627776) :
    Calls Tryz.prog 14 #[.string s] w (BytesNew (textB s) w.heap.size w) := by
  have H := Lib.hid (buf_new w)
  have hb := (Below.refl w.heap.size w).alloc (Nat.le_refl _) (.cells #[.slice none 0 0, .int .i64 0, .int .i8 0] 97)
  have HB := Lib.hid hb
  clear hb
  go_enter Tryz.func14, Tryz.ntmps14
  go_wp2_with fail
  refine (text_any w.heap.size w.heap.size [] s _ H.out (by simp) (by simp; omega)).mono ?_
  rintro e w1 ⟨rfl, hw⟩
  rw [List.nil_append] at hw
  have HW := Lib.hid hw
  have hb1 := HB.out.trans hw.2.1
  clear hw
  go_wp2_with fail
  refine (told_any w.heap.size w.heap.size _ w1 HW.out.1 hb1.size (by rw [textB_len]; omega)).mono ?_
  rintro e w2 ⟨a, c, rfl, ho, hb2⟩
  have HO := Lib.hid (Go.Joins.ownsRow_le ho hb1.size)
  have hb3 := hb1.trans (hb2.mono hb1.size)
  clear ho hb1 hb2
  go_wp2_with fail
  go_ret
  exact ⟨a, c, rfl, HO.out, hb3⟩
theorem commandB_len (ck : Int) (text : ByteArray) (num : Int) (args : List Va) : (commandB ck text num args).length = 13 + text.size + (valuesB args).length := by
  simp only [commandB, List.length_append, List.length_cons, numB_len, textB_len]; omega
set_option maxHeartbeats 1000000 in
theorem wcommand_any (ck : Int) (text : ByteArray) (ao : Option Addr) (n cap : Nat) (num : Int) (args : List Va) (w : World) (hn : args.length = n) (hx : ValsIn w w.heap.size ao args) (htx : ∀ v ∈ args, v.text.size ≤ 1099511627776) (hnl : n ≤ 1099511627776) (hlim : text.size + (valuesB args).length + 40 ≤ 100000000000) :
    Calls Tryz.prog 18 #[.agg #[.int .u8 ck, .string text, .slice ao n cap, .int .i64 num]] w (BytesNew (commandB ck text num args) w.heap.size w) := by
  have hfl := commandB_len ck text num args
  have H := Lib.hid (buf_new (w.alloc (.cells #[.int .u8 ck, .string text, .slice ao n cap, .int .i64 num] 30)))
  have hb := ((Below.refl w.heap.size w).alloc (Nat.le_refl _) (.cells #[.int .u8 ck, .string text, .slice ao n cap, .int .i64 num] 30)).alloc (by simp) (.cells #[.slice none 0 0, .int .i64 0, .int .i8 0] 97)
  have HB := Lib.hid hb
  have hsz : (w.alloc (.cells #[.int .u8 ck, .string text, .slice ao n cap, .int .i64 num] 30)).heap.size = w.heap.size + 1 := by simp
  rw [hsz] at H
  have HX := Lib.hid hx
  have HN := Lib.hid hn
  have HTX := Lib.hid htx
  have HFL := Lib.hid hfl
  clear hb hsz hx hn htx hfl
  go_enter Tryz.func18, Tryz.ntmps18
  go_wp2_with fail
  refine (command_any (w.heap.size + 1) (w.heap.size + 1) [] ck text ao n cap num args _ HN.out ((HX.out.below noSub_kept HB.out (Nat.le_refl _)).mono noSub_rising (Nat.le_succ _)) HTX.out H.out (by simp) hnl (by simp; omega)).mono ?_
  rintro e w1 ⟨rfl, hw⟩
  rw [List.nil_append] at hw
  have HW := Lib.hid hw
  have hb1 := HB.out.trans (hw.2.1.mono (Nat.le_succ _))
  have hs1 : w.heap.size + 1 ≤ w1.heap.size := by have := hw.2.1.size; simp at this; omega
  clear hw
  go_wp2_with fail
  refine (told_any (w.heap.size + 1) (w.heap.size + 1) _ w1 HW.out.1 hs1 (by have := HFL.out; omega)).mono ?_
  rintro e w2 ⟨a, c, rfl, ho, hb2⟩
  have HO := Lib.hid (Go.Joins.ownsRow_le ho hb1.size)
  have hb3 := hb1.trans (hb2.mono hb1.size)
  clear ho hb1 hb2
  go_wp2_with fail
  go_ret
  exact ⟨a, c, rfl, HO.out, hb3⟩
end Go.Proofs.YtnfldkebjeigiaaGreatDoor
/- What is read of bytes is no greater than these. No program. Conditions: as each says. -/
namespace Go.Proofs.YtnfldkebjeigiaaGreatDoor
open Go.RowKit
set_option maxRecDepth 20000
theorem rowS_upto {α : Type} {one : Bool → List Int → α × Bool × List Int} (hs : Shrinks one) (N : Nat) (P : α → Prop) (hP : ∀ b l, BytesWf l → l.length ≤ N → P (one b l).1) : ∀ (n : Nat) (b : Bool) (l : List Int), BytesWf l → l.length ≤ N → ∀ x ∈ (rowS one n b l).1, P x := by
  intro n
  induction n with
  | zero => intro b l _ _ x hx; cases hx
  | succ n ih =>
    intro b l hw hl x hx
    unfold rowS at hx
    split at hx
    · cases hx
    · rcases List.mem_cons.1 hx with rfl | hx
      · exact hP b l hw hl
      · exact ih _ _ (hs b l hw).1 (Nat.le_trans (hs b l hw).2 hl) x hx
theorem rowsS_upto {α : Type} {one : Bool → List Int → α × Bool × List Int} (hs : Shrinks one) (N : Nat) (P : α → Prop) (hP : ∀ b l, BytesWf l → l.length ≤ N → P (one b l).1) (b : Bool) (l : List Int) (hw : BytesWf l) (hl : l.length ≤ N) : ∀ x ∈ (rowsS one b l).1, P x := by
  intro x hx
  have hc := countS_wf (bad := b) hw
  unfold rowsS at hx
  dsimp only at hx
  split at hx
  · cases hx
  · exact rowS_upto hs N P hP _ _ _ hc.2.2.1 (Nat.le_trans hc.2.2.2 hl) x hx
theorem flat_ge {α : Type} {oneB : α → List Int} (h : ∀ x, 1 ≤ (oneB x).length) : ∀ xs : List α, xs.length ≤ (xs.flatMap oneB).length := by
  intro xs
  induction xs with
  | nil => simp
  | cons x xs ih => have := h x; rw [List.flatMap_cons, List.length_append, List.length_cons]; omega
theorem rowsS_few {α : Type} {one : Bool → List Int → α × Bool × List Int} {oneB : α → List Int} (h : ∀ x, 1 ≤ (oneB x).length) (ht : There one oneB) (b : Bool) (l : List Int) (hw : BytesWf l) : (rowsS one b l).1.length ≤ l.length := by
  cases hb : (rowsS one b l).2.1 with
  | false =>
    obtain ⟨_, h2, _⟩ := rowsS_there ht b l hw hb
    have := flat_ge h (rowsS one b l).1
    have h3 := congrArg List.length h2
    simp only [List.length_append] at h3
    omega
  | true =>
    unfold rowsS at hb ⊢
    dsimp only at hb ⊢
    rw [if_pos hb]
    exact Nat.zero_le _
theorem factB_pos (f : FaP) : 1 ≤ (factB f).length := by unfold factB; simp only [List.length_append, numB_len]; omega
theorem numB_pos (n : Int) : 1 ≤ (numB 8 n).length := by rw [numB_len]; omega
theorem takeS_len (n : Nat) (b : Bool) (l : List Int) : (takeS n b l).1.length ≤ l.length := by
  unfold takeS
  split
  · exact Nat.zero_le _
  · rw [List.length_take]; omega
theorem textS_size (b : Bool) (l : List Int) (hw : BytesWf l) : (textS b l).1.size ≤ l.length := by
  have hc := countS_wf (bad := b) hw
  unfold textS
  dsimp only
  rw [strN_size]
  exact Nat.le_trans (takeS_len _ _ _) hc.2.2.2
theorem valueS_size (b : Bool) (l : List Int) (hw : BytesWf l) : (valueS b l).1.text.size ≤ l.length := by
  have hk := takeS_wf (n := 1) (bad := b) hw
  have hk2 := (kindS_shrinks b l hw).2
  unfold valueS
  dsimp only
  split
  · dsimp only
    split <;> exact Nat.zero_le _
  · split
    · dsimp only
      split
      · exact Nat.zero_le _
      · exact Nat.le_trans (textS_size _ _ hk.2.1) hk2
    · exact Nat.zero_le _
/-- Values that are no more than N, nor any text of theirs. -/
def Fit (N : Nat) (xs : List Va) : Prop := xs.length ≤ N ∧ ∀ v ∈ xs, v.text.size ≤ N
theorem Fit.nil (N : Nat) : Fit N [] := ⟨Nat.zero_le _, fun _ h => by cases h⟩
theorem valuesS_fit (N : Nat) (b : Bool) (l : List Int) (hw : BytesWf l) (hl : l.length ≤ N) : Fit N (valuesS b l).1 :=
  ⟨Nat.le_trans (rowsS_few valueB_pos valueS_there b l hw) hl, rowsS_upto valueS_shrinks N _ (fun b l hw hl => Nat.le_trans (valueS_size b l hw) hl) b l hw hl⟩
theorem factS_fit (N : Nat) (b : Bool) (l : List Int) (hw : BytesWf l) (hl : l.length ≤ N) : Fit N (factS b l).1.args := by
  have w1 := numS_shrinks b l hw
  have w2 := numS_shrinks (numS b l).2.1 _ w1.1
  unfold factS
  dsimp only
  split
  · exact Fit.nil N
  · exact valuesS_fit N _ _ w2.1 (by omega)
theorem factsS_fit (N : Nat) (b : Bool) (l : List Int) (hw : BytesWf l) (hl : l.length ≤ N) : (factsS b l).1.length ≤ N ∧ ∀ f ∈ (factsS b l).1, Fit N f.args :=
  ⟨Nat.le_trans (rowsS_few factB_pos factS_there b l hw) hl, rowsS_upto factS_shrinks N (fun f => Fit N f.args) (factS_fit N) b l hw hl⟩
theorem commandS_fit (N : Nat) (b : Bool) (l : List Int) (hw : BytesWf l) (hl : l.length ≤ N) : (commandS b l).1.text.size ≤ N ∧ Fit N (commandS b l).1.args := by
  have w1 := kindS_shrinks b l hw
  have w2 := textS_shrinks (kindS b l).2.1 _ w1.1
  have w3 := numS_shrinks (textS (kindS b l).2.1 (kindS b l).2.2).2.1 _ w2.1
  have h1 := textS_size (kindS b l).2.1 _ w1.1
  unfold commandS
  dsimp only
  split
  · exact ⟨Nat.zero_le _, Fit.nil N⟩
  · exact ⟨by dsimp only; omega, valuesS_fit N _ _ w3.1 (by omega)⟩
theorem replyS_fit (N : Nat) (b : Bool) (l : List Int) (hw : BytesWf l) (hl : l.length ≤ N) : (replyS b l).1.facts.length ≤ N ∧ (∀ f ∈ (replyS b l).1.facts, Fit N f.args) ∧ Fit N (replyS b l).1.said := by
  have w1 := numS_shrinks b l hw
  have w2 := numS_shrinks (numS b l).2.1 _ w1.1
  have w3 := rowsS_shrinks factS_shrinks (numS (numS b l).2.1 (numS b l).2.2).2.1 _ w2.1
  have h3 := factsS_fit N (numS (numS b l).2.1 (numS b l).2.2).2.1 _ w2.1 (by omega)
  have h4 := valuesS_fit N (factsS (numS (numS b l).2.1 (numS b l).2.2).2.1 (numS (numS b l).2.1 (numS b l).2.2).2.2).2.1 _ w3.1 (Nat.le_trans w3.2 (by omega))
  unfold replyS
  dsimp only
  split
  · exact ⟨Nat.zero_le _, (fun f hf => by cases hf), Fit.nil N⟩
  · exact ⟨h3.1, h3.2, h4⟩
theorem intsS_len (b : Bool) (l : List Int) (hw : BytesWf l) : (intsS b l).1.length ≤ l.length := rowsS_few numB_pos numS_there b l hw
theorem entryS_fit (N : Nat) (b : Bool) (l : List Int) (hw : BytesWf l) (hl : l.length ≤ N) : (entryS b l).1.text.size ≤ N ∧ Fit N (entryS b l).1.args ∧ (entryS b l).1.vs.length ≤ N := by
  have w1 := numS_shrinks b l hw
  have w2 := kindS_shrinks (numS b l).2.1 _ w1.1
  have w3 := numS_shrinks (kindS (numS b l).2.1 (numS b l).2.2).2.1 _ w2.1
  have w4 := numS_shrinks (numS (kindS (numS b l).2.1 (numS b l).2.2).2.1 (kindS (numS b l).2.1 (numS b l).2.2).2.2).2.1 _ w3.1
  unfold entryS
  dsimp only
  have w5 := commandS_shrinks (numS (numS (kindS (numS b l).2.1 (numS b l).2.2).2.1 (kindS (numS b l).2.1 (numS b l).2.2).2.2).2.1 (numS (kindS (numS b l).2.1 (numS b l).2.2).2.1 (kindS (numS b l).2.1 (numS b l).2.2).2.2).2.2).2.1 _ w4.1
  have h5 := commandS_fit N (numS (numS (kindS (numS b l).2.1 (numS b l).2.2).2.1 (kindS (numS b l).2.1 (numS b l).2.2).2.2).2.1 (numS (kindS (numS b l).2.1 (numS b l).2.2).2.1 (kindS (numS b l).2.1 (numS b l).2.2).2.2).2.2).2.1 _ w4.1 (by omega)
  have h6 := intsS_len (commandS (numS (numS (kindS (numS b l).2.1 (numS b l).2.2).2.1 (kindS (numS b l).2.1 (numS b l).2.2).2.2).2.1 (numS (kindS (numS b l).2.1 (numS b l).2.2).2.1 (kindS (numS b l).2.1 (numS b l).2.2).2.2).2.2).2.1 (numS (numS (kindS (numS b l).2.1 (numS b l).2.2).2.1 (kindS (numS b l).2.1 (numS b l).2.2).2.2).2.1 (numS (kindS (numS b l).2.1 (numS b l).2.2).2.1 (kindS (numS b l).2.1 (numS b l).2.2).2.2).2.2).2.2).2.1 _ w5.1
  split
  · exact ⟨Nat.zero_le _, Fit.nil N, Nat.zero_le _⟩
  · exact ⟨h5.1, h5.2, by dsimp only; omega⟩
/-- What was read to its end is written as the bytes. -/
theorem entry_one {xs : List Int} {P : EnP} {bad : Bool} {left : List Int} (hw : BytesWf xs) (h : entryS false xs = (P, bad, left)) (hb : bad = false) (hl : left = []) : entryB P = xs ∧ P.text.size + (valuesB P.args).length ≤ xs.length := by
  have := (entryS_there false xs hw (by rw [h]; exact hb)).2.1
  rw [h] at this
  dsimp only at this
  rw [hl, List.append_nil] at this
  refine ⟨this.symm, ?_⟩
  have h2 := congrArg List.length this
  unfold entryB at h2
  simp only [List.length_append, List.length_cons, commandB_len] at h2
  omega
theorem reply_one {xs : List Int} {P : RpP} {bad : Bool} {left : List Int} (hw : BytesWf xs) (h : replyS false xs = (P, bad, left)) (hb : bad = false) (hl : left = []) : replyB P = xs ∧ (P.facts.flatMap factB).length + (valuesB P.said).length ≤ xs.length := by
  have := (replyS_there false xs hw (by rw [h]; exact hb)).2.1
  rw [h] at this
  dsimp only at this
  rw [hl, List.append_nil] at this
  refine ⟨this.symm, ?_⟩
  have h2 := congrArg List.length this
  unfold replyB at h2
  simp only [List.length_append] at h2
  omega
theorem command_one {xs : List Int} {P : CmP} {bad : Bool} {left : List Int} (hw : BytesWf xs) (h : commandS false xs = (P, bad, left)) (hb : bad = false) (hl : left = []) : commandB P.kind P.text P.num P.args = xs ∧ P.text.size + (valuesB P.args).length ≤ xs.length := by
  have := (commandS_there false xs hw (by rw [h]; exact hb)).2.1
  rw [h] at this
  dsimp only at this
  rw [hl, List.append_nil] at this
  refine ⟨this.symm, ?_⟩
  have h2 := congrArg List.length this
  rw [commandB_len] at h2
  omega
end Go.Proofs.YtnfldkebjeigiaaGreatDoor
/- Reply of wire: the bytes of a form. Conditions: what is written is not too long. -/
namespace Go.Proofs.YtnfldkebjeigiaaGreatDoor
open Go.RowKit
set_option maxRecDepth 20000
set_option maxHeartbeats 2000000 in
theorem wreply_any (er num : Int) (fo : Option Addr) (n fcap : Nat) (facts : List Fa) (so : Option Addr) (m scap : Nat) (said : List Va) (w : World) (hn : facts.length = n) (hm : said.length = m) (hx : FasIn w w.heap.size fo facts) (hs : ValsIn w w.heap.size so said)
    (htf : ∀ f ∈ facts, f.args.length ≤ 1099511627776 ∧ ∀ v ∈ f.args, v.text.size ≤ 1099511627776) (hts : ∀ v ∈ said, v.text.size ≤ 1099511627776) (hnl : n ≤ 1099511627776) (hml : m ≤ 1099511627776) (L : List Int) (hL : (facts.flatMap fun f => factB f.plain) = L) (hlim : L.length + (valuesB said).length + 100 ≤ 100000000000) :
    Calls Tryz.prog 19 #[.agg #[.int .i64 er, .int .i64 num, .slice fo n fcap, .slice so m scap]] w (BytesNew (numB 8 er ++ (numB 8 num ++ (numB 4 n ++ (L ++ valuesB said)))) w.heap.size w) := by
  have hst := Wrote.start (buf_new (w.alloc (.cells #[.int .i64 er, .int .i64 num, .slice fo n fcap, .slice so m scap] 34)))
  have hb := ((Below.refl w.heap.size w).alloc (Nat.le_refl _) (.cells #[.int .i64 er, .int .i64 num, .slice fo n fcap, .slice so m scap] 34)).alloc (by simp) (.cells #[.slice none 0 0, .int .i64 0, .int .i8 0] 97)
  have hk := heap_alloc_keep (heap_alloc_new w (.cells #[.int .i64 er, .int .i64 num, .slice fo n fcap, .slice so m scap] 34)) (.cells #[.slice none 0 0, .int .i64 0, .int .i8 0] 97)
  have hsz : (w.alloc (.cells #[.int .i64 er, .int .i64 num, .slice fo n fcap, .slice so m scap] 34)).heap.size = w.heap.size + 1 := by simp
  have hs0 : ((w.alloc (.cells #[.int .i64 er, .int .i64 num, .slice fo n fcap, .slice so m scap] 34)).alloc (.cells #[.slice none 0 0, .int .i64 0, .int .i8 0] 97)).heap.size = w.heap.size + 2 := by simp
  rw [hsz] at hst
  have HX := Lib.hid hx
  have HS := Lib.hid hs
  have HN := Lib.hid hn
  have HM := Lib.hid hm
  have HTF := Lib.hid htf
  have HTS := Lib.hid hts
  have HL := Lib.hid hL
  have HST := Lib.hid hst
  have HB := Lib.hid hb
  have HK := Lib.hid hk
  have HS0 := Lib.hid hs0
  clear hst hb hk hsz hs0 hx hs hn hm htf hts hL
  go_enter Tryz.func19, Tryz.ntmps19
  go_wp2_with fail
  have hst := HST.out
  have hb := HB.out
  have hk := HK.out
  have hs0 := HS0.out
  generalize ((w.alloc (.cells #[.int .i64 er, .int .i64 num, .slice fo n fcap, .slice so m scap] 34)).alloc (.cells #[.slice none 0 0, .int .i64 0, .int .i8 0] 97)) = w0 at hst hb hk hs0 ⊢
  clear HST HB HK HS0
  have HX := Lib.hid ((HX.out.below faSub_kept hb (Nat.le_refl _)).mono faSub_rising (Nat.le_succ _))
  have HS := Lib.hid ((HS.out.below noSub_kept hb (Nat.le_refl _)).mono noSub_rising (Nat.le_succ _))
  have HK := Lib.hid hk
  refine (put2_any (w.heap.size + 1) (w.heap.size + 1) 8 _ [] er num w0 (by simp [hs0]) (by omega) (by omega) hst.1 (by omega) (by simp)).mono ?_
  rintro e w1 ⟨rfl, hw⟩
  rw [List.nil_append] at hw
  have hk1 := hw.sits hk (by omega) (by decide)
  have d2 : w1.cell? ⟨w.heap.size, 2, none⟩ = some (.slice fo n fcap) := Go.Joins.cell_of_block hk1 2
  have H1 := Lib.hid hw
  have HK1 := Lib.hid hk1
  have hB0 : w.heap.size + 1 ≤ w0.heap.size := by omega
  clear hw hk1 hk hst
  go_wp2_with fail
  refine (count_any (w.heap.size + 1) (w.heap.size + 1) _ n w1 H1.out.1 (Nat.le_trans hB0 H1.out.2.1.size) (by simp only [List.length_append, numB_len]; omega)).mono ?_
  rintro e w2 ⟨rfl, hw⟩
  have hk2 := hw.sits HK1.out (by omega) (by decide)
  have d2 : w2.cell? ⟨w.heap.size, 2, none⟩ = some (.slice fo n fcap) := Go.Joins.cell_of_block hk2 2
  have H2 := Lib.hid (H1.out.trans hw)
  clear hw hk2 HK1 H1
  go_wp2_with fail
  go_loopw [19] (fun i wr => ∃ k : Nat, k ≤ n ∧ i = .int .i64 k ∧ Wrote (w.heap.size + 1) (w.heap.size + 1) (numB 8 er ++ numB 8 num ++ numB 4 n ++ (facts.take k).flatMap fun f => factB f.plain) w0 wr) (fun i _ => n - (intOf i).toNat)
  case atStart => exact ⟨0, by omega, rfl, by simpa using H2.out⟩
  case round =>
    clear H2 d2
    obtain ⟨k, hk, rfl, hw⟩ := hrel
    have HW := Lib.hid hw
    clear hw
    by_cases hlt : k < n
    · have hkx : facts[k]? = some (facts[k]'(by rw [HN.out]; exact hlt)) := List.getElem?_eq_getElem _
      obtain ⟨rb, off, hao, hbb, hc, hsub⟩ := HX.out.at hkx
      have htk : ((facts.take (k + 1)).flatMap fun f => factB f.plain) = ((facts.take k).flatMap fun f => factB f.plain) ++ factB (facts[k]'(by rw [HN.out]; exact hlt)).plain := by
        rw [List.take_succ_eq_append_getElem (by rw [HN.out]; exact hlt), List.flatMap_append]; simp
      have hle := flatMap_at_le (fun f : Fa => factB f.plain) facts k _ hkx
      rw [HL.out] at hle
      have htx := HTF.out _ (List.getElem_mem (l := facts) (n := k) (by rw [HN.out]; exact hlt))
      generalize facts[k]'(by rw [HN.out]; exact hlt) = x at hc htk hle htx hkx hsub
      have hfl : (factB x.plain).length = 16 + (valuesB x.args).length := by simp only [Fa.plain, factB, List.length_append, numB_len]; omega
      have hcall : ∀ w', Wrote (w.heap.size + 1) (w.heap.size + 1) (numB 8 er ++ numB 8 num ++ numB 4 n ++ (facts.take k).flatMap fun f => factB f.plain) w0 w' → Calls Tryz.prog 65 #[.pointer (some ⟨w.heap.size + 1, 0, none⟩), faVal x] w' fun e w'' => e = .returned (.tuple #[]) ∧ Wrote (w.heap.size + 1) (w.heap.size + 1) ((numB 8 er ++ numB 8 num ++ numB 4 n ++ (facts.take k).flatMap fun f => factB f.plain) ++ factB x.plain) w' w'' := fun w' hw' =>
        fact_any (w.heap.size + 1) (w.heap.size + 1) _ x.id x.ty x.ao _ x.cap x.args w' rfl (hsub.below noSub_kept hw'.2.1 (Nat.le_refl _)) htx.2 hw'.1 (Nat.le_trans hB0 hw'.2.1.size) htx.1 (by simp only [List.length_append, numB_len]; omega)
      obtain ⟨id, ty, ao, args, cap⟩ := x
      unfold faVal at hcall
      dsimp only at hcall
      obtain ⟨an, han⟩ : ∃ an, args.length = an := ⟨_, rfl⟩
      rw [han] at hcall
      have hbel := HW.out.2.1
      have c0 : wr.cell? ⟨rb, off + k * 3, none⟩ = some (.int .i64 id) := (hbel.cell (p := ⟨rb, _, none⟩) hbb).trans (hc 0 (by decide))
      have c1 : wr.cell? ⟨rb, off + k * 3 + 1, none⟩ = some (.int .i64 ty) := (hbel.cell (p := ⟨rb, _, none⟩) hbb).trans (hc 1 (by decide))
      have c2 : wr.cell? ⟨rb, off + k * 3 + 1 + 1, none⟩ = some (.slice ao an cap) := (hbel.cell (p := ⟨rb, _, none⟩) hbb).trans (han ▸ hc 2 (by decide))
      have c3 : wr.cell? ⟨rb, off + k * 3 + 2, none⟩ = some (.slice ao an cap) := c2
      have HT := Lib.hid htk
      have HC := Lib.hid hcall
      have i1 : (k : Int) < n := by omega
      subst hao
      clear hc htk hle htx hkx hcall hbel hsub hfl han
      go_wp2_with fail
      refine (HC.out _ (HW.out.alloc hB0 _)).mono ?_
      rintro e w3 ⟨rfl, hw3⟩
      have hw4 := (HW.out.alloc hB0 _).trans hw3
      rw [List.append_assoc, ← HT.out] at hw4
      have HW4 := Lib.hid hw4
      clear hw3 hw4 c0 c1 c2 c3
      go_wp2_with fail
      go_roundw
      case rel => exact ⟨k + 1, by omega, by go_num, HW4.out⟩
      case measure => simp [intOf]; omega
    · obtain rfl : k = n := by omega
      have hw5 := HW.out
      rw [List.take_of_length_le (l := facts) (by rw [HN.out]; exact Nat.le_refl _), HL.out] at hw5
      have hk5 := hw5.sits HK.out (by omega) (by decide)
      have d3 : wr.cell? ⟨w.heap.size, 3, none⟩ = some (.slice so m scap) := Go.Joins.cell_of_block hk5 3
      have HW5 := Lib.hid hw5
      clear hw5 hk5 HW
      go_wp2_with fail
      refine (values_any (w.heap.size + 1) (w.heap.size + 1) _ so m scap said wr HM.out (HS.out.below noSub_kept HW5.out.2.1 (Nat.le_refl _)) HTS.out HW5.out.1 (Nat.le_trans hB0 HW5.out.2.1.size) (by simp only [List.length_append, numB_len]; omega) hml (by simp only [List.length_append, numB_len]; omega)).mono ?_
      rintro e w6 ⟨rfl, hw6⟩
      have hw7 := HW5.out.trans hw6
      have hbs : numB 8 er ++ numB 8 num ++ numB 4 k ++ L ++ valuesB said = numB 8 er ++ (numB 8 num ++ (numB 4 k ++ (L ++ valuesB said))) := by simp
      rw [hbs] at hw7
      have HW7 := Lib.hid hw7
      have hb6 := hb.trans (hw7.2.1.mono (Nat.le_succ _))
      have hs6 : w.heap.size + 1 ≤ w6.heap.size := by have := hw7.2.1.size; omega
      clear hw6 hw7 hbs d3
      go_wp2_with fail
      refine (told_any (w.heap.size + 1) (w.heap.size + 1) _ w6 HW7.out.1 hs6 (by simp only [List.length_append, numB_len]; omega)).mono ?_
      rintro e w8 ⟨a, c, rfl, ho, hb2⟩
      have HO := Lib.hid (Go.Joins.ownsRow_le ho hb6.size)
      have hb9 := hb6.trans (hb2.mono hb6.size)
      clear ho hb2
      go_wp2_with fail
      go_ret
      exact ⟨a, c, by simp [List.length_append], HO.out, hb9⟩
end Go.Proofs.YtnfldkebjeigiaaGreatDoor
