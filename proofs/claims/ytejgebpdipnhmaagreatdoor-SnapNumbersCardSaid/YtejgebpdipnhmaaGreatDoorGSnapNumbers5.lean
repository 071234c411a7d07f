/- A snap's bytes. Conditions: the snap lies as its reading says. -/
import Derived.Test.YtejgebpdipnhmaaGreatDoorGSnapNumbers3
import Derived.Test.YtejgebpdipnhmaaGreatDoorGSnapNumbers4
import Derived.Test.YtejgebpdipnhmaaGreatDoorGSnapNumbers2
import Derived.Test.YtejgebpdipnhmaaGreatDoorGSnapNumbers1
import Derived.Lib.SlBytesConst
set_option linter.unusedVariables false
set_option linter.unusedSimpArgs false
namespace Go.Proofs.YtejgebpdipnhmaaGreatDoor
open Go.RowKit
set_option maxRecDepth 20000
theorem snums_new (w : World) (xs : List Int) (cs : Array Value) (hcs : cs = (xs.map (Value.int .i64)).toArray) : NumsIn (w.alloc (.cells cs 3)) (w.heap.size + 1) (some ⟨w.heap.size, 0, none⟩) xs := by
  subst hcs
  refine Or.inr ⟨w.heap.size, 0, rfl, Nat.lt_succ_self _, fun i x hx => ⟨fun j hj => ?_, trivial⟩⟩
  obtain rfl : j = 0 := by omega
  rw [Go.Joins.cell_of_block (heap_alloc_new w _)]
  simp [hx, iCells]
/-- What is told beside an error: bytes of a call's own. -/
def BytesE (r : List Int × Int) (w : World) (e : Ending) (w' : World) : Prop :=
  ∃ a n c, e = .returned (.tuple #[.slice a n c, .int .i64 r.2]) ∧ BOwn w' w.heap.size a n c r.1 ∧ Below w.heap.size w w'
theorem own_value {w : World} {base : Nat} {v : Value} {L : List Int} (h : w.ownsRow base 5 1 v L.length (L.map bv)) : ∃ a n c, v = .slice a n c ∧ BOwn w base a n c L := by
  obtain ⟨a, c, rfl, _⟩ := own_bytes h
  exact ⟨a, _, c, rfl, rfl, h⟩
theorem fput1_any (b : Nat) (a : Option Addr) (n c : Nat) (D : List Int) (w : World) (k0 : w.cell? ⟨b, 0, none⟩ = some (.int .i64 1)) (k1 : w.cell? ⟨b, 1, none⟩ = some (.slice a n c)) (hb : b < w.heap.size) (hn : D.length = n) (hx : BytesIn w w.heap.size a D) (hnil : a = none → c = 0) (hw : BytesWf D) (hl : n ≤ 100000000)
    (r : List Int × Int) (hr : (if 1048576 < n then ([], 3) else (frameB 1 D, 0) : List Int × Int) = r) :
    Calls Tryz.prog 18 #[.slice (some ⟨b, 0, none⟩) 1 1] w (BytesE r w) := by
  subst hn
  refine (putF_any (some ⟨b, 0, none⟩) 1 [⟨1, a, c, D⟩] w (Or.inr ⟨b, 0, rfl, hb, fun i hi => ?_⟩) (fun f hf => ?_) ?_ (by simp)).mono ?_
  · obtain rfl : i = 0 := by simpa using hi
    exact ⟨k0, k1, hx⟩
  · rw [List.mem_singleton] at hf
    subst hf
    exact ⟨(show (Lit.int .i64 1).wf = true by decide), hnil, hw, by dsimp only; omega⟩
  · simp only [putB, List.flatMap_cons, List.flatMap_nil, List.append_nil, frameB_len]
    omega
  · rintro e w' ⟨v, rfl, h1, h2, h3⟩
    by_cases hg : 1048576 < D.length
    · have he : putE [⟨1, a, c, D⟩] = 3 := by simp [putE, hg]
      rw [if_pos hg] at hr
      subst hr
      rw [he] at h2 ⊢
      exact ⟨none, 0, 0, by rw [h2 (by decide)], ⟨rfl, World.ownsRow_nil _ _ _ _⟩, h3⟩
    · have he : putE [⟨1, a, c, D⟩] = 0 := by simp [putE, hg]
      rw [if_neg hg] at hr
      subst hr
      rw [he] at h1 ⊢
      have hp : putB [⟨1, a, c, D⟩] = frameB 1 D := by simp [putB]
      rw [hp] at h1
      obtain ⟨a2, n2, c2, rfl, ho⟩ := own_value (h1 rfl)
      exact ⟨a2, n2, c2, rfl, ho, h3⟩
theorem three_parts {w : World} {g : Nat} {p1 p2 p3 : Pt} (h : w.heap[g]? = some (.cells #[.slice p1.ao p1.data.length p1.cap, .slice p2.ao p2.data.length p2.cap, .slice p3.ao p3.data.length p3.cap] 24 (0, 0))) (h1 : ptSub w w.heap.size p1) (h2 : ptSub w w.heap.size p2) (h3 : ptSub w w.heap.size p3) :
    RowsIn 1 ptCells ptSub w w.heap.size (some ⟨g, 0, none⟩) [p1, p2, p3] := by
  refine Or.inr ⟨g, 0, rfl, (Array.getElem?_eq_some_iff.1 h).1, fun i x hx => ?_⟩
  rcases i with _ | _ | _ | i
  · simp at hx; subst hx
    exact ⟨fun j hj => by obtain rfl : j = 0 := by omega
                          rw [Go.Joins.cell_of_block h]; rfl, h1⟩
  · simp at hx; subst hx
    exact ⟨fun j hj => by obtain rfl : j = 0 := by omega
                          rw [Go.Joins.cell_of_block h]; rfl, h2⟩
  · simp at hx; subst hx
    exact ⟨fun j hj => by obtain rfl : j = 0 := by omega
                          rw [Go.Joins.cell_of_block h]; rfl, h3⟩
  · simp at hx
theorem join3_any (g : Nat) (a1 a2 a3 : Option Addr) (n1 n2 n3 c1 c2 c3 : Nat) (l1 l2 l3 L : List Int) (w : World) (hk : w.heap[g]? = some (.cells #[.slice a1 n1 c1, .slice a2 n2 c2, .slice a3 n3 c3] 24 (0, 0)))
    (e1 : l1.length = n1) (e2 : l2.length = n2) (e3 : l3.length = n3) (h1 : BytesIn w w.heap.size a1 l1) (h2 : BytesIn w w.heap.size a2 l2) (h3 : BytesIn w w.heap.size a3 l3) (w1 : BytesWf l1) (w2 : BytesWf l2) (w3 : BytesWf l3) (hL : l1 ++ (l2 ++ l3) = L) (n : Nat) (hn : L.length = n) (hl : n ≤ 100000000) :
    Calls Tryz.prog 19 #[.slice (some ⟨g, 0, none⟩) 3 3] w fun e w' => ∃ a c, e = .returned (.slice a n c) ∧ BytesIn w' w'.heap.size a L ∧ (a = none → c = 0) ∧ n ≤ c ∧ Below w.heap.size w w' := by
  subst e1 e2 e3 hn
  refine (wjoin_any (some ⟨g, 0, none⟩) 3 3 [⟨a1, c1, l1⟩, ⟨a2, c2, l2⟩, ⟨a3, c3, l3⟩] L w w.heap.size rfl (by rw [← hL]; simp) (three_parts (p1 := ⟨a1, c1, l1⟩) (p2 := ⟨a2, c2, l2⟩) (p3 := ⟨a3, c3, l3⟩) hk h1 h2 h3) (Nat.le_refl _) (fun p hp => ?_) (Nat.le_refl _) (by omega) (by omega)).mono ?_
  · simp only [List.mem_cons, List.not_mem_nil, or_false] at hp
    rcases hp with rfl | rfl | rfl <;> assumption
  · rintro e w' ⟨a, c, rfl, q1, q2, q3, _, q5⟩
    exact ⟨a, c, rfl, q1, q2, q3, q5⟩
set_option maxHeartbeats 4000000 in
/-- snap.Put. -/
theorem sput_any (x : Sn) (w : World) (hx : snSub w w.heap.size x) (hf : SnFine x) (r : List Int × Int) (hr : snPut x.plain = r) :
    Calls Tryz.prog 5 #[snVal x] w (BytesE r w) := by
  obtain ⟨g, hg⟩ : ∃ g, snRight x.plain = g := ⟨_, rfl⟩
  have HRT := Lib.hid fun w hx => sright_any x w hx hf g hg
  obtain ⟨si, st, va, xs, vc, ia, im, ic⟩ := x
  obtain ⟨f1, f2, f3, f4, f5, f6, f7, f8, f9, f10⟩ := hf
  dsimp only [snVal, Sn.plain, snSub] at hx hg hr HRT f1 f2 f3 f4 f5 f6 f7 f8 f9 f10 ⊢
  have HL := snData_len ⟨si, st, xs, im⟩
  have HD := Lib.hid (show [si, st, (xs.length : Int)].flatMap (numB 8) ++ (xs.flatMap (numB 8) ++ im) = snData ⟨si, st, xs, im⟩ by simp [snData, snHead])
  have HDW := Lib.hid (snData_wf (s := ⟨si, st, xs, im⟩) f5)
  unfold snPut at hr
  rw [hg] at hr
  generalize snData ⟨si, st, xs, im⟩ = D at HL HD HDW hr
  dsimp only at HL
  obtain ⟨n, hn⟩ : ∃ n, xs.length = n := ⟨_, rfl⟩
  obtain ⟨m, hm⟩ : ∃ m, im.length = m := ⟨_, rfl⟩
  obtain ⟨dl, hdl⟩ : ∃ d, D.length = d := ⟨_, rfl⟩
  rw [hn] at HRT HL HD f4 f9 ⊢
  rw [hm] at HRT HL f6 f10 ⊢
  rw [hdl] at HL hr
  have HN := Lib.hid hn
  have HM := Lib.hid hm
  have HDL := Lib.hid hdl
  have HX := Lib.hid hx
  have HW := Lib.hid f5
  have HI := Lib.hid f8
  clear hn hm hdl hx f5 f7 f8 f3 f1 f2 hg f9 f10
  have hdm : dl ≤ 100000000 := by omega
  clear HL
  have hb0 := (Below.refl w.heap.size w).alloc (Nat.le_refl _) (.cells #[.int .i64 si, .int .i64 st, .slice va n vc, .slice ia m ic] 26)
  have hk0 := heap_alloc_new w (.cells #[.int .i64 si, .int .i64 st, .slice va n vc, .slice ia m ic] 26)
  have HB0 := Lib.hid hb0
  have HK0 := Lib.hid hk0
  clear hb0 hk0
  have HR := Lib.hid hr
  clear hr
  go_enter Tryz.func5, Tryz.ntmps5
  go_wp2_with fail
  generalize w.alloc (.cells #[.int .i64 si, .int .i64 st, .slice va n vc, .slice ia m ic] 26) = w0 at HB0 HK0 ⊢
  refine (HRT.out w0 ((HX.out.1.below noSub_kept HB0.out (Nat.le_refl _)).mono noSub_rising HB0.out.size)).mono ?_
  rintro e w1 ⟨rfl, hb1⟩
  have hz0 := HB0.out.size
  have hlt0 := (Array.getElem?_eq_some_iff.1 HK0.out).1
  have HB1 := Lib.hid (HB0.out.trans (hb1.mono hz0))
  have HK1 := Lib.hid ((hb1.block _ hlt0).trans HK0.out)
  have hlt1 := (Array.getElem?_eq_some_iff.1 HK1.out).1
  clear hb1 HB0 HK0 HRT
  cases g with
  | false =>
    go_wp2_with fail
    go_ret2
    rw [← HR.out]
    exact ⟨none, 0, 0, rfl, ⟨rfl, World.ownsRow_nil _ _ _ _⟩, HB1.out⟩
  | true =>
    have hr2 := HR.out
    rw [if_neg (by simp)] at hr2
    have HR2 := Lib.hid hr2
    clear hr2
    go_wp2_with fail
    have hC : ∀ w', Below w1.heap.size w1 w' → w'.cell? ⟨w.heap.size, 0, none⟩ = some (.int .i64 si) ∧ w'.cell? ⟨w.heap.size, 1, none⟩ = some (.int .i64 st) ∧ w'.cell? ⟨w.heap.size, 2, none⟩ = some (.slice va n vc) ∧ w'.cell? ⟨w.heap.size, 3, none⟩ = some (.slice ia m ic) := fun w' hb => by
      have hk := (hb.block _ hlt1).trans HK1.out
      exact ⟨Go.Joins.cell_of_block hk 0, Go.Joins.cell_of_block hk 1, Go.Joins.cell_of_block hk 2, Go.Joins.cell_of_block hk 3⟩
    have HC := Lib.hid hC
    clear hC
    refine heldS_begin (fun w' => Below w1.heap.size w1 w') (by kernel_rfl) ((Below.refl _ _).drew) ?_
    intro hS0
    (first | (refine takeS_no 0 rfl (by kernel_rfl) (by kernel_rfl) (by kernel_rfl) (fun _ _ _ h => h) (by rfl) (by assumption) ?_) | (refine takeS_yes (v := ?_) 0 rfl (by kernel_rfl) (by kernel_rfl) (by kernel_rfl) (fun _ _ _ h => h) (by rfl) (by assumption) ?_ ?_; rotate_left; focus (intro wS hSw; obtain ⟨q0, q1, q2, q3⟩ := HC.out wS hSw; go_simp; first | done | with_reducible rfl)))
    (try simp only [Act.put, List.setIfInBounds_toArray, List.set_cons_zero, List.set_cons_succ])
    (first | (refine takeS_no 1 rfl (by kernel_rfl) (by kernel_rfl) (by kernel_rfl) (fun _ _ _ h => h) (by rfl) (by assumption) ?_) | (refine takeS_yes (v := ?_) 1 rfl (by kernel_rfl) (by kernel_rfl) (by kernel_rfl) (fun _ _ _ h => h) (by rfl) (by assumption) ?_ ?_; rotate_left; focus (intro wS hSw; obtain ⟨q0, q1, q2, q3⟩ := HC.out wS hSw; go_simp; first | done | with_reducible rfl)))
    (try simp only [Act.put, List.setIfInBounds_toArray, List.set_cons_zero, List.set_cons_succ])
    (first | (refine takeS_no 2 rfl (by kernel_rfl) (by kernel_rfl) (by kernel_rfl) (fun _ _ _ h => h) (by rfl) (by assumption) ?_) | (refine takeS_yes (v := ?_) 2 rfl (by kernel_rfl) (by kernel_rfl) (by kernel_rfl) (fun _ _ _ h => h) (by rfl) (by assumption) ?_ ?_; rotate_left; focus (intro wS hSw; obtain ⟨q0, q1, q2, q3⟩ := HC.out wS hSw; go_simp; first | done | with_reducible rfl)))
    (try simp only [Act.put, List.setIfInBounds_toArray, List.set_cons_zero, List.set_cons_succ])
    (first | (refine takeS_no 3 rfl (by kernel_rfl) (by kernel_rfl) (by kernel_rfl) (fun _ _ _ h => h) (by rfl) (by assumption) ?_) | (refine takeS_yes (v := ?_) 3 rfl (by kernel_rfl) (by kernel_rfl) (by kernel_rfl) (fun _ _ _ h => h) (by rfl) (by assumption) ?_ ?_; rotate_left; focus (intro wS hSw; obtain ⟨q0, q1, q2, q3⟩ := HC.out wS hSw; go_simp; first | done | with_reducible rfl)))
    (try simp only [Act.put, List.setIfInBounds_toArray, List.set_cons_zero, List.set_cons_succ])
    (first | (refine takeS_no 4 rfl (by kernel_rfl) (by kernel_rfl) (by kernel_rfl) (fun _ _ _ h => h) (by rfl) (by assumption) ?_) | (refine takeS_yes (v := ?_) 4 rfl (by kernel_rfl) (by kernel_rfl) (by kernel_rfl) (fun _ _ _ h => h) (by rfl) (by assumption) ?_ ?_; rotate_left; focus (intro wS hSw; obtain ⟨q0, q1, q2, q3⟩ := HC.out wS hSw; go_simp; first | done | with_reducible rfl)))
    (try simp only [Act.put, List.setIfInBounds_toArray, List.set_cons_zero, List.set_cons_succ])
    (first | (refine takeS_no 5 rfl (by kernel_rfl) (by kernel_rfl) (by kernel_rfl) (fun _ _ _ h => h) (by rfl) (by assumption) ?_) | (refine takeS_yes (v := ?_) 5 rfl (by kernel_rfl) (by kernel_rfl) (by kernel_rfl) (fun _ _ _ h => h) (by rfl) (by assumption) ?_ ?_; rotate_left; focus (intro wS hSw; obtain ⟨q0, q1, q2, q3⟩ := HC.out wS hSw; go_simp; first | done | with_reducible rfl)))
    (try simp only [Act.put, List.setIfInBounds_toArray, List.set_cons_zero, List.set_cons_succ])
    (first | (refine takeS_no 6 rfl (by kernel_rfl) (by kernel_rfl) (by kernel_rfl) (fun _ _ _ h => h) (by rfl) (by assumption) ?_) | (refine takeS_yes (v := ?_) 6 rfl (by kernel_rfl) (by kernel_rfl) (by kernel_rfl) (fun _ _ _ h => h) (by rfl) (by assumption) ?_ ?_; rotate_left; focus (intro wS hSw; obtain ⟨q0, q1, q2, q3⟩ := HC.out wS hSw; go_simp; first | done | with_reducible rfl)))
    (try simp only [Act.put, List.setIfInBounds_toArray, List.set_cons_zero, List.set_cons_succ])
    (first | (refine takeS_no 9 rfl (by kernel_rfl) (by kernel_rfl) (by kernel_rfl) (fun _ _ _ h => h) (by rfl) (by assumption) ?_) | (refine takeS_yes (v := ?_) 9 rfl (by kernel_rfl) (by kernel_rfl) (by kernel_rfl) (fun _ _ _ h => h) (by rfl) (by assumption) ?_ ?_; rotate_left; focus (intro wS hSw; obtain ⟨q0, q1, q2, q3⟩ := HC.out wS hSw; go_simp; first | done | with_reducible rfl)))
    (try simp only [Act.put, List.setIfInBounds_toArray, List.set_cons_zero, List.set_cons_succ])
    (first | (refine takeS_no 10 rfl (by kernel_rfl) (by kernel_rfl) (by kernel_rfl) (fun _ _ _ h => h) (by rfl) (by assumption) ?_) | (refine takeS_yes (v := ?_) 10 rfl (by kernel_rfl) (by kernel_rfl) (by kernel_rfl) (fun _ _ _ h => h) (by rfl) (by assumption) ?_ ?_; rotate_left; focus (intro wS hSw; obtain ⟨q0, q1, q2, q3⟩ := HC.out wS hSw; go_simp; first | done | with_reducible rfl)))
    (try simp only [Act.put, List.setIfInBounds_toArray, List.set_cons_zero, List.set_cons_succ])
    (first | (refine takeS_no 12 rfl (by kernel_rfl) (by kernel_rfl) (by kernel_rfl) (fun _ _ _ h => h) (by rfl) (by assumption) ?_) | (refine takeS_yes (v := ?_) 12 rfl (by kernel_rfl) (by kernel_rfl) (by kernel_rfl) (fun _ _ _ h => h) (by rfl) (by assumption) ?_ ?_; rotate_left; focus (intro wS hSw; obtain ⟨q0, q1, q2, q3⟩ := HC.out wS hSw; go_simp; first | done | with_reducible rfl)))
    (try simp only [Act.put, List.setIfInBounds_toArray, List.set_cons_zero, List.set_cons_succ])
    (first | (refine takeS_no 13 rfl (by kernel_rfl) (by kernel_rfl) (by kernel_rfl) (fun _ _ _ h => h) (by rfl) (by assumption) ?_) | (refine takeS_yes (v := ?_) 13 rfl (by kernel_rfl) (by kernel_rfl) (by kernel_rfl) (fun _ _ _ h => h) (by rfl) (by assumption) ?_ ?_; rotate_left; focus (intro wS hSw; obtain ⟨q0, q1, q2, q3⟩ := HC.out wS hSw; go_simp; first | done | with_reducible rfl)))
    (try simp only [Act.put, List.setIfInBounds_toArray, List.set_cons_zero, List.set_cons_succ])
    generalize w1.drew = wd at hS0 ⊢
    have hzd := hS0.size
    have hz1 := HB1.out.size
    refine takeS_alone 7 rfl (by kernel_rfl) (by rfl) (fun K hK => ?_)
    go_simp
    (have c2 := hS0.alloc hzd (.cells #[.int .i64 si, .int .i64 st, .int .i64 n] 3); have k2 := snums_new wd [si, st, (n : Int)] #[.int .i64 si, .int .i64 st, .int .i64 n] rfl; have s2 : (wd.alloc (.cells #[.int .i64 si, .int .i64 st, .int .i64 n] 3)).heap.size = wd.heap.size + 1 := (by simp); generalize wd.alloc (.cells #[.int .i64 si, .int .i64 st, .int .i64 n] 3) = w2 at c2 k2 s2 ⊢; rw [← s2] at k2; clear s2)
    refine hK.out _ _ (by assumption) ?_
    clear hK K
    (try simp only [Act.put, List.setIfInBounds_toArray, List.set_cons_zero, List.set_cons_succ])
    refine takeS_alone 8 rfl (by kernel_rfl) (by rfl) (fun K hK => ?_)
    go_simp
    (refine (snumbers_any (some ⟨wd.heap.size, 0, none⟩) 3 3 [si, st, (n : Int)] _ w2 w2.heap.size rfl rfl k2 (Nat.le_refl _) (by omega)).mono ?_; rintro e w3 ⟨a1, n1, c1, rfl, ho1, hb3⟩; have c3 := c2.trans (hb3.mono c2.size); clear hb3 k2)
    refine hK.out _ _ (by assumption) ?_
    clear hK K
    (try simp only [Act.put, List.setIfInBounds_toArray, List.set_cons_zero, List.set_cons_succ])
    refine takeS_alone 11 rfl (by kernel_rfl) (by rfl) (fun K hK => ?_)
    go_simp
    (refine (snumbers_any va n vc xs _ w3 w.heap.size rfl HN.out (HX.out.1.below noSub_kept (HB1.out.trans (c3.mono hz1)) (Nat.le_refl _)) (Nat.le_trans hz1 c3.size) f4).mono ?_; rintro e w4 ⟨a2, n2, c2', rfl, ho2, hb4⟩; have c4 := c3.trans (hb4.mono c3.size); have ho1 := ho1.below hb4 (Nat.le_refl _); clear hb4)
    refine hK.out _ _ (by assumption) ?_
    clear hK K
    (try simp only [Act.put, List.setIfInBounds_toArray, List.set_cons_zero, List.set_cons_succ])
    refine takeS_alone 14 rfl (by kernel_rfl) (by rfl) (fun K hK => ?_)
    go_simp
    (have b5 := (Below.refl w4.heap.size w4).alloc (Nat.le_refl _) (.cells #[.slice a1 n1 c1, .slice a2 n2 c2', .slice ia m ic] 24); have k5 := heap_alloc_new w4 (.cells #[.slice a1 n1 c1, .slice a2 n2 c2', .slice ia m ic] 24); have c5 := c4.trans (b5.mono c4.size); generalize w4.alloc (.cells #[.slice a1 n1 c1, .slice a2 n2 c2', .slice ia m ic] 24) = w5 at b5 k5 c5 ⊢)
    refine hK.out _ _ (by assumption) ?_
    clear hK K
    (try simp only [Act.put, List.setIfInBounds_toArray, List.set_cons_zero, List.set_cons_succ])
    refine takeS_alone 15 rfl (by kernel_rfl) (by rfl) (fun K hK => ?_)
    go_simp
    (refine (join3_any w4.heap.size a1 a2 ia n1 n2 m c1 c2' ic _ _ im D w5 k5 ho1.len ho2.len HM.out ((ho1.in.below b5 (Nat.le_refl _)).mono b5.size) ((ho2.in.below b5 (Nat.le_refl _)).mono b5.size) ((HX.out.2.below (HB1.out.trans (c5.mono hz1)) (Nat.le_refl _)).mono (Nat.le_trans hz1 c5.size)) (BytesWf.flat fun n _ => numB_wf 8 n) (BytesWf.flat fun n _ => numB_wf 8 n) HW.out HD.out dl HDL.out hdm).mono ?_; rintro e w6 ⟨a3, c3', rfl, hi6, hn6, hc6, hb6⟩; have c6 := c5.trans (hb6.mono c5.size); clear hb6 b5 k5)
    refine hK.out _ _ (by assumption) ?_
    clear hK K
    (try simp only [Act.put, List.setIfInBounds_toArray, List.set_cons_zero, List.set_cons_succ])
    (first | (refine takeS_no 16 rfl (by kernel_rfl) (by kernel_rfl) (by kernel_rfl) (fun _ _ _ h => h) (by rfl) (by assumption) ?_) | (refine takeS_yes (v := ?_) 16 rfl (by kernel_rfl) (by kernel_rfl) (by kernel_rfl) (fun _ _ _ h => h) (by rfl) (by assumption) ?_ ?_; rotate_left; focus (intro wS hSw; obtain ⟨q0, q1, q2, q3⟩ := HC.out wS hSw; go_simp; first | done | with_reducible rfl)))
    (try simp only [Act.put, List.setIfInBounds_toArray, List.set_cons_zero, List.set_cons_succ])
    refine takeS_alone 17 rfl (by kernel_rfl) (by rfl) (fun K hK => ?_)
    go_simp
    (have b7 := (Below.refl w6.heap.size w6).alloc (Nat.le_refl _) (.cells #[.int .i64 1, .slice a3 dl c3'] 46); have k7 := heap_alloc_new w6 (.cells #[.int .i64 1, .slice a3 dl c3'] 46); have c7 := c6.trans (b7.mono c6.size); generalize w6.alloc (.cells #[.int .i64 1, .slice a3 dl c3'] 46) = w7 at b7 k7 c7 ⊢)
    refine hK.out _ _ (by assumption) ?_
    clear hK K
    (try simp only [Act.put, List.setIfInBounds_toArray, List.set_cons_zero, List.set_cons_succ])
    refine takeS_alone 18 rfl (by kernel_rfl) (by rfl) (fun K hK => ?_)
    go_simp
    (refine (fput1_any w6.heap.size a3 dl c3' D w7 (Go.Joins.cell_of_block k7 0) (Go.Joins.cell_of_block k7 1) (Array.getElem?_eq_some_iff.1 k7).1 HDL.out ((hi6.below b7 (Nat.le_refl _)).mono b7.size) hn6 HDW.out hdm r HR2.out).mono ?_; rintro e w8 ⟨a, n8, c, rfl, ho, hb8⟩; have c8 := c7.trans (hb8.mono c7.size))
    refine hK.out _ _ (by assumption) ?_
    clear hK K
    (try simp only [Act.put, List.setIfInBounds_toArray, List.set_cons_zero, List.set_cons_succ])
    (first | (refine takeS_no 19 rfl (by kernel_rfl) (by kernel_rfl) (by kernel_rfl) (fun _ _ _ h => h) (by rfl) (by assumption) ?_) | (refine takeS_yes (v := ?_) 19 rfl (by kernel_rfl) (by kernel_rfl) (by kernel_rfl) (fun _ _ _ h => h) (by rfl) (by assumption) ?_ ?_; rotate_left; focus (intro wS hSw; obtain ⟨q0, q1, q2, q3⟩ := HC.out wS hSw; go_simp; first | done | with_reducible rfl)))
    (try simp only [Act.put, List.setIfInBounds_toArray, List.set_cons_zero, List.set_cons_succ])
    (first | (refine takeS_no 20 rfl (by kernel_rfl) (by kernel_rfl) (by kernel_rfl) (fun _ _ _ h => h) (by rfl) (by assumption) ?_) | (refine takeS_yes (v := ?_) 20 rfl (by kernel_rfl) (by kernel_rfl) (by kernel_rfl) (fun _ _ _ h => h) (by rfl) (by assumption) ?_ ?_; rotate_left; focus (intro wS hSw; obtain ⟨q0, q1, q2, q3⟩ := HC.out wS hSw; go_simp; first | done | with_reducible rfl)))
    (try simp only [Act.put, List.setIfInBounds_toArray, List.set_cons_zero, List.set_cons_succ])
    (first | (refine takeS_no 21 rfl (by kernel_rfl) (by kernel_rfl) (by kernel_rfl) (fun _ _ _ h => h) (by rfl) (by assumption) ?_) | (refine takeS_yes (v := ?_) 21 rfl (by kernel_rfl) (by kernel_rfl) (by kernel_rfl) (fun _ _ _ h => h) (by rfl) (by assumption) ?_ ?_; rotate_left; focus (intro wS hSw; obtain ⟨q0, q1, q2, q3⟩ := HC.out wS hSw; go_simp; first | done | with_reducible rfl)))
    (try simp only [Act.put, List.setIfInBounds_toArray, List.set_cons_zero, List.set_cons_succ])
    (first | (refine takeS_no 22 rfl (by kernel_rfl) (by kernel_rfl) (by kernel_rfl) (fun _ _ _ h => h) (by rfl) (by assumption) ?_) | (refine takeS_yes (v := ?_) 22 rfl (by kernel_rfl) (by kernel_rfl) (by kernel_rfl) (fun _ _ _ h => h) (by rfl) (by assumption) ?_ ?_; rotate_left; focus (intro wS hSw; obtain ⟨q0, q1, q2, q3⟩ := HC.out wS hSw; go_simp; first | done | with_reducible rfl)))
    (try simp only [Act.put, List.setIfInBounds_toArray, List.set_cons_zero, List.set_cons_succ])
    refine wpAnyH_done (by kernel_rfl) ?_ _
    have HFIN := Lib.hid (show BytesE r w (.returned (.tuple #[.slice a n8 c, .int .i64 r.2])) w8 from ⟨a, n8, c, rfl, ho.le (Nat.le_trans hz1 c7.size), HB1.out.trans (c8.mono hz1)⟩)
    go_wp2_with fail
    go_ret2
    exact HFIN.out
end Go.Proofs.YtejgebpdipnhmaaGreatDoor
/- What four bytes say, as the program reckons it. Conditions: the slice's cells lie as its reading says; four bytes at least. -/
namespace Go.Proofs.YtejgebpdipnhmaaGreatDoor
open Go.RowKit
set_option maxRecDepth 20000
theorem or_add (i a b : Nat) (hb : b < 2 ^ i) (h : 2 ^ i * a + b < 4294967296) : bits .or .u32 ((2 ^ i * a : Nat) : Int) ((b : Nat) : Int) = ((2 ^ i * a + b : Nat) : Int) := by
  rw [u32_or_nat _ _ (by omega) (by omega), Nat.two_pow_add_eq_or_of_lt hb]
theorem said_bits {a b c d : Int} (ha : 0 ≤ a ∧ a < 256) (hb : 0 ≤ b ∧ b < 256) (hc : 0 ≤ c ∧ c < 256) (hd : 0 ≤ d ∧ d < 256) :
    bits .or .u32 (bits .or .u32 (bits .or .u32 (a * 16777216) (b * 65536)) (c * 256)) d = a * 16777216 + b * 65536 + c * 256 + d := by
  obtain ⟨x, rfl⟩ := Int.eq_ofNat_of_zero_le ha.1
  obtain ⟨y, rfl⟩ := Int.eq_ofNat_of_zero_le hb.1
  obtain ⟨z, rfl⟩ := Int.eq_ofNat_of_zero_le hc.1
  obtain ⟨u, rfl⟩ := Int.eq_ofNat_of_zero_le hd.1
  have e1 := or_add 24 x (65536 * y) (by omega) (by omega)
  have e2 := or_add 16 (256 * x + y) (256 * z) (by omega) (by omega)
  have e3 := or_add 8 (65536 * x + 256 * y + z) u (by omega) (by omega)
  have f1 : (x : Int) * 16777216 = ((2 ^ 24 * x : Nat) : Int) := by omega
  have f2 : (y : Int) * 65536 = ((65536 * y : Nat) : Int) := by omega
  have f3 : (z : Int) * 256 = ((256 * z : Nat) : Int) := by omega
  rw [f1, f2, f3, e1]
  rw [show 2 ^ 24 * x + 65536 * y = 2 ^ 16 * (256 * x + y) by omega, e2]
  rw [show 2 ^ 16 * (256 * x + y) + 256 * z = 2 ^ 8 * (65536 * x + 256 * y + z) by omega, e3]
  omega
theorem saidF_any (ao : Option Addr) (n cap : Nat) (xs : List Int) (w : World) (B : Nat) (hn : xs.length = n) (hx : BytesIn w B ao xs) (hw : BytesWf xs) (hl : 4 ≤ xs.length) (hm : n ≤ maxLen) :
    Calls Tryz.prog 66 #[.slice ao n cap] w fun e w' => e = .returned (.int .u32 (saidS xs)) ∧ ∃ n, w' = w.drewN n := by
  unfold maxLen at hm
  rcases hx with h0 | ⟨b, off, rfl, _, hc⟩
  · rw [h0] at hl; simp at hl
  have c0 := hc 0 (by omega)
  rw [Nat.add_zero] at c0
  have c1 := hc 1 (by omega)
  have c2 := hc 2 (by omega)
  have c3 := hc 3 (by omega)
  have w0 := hw _ (bytes_mem (k := 0) (xs := xs) (by omega))
  have w1 := hw _ (bytes_mem (k := 1) (xs := xs) (by omega))
  have w2 := hw _ (bytes_mem (k := 2) (xs := xs) (by omega))
  have w3 := hw _ (bytes_mem (k := 3) (xs := xs) (by omega))
  have hs : ((saidS xs : Nat) : Int) = xs.getD 0 0 * 16777216 + xs.getD 1 0 * 65536 + xs.getD 2 0 * 256 + xs.getD 3 0 := by unfold saidS; omega
  generalize xs.getD 0 0 = x0 at c0 w0 hs
  generalize xs.getD 1 0 = x1 at c1 w1 hs
  generalize xs.getD 2 0 = x2 at c2 w2 hs
  generalize xs.getD 3 0 = x3 at c3 w3 hs
  have HB := Lib.hid (said_bits w0 w1 w2 w3)
  have HS := Lib.hid hs
  have l0 : (0 : Int) < n := by omega
  have l1 : (1 : Int) < n := by omega
  have l2 : (2 : Int) < n := by omega
  have l3 : (3 : Int) < n := by omega
  clear hc hs hw hn
  go_enter Tryz.func66, Tryz.ntmps66
  go_wp2_with fail
  go_quiet (fail)
  go_wp2_with fail
  go_ret
  exact ⟨congrArg (fun n => Ending.returned (.int .u32 n)) (by rw [HS.out, ← HB.out]), _, rfl⟩
end Go.Proofs.YtejgebpdipnhmaaGreatDoor
/- frame.Scan: the frames that bytes begin with. Conditions: the bytes' cells lie as their reading says. -/
namespace Go.Proofs.YtejgebpdipnhmaaGreatDoor
open Go.RowKit
set_option maxRecDepth 20000
theorem step_a {b : List Int} (h : b.length < 4) : stepS b = .stop false := by unfold stepS; rw [if_pos h]
theorem step_b {b : List Int} (h : 4 ≤ b.length) (h2 : 1048576 < saidS b) : stepS b = .stop true := by unfold stepS; rw [if_neg (by omega), if_pos h2]
theorem step_c {b : List Int} (h : 4 ≤ b.length) (h2 : saidS b ≤ 1048576) (h3 : b.length < 9 + saidS b) : stepS b = .stop false := by unfold stepS; rw [if_neg (by omega), if_neg (by omega), if_pos h3]
theorem step_d {b : List Int} (h : 4 ≤ b.length) (h2 : saidS b ≤ 1048576) (h3 : 9 + saidS b ≤ b.length) (h4 : saidS (b.drop 5) ≠ sumS (kindF b :: dataS b)) : stepS b = .stop true := by
  unfold stepS; rw [if_neg (by omega), if_neg (by omega), if_neg (by omega), if_pos h4]
theorem step_e {b : List Int} (h : 4 ≤ b.length) (h2 : saidS b ≤ 1048576) (h3 : 9 + saidS b ≤ b.length) (h4 : saidS (b.drop 5) = sumS (kindF b :: dataS b)) : stepS b = .one (kindF b) (dataS b) := by
  unfold stepS; rw [if_neg (by omega), if_neg (by omega), if_neg (by omega), if_neg (by omega)]
theorem said_at (ao : Option Addr) (n cap : Nat) (xs : List Int) (z : Nat) (w : World) (B : Nat) (hn : xs.length = n) (hz : saidS xs = z) (hx : BytesIn w B ao xs) (hw : BytesWf xs) (hl : 4 ≤ n) (hm : n ≤ 1099511627776) :
    Calls Tryz.prog 66 #[.slice ao n cap] w fun e w' => e = .returned (.int .u32 z) ∧ Below w.heap.size w w' := by
  subst hz
  refine (saidF_any ao n cap xs w B hn hx hw (by omega) (by unfold maxLen; omega)).mono ?_
  rintro e w' ⟨h, k, rfl⟩
  exact ⟨h, below_drewN (Below.refl _ _) _⟩
theorem sum_at (ao : Option Addr) (n cap : Nat) (xs : List Int) (z : Nat) (w : World) (B : Nat) (hn : xs.length = n) (hz : sumS xs = z) (hx : BytesIn w B ao xs) (hw : BytesWf xs) (hl : n ≤ 4611686018427387904) :
    Calls Tryz.prog 67 #[.slice ao n cap] w fun e w' => e = .returned (.int .u32 z) ∧ w = w' := by
  subst hn hz
  exact sum_any ao cap xs w B hx hw hl
theorem clone_at (ao : Option Addr) (n cap : Nat) (xs : List Int) (w : World) (B : Nat) (hn : xs.length = n) (hx : BytesIn w B ao xs) (hB : B ≤ w.heap.size) (hao : ao = none → cap = 0) (hl : n ≤ 140737488351232) :
    Calls Tryz.prog 34 #[.slice ao n cap] w (ClonePostF xs w) := by
  subst hn; exact clone_anyF ao cap xs w B hx hB hao hl
theorem said_lt {b : List Int} (hb : BytesWf b) : saidS b < 4294967296 := by
  have h : ∀ i, 0 ≤ b.getD i 0 ∧ b.getD i 0 < 256 := by
    intro i
    rcases Nat.lt_or_ge i b.length with h | h
    · exact hb _ (bytes_mem h)
    · rw [List.getD_eq_getElem?_getD, List.getElem?_eq_none h]; decide
  have h0 := h 0
  have h1 := h 1
  have h2 := h 2
  have h3 := h 3
  unfold saidS
  omega
theorem infoFrame : (Tryz.prog.info? 46).map (fun i => (i.zero, i.size, i.bytes)) = some (some (.agg #[.int .i64 0, .slice none 0 0]), 2, 32) := by kernel_rfl
theorem frame_cells_new (w : World) (T : TypeId) (x y : Value) : ∀ j u, [x, y][j]? = some u → (w.alloc (.cells #[x, y] T)).cell? ((⟨w.heap.size, 0, none⟩ : Addr).add j) = some u := by
  intro j u hu
  have hadd : (⟨w.heap.size, 0, none⟩ : Addr).add j = ⟨w.heap.size, j, none⟩ := by unfold Addr.add; split <;> simp_all
  rw [hadd, World.cell?_alloc_at _ _ _ _ rfl]
  simpa using hu
def ScanPost (xs : List Int) (w : World) (e : Ending) (w' : World) : Prop :=
  ∃ v frs, e = .returned (.tuple #[v, .int .i64 (scanS xs).2.1, .bool (scanS xs).2.2]) ∧ frs.map Fr.pair = (scanS xs).1 ∧ FramesOwn w' w.heap.size v frs ∧ Below w.heap.size w w'
theorem scan_post {xs : List Int} {w w' : World} {v : Value} {frs : List Fr} {used : Nat} {s : Bool} (h : scanS xs = (frs.map Fr.pair, used, s)) (ho : FramesOwn w' w.heap.size v frs) (hb : Below w.heap.size w w') : ScanPost xs w (.returned (.tuple #[v, .int .i64 used, .bool s])) w' :=
  ⟨v, frs, by rw [h], by rw [h], ho, hb⟩
set_option maxHeartbeats 2000000 in
theorem scan_any (ao : Option Addr) (cap : Nat) (xs : List Int) (w : World) (hx : BytesIn w w.heap.size ao xs) (hw : BytesWf xs) (hao : ao = none → cap = 0) (hcap : xs.length ≤ cap) (hl : xs.length ≤ 1099511627776) :
    Calls Tryz.prog 30 #[.slice ao xs.length cap] w (ScanPost xs w) := by
  obtain ⟨i0, hi, hz0, hz1, hz2⟩ := info_parts infoFrame
  have HX := Lib.hid hx
  have HA := Lib.hid hao
  have HC := Lib.hid hcap
  clear hx hao
  go_enter Tryz.func30, Tryz.ntmps30
  go_wp2_with fail
  go_loopw [2, 3, 5, 6, 7, 8] (fun v u l _ _ _ wr => ∃ (frs : List Fr) (used m c : Nat) (lo : Option Addr), u = .int .i64 used ∧ frs.length ≤ used ∧ m + used = xs.length ∧ m ≤ c ∧ l = .slice lo m c ∧ (lo = none → c = 0) ∧ BytesIn wr w.heap.size lo (xs.drop used) ∧ FramesOwn wr w.heap.size v frs ∧ scanS xs = joinS (frs.map Fr.pair) used (scanS (xs.drop used)) ∧ Below w.heap.size w wr) (fun _ u _ _ _ _ _ => xs.length - (intOf u).toNat)
  case atStart => exact ⟨[], 0, xs.length, cap, ao, rfl, by simp, by omega, hcap, rfl, HA.out, by simpa using HX.out, FramesOwn.nil _ _, by simp [joinS], Below.refl _ _⟩
  case round =>
    obtain ⟨frs, used, m, c, lo, rfl, hfl, hm, hmc, rfl, hlo, hbi, hfo, hsc, hbel⟩ := hrel
    have HL := Lib.hid hlo
    have HF := Lib.hid hfo
    have HS := Lib.hid hsc
    clear hlo hfo hsc hcap
    have hs := hbel.size
    obtain ⟨left, hleft⟩ : ∃ left, left = xs.drop used := ⟨_, rfl⟩
    have hwl : BytesWf left := by rw [hleft]; exact hw.drop used
    have HM := Lib.hid (show left.length = m by rw [hleft, List.length_drop]; omega)
    rw [← hleft] at hbi
    have HD := Lib.hid hleft
    clear hleft
    by_cases h4 : m < 4
    · have i1 : ¬ (4 : Int) ≤ m := by omega
      have hj := join_stop (s := false) (by rw [← HD.out]; exact step_a (by rw [HM.out]; exact h4)) HS.out
      have HJ := Lib.hid hj
      clear hj
      go_wp2_with fail
      go_ret3
      exact scan_post HJ.out HF.out hbel
    · have i1 : (4 : Int) ≤ m := by omega
      obtain ⟨n, hn⟩ : ∃ n, saidS left = n := ⟨_, rfl⟩
      have hn32 : n < 4294967296 := hn ▸ said_lt hwl
      have HN := Lib.hid hn
      clear hn
      go_wp2_with fail
      refine (said_at lo m c left n wr _ HM.out HN.out hbi hwl (by omega) (by omega)).mono ?_
      rintro e w1 ⟨rfl, hb1⟩
      have hbi1 := hbi.below hb1 hs
      have hfo1 := HF.out.below hb1 (Nat.le_refl _)
      have hbel1 := hbel.trans (hb1.mono hs)
      have HF1 := Lib.hid hfo1
      clear hfo1 HF hbi
      have hs1 := hbel1.size
      by_cases h5 : 1048576 < n
      · have i2 : (1048576 : Int) < n := by omega
        have hj := join_stop (s := true) (by rw [← HD.out]; exact step_b (by rw [HM.out]; omega) (by rw [HN.out]; exact h5)) HS.out
        have HJ := Lib.hid hj
        clear hj
        go_wp2_with fail
        go_ret3
        exact scan_post HJ.out HF1.out hbel1
      · have i2 : ¬ (1048576 : Int) < n := by omega
        by_cases h6 : m < 9 + n
        · have i3 : (m : Int) < 9 + (n : Int) := by omega
          have hj := join_stop (s := false) (by rw [← HD.out]; exact step_c (by rw [HM.out]; omega) (by rw [HN.out]; omega) (by rw [HM.out, HN.out]; exact h6)) HS.out
          have HJ := Lib.hid hj
          clear hj
          go_wp2_with fail
          go_ret3
          exact scan_post HJ.out HF1.out hbel1
        · have i3 : ¬ (m : Int) < 9 + (n : Int) := by omega
          have hHM := HM.out
          rcases hbi1 with h0 | ⟨b, off, hlo1, hbB, hc⟩
          · rw [h0] at hHM; simp at hHM; omega
          have hc4 := hc 4 (by omega)
          have hk4 := hwl _ (bytes_mem (k := 4) (xs := left) (by omega))
          have hbi1 : BytesIn w1 w.heap.size lo left := Or.inr ⟨b, off, hlo1, hbB, hc⟩
          have hd9 := hbi1.sub (cap := c) 9 n (by omega)
          have hd5 := hbi1.drop (cap := c) 5 (by omega)
          have ha9 : subA lo c 9 1 = none → c - 9 = 0 := fun h => by have := HL.out (subA_eq_none h); omega
          have hsl9 : ∀ w, (Instr.sliceAt 24 (.slice lo m c) (some (.int .i64 9)) (some (.int .i64 (9 + (n : Int)))) none).run Tryz.prog w = .ok (.slice (subA lo c 9 1) n (c - 9)) w := fun w => by
            have := run_sub_lh sliceByte sizeByte lo m c 9 (9 + n) (by omega) (by omega) .i64 .i64 9 (9 + (n : Int)) rfl (by omega) w
            rwa [Nat.add_sub_cancel_left] at this
          have hsl5 : ∀ w, (Instr.sliceAt 24 (.slice lo m c) (some (.int .i64 5)) none none).run Tryz.prog w = .ok (.slice (subA lo c 5 1) (m - 5) (c - 5)) w := fun w => run_sub_l sliceByte sizeByte lo m c 5 (by omega) .i64 5 rfl w
          have hks : kindF left = left.getD 4 0 := rfl
          have hds : dataS left = (left.drop 9).take n := by unfold dataS; rw [HN.out]
          have hdl : ((left.drop 9).take n).length = n := by rw [List.length_take, List.length_drop]; omega
          have hdw : BytesWf ((left.drop 9).take n) := (hwl.drop 9).take n
          subst hlo1
          clear hc hbi1 hHM
          obtain ⟨kd, hkd⟩ : ∃ kd, kd = left.getD 4 0 := ⟨_, rfl⟩
          rw [← hkd] at hc4 hk4 hks
          obtain ⟨dt, hdt⟩ : ∃ dt, dt = (left.drop 9).take n := ⟨_, rfl⟩
          rw [← hdt] at hd9 hds hdl hdw
          obtain ⟨a9, ha9e⟩ : ∃ a9, a9 = subA (some ⟨b, off, none⟩) c 9 1 := ⟨_, rfl⟩
          obtain ⟨a5, ha5e⟩ : ∃ a5, a5 = subA (some ⟨b, off, none⟩) c 5 1 := ⟨_, rfl⟩
          rw [← ha9e] at hd9 ha9
          simp only [← ha9e] at hsl9
          simp only [← ha5e] at hsl5
          rw [← ha5e] at hd5
          have HK := Lib.hid hks
          have HT := Lib.hid hds
          have H9 := Lib.hid ha9
          clear hkd hdt ha9e ha5e hks hds ha9
          subst hdl
          have n1 : IntKind.i64.wrap (9 + (dt.length : Int)) = 9 + (dt.length : Int) := IntWalk.i64_in _ (by omega)
          have l4 : (4 : Int) < m := by omega
          go_wp2_with fail
          go_quiet (fail)
          have hb2 : Below w1.heap.size w1 (w1.drewN nq) := below_drewN (Below.refl _ _) _
          generalize w1.drewN nq = w2 at hb2 ⊢
          have hfo2 := HF1.out.below hb2 (Nat.le_refl _)
          have hbel2 := hbel1.trans (hb2.mono hs1)
          have hd9' := hd9.below hb2 hs1
          have hd5' := hd5.below hb2 hs1
          have hs2 := hbel2.size
          have HF2 := Lib.hid hfo2
          clear hfo2 HF1 hd9 hd5 hc4 n1 hsl9
          obtain ⟨z, hz⟩ : ∃ z, saidS (left.drop 5) = z := ⟨_, rfl⟩
          have HZ := Lib.hid hz
          have H5L := Lib.hid (show (left.drop 5).length = m - 5 by rw [List.length_drop, HM.out])
          have hz32 : z < 4294967296 := hz ▸ said_lt (hwl.drop 5)
          clear hz
          go_wp2_with fail
          refine (said_at a5 (m - 5) (c - 5) (left.drop 5) z w2 _ H5L.out HZ.out hd5' (hwl.drop 5) (by omega) (by omega)).mono ?_
          rintro e w3 ⟨rfl, hb3⟩
          have hfo3 := HF2.out.below hb3 (Nat.le_refl _)
          have hbel3 := hbel2.trans (hb3.mono hs2)
          have hd3 := hd9'.below hb3 hs2
          have hs3 := hbel3.size
          have HF3 := Lib.hid hfo3
          clear hfo3 HF2 hd9' hd5' hsl5
          have hao3 := H9.out
          go_wp2_with (at_builtin; refine wpList_append_bytes rfl (.tmp 41) (.tmp 42) rfl w3.heap.size _ [kd] rfl (World.ownsRow_lit w3 #[.int .u8 kd] 1 (Nat.le_refl _) (by unfold maxLen; omega) rfl) a9 (c - 9) dt rfl w.heap.size (hd3.below ((Below.refl w.heap.size w3).alloc (by omega) _) (Nat.le_refl _)) hao3 (by simp; omega) (by simp) ?_)
          intro v4 w4 hown4 hg4
          have hb4 : Below w3.heap.size w3 w4 := ((Below.refl w3.heap.size w3).alloc (Nat.le_refl _) _).grown hg4 (by simp) (fun k hk => by cases hk; exact Nat.le_refl _)
          obtain ⟨a4, cap4, hv4, hD4⟩ := own_bytes (l := kd :: dt) hown4
          subst hv4
          have hw4 : BytesWf (kd :: dt) := by
            intro x hx
            rcases List.mem_cons.1 hx with hx | hx
            · rw [hx]; exact hk4
            · exact hdw x hx
          have hfo4 := HF3.out.below hb4 (Nat.le_refl _)
          have hbel4 := hbel3.trans (hb4.mono hs3)
          have hd4 := hd3.below hb4 hs3
          have hs4 := hbel4.size
          have HF4 := Lib.hid hfo4
          clear hown4 hg4 hfo4 HF3 hd3 hao3
          obtain ⟨sm, hsm⟩ : ∃ sm, sumS (kd :: dt) = sm := ⟨_, rfl⟩
          have HSM := Lib.hid hsm
          clear hsm
          go_wp2_with fail
          refine (sum_at a4 _ cap4 (kd :: dt) sm w4 _ (by simp) HSM.out hD4 hw4 (by simp; omega)).mono ?_
          rintro e w5 ⟨rfl, rfl⟩
          by_cases hzs : z = sm
          · subst hzs
            have hst : stepS (xs.drop used) = .one kd dt := by
              rw [← HD.out, HK.out.symm, HT.out.symm]
              exact step_e (by rw [HM.out]; omega) (by rw [HN.out]; omega) (by rw [HM.out, HN.out]; omega) (by rw [HZ.out, HK.out, HT.out, HSM.out])
            have hj := join_one hst HS.out
            have HJ := Lib.hid hj
            clear hj hst
            have hao5 := H9.out
            go_wp2_with fail
            refine (clone_at a9 _ (c - 9) dt w4 _ rfl hd4 hs4 hao5 (by omega)).mono ?_
            rintro e w6 ⟨v6, rfl, hown6, hb6⟩
            have hown6' := hown6
            obtain ⟨a6, cap6, hv6, _⟩ := own_bytes hown6'
            subst hv6
            have hfo6 := HF4.out.below hb6 (Nat.le_refl _)
            have HFR := Lib.hid hfo6
            have HO6 := Lib.hid hown6
            have hbel6 := hbel4.trans (hb6.mono hs4)
            have hs6 := hbel6.size
            have hu1 : used + 9 + dt.length ≤ xs.length := by omega
            have hslu : ∀ w, (Instr.sliceAt 24 (.slice ao xs.length cap) (some (.int .i64 ((used : Int) + (9 + (dt.length : Int))))) none none).run Tryz.prog w = .ok (.slice (subA ao cap (used + 9 + dt.length) 1) (xs.length - (used + 9 + dt.length)) (cap - (used + 9 + dt.length))) w := fun w => run_sub_l sliceByte sizeByte ao xs.length cap (used + 9 + dt.length) hu1 .i64 _ (by omega) w
            obtain ⟨au, hau⟩ : ∃ au, au = subA ao cap (used + 9 + dt.length) 1 := ⟨_, rfl⟩
            simp only [← hau] at hslu
            have HAU := Lib.hid hau
            clear hfo6 hown6 hown6' hao5 hau hd4
            go_wp2_with (at_builtin; refine wpList_append_own _ rfl (.tmp 48) (.tmp 54) 56 rfl w.heap.size 46 i0 (.agg #[.int .i64 0, .slice none 0 0]) 2 32 Tryz.underlying56 hi hz0 hz1 hz2 rfl (by decide) _ frs.length (frs.flatMap frCells) rfl (World.ownsRow.alloc HFR.out.1 _) ⟨w6.heap.size, 0, none⟩ 1 1 [.int .i64 kd, .slice a6 dt.length cap6] rfl rfl (frame_cells_new _ _ _ _) (by simp [Value.oneCell']) (by unfold maxLen; omega) (by omega) (by simp; omega) ?_)
            intro v7 w7 hown7 hg7 _
            have hfo7 := HF4.out.snoc (f := ⟨kd, a6, cap6, dt⟩) hs4 hb6 HO6.out ((Below.refl w6.heap.size w6).alloc (Nat.le_refl _) _) hown7 hg7
            have hbel7 : Below w.heap.size w w7 := (hbel6.alloc hs6 _).grown hg7 (by simp; omega) (fun k hk => (HFR.out.1.lt k hk).1)
            have HF7 := Lib.hid hfo7
            clear hown7 hg7 hfo7
            go_wp2_with fail
            go_roundw
            case rel => exact ⟨frs ++ [⟨kd, a6, cap6, dt⟩], used + 9 + dt.length, _, _, au, by go_num, by simp; omega, by omega, by have := HC.out; omega, rfl, fun h => by rw [HAU.out] at h; rw [HA.out (subA_eq_none h)]; omega, by rw [HAU.out]; exact (HX.out.below hbel7 (Nat.le_refl _)).drop _ HC.out, HF7.out, by rw [List.map_append]; exact HJ.out, hbel7⟩
            case measure => simp [intOf]; omega
          · have i5 : ¬ ((z : Int) = (sm : Int)) := by omega
            have hj := join_stop (s := true) (by rw [← HD.out]; exact step_d (by rw [HM.out]; omega) (by rw [HN.out]; omega) (by rw [HM.out, HN.out]; omega) (by rw [HZ.out, HK.out, HT.out, HSM.out]; exact hzs)) HS.out
            have HJ := Lib.hid hj
            clear hj
            go_wp2_with fail
            go_ret3
            exact scan_post HJ.out HF4.out hbel4
end Go.Proofs.YtejgebpdipnhmaaGreatDoor
/- The example of the laws of layer 3: it is as it must be, and nothing that was there is changed. No condition. -/
namespace Go.Proofs.YtejgebpdipnhmaaGreatDoor
open Go.RowKit
set_option maxRecDepth 20000
theorem bytes_newF (w : World) (T : TypeId) (xs : List Int) (cs : Array Value) (fr : Nat × Nat) (g B : Nat) (hcs : cs = (xs.map bv).toArray) (hg : g = w.heap.size) (hB : g < B) : BytesIn (w.alloc (.cells cs T fr)) B (some ⟨g, 0, none⟩) xs := by
  subst hcs hg
  refine Or.inr ⟨w.heap.size, 0, rfl, hB, fun i hi => ?_⟩
  rw [Go.Joins.cell_alloc_mark_at _ _ _ _ _ _ rfl]
  simp [bv, List.getD, List.getElem?_eq_getElem hi]
theorem own_cap {w : World} {base e size n m cap : Nat} {ao : Option Addr} {xs : List Value} (h : w.ownsRow base e size (.slice ao m cap) n xs) : m ≤ cap := by
  rcases h.2 with ⟨h', _⟩ | ⟨g, cap', cur, h', _, _, h3, _⟩
  · cases h'; omega
  · cases h'; exact h3
theorem scan_at (ao : Option Addr) (n cap : Nat) (xs : List Int) (r : List (Int × List Int)) (used : Nat) (s : Bool) (w : World) (B : Nat) (hn : xs.length = n) (hr : scanS xs = (r, used, s)) (hx : BytesIn w B ao xs) (hB : B ≤ w.heap.size) (hw : BytesWf xs) (hao : ao = none → cap = 0) (hcap : n ≤ cap) (hl : n ≤ 1099511627776) :
    Calls Tryz.prog 30 #[.slice ao n cap] w fun e w' => ∃ v frs, e = .returned (.tuple #[v, .int .i64 used, .bool s]) ∧ frs.map Fr.pair = r ∧ FramesOwn w' w.heap.size v frs ∧ Below w.heap.size w w' := by
  subst hn
  refine (scan_any ao cap xs w (hx.mono hB) hw hao hcap hl).mono ?_
  rintro e w' ⟨v, frs, he, h1, h2, h3⟩
  rw [hr] at he h1
  exact ⟨v, frs, he, h1, h2, h3⟩
theorem pair_one {frs : List Fr} {k : Int} {d : List Int} (h : frs.map Fr.pair = [(k, d)]) : ∃ a c, frs = [⟨k, a, c, d⟩] := by
  match frs, h with
  | [⟨fk, fa, fc, fd⟩], h =>
    simp only [Fr.pair, List.map_cons, List.map_nil, List.cons.injEq, Prod.mk.injEq, and_true] at h
    obtain ⟨rfl, rfl⟩ := h
    exact ⟨_, _, rfl⟩
end Go.Proofs.YtejgebpdipnhmaaGreatDoor
