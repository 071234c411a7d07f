/- Bytes put behind a file's. Conditions: the disk lies as its files say. -/
import Derived.Test.YtejgebpdipnhmaaGreatDoorGSnapNumbers7
import Derived.Test.YtejgebpdipnhmaaGreatDoorGSnapNumbers3
import Derived.Test.YtejgebpdipnhmaaGreatDoorGSnapNumbers2
import Derived.Test.YtejgebpdipnhmaaGreatDoorGSnapNumbers4
import Derived.StillTailTactics
import Derived.Laws.ResultCell
import Derived.Laws.Rows
set_option linter.unusedVariables false
set_option linter.unusedSimpArgs false
namespace Go.Proofs.YtejgebpdipnhmaaGreatDoor
open Go.RowKit
set_option maxRecDepth 20000
/-- What a disk tells and becomes. -/
def DkAt (r : Dk × Int) (db mb room n : Nat) (w : World) (e : Ending) (w' : World) : Prop :=
  e = .returned (.int .i64 r.2) ∧ DiskIs w' w'.heap.size db mb room n r.1 ∧ w.grownBy w' (some mb)
theorem used_at {w : World} {B db mb room n : Nat} {L : Dk} (h : DiskIs w B db mb room n L) (u : Nat) (hu : dUsed L = u) :
    Calls Tryz.prog 65 #[.pointer (some ⟨db, 0, none⟩)] w fun e w' => e = .returned (.int .i64 u) ∧ Below w.heap.size w w' := hu ▸ used_any h
theorem bown_cap {w : World} {base n c : Nat} {a : Option Addr} {L : List Int} (h : BOwn w base a n c L) : n ≤ c := by
  rcases h.row.2 with ⟨h1, h2⟩ | ⟨g, cap, cur, h1, _, _, h2, _⟩
  · omega
  · cases h1; exact h2
set_option maxHeartbeats 2000000 in
theorem append_any {w : World} {B db mb room n : Nat} {L : Dk} (h : DiskIs w B db mb room n L) (hn : n ≤ 1000000) (s : ByteArray) (hs : Named s) (ao : Option Addr) (nb cap : Nat) (bs : List Int) (hb : bs.length = nb)
    (hx : BytesIn w w.heap.size ao bs) (hw : BytesWf bs) (hnil : ao = none → cap = 0) (hl : nb ≤ 1000000000) (r : Dk × Int) (hr : dAppend room L s.data.toList bs = r) :
    Calls Tryz.prog 28 #[.pointer (some ⟨db, 0, none⟩), .string s, .slice ao nb cap] w (DkAt r db mb room (n + 1) w) := by
  have hsm : s.size ≤ maxLen := by have := hs.le; unfold maxLen; omega
  obtain ⟨rv, hrun, hrv⟩ := h.map.look1 s hsm
  obtain ⟨a1, n1, c1, a2, n2, c2⟩ := rv
  have hup : ((dGet L s.data.toList).getD Fi.none).all.length ≤ 1099511627776 := by
    cases hg : dGet L s.data.toList with
    | none => exact Nat.zero_le _
    | some f => exact Nat.le_trans (dUsed_le hg) (Nat.le_trans h.used h.rle)
  obtain ⟨f, hf⟩ : ∃ f, (dGet L s.data.toList).getD Fi.none = f := ⟨_, rfl⟩
  rw [hf] at hrv hup
  simp only [rvVal] at hrun
  obtain ⟨d0, d1⟩ := h.cells
  have H := Lib.hid h
  have HR := Lib.hid hr
  have HF := Lib.hid hf
  have HRV := Lib.hid hrv
  have HX := Lib.hid hx
  have HW := Lib.hid hw
  have HN := Lib.hid hnil
  have HS := Lib.hid hs
  have HBL := Lib.hid hb
  have hBw := h.le
  have hdl := h.dlt
  clear h hr hf hrv hx hw hnil hs hb
  go_enter Tryz.func28, Tryz.ntmps28
  go_wp2_with fail
  refine (is_any H.out.toDiskAt).mono ?_
  rintro e w0 ⟨rfl, rfl⟩
  have hb1 := (Below.refl w.heap.size w).alloc (Nat.le_refl _) (.cells #[.slice a1 n1 c1, .slice a2 n2 c2] 125)
  have hk1 := heap_alloc_new w (.cells #[.slice a1 n1 c1, .slice a2 n2 c2] 125)
  have hs1 : (w.alloc (.cells #[.slice a1 n1 c1, .slice a2 n2 c2] 125)).heap.size = w.heap.size + 1 := by simp
  have hb2 := hb1.alloc hb1.size (.cells #[.slice a2 n2 c2, .slice ao nb cap] 24)
  have hk2 := heap_alloc_new (w.alloc (.cells #[.slice a1 n1 c1, .slice a2 n2 c2] 125)) (.cells #[.slice a2 n2 c2, .slice ao nb cap] 24)
  have hk1b := (((Below.refl _ (w.alloc (.cells #[.slice a1 n1 c1, .slice a2 n2 c2] 125))).alloc (Nat.le_refl _) (.cells #[.slice a2 n2 c2, .slice ao nb cap] 24)).block w.heap.size (by omega)).trans hk1
  have hs2 : ((w.alloc (.cells #[.slice a1 n1 c1, .slice a2 n2 c2] 125)).alloc (.cells #[.slice a2 n2 c2, .slice ao nb cap] 24)).heap.size = w.heap.size + 2 := by simp
  rw [hs1] at hk2
  clear hb1 hk1 hs1
  have HB2 := Lib.hid hb2
  have HK1 := Lib.hid hk1b
  have HK2 := Lib.hid hk2
  have HS2 := Lib.hid hs2
  clear hb2 hk1b hk2 hs2
  go_wp2_with fail
  generalize (w.alloc (.cells #[.slice a1 n1 c1, .slice a2 n2 c2] 125)).alloc (.cells #[.slice a2 n2 c2, .slice ao nb cap] 24) = w2 at HB2 HK1 HK2 HS2 ⊢
  have hs2 := HS2.out
  have hrv := HRV.out
  refine (concat_any (w.heap.size + 1) a2 ao n2 c2 nb cap f.loose bs (f.loose ++ bs) w2 (Go.Joins.cell_of_block HK2.out 0) (Go.Joins.cell_of_block HK2.out 1) (by omega) ((hrv.in2.below HB2.out hBw).mono (by omega)) ((HX.out.below HB2.out (Nat.le_refl _)).mono (by omega)) hrv.z2 HN.out hrv.n2.symm HBL.out rfl (by have := hrv.n2; unfold Fi.all at hup; rw [List.length_append] at hup; dsimp only at this; omega)).mono ?_
  rintro e w3 ⟨a, m, c, rfl, ho, hb3⟩
  have hm : m = n2 + nb := by rw [← ho.len, List.length_append, HBL.out]; have := hrv.n2; dsimp only at this; omega
  subst hm
  have hz3 := hb3.size
  have hk3 := (hb3.block w.heap.size (by omega)).trans HK1.out
  have e1 : w3.cell? ⟨w.heap.size, 1, none⟩ = some (.slice a2 n2 c2) := Go.Joins.cell_of_block hk3 1
  have u1 : w3.frozen? ⟨w.heap.size, 1, none⟩ = false := Go.Joins.unfrozen_of_block hk3 1
  have HO3 := Lib.hid ho
  have HB3 := Lib.hid (HB2.out.trans (hb3.mono (by omega)))
  have HK3 := Lib.hid hk3
  clear ho hb3 hk3 hrv
  go_wp2_with fail
  have hk4 := Go.Joins.block_setCell (i := 1) HK3.out (.slice a (n2 + nb) c)
  have hsc := grown_set w3 ⟨w.heap.size, 1, none⟩ (.slice a (n2 + nb) c)
  have hb4 : Below w.heap.size w (w3.setCell ⟨w.heap.size, 1, none⟩ (.slice a (n2 + nb) c)) := HB3.out.grown hsc HB3.out.size (fun k hk => by cases hk; exact Nat.le_refl _)
  have ho4 := HO3.out.kept hsc (Or.inr (fun e => by have := HO3.out.lt _ e; dsimp only at this; omega))
  generalize w3.setCell ⟨w.heap.size, 1, none⟩ (.slice a (n2 + nb) c) = w4 at hk4 hb4 ho4 ⊢
  clear hsc
  have hsz4 := hb4.size
  have hlt4 := (Array.getElem?_eq_some_iff.1 hk4).1
  have hrv4 : RvIs w4 w4.heap.size ⟨a1, n1, c1, a, n2 + nb, c⟩ ⟨f.firm, f.loose ++ bs⟩ := by
    have h := HRV.out
    refine ⟨h.n1, by have := h.n2; dsimp only at this ⊢; rw [List.length_append, HBL.out, this], (h.in1.below hb4 hBw).mono (by omega), ho4.in, h.w1, BytesWf.app h.w2 HW.out, h.z1, ho4.nil, h.k1, bown_cap ho4⟩
  obtain ⟨tot, htot⟩ : ∃ t, (⟨f.firm, f.loose ++ bs⟩ : Fi).all.length = t := ⟨_, rfl⟩
  have hfl : f.all.length + nb = tot := by rw [← htot]; unfold Fi.all; dsimp only; rw [List.length_append, List.length_append, List.length_append, HBL.out]; omega
  have htl : tot ≤ 2199023255552 := by omega
  obtain ⟨us, hus⟩ : ∃ u, dUsed L = u := ⟨_, rfl⟩
  have hul : us ≤ room := by rw [← hus]; exact H.out.used
  have hrl := H.out.rle
  obtain ⟨g2, hg2⟩ : ∃ g, decide (4194304 < tot) = g := ⟨_, rfl⟩
  obtain ⟨g3, hg3⟩ : ∃ g, decide (room < us + nb) = g := ⟨_, rfl⟩
  have hg2i : decide ((4194304 : Int) < tot) = g2 := by rw [← hg2]; exact decide_eq_decide.2 (by omega)
  have hg3i : decide ((room : Int) < IntKind.i64.wrap ((us : Int) + (nb : Int))) = g3 := by rw [IntWalk.i64_in _ (by omega), ← hg3]; exact decide_eq_decide.2 (by omega)
  obtain ⟨x2, hx2⟩ : ∃ x : Int, (if g2 = true then (3 : Int) else 0) = x := ⟨_, rfl⟩
  obtain ⟨x3, hx3⟩ : ∃ x : Int, (if g3 = true then (5 : Int) else 0) = x := ⟨_, rfl⟩
  obtain ⟨er, her⟩ : ∃ x : Int, firstE 0 x2 x3 = x := ⟨_, rfl⟩
  have hC : ∀ w', Below w4.heap.size w4 w' → w'.cell? ⟨w.heap.size, 0, none⟩ = some (.slice a1 n1 c1) ∧ w'.cell? ⟨w.heap.size, 1, none⟩ = some (.slice a (n2 + nb) c) ∧ w'.cell? ⟨db, 0, none⟩ = some (.int .i64 room) ∧ w'.cell? ⟨db, 1, none⟩ = some (.map (some mb)) := fun w' hb => by
    have hk := (hb.block _ hlt4).trans hk4
    obtain ⟨q0, q1⟩ := ((H.out.below hb4 hBw).below hb (by omega)).cells
    exact ⟨Go.Joins.cell_of_block hk 0, Go.Joins.cell_of_block hk 1, q0, q1⟩
  have HC := Lib.hid hC
  have HB4 := Lib.hid hb4
  have HK4 := Lib.hid hk4
  have HRV4 := Lib.hid hrv4
  have HX2 := Lib.hid hx2
  have HX3 := Lib.hid hx3
  have HER := Lib.hid her
  have HTOT := Lib.hid htot
  have HUS := Lib.hid hus
  have HFL := Lib.hid hfl
  have HG2 := Lib.hid hg2
  have HG3 := Lib.hid hg3
  clear hC hb4 hk4 hrv4 hx2 hx3 her htot hus hfl hg2 hg3 ho4 hz3
  refine heldS_begin (fun w' => Below w4.heap.size w4 w') (by kernel_rfl) ((Below.refl _ _).drew) ?_
  intro hS0
  (first | (refine takeS_no 0 rfl (by kernel_rfl) (by kernel_rfl) (by kernel_rfl) (fun _ _ _ h => h) (by rfl) (by assumption) ?_) | (refine takeS_yes (v := ?_) 0 rfl (by kernel_rfl) (by kernel_rfl) (by kernel_rfl) (fun _ _ _ h => h) (by rfl) (by assumption) ?_ ?_; rotate_left; focus (intro wS hSw; obtain ⟨q0, q1, q2, q3⟩ := HC.out wS hSw; go_simp; first | done | with_reducible rfl)))
  (try simp only [Act.put, List.setIfInBounds_toArray, List.set_cons_zero, List.set_cons_succ])
  (first | (refine takeS_no 5 rfl (by kernel_rfl) (by kernel_rfl) (by kernel_rfl) (fun _ _ _ h => h) (by rfl) (by assumption) ?_) | (refine takeS_yes (v := ?_) 5 rfl (by kernel_rfl) (by kernel_rfl) (by kernel_rfl) (fun _ _ _ h => h) (by rfl) (by assumption) ?_ ?_; rotate_left; focus (intro wS hSw; obtain ⟨q0, q1, q2, q3⟩ := HC.out wS hSw; go_simp; first | done | with_reducible rfl)))
  (try simp only [Act.put, List.setIfInBounds_toArray, List.set_cons_zero, List.set_cons_succ])
  (first | (refine takeS_no 9 rfl (by kernel_rfl) (by kernel_rfl) (by kernel_rfl) (fun _ _ _ h => h) (by rfl) (by assumption) ?_) | (refine takeS_yes (v := ?_) 9 rfl (by kernel_rfl) (by kernel_rfl) (by kernel_rfl) (fun _ _ _ h => h) (by rfl) (by assumption) ?_ ?_; rotate_left; focus (intro wS hSw; obtain ⟨q0, q1, q2, q3⟩ := HC.out wS hSw; go_simp; first | done | with_reducible rfl)))
  (try simp only [Act.put, List.setIfInBounds_toArray, List.set_cons_zero, List.set_cons_succ])
  (first | (refine takeS_no 11 rfl (by kernel_rfl) (by kernel_rfl) (by kernel_rfl) (fun _ _ _ h => h) (by rfl) (by assumption) ?_) | (refine takeS_yes (v := ?_) 11 rfl (by kernel_rfl) (by kernel_rfl) (by kernel_rfl) (fun _ _ _ h => h) (by rfl) (by assumption) ?_ ?_; rotate_left; focus (intro wS hSw; obtain ⟨q0, q1, q2, q3⟩ := HC.out wS hSw; go_simp; first | done | with_reducible rfl)))
  (try simp only [Act.put, List.setIfInBounds_toArray, List.set_cons_zero, List.set_cons_succ])
  (first | (refine takeS_no 12 rfl (by kernel_rfl) (by kernel_rfl) (by kernel_rfl) (fun _ _ _ h => h) (by rfl) (by assumption) ?_) | (refine takeS_yes (v := ?_) 12 rfl (by kernel_rfl) (by kernel_rfl) (by kernel_rfl) (fun _ _ _ h => h) (by rfl) (by assumption) ?_ ?_; rotate_left; focus (intro wS hSw; obtain ⟨q0, q1, q2, q3⟩ := HC.out wS hSw; go_simp; first | done | with_reducible rfl)))
  (try simp only [Act.put, List.setIfInBounds_toArray, List.set_cons_zero, List.set_cons_succ])
  (first | (refine takeS_no 14 rfl (by kernel_rfl) (by kernel_rfl) (by kernel_rfl) (fun _ _ _ h => h) (by rfl) (by assumption) ?_) | (refine takeS_yes (v := ?_) 14 rfl (by kernel_rfl) (by kernel_rfl) (by kernel_rfl) (fun _ _ _ h => h) (by rfl) (by assumption) ?_ ?_; rotate_left; focus (intro wS hSw; obtain ⟨q0, q1, q2, q3⟩ := HC.out wS hSw; go_simp; first | done | with_reducible rfl)))
  (try simp only [Act.put, List.setIfInBounds_toArray, List.set_cons_zero, List.set_cons_succ])
  (first | (refine takeS_no 15 rfl (by kernel_rfl) (by kernel_rfl) (by kernel_rfl) (fun _ _ _ h => h) (by rfl) (by assumption) ?_) | (refine takeS_yes (v := ?_) 15 rfl (by kernel_rfl) (by kernel_rfl) (by kernel_rfl) (fun _ _ _ h => h) (by rfl) (by assumption) ?_ ?_; rotate_left; focus (intro wS hSw; obtain ⟨q0, q1, q2, q3⟩ := HC.out wS hSw; go_simp; first | done | with_reducible rfl)))
  (try simp only [Act.put, List.setIfInBounds_toArray, List.set_cons_zero, List.set_cons_succ])
  (first | (refine takeS_no 16 rfl (by kernel_rfl) (by kernel_rfl) (by kernel_rfl) (fun _ _ _ h => h) (by rfl) (by assumption) ?_) | (refine takeS_yes (v := ?_) 16 rfl (by kernel_rfl) (by kernel_rfl) (by kernel_rfl) (fun _ _ _ h => h) (by rfl) (by assumption) ?_ ?_; rotate_left; focus (intro wS hSw; obtain ⟨q0, q1, q2, q3⟩ := HC.out wS hSw; go_simp; first | done | with_reducible rfl)))
  (try simp only [Act.put, List.setIfInBounds_toArray, List.set_cons_zero, List.set_cons_succ])
  (first | (refine takeS_no 17 rfl (by kernel_rfl) (by kernel_rfl) (by kernel_rfl) (fun _ _ _ h => h) (by rfl) (by assumption) ?_) | (refine takeS_yes (v := ?_) 17 rfl (by kernel_rfl) (by kernel_rfl) (by kernel_rfl) (fun _ _ _ h => h) (by rfl) (by assumption) ?_ ?_; rotate_left; focus (intro wS hSw; obtain ⟨q0, q1, q2, q3⟩ := HC.out wS hSw; go_simp; first | done | with_reducible rfl)))
  (try simp only [Act.put, List.setIfInBounds_toArray, List.set_cons_zero, List.set_cons_succ])
  generalize w4.drew = wd at hS0 ⊢
  have hzd := hS0.size
  refine takeS_alone 1 rfl (by kernel_rfl) (by rfl) (fun K hK => ?_)
  go_simp
  (have c1 := hS0.alloc hzd (.cells #[.string s] 9); have k1 := heap_alloc_new wd (.cells #[.string s] 9); generalize wd.alloc (.cells #[.string s] 9) = w5 at c1 k1 ⊢)
  refine hK.out _ _ (by assumption) ?_
  clear hK K
  (try simp only [Act.put, List.setIfInBounds_toArray, List.set_cons_zero, List.set_cons_succ])
  refine takeS_alone 2 rfl (by kernel_rfl) (by rfl) (fun K hK => ?_)
  go_simp
  (refine (fit_one wd.heap.size s w5 (Go.Joins.cell_of_block k1 0) HS.out).mono ?_; rintro e w6 ⟨rfl, hb⟩; have c2 := c1.trans (hb.mono c1.size); clear hb c1 k1)
  refine hK.out _ _ (by assumption) ?_
  clear hK K
  (try simp only [Act.put, List.setIfInBounds_toArray, List.set_cons_zero, List.set_cons_succ])
  (first | (refine takeS_no 3 rfl (by kernel_rfl) (by kernel_rfl) (by kernel_rfl) (fun _ _ _ h => h) (by rfl) (by assumption) ?_) | (refine takeS_yes (v := ?_) 3 rfl (by kernel_rfl) (by kernel_rfl) (by kernel_rfl) (fun _ _ _ h => h) (by rfl) (by assumption) ?_ ?_; rotate_left; focus (intro wS hSw; obtain ⟨q0, q1, q2, q3⟩ := HC.out wS hSw; go_simp; first | done | with_reducible rfl)))
  (try simp only [Act.put, List.setIfInBounds_toArray, List.set_cons_zero, List.set_cons_succ])
  refine takeS_alone 4 rfl (by kernel_rfl) (by rfl) (fun K hK => ?_)
  go_simp
  (refine (when_at false 2 0 w6 rfl).mono ?_; rintro e w6' ⟨rfl, rfl⟩)
  refine hK.out _ _ (by assumption) ?_
  clear hK K
  (try simp only [Act.put, List.setIfInBounds_toArray, List.set_cons_zero, List.set_cons_succ])
  refine takeS_alone 6 rfl (by kernel_rfl) (by rfl) (fun K hK => ?_)
  go_simp
  (refine (size_file ⟨a1, n1, c1, a, n2 + nb, c⟩ ⟨f.firm, f.loose ++ bs⟩ w6 w4.heap.size (HRV4.out.below c2 (Nat.le_refl _)) tot HTOT.out htl).mono ?_; rintro e w7 ⟨rfl, hb⟩; have c3 := c2.trans (hb.mono c2.size); clear hb c2)
  refine hK.out _ _ (by assumption) ?_
  clear hK K
  (try simp only [Act.put, List.setIfInBounds_toArray, List.set_cons_zero, List.set_cons_succ])
  (first | (refine takeS_no 7 rfl (by kernel_rfl) (by kernel_rfl) (by kernel_rfl) (fun _ _ _ h => h) (by rfl) (by assumption) ?_) | (refine takeS_yes (v := ?_) 7 rfl (by kernel_rfl) (by kernel_rfl) (by kernel_rfl) (fun _ _ _ h => h) (by rfl) (by assumption) ?_ ?_; rotate_left; focus (intro wS hSw; obtain ⟨q0, q1, q2, q3⟩ := HC.out wS hSw; go_simp; first | done | with_reducible rfl)))
  (try simp only [Act.put, List.setIfInBounds_toArray, List.set_cons_zero, List.set_cons_succ])
  refine takeS_alone 8 rfl (by kernel_rfl) (by rfl) (fun K hK => ?_)
  go_simp
  (refine (when_at g2 3 x2 w7 HX2.out).mono ?_; rintro e w7' ⟨rfl, rfl⟩)
  refine hK.out _ _ (by assumption) ?_
  clear hK K
  (try simp only [Act.put, List.setIfInBounds_toArray, List.set_cons_zero, List.set_cons_succ])
  refine takeS_alone 10 rfl (by kernel_rfl) (by rfl) (fun K hK => ?_)
  go_simp
  (refine (used_at ((H.out.below HB4.out hBw).below c3 (by omega)) us HUS.out).mono ?_; rintro e w8 ⟨rfl, hb⟩; have c4 := c3.trans (hb.mono c3.size); clear hb c3)
  refine hK.out _ _ (by assumption) ?_
  clear hK K
  (try simp only [Act.put, List.setIfInBounds_toArray, List.set_cons_zero, List.set_cons_succ])
  (first | (refine takeS_no 13 rfl (by kernel_rfl) (by kernel_rfl) (by kernel_rfl) (fun _ _ _ h => h) (by rfl) (by assumption) ?_) | (refine takeS_yes (v := ?_) 13 rfl (by kernel_rfl) (by kernel_rfl) (by kernel_rfl) (fun _ _ _ h => h) (by rfl) (by assumption) ?_ ?_; rotate_left; focus (intro wS hSw; obtain ⟨q0, q1, q2, q3⟩ := HC.out wS hSw; go_simp; first | done | with_reducible rfl)))
  (try simp only [Act.put, List.setIfInBounds_toArray, List.set_cons_zero, List.set_cons_succ])
  (first | (refine takeS_no 18 rfl (by kernel_rfl) (by kernel_rfl) (by kernel_rfl) (fun _ _ _ h => h) (by rfl) (by assumption) ?_) | (refine takeS_yes (v := ?_) 18 rfl (by kernel_rfl) (by kernel_rfl) (by kernel_rfl) (fun _ _ _ h => h) (by rfl) (by assumption) ?_ ?_; rotate_left; focus (intro wS hSw; obtain ⟨q0, q1, q2, q3⟩ := HC.out wS hSw; go_simp; first | done | with_reducible rfl)))
  (try simp only [Act.put, List.setIfInBounds_toArray, List.set_cons_zero, List.set_cons_succ])
  refine takeS_alone 19 rfl (by kernel_rfl) (by rfl) (fun K hK => ?_)
  go_simp
  (refine (when_at g3 5 x3 w8 HX3.out).mono ?_; rintro e w8' ⟨rfl, rfl⟩)
  refine hK.out _ _ (by assumption) ?_
  clear hK K
  (try simp only [Act.put, List.setIfInBounds_toArray, List.set_cons_zero, List.set_cons_succ])
  refine takeS_alone 20 rfl (by kernel_rfl) (by rfl) (fun K hK => ?_)
  go_simp
  (have c5 := c4.alloc c4.size (.cells #[.int .i64 0, .int .i64 x2, .int .i64 x3] 27); have k5 := heap_alloc_new w8 (.cells #[.int .i64 0, .int .i64 x2, .int .i64 x3] 27); generalize w8.alloc (.cells #[.int .i64 0, .int .i64 x2, .int .i64 x3] 27) = w9 at c5 k5 ⊢)
  refine hK.out _ _ (by assumption) ?_
  clear hK K
  (try simp only [Act.put, List.setIfInBounds_toArray, List.set_cons_zero, List.set_cons_succ])
  refine takeS_alone 21 rfl (by kernel_rfl) (by rfl) (fun K hK => ?_)
  go_simp
  (refine (or_any w8.heap.size 0 x2 x3 er w9 (Go.Joins.cell_of_block k5 0) (Go.Joins.cell_of_block k5 1) (Go.Joins.cell_of_block k5 2) HER.out).mono ?_; rintro e w9' ⟨rfl, rfl⟩)
  refine hK.out _ _ (by assumption) ?_
  clear hK K
  (try simp only [Act.put, List.setIfInBounds_toArray, List.set_cons_zero, List.set_cons_succ])
  (first | (refine takeS_no 22 rfl (by kernel_rfl) (by kernel_rfl) (by kernel_rfl) (fun _ _ _ h => h) (by rfl) (by assumption) ?_) | (refine takeS_yes (v := ?_) 22 rfl (by kernel_rfl) (by kernel_rfl) (by kernel_rfl) (fun _ _ _ h => h) (by rfl) (by assumption) ?_ ?_; rotate_left; focus (intro wS hSw; obtain ⟨q0, q1, q2, q3⟩ := HC.out wS hSw; go_simp; first | done | with_reducible rfl)))
  (try simp only [Act.put, List.setIfInBounds_toArray, List.set_cons_zero, List.set_cons_succ])
  refine wpAnyH_done (by kernel_rfl) ?_ _
  obtain ⟨q0, q1, q2, q3⟩ := HC.out w9 c5
  have hb9 : Below w.heap.size w w9 := HB4.out.trans (c5.mono hsz4)
  have hd9 : DiskIs w9 w9.heap.size db mb room n L := (H.out.below hb9 hBw).mono (Nat.le_trans hBw hb9.size) (Nat.le_refl _)
  have hr9 : RvIs w9 w9.heap.size ⟨a1, n1, c1, a, n2 + nb, c⟩ ⟨f.firm, f.loose ++ bs⟩ := (HRV4.out.below c5 (Nat.le_refl _)).mono c5.size
  have HB9 := Lib.hid hb9
  have HD9 := Lib.hid hd9
  have HR9 := Lib.hid hr9
  clear hb9 hd9 hr9 c4 c5 k5 hS0 hzd
  have hgood := HS.out.good
  have hfl := HFL.out
  have hdap : dAppend room L s.data.toList bs = if g2 = true then (L, 3) else if g3 = true then (L, 5) else (dPut L s.data.toList ⟨f.firm, f.loose ++ bs⟩, 0) := by
    unfold dAppend
    dsimp only
    rw [HF.out, hgood, if_neg (by simp), HUS.out, HBL.out, ← HG2.out, ← HG3.out, hfl]
    simp only [decide_eq_true_eq]
  rw [HR.out] at hdap
  have HDA := Lib.hid hdap
  clear hdap hgood hfl
  by_cases her0 : er = 0
  · have hg2f : g2 = false := by
      cases g2 with
      | false => rfl
      | true =>
        have h := HER.out
        rw [← HX2.out] at h
        simp [firstE] at h
        omega
    have hg3f : g3 = false := by
      cases g3 with
      | false => rfl
      | true =>
        have h := HER.out
        rw [← HX2.out, ← HX3.out, hg2f] at h
        simp [firstE] at h
        omega
    have hr2 := HDA.out
    rw [hg2f, hg3f] at hr2
    simp at hr2
    have HR2 := Lib.hid hr2
    have hus3 : us + nb ≤ room := by
      have h := HG3.out
      rw [hg3f] at h
      simpa using h
    have HU3 := Lib.hid hus3
    subst her0
    clear hr2 hg2f hg3f hus3
    go_wp2_with fail
    go_still_tail 6, (by kernel_rfl)
    change wpList _ _ _ _ _ w9.drew
    have hd9 : DiskIs w9.drew w9.drew.heap.size db mb room n L := HD9.out.below (B' := w9.heap.size) (Below.refl _ _).drew (Nat.le_refl _)
    have hr9 : RvIs w9.drew w9.drew.heap.size ⟨a1, n1, c1, a, n2 + nb, c⟩ ⟨f.firm, f.loose ++ bs⟩ := HR9.out.below (B' := w9.heap.size) (Below.refl _ _).drew (Nat.le_refl _)
    have hb9 : Below w.heap.size w w9.drew := HB9.out.drew
    generalize w9.drew = w10 at hd9 hr9 hb9 ⊢
    refine wpList_store_dk rfl _ _ _ rfl hd9.map (Nat.le_refl _) hn rfl s rfl hsm _ rfl _ hr9 ?_
    intro w11 hm11 hg11
    have hd11 : DiskIs w11 w11.heap.size db mb room (n + 1) (dPut L s.data.toList ⟨f.firm, f.loose ++ bs⟩) :=
      hd9.stored hm11 hg11 (dPut_ok hd9.ok _ _) (by
        have h1 := HUS.out
        have h2 := HU3.out
        have h3 := dUsed_put L s.data.toList ⟨f.firm, f.loose ++ bs⟩
        have h4 := HFL.out
        have h5 := HTOT.out
        have h7 := HF.out
        cases hg : dGet L s.data.toList with
        | none =>
          rw [hg] at h7
          have h8 : f.all.length = 0 := by rw [← h7]; rfl
          rw [dDel_of_none hg] at h3
          omega
        | some f0 =>
          rw [hg] at h7
          have h8 := dUsed_del hd9.ok hg
          have h9 : f0 = f := h7
          rw [h9] at h8
          omega)
    clear hm11
    go_wp2_with fail
    go_ret
    rw [show r = (dPut L s.data.toList ⟨f.firm, f.loose ++ bs⟩, 0) from HR2.out]
    exact ⟨rfl, hd11, (below_grown hb9 (some mb)).trans hg11⟩
  · have hr2 : r = (L, er) := by
      have h := HER.out
      rw [HDA.out]
      rw [← HX2.out, ← HX3.out] at h
      cases g2 <;> cases g3 <;> simp [firstE] at h ⊢
      · exact absurd h.symm her0
      all_goals omega
    have HR2 := Lib.hid hr2
    clear hr2
    go_wp2_with fail
    go_ret
    rw [HR2.out]
    exact ⟨rfl, HD9.out.more (Nat.le_succ n), below_grown HB9.out (some mb)⟩
end Go.Proofs.YtejgebpdipnhmaaGreatDoor
/- A file turned into another: what a disk's methods have in common. Conditions: the disk lies as its files say. -/
namespace Go.Proofs.YtejgebpdipnhmaaGreatDoor
open Go.RowKit
set_option maxRecDepth 20000
/-- What a closure made of a file, and the disk then. -/
structure BecIs (k : List UInt8) (db mb room C : Nat) (r : Rv) (f : Fi) (z : Int) (L : Dk) (n : Nat) (w : World) : Prop where
  disk : DiskAt w C db mb room n L
  n : n ≤ 1000000
  rv : RvIs w C r f
theorem turn_none {w : World} {B db mb room n : Nat} {L : Dk} (h : DiskAt w B db mb room n L) (s : ByteArray) (hs : s.size ≤ maxLen) (hg : dGet L s.data.toList = none) (fv : Value) :
    Calls Tryz.prog 76 #[.pointer (some ⟨db, 0, none⟩), .string s, fv] w fun e w' => e = .returned (.int .i64 6) ∧ Below w.heap.size w w' := by
  have hl := ((h.map.look s hs).1 hg).1
  simp only [rvVal, rvZero] at hl
  obtain ⟨d0, d1⟩ := h.cells
  have H := Lib.hid h
  clear h hg
  go_enter Tryz.func76, Tryz.ntmps76
  go_wp2_with fail
  refine (is_any H.out).mono ?_
  rintro e w0 ⟨rfl, rfl⟩
  go_wp2_with fail
  go_ret
  exact ⟨rfl, (Below.refl _ _).alloc (Nat.le_refl _) _⟩
set_option maxHeartbeats 2000000 in
theorem turn_some {w : World} {B db mb room n : Nat} {L : Dk} (h : DiskAt w B db mb room n L) (s : ByteArray) (hs : s.size ≤ maxLen) (f0 : Fi) (hg : dGet L s.data.toList = some f0) (F : FuncId) (hF : ∀ args w, (callFunc F args).run Tryz.prog w = .ok (.enter F args) w) (caps : Array Value)
    (Ex : Fi → Int → Dk → Nat → Nat → World → Prop)
    (hbec : ∀ r w1, Below w.heap.size w w1 → RvIs w1 B r f0 → Calls Tryz.prog F (#[rvVal r] ++ caps) w1 fun e w2 => ∃ r' f z L' n' C, e = .returned (.tuple #[rvVal r', .int .i64 z]) ∧ BecIs s.data.toList db mb room C r' f z L' n' w2 ∧ Ex f z L' n' C w2) :
    Calls Tryz.prog 76 #[.pointer (some ⟨db, 0, none⟩), .string s, .func (.func F) #[] caps] w fun e w' =>
      ∃ f z L' n' C w2, Ex f z L' n' C w2 ∧ e = .returned (.int .i64 z) ∧ w2.grownBy w' (some mb) ∧ DiskAt w' C db mb room (n' + 1) (if z = 0 then dPut L' s.data.toList f else L') := by
  obtain ⟨r, hl, _, hrv⟩ := (h.map.look s hs).2 f0 hg
  obtain ⟨a1, n1, c1, a2, n2, c2⟩ := r
  simp only [rvVal] at hl
  obtain ⟨d0, d1⟩ := h.cells
  have H := Lib.hid h
  have HR := Lib.hid hrv
  have HBEC := Lib.hid hbec
  have hB := h.le
  clear h hg hrv hbec
  have hb1 := (Below.refl w.heap.size w).alloc (Nat.le_refl _) (.cells #[.slice a1 n1 c1, .slice a2 n2 c2] 125)
  have HB1 := Lib.hid hb1
  clear hb1
  go_enter Tryz.func76, Tryz.ntmps76
  go_wp2_with fail
  refine (is_any H.out).mono ?_
  rintro e w0 ⟨rfl, rfl⟩
  go_wp2_with fail
  generalize w.alloc (.cells #[.slice a1 n1 c1, .slice a2 n2 c2] 125) = w1 at HB1 ⊢
  refine (HBEC.out ⟨a1, n1, c1, a2, n2, c2⟩ w1 HB1.out (HR.out.below HB1.out hB)).mono ?_
  rintro e w2 ⟨r', f, z, L', n', C, rfl, hbc, hEx⟩
  obtain ⟨b1, m1, e1, b2, m2, e2⟩ := r'
  simp only [rvVal]
  obtain ⟨hdk, hn', hrv2⟩ := hbc
  have hb3 := (Below.refl w2.heap.size w2).alloc (Nat.le_refl _) (.cells #[.slice b1 m1 e1, .slice b2 m2 e2] 125)
  have hk3 := heap_alloc_new w2 (.cells #[.slice b1 m1 e1, .slice b2 m2 e2] 125)
  have hd3 := hdk.below hb3 hdk.le
  have hr3 := hrv2.below hb3 hdk.le
  obtain ⟨q0, q1⟩ := hd3.cells
  have k0 := Go.Joins.cell_of_block hk3 0
  have k1 := Go.Joins.cell_of_block hk3 1
  have HEX := Lib.hid hEx
  have HD3 := Lib.hid hd3
  have HR3 := Lib.hid hr3
  have HB3 := Lib.hid hb3
  have HOK := Lib.hid hdk.ok
  clear hEx hdk hrv2 hb3 hk3 hd3 hr3 d0 d1 hl
  by_cases hz : z = 0
  · subst hz
    go_wp2_with fail
    generalize w2.alloc (.cells #[.slice b1 m1 e1, .slice b2 m2 e2] 125) = w3 at HD3 HR3 HB3 q0 q1 k0 k1 ⊢
    go_still_tail 6, (by kernel_rfl)
    change wpList _ _ _ _ _ w3.drew
    have hd9 : DiskAt w3.drew C db mb room n' L' := HD3.out.below (B' := w3.heap.size) (Below.refl _ _).drew HD3.out.le
    have hr9 : RvIs w3.drew C ⟨b1, m1, e1, b2, m2, e2⟩ f := HR3.out.below (B' := w3.heap.size) (Below.refl _ _).drew HD3.out.le
    have hb9 : Below w2.heap.size w2 w3.drew := HB3.out.drew
    generalize w3.drew = w10 at hd9 hr9 hb9 ⊢
    refine wpList_store_dk rfl _ _ _ rfl hd9.map hd9.le hn' rfl s rfl hs _ rfl _ hr9 ?_
    intro w11 hm11 hg11
    have hd11 := hd9.stored0 hm11 hg11 (dPut_ok hd9.ok _ _)
    clear hm11
    go_wp2_with fail
    go_ret
    exact ⟨f, 0, L', n', C, w2, HEX.out, rfl, (below_grown hb9 (some mb)).trans hg11, hd11⟩
  · go_wp2_with fail
    go_ret
    refine ⟨f, z, L', n', C, w2, HEX.out, rfl, below_grown HB3.out (some mb), ?_⟩
    rw [if_neg hz]
    exact HD3.out.more (Nat.le_succ _)
end Go.Proofs.YtejgebpdipnhmaaGreatDoor
/- A disk's methods Sync, Read, Cut, Rename, Remove. Conditions: the disk lies as its files say. -/
namespace Go.Proofs.YtejgebpdipnhmaaGreatDoor
open Go.RowKit
set_option maxRecDepth 20000
theorem bec_bounds {w : World} {B db mb room n : Nat} {L : Dk} (h : DiskIs w B db mb room n L) {k : List UInt8} {f : Fi} (hg : dGet L k = some f) : f.all.length ≤ 1099511627776 := Nat.le_trans (dUsed_le hg) (Nat.le_trans h.used h.rle)
/-- A file as it was fits. -/
theorem fits_same {L : Dk} (hL : dOk L) {k : List UInt8} {f f2 : Fi} (hg : dGet L k = some f) (hl : f2.all.length ≤ f.all.length) : dUsed (dPut L k f2) ≤ dUsed L := by
  rw [dUsed_put]
  have := dUsed_del hL hg
  omega
theorem results_cell2 {P : Program} {fn : Func} {p u : Tmp} {ty : TypeId} (h : fn.results = #[.cell p ty, .tmp u]) (tmps : Array Value) (w : World) (g : Nat) (t : TypeId) (cs : Array Value) (fr : Nat × Nat) (d : TypeDesc) (v : Value)
    (hp : tmps.getD p undef = .pointer (some ⟨g, 0, none⟩)) (hv : tmps.getD u undef = v) (hg : w.heap[g]? = some (.cells cs t fr))
    (hu : P.underlying ty = some d) (hd : (match d with | .struct _ | .array _ _ => true | _ => false) = true) (hi : (P.info? ty).map (·.size) = some cs.size) :
    (results fn tmps).run P w = .ok (.tuple #[.agg cs, v]) w := by
  rw [results_cell_tmp h, hp, hv]
  simp [asAddr, run_loadVar_row w g t ty cs fr d hg hu hd hi, Result.andThen]
theorem info_rows (x y : Value) : (Tryz.prog.info? 125).map (·.size) = some (#[x, y] : Array Value).size := by kernel_rfl
/-- A closure that tells a row and an error returns. -/
theorem rows_end {f : Func} {p u : Tmp} {R : Ending → World → Prop} {w : World} {g : Nat} {r : Rv} {z : Int} {tmps : Array Value} (hf : f.results = #[.cell p 125, .tmp u]) (hk : w.heap[g]? = some (.cells #[.slice r.a1 r.n1 r.c1, .slice r.a2 r.n2 r.c2] 125 (0, 0)))
    (h2 : tmps.getD p undef = .pointer (some ⟨g, 0, none⟩)) (h3 : tmps.getD u undef = .int .i64 z) (hR : R (.returned (.tuple #[rvVal r, .int .i64 z])) w) : bodyPost Tryz.prog f R .ret ⟨tmps, []⟩ w :=
  bodyPost_ret (results_cell2 hf tmps w g _ _ _ _ _ h2 h3 hk Tryz.underlying125 rfl (info_rows _ _)) rfl hR
theorem block_two {w : World} {g : Nat} {x y a b : Value} {T : TypeId} {fr : Nat × Nat} (h : w.heap[g]? = some (.cells #[x, y] T fr)) : ((w.setCell ⟨g, 0, none⟩ a).setCell ⟨g, 1, none⟩ b).heap[g]? = some (.cells #[a, b] T fr) := by
  have h1 := Go.Joins.block_setCell (i := 0) h a
  have h2 := Go.Joins.block_setCell (i := 1) h1 b
  simpa using h2
theorem grown_two {w : World} {g : Nat} {a b : Value} : w.grownBy ((w.setCell ⟨g, 0, none⟩ a).setCell ⟨g, 1, none⟩ b) (some g) := (grown_set w ⟨g, 0, none⟩ a).trans (grown_set _ ⟨g, 1, none⟩ b)
set_option maxHeartbeats 2000000 in
theorem dsync1 (r : Rv) (f : Fi) (w : World) (h : RvIs w w.heap.size r f) (hl : f.all.length ≤ 1099511627776) :
    Calls Tryz.prog 126 #[rvVal r] w fun e w2 => ∃ r', e = .returned (.tuple #[rvVal r', .int .i64 0]) ∧ RvIs w2 w2.heap.size r' ⟨f.all, []⟩ ∧ Below w.heap.size w w2 := by
  obtain ⟨a1, n1, c1, a2, n2, c2⟩ := r
  have hb1 := (Below.refl w.heap.size w).alloc (Nat.le_refl _) (.cells #[.slice a1 n1 c1, .slice a2 n2 c2] 125)
  have hb2 := hb1.alloc hb1.size (.cells #[.slice none 0 0, .slice none 0 0] 125)
  have hk2 := heap_alloc_new (w.alloc (.cells #[.slice a1 n1 c1, .slice a2 n2 c2] 125)) (.cells #[.slice none 0 0, .slice none 0 0] 125)
  have hs1 : (w.alloc (.cells #[.slice a1 n1 c1, .slice a2 n2 c2] 125)).heap.size = w.heap.size + 1 := by simp
  rw [hs1] at hk2
  have hs2 : ((w.alloc (.cells #[.slice a1 n1 c1, .slice a2 n2 c2] 125)).alloc (.cells #[.slice none 0 0, .slice none 0 0] 125)).heap.size = w.heap.size + 2 := by simp
  have HB2 := Lib.hid hb2
  have HK2 := Lib.hid hk2
  have HS2 := Lib.hid hs2
  have H := Lib.hid h
  have HW := Lib.hid (show BytesWf f.all from BytesWf.app h.w1 h.w2)
  clear hb1 hb2 hk2 hs1 hs2 h
  simp only [rvVal]
  go_enter Tryz.func126, Tryz.ntmps126
  go_wp2_with fail
  generalize (w.alloc (.cells #[.slice a1 n1 c1, .slice a2 n2 c2] 125)).alloc (.cells #[.slice none 0 0, .slice none 0 0] 125) = w2 at HB2 HK2 HS2 ⊢
  refine (whole_file ⟨a1, n1, c1, a2, n2, c2⟩ f w2 w.heap.size (H.out.below HB2.out (Nat.le_refl _)) HB2.out.size hl).mono ?_
  rintro e w3 ⟨a, n, c, rfl, ho, hb3⟩
  have hk3 := (hb3.block (w.heap.size + 1) (by have := HS2.out; omega)).trans HK2.out
  have HK3 := Lib.hid hk3
  have HO := Lib.hid ho
  have HB3 := Lib.hid (HB2.out.trans (hb3.mono HB2.out.size))
  have HS3 := Lib.hid hb3.size
  have k0 := Go.Joins.cell_of_block hk3 0
  have k1 := Go.Joins.cell_of_block hk3 1
  have u0 := Go.Joins.unfrozen_of_block hk3 0
  have u1 := Go.Joins.unfrozen_of_block hk3 1
  clear ho hb3 hk3
  go_wp2_with fail
  have hk4 := block_two (a := .slice a n c) (b := .slice none 0 0) HK3.out
  have hg4 := grown_two (w := w3) (g := w.heap.size + 1) (a := .slice a n c) (b := .slice none 0 0)
  generalize (w3.setCell ⟨w.heap.size + 1, 0, none⟩ (.slice a n c)).setCell ⟨w.heap.size + 1, 1, none⟩ (.slice none 0 0) = w4 at hk4 hg4 ⊢
  refine rows_end (r := ⟨a, n, c, none, 0, 0⟩) rfl hk4 rfl rfl ⟨⟨a, n, c, none, 0, 0⟩, rfl, ?_, HB3.out.grown hg4 HB3.out.size (fun k hk => by cases hk; exact Nat.le_succ _)⟩
  have ho4 := HO.out.kept hg4 (Or.inr (fun e => by have h1 := HO.out.lt _ e; have h2 := HS2.out; omega))
  exact ⟨ho4.len.symm, rfl, ho4.in, Or.inl rfl, HW.out, fun _ h => (by cases h), ho4.nil, fun _ => rfl, bown_cap ho4, Nat.le_refl _⟩
theorem dSync_eq {L : Dk} {k : List UInt8} {f : Fi} (hg : dGet L k = some f) : dSync L k = (dPut L k ⟨f.all, []⟩, 0) := by
  unfold dSync dTurn
  rw [hg]
  rfl
theorem sync_any {w : World} {B db mb room n : Nat} {L : Dk} (h : DiskIs w B db mb room n L) (hn : n ≤ 1000000) (s : ByteArray) (hs : s.size ≤ maxLen) (r : Dk × Int) (hr : dSync L s.data.toList = r) :
    Calls Tryz.prog 73 #[.pointer (some ⟨db, 0, none⟩), .string s] w (DkAt r db mb room (n + 1) w) := by
  subst hr
  cases hg : dGet L s.data.toList with
  | none =>
    have hr : dSync L s.data.toList = (L, 6) := by unfold dSync dTurn; rw [hg]
    rw [hr]
    go_enter Tryz.func73, Tryz.ntmps73
    go_wp2_with fail
    refine (turn_none h.toDiskAt s hs hg _).mono ?_
    rintro e w1 ⟨rfl, hb⟩
    go_wp2_with fail
    go_ret
    exact ⟨rfl, (h.top.below hb (Nat.le_refl _)).top.more (Nat.le_succ _), below_grown hb _⟩
  | some f =>
    rw [dSync_eq hg]
    have hbd := bec_bounds h hg
    have hfit : dUsed (dPut L s.data.toList ⟨f.all, []⟩) ≤ room := Nat.le_trans (fits_same h.ok hg (by simp [Fi.all])) h.used
    go_enter Tryz.func73, Tryz.ntmps73
    go_wp2_with fail
    refine (turn_some h.toDiskAt s hs f hg 126 (fun _ _ => by kernel_rfl) #[] (fun f2 z L2 n2 C w2 => f2 = ⟨f.all, []⟩ ∧ z = 0 ∧ L2 = L ∧ n2 = n ∧ Below w.heap.size w w2) fun r w1 hb1 hr1 => ?_).mono ?_
    · refine (dsync1 r f w1 (hr1.mono (Nat.le_trans h.le hb1.size)) hbd).mono ?_
      rintro e w2 ⟨r', rfl, hr2, hb2⟩
      have hb3 := hb1.trans (hb2.mono hb1.size)
      exact ⟨r', ⟨f.all, []⟩, 0, L, n, _, rfl, ⟨(h.top.toDiskAt.below hb3 (Nat.le_refl _)).top, hn, hr2⟩, rfl, rfl, rfl, rfl, hb3⟩
    · rintro e w3 ⟨f2, z, L2, n2, C, w2, ⟨rfl, rfl, rfl, rfl, hb⟩, rfl, hg3, hd⟩
      go_wp2_with fail
      go_ret
      exact ⟨rfl, ⟨by simpa using hd.top, hfit⟩, (below_grown hb (some mb)).trans hg3⟩
end Go.Proofs.YtejgebpdipnhmaaGreatDoor
