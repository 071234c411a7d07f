/- awake: the document's example, as its law runs it. No condition. -/
import Derived.Test.YtknnbnmogjkcnaaGreatLogI
namespace Go.Proofs.YtknnbnmogjkcnaaGreat
open Go.RowKit
set_option maxRecDepth 20000

/-- An entry of a term alone. -/
def enT (t : Int) : En := ⟨t, 0, 0, 0, 0, ByteArray.empty, none, [], 0, 0, none, [], 0⟩
theorem ensIn_block {w : World} {b B : Nat} {T : TypeId} {fz : Nat × Nat} (xs : List En) (cs : Array Value) (h : w.heap[b]? = some (.cells cs T fz)) (hcs : cs.toList = xs.flatMap enCells) (hb : b < B) (hs : ∀ x ∈ xs, enSub w B x) : EnsIn w B (some ⟨b, 0, none⟩) xs := by
  refine Or.inr ⟨b, 0, rfl, hb, fun i x hx => ⟨fun j hj => ?_, hs x (List.mem_of_getElem? hx)⟩⟩
  rw [Go.Joins.cell_of_block h (0 + i * 9 + j), ← Array.getElem?_toList, hcs, Nat.zero_add]
  exact flat_get enCells_len xs i x hx j hj
theorem enT_sub (w : World) (B : Nat) (t : Int) : enSub w B (enT t) := ⟨Or.inl rfl, Or.inl rfl⟩
theorem enT_arg (ts : List Int) : EnsArg (ts.map enT) := by
  refine ⟨fun x hx => ?_, fun x hx => ?_⟩ <;> obtain ⟨t, _, rfl⟩ := List.mem_map.1 hx
  · exact ⟨by simp [enT], by simp [enT]⟩
  · exact ⟨fun _ => rfl, fun _ => rfl⟩
theorem enT_small (ts : List Int) : PSmall (ts.map fun t => (enT t).plain) := by
  intro p hp
  obtain ⟨t, _, rfl⟩ := List.mem_map.1 hp
  exact ⟨by simp [enT, En.plain], by simp [enT, En.plain]⟩
set_option maxHeartbeats 2000000 in
theorem awake_any (w : World) : Calls Tryz.prog 4 #[] w fun e w' => e = .returned (.bool true) ∧ Below w.heap.size w w' := by
  go_enter Tryz.func4, Tryz.ntmps4
  go_wp2_with fail
  refine (new_is 5 2 none 0 0 [] w w.heap.size (by omega) (by omega) rfl (Or.inl rfl) (Nat.le_refl _) (fun _ => rfl) (by omega) (enT_arg [])).mono ?_
  rintro e w1 ⟨lb, rfl, h1, b1⟩
  have H1 := Lib.hid h1
  clear h1
  go_wp2_with fail
  refine (append_is w.heap.size lb 5 2 [] (some ⟨w1.heap.size, 0, none⟩) 2 2 [enT 2, enT 3] 6 _ (w1.heap.size + 1) rfl (H1.out.below ((Below.refl _ _).alloc (Nat.le_refl _) _) (Nat.le_refl _)) (by unfold LogNums; simp) (by have := b1.size; simp; omega) rfl (by omega) (ensIn_block _ _ (heap_alloc_new w1 _) rfl (by omega) (fun x hx => by simp at hx; rcases hx with rfl | rfl <;> exact enT_sub _ _ _)) (by simp) (by simp) (by omega) (by simp) (enT_arg [2, 3])).mono ?_
  rintro e w2 ⟨rfl, h2', b2'⟩
  have h2 : LogIs w2 w.heap.size lb 5 2 [(enT 2).plain, (enT 3).plain] := h2'
  have b2 : Below w.heap.size w w2 := (b1.alloc b1.size _).trans b2'
  have H2 := Lib.hid h2
  clear h2 h2' b2' b1
  go_wp2_with fail
  refine (term_is w.heap.size lb 5 2 _ 7 3 true _ (by rfl) H2.out (by unfold LogNums; simp)).mono ?_
  rintro e w3 ⟨rfl, b3⟩
  have H3 := Lib.hid (H2.out.below b3 (Nat.le_refl _))
  have b4 : Below w.heap.size w w3 := b2.trans (b3.mono b2.size)
  clear b2 b3
  go_wp2_with fail
  refine (fit_is w.heap.size lb 5 2 _ 6 2 (some ⟨w3.heap.size, 0, none⟩) 1 1 [enT 4] 0 _ (w3.heap.size + 1) (by rfl) ⟨by simp, by simp, ?_⟩ (H3.out.below ((Below.refl _ _).alloc (Nat.le_refl _) _) (Nat.le_refl _)) (by unfold LogNums; simp) (by omega) (by have := b4.size; simp; omega) rfl (ensIn_block _ _ (heap_alloc_new w3 _) rfl (by omega) (fun x hx => by simp at hx; rcases hx with rfl; exact enT_sub _ _ _)) (by simp) (by simp) (by omega) (by omega) (by simp) (enT_arg [4])).mono ?_
  · intro x hx r ok hr _
    simp at hx
    subst hx
    have : termS 5 2 [(enT 2).plain, (enT 3).plain] (6 + 1 + ((0 : Nat) : Int)) = (3, true) := by rfl
    rw [this] at hr
    simp at hr
    obtain ⟨rfl, _⟩ := hr
    simp [enT, En.plain]
  rintro e w5 ⟨rfl, h5', b5'⟩
  have h5 : LogIs w5 w.heap.size lb 5 2 [(enT 2).plain, (enT 4).plain] := h5'
  have b5 : Below w.heap.size w w5 := (b4.alloc b4.size _).trans b5'
  have H5 := Lib.hid h5
  clear h5 h5' b5' b4
  go_wp2_with fail
  refine (fit_no_is w.heap.size lb 5 2 _ 7 3 4 true _ _ (by rfl) (by simp) H5.out (by unfold LogNums; simp)).mono ?_
  rintro e w6 ⟨rfl, b6⟩
  have H6 := Lib.hid (H5.out.below b6 (Nat.le_refl _))
  have b7 : Below w.heap.size w w6 := b5.trans (b6.mono b5.size)
  clear b5 b6
  go_wp2_with fail
  refine (last_is w.heap.size lb 5 2 _ 7 4 _ (by rfl) H6.out (by unfold LogNums; simp)).mono ?_
  rintro e w8 ⟨rfl, b8⟩
  have H8 := Lib.hid (H6.out.below b8 (Nat.le_refl _))
  have b9 : Below w.heap.size w w8 := b7.trans (b8.mono b7.size)
  clear b7 b8
  go_wp2_with fail
  refine (from_is w.heap.size lb 5 2 _ [(enT 2).plain] 6 1 _ (by rfl) H8.out (by unfold LogNums; simp) b9.size (enT_small [2, 4]) (by omega)).mono ?_
  rintro e w10 ⟨a10, c10, es10, rfl, _, _, b10⟩
  have H10 := Lib.hid (H8.out.below b10 (Nat.le_refl _))
  have b11 : Below w.heap.size w w10 := b9.trans (b10.mono b9.size)
  clear b9 b10
  go_wp2_with fail
  refine (compact_no_is w.heap.size lb 5 2 _ 4 0 _ (by rfl) H10.out (by unfold LogNums; simp)).mono ?_
  rintro e w12 ⟨rfl, b12⟩
  have H12 := Lib.hid (H10.out.below b12 (Nat.le_refl _))
  have b13 : Below w.heap.size w w12 := b11.trans (b12.mono b11.size)
  clear b11 b12
  go_wp2_with fail
  refine (compact_is w.heap.size lb 5 2 2 _ 1 6 _ (by rfl) (by simp) (by rfl) H12.out (by unfold LogNums; simp) b13.size).mono ?_
  rintro e w14 ⟨rfl, h14', b14⟩
  have h14 : LogIs w14 w.heap.size lb 6 2 [(enT 4).plain] := h14'
  have H14 := Lib.hid h14
  have b15 : Below w.heap.size w w14 := b13.trans b14
  clear b13 b14 h14 h14'
  go_wp2_with fail
  refine (from_is w.heap.size lb 6 2 _ [] 6 9 _ (by rfl) H14.out (by unfold LogNums; simp) b15.size (enT_small [4]) (by omega)).mono ?_
  rintro e w16 ⟨a16, c16, es16, rfl, _, _, b16⟩
  have b17 : Below w.heap.size w w16 := b15.trans (b16.mono b15.size)
  clear b15 b16
  go_wp2_with fail
  go_ret
  exact ⟨rfl, b17⟩
end Go.Proofs.YtknnbnmogjkcnaaGreat
