/- frame.Put: the frames' bytes, or that some is none. Conditions: the frames' cells lie as their reading says. -/
import Derived.Test.YtnkjoihnniiidaaGreatDoorGSnapGets4
import Derived.Test.YtnkjoihnniiidaaGreatDoorGSnapGets2
import Derived.Test.YtnkjoihnniiidaaGreatDoorGSnapGets3
set_option linter.unusedVariables false
set_option linter.unusedSimpArgs false
namespace Go.Proofs.YtnkjoihnniiidaaGreatDoor
open Go.RowKit
set_option maxRecDepth 20000
theorem putB_snoc (fs : List Fr) (f : Fr) : putB (fs ++ [f]) = putB fs ++ frameB f.kind f.data := by simp [putB]
theorem putB_take (fs : List Fr) (k : Nat) : (putB (fs.take k)).length ≤ (putB fs).length := by
  conv => rhs; rw [← List.take_append_drop k fs]
  unfold putB
  rw [List.flatMap_append, List.length_append]
  omega
def PutPost (fs : List Fr) (w : World) (e : Ending) (w' : World) : Prop :=
  ∃ v, e = .returned (.tuple #[v, .int .i64 (putE fs)]) ∧ (putE fs = 0 → w'.ownsRow w.heap.size 5 1 v (putB fs).length ((putB fs).map bv)) ∧ (putE fs ≠ 0 → v = .slice none 0 0) ∧ Below w.heap.size w w'
theorem putF_any (ao : Option Addr) (cap : Nat) (fs : List Fr) (w : World) (hx : FramesIn w w.heap.size ao fs) (hw : ∀ f ∈ fs, FrWf f) (hl : (putB fs).length ≤ 140737488351232) (hn : fs.length ≤ 1099511627776) :
    Calls Tryz.prog 31 #[.slice ao fs.length cap] w (PutPost fs w) := by
  have HX := Lib.hid hx
  clear hx
  go_enter Tryz.func31, Tryz.ntmps31
  go_wp2_with fail
  have hbuf0 : BufF (w.alloc (.cells #[.slice none 0 0, .int .i64 0, .int .i8 0] 132)) w.heap.size w.heap.size [] := LibA.zero_isBuffer (Nat.le_refl _) (lr := 0) ⟨_, heap_alloc_new w _, rfl, rfl, rfl, fun i hi => by rcases hi with hi | hi; omega; exact Array.getElem?_eq_none (by simpa using hi)⟩
  have hb0 := (Below.refl w.heap.size w).alloc (Nat.le_refl _) (.cells #[.slice none 0 0, .int .i64 0, .int .i8 0] 132)
  have hz0 : (w.alloc (.cells #[.slice none 0 0, .int .i64 0, .int .i8 0] 132)).heap.size = w.heap.size + 1 := by simp
  generalize w.alloc (.cells #[.slice none 0 0, .int .i64 0, .int .i8 0] 132) = w0 at hbuf0 hb0 hz0 ⊢
  go_loopw [6, 9] (fun _ i wr => ∃ k : Nat, k ≤ fs.length ∧ i = .int .i64 k ∧ (∀ f ∈ fs.take k, okF f) ∧ BufF wr w.heap.size w.heap.size (putB (fs.take k)) ∧ Below w.heap.size w wr) (fun _ i _ => fs.length - (intOf i).toNat)
  case atStart => exact ⟨0, by omega, rfl, by simp, hbuf0, hb0⟩
  case round =>
    obtain ⟨k, hk, rfl, hok, hbuf, hbel⟩ := hrel
    have HOK := Lib.hid hok
    clear hok hbuf0 hb0
    have hs := hbel.size
    by_cases hlt : k < fs.length
    · rcases HX.out with h0 | ⟨bb, off, rfl, hb, hc⟩
      · rw [h0] at hlt; simp at hlt
      obtain ⟨c0, c1, hD⟩ := hc k hlt
      rw [← hbel.cell (p := ⟨bb, _, none⟩) hb] at c0 c1
      clear hc
      have hfw := hw (fs.getD k Fr.zero) (by simp [List.getD, List.getElem?_eq_getElem hlt])
      have HE := Lib.hid (putE_at hlt HOK.out)
      have htk : fs.take (k + 1) = fs.take k ++ [fs.getD k Fr.zero] := by rw [List.take_succ_eq_append_getElem hlt]; simp [List.getD, List.getElem?_eq_getElem hlt]
      have HT := Lib.hid htk
      clear htk
      obtain ⟨f, hfe⟩ : ∃ f, f = fs.getD k Fr.zero := ⟨_, rfl⟩
      rw [← hfe] at c0 c1 hD hfw HE HT
      clear hfe
      obtain ⟨fk, fa, fc, fd⟩ := f
      obtain ⟨w1, hfa, hfd, hfl⟩ := hfw
      dsimp only at c0 c1 hD w1 hfa hfd hfl
      have i1 : (k : Int) < fs.length := by omega
      have hbig : (putB (fs.take (k + 1))).length ≤ (putB fs).length := putB_take fs (k + 1)
      rw [HT.out, putB_snoc, List.length_append, frameB_len] at hbig
      dsimp only at hbig
      have hbA := hbel.alloc hs (.cells #[.int .i64 fk, .slice fa fd.length fc] 61)
      by_cases hkk : fk < 0
      · have hE := HE.out (by unfold okF; dsimp only; omega)
        rw [if_pos (by dsimp only; omega)] at hE
        have HE' := Lib.hid hE
        clear hE
        go_wp2_with fail
        go_ret2
        exact ⟨_, by rw [HE'.out]; rfl, by rw [HE'.out]; omega, fun _ => rfl, hbA⟩
      · by_cases hkk2 : 255 < fk
        · have hE := HE.out (by unfold okF; dsimp only; omega)
          rw [if_pos (by dsimp only; omega)] at hE
          have HE' := Lib.hid hE
          clear hE
          go_wp2_with fail
          go_ret2
          exact ⟨_, by rw [HE'.out]; rfl, by rw [HE'.out]; omega, fun _ => rfl, hbA⟩
        · by_cases hlen : 1048576 < fd.length
          · have hE := HE.out (by unfold okF; dsimp only; omega)
            rw [if_neg (by dsimp only; omega)] at hE
            have HE' := Lib.hid hE
            clear hE
            have i2 : (1048576 : Int) < fd.length := by omega
            go_wp2_with fail
            go_ret2
            exact ⟨_, by rw [HE'.out]; rfl, by rw [HE'.out]; omega, fun _ => rfl, hbA⟩
          · have i2 : ¬ (1048576 : Int) < fd.length := by omega
            have hbufA : BufF (wr.alloc (.cells #[.int .i64 fk, .slice fa fd.length fc] 61)) w.heap.size w.heap.size (putB (fs.take k)) := LibA.IsBuffer.alloc hbuf _
            have hDA := hD.below hbA (Nat.le_refl _)
            have hsA := hbA.size
            go_wp2_with fail
            refine (frame_any w.heap.size w.heap.size _ fk fa fc fd _ (by omega) hDA hfd hfa hbufA hsA (by omega) (by omega)).mono ?_
            rintro e w3 ⟨rfl, hb3, hB3, _⟩
            go_wp2_with fail
            go_roundw
            case rel => exact ⟨k + 1, by omega, by go_num, by rw [HT.out]; intro f hf; rcases List.mem_append.1 hf with hf | hf; exact HOK.out f hf; rw [List.mem_singleton.1 hf]; unfold okF; dsimp only; omega, by rw [HT.out, putB_snoc]; exact hb3, hbA.trans hB3⟩
            case measure => simp [intOf]; omega
    · obtain rfl : k = fs.length := by omega
      have hok := HOK.out
      rw [List.take_length] at hok hbuf
      have H0 := Lib.hid (putE_ok hok)
      clear hok
      go_wp2_with fail
      refine (bytes_ofF _ _ _ _ hbuf).mono ?_
      rintro e w2 ⟨v, rfl, hown2, hb2⟩
      have hao2 := fun ao2 n cap2 (h : v = .slice ao2 n cap2) => own_none (h ▸ hown2)
      obtain ⟨ao2, cap2, hv2, hD2⟩ := own_bytes hown2
      have hao3 := hao2 _ _ _ hv2
      subst hv2
      have hbel2 := hbel.trans (hb2.mono hs)
      clear hown2 hao2
      have hs2 := hbel2.size
      go_wp2_with fail
      refine (clone_anyF ao2 cap2 (putB fs) w2 _ hD2 (Nat.le_refl _) hao3 (by omega)).mono ?_
      rintro e w3 ⟨v3, rfl, hown3, hb3⟩
      have hown4 := Go.Joins.ownsRow_le hown3 hs2
      have hbel3 := hbel2.trans (hb3.mono hs2)
      clear hown3
      go_wp2_with fail
      go_ret2
      exact ⟨v3, by rw [H0.out]; rfl, fun _ => hown4, fun h => absurd H0.out h, hbel3⟩
end Go.Proofs.YtnkjoihnniiidaaGreatDoor
/- Steps of a region that draws its order, guarded operations and loads included, each taken by its number, in worlds of which something is kept. Any program. Conditions: as each says. -/
namespace Go.Proofs.YtnkjoihnniiidaaGreatDoor
open Go.RowKit
variable {P : Program} {md : Region.Mode} {ops : Array Oper} {Q : Exit → Act → World → Prop} {S : World → Prop}
theorem takeS_no (i : Nat) {oi : Oper} {fuel : Nat} {listed : Array Bool} {a : Act} {w : World} (hi : ops.toList[i]? = some oi) (hs : Region.noSelect ops = true) (hf : Region.free md ops listed i = true) (hr : (Region.ready md ops listed).contains i = true)
    (hQ : ∀ c a w, Q (.panic c) (a.put oi.dst undef) w → Q (.panic c) a w) (hw : Region.wanted oi (yielded ops a.tmps) = false) (hS : S w) (h : wpAnyH P md ops Q S fuel (listed.setIfInBounds i true) (a.put oi.dst undef) w) : wpAnyH P md ops Q S (fuel + 1) listed a w :=
  wpAnyH_take (by rw [← Array.getElem?_toList]; exact hi) hs hf hr hQ (Or.inr ⟨hw, rfl⟩) hS h
/-- An operation that yields the same in whatever world of the kind. -/
theorem takeS_yes (i : Nat) {oi : Oper} {v : Value} {fuel : Nat} {listed : Array Bool} {a : Act} {w : World} (hi : ops.toList[i]? = some oi) (hs : Region.noSelect ops = true) (hf : Region.free md ops listed i = true) (hr : (Region.ready md ops listed).contains i = true)
    (hQ : ∀ c a w, Q (.panic c) (a.put oi.dst v) w → Q (.panic c) a w) (hw : Region.wanted oi (yielded ops a.tmps) = true) (hS : S w) (hy : ∀ w, S w → (execOp a.eval oi).run P w = .ok (.value v) w) (h : wpAnyH P md ops Q S fuel (listed.setIfInBounds i true) (a.put oi.dst v) w) : wpAnyH P md ops Q S (fuel + 1) listed a w :=
  wpAnyH_take (by rw [← Array.getElem?_toList]; exact hi) hs hf hr hQ (Or.inl ⟨hw, hy⟩) hS h
/-- An operation that alone may come up. -/
theorem takeS_alone (i : Nat) {oi : Oper} {fuel : Nat} {listed : Array Bool} {a : Act} {w : World} (hi : ops.toList[i]? = some oi) (hr : Region.ready md ops listed = [i]) (hw : Region.wanted oi (yielded ops a.tmps) = true)
    (h : ∀ K' : Act → World → Prop, Shut (∀ a w, S w → wpAnyH P md ops Q S fuel (listed.setIfInBounds i true) a w → K' a w) → Oper.wp P oi a w K' Q) : wpAnyH P md ops Q S (fuel + 1) listed a w :=
  wpAnyH_ready (rs := [i]) hr (by simp) (AllReadyH.cons (by rw [← Array.getElem?_toList]; exact hi) (fun K hK => by rw [if_pos hw]; exact h K (fun a w hS hW => hK.out a w hS (fun _ => hW))) AllReadyH.nil)
theorem heldS_begin {id : Nat} {a : Act} {w : World} (S : World → Prop) (hm : P.follows .mixedOrders = true) (hS : S w.drew) (h : S w.drew → wpAnyH P .any ops Q S ops.size (Array.replicate ops.size false) a w.drew) : (Code.region id ops true).wp P Q a w :=
  wp_region_held_drew hm hS h
end Go.Proofs.YtnkjoihnniiidaaGreatDoor
/- A snap's bytes. Conditions: the snap lies as its reading says. -/
namespace Go.Proofs.YtnkjoihnniiidaaGreatDoor
open Go.RowKit
set_option maxRecDepth 20000
theorem snums_new (w : World) (xs : List Int) (cs : Array Value) (hcs : cs = (xs.map (Value.int .i64)).toArray) : NumsIn (w.alloc (.cells cs 3)) (w.heap.size + 1) (some ⟨w.heap.size, 0, none⟩) xs := by
  subst hcs
  refine Or.inr ⟨w.heap.size, 0, rfl, Nat.lt_succ_self _, fun i x hx => ⟨fun j hj => ?_, trivial⟩⟩
  obtain rfl : j = 0 := by omega
  rw [Go.Joins.cell_of_block (heap_alloc_new w _)]
  simp [hx, iCells]
/-- What is told beside an error: bytes of a call's own. -/
def BytesE (r : List Int × Int) (w : World) (e : Ending) (w' : World) : Prop :=
  ∃ a n c, e = .returned (.tuple #[.slice a n c, .int .i64 r.2]) ∧ BOwn w' w.heap.size a n c r.1 ∧ Below w.heap.size w w'
theorem own_value {w : World} {base : Nat} {v : Value} {L : List Int} (h : w.ownsRow base 5 1 v L.length (L.map bv)) : ∃ a n c, v = .slice a n c ∧ BOwn w base a n c L := by
  obtain ⟨a, c, rfl, _⟩ := own_bytes h
  exact ⟨a, _, c, rfl, rfl, h⟩
theorem fput1_any (b : Nat) (a : Option Addr) (n c : Nat) (D : List Int) (w : World) (k0 : w.cell? ⟨b, 0, none⟩ = some (.int .i64 1)) (k1 : w.cell? ⟨b, 1, none⟩ = some (.slice a n c)) (hb : b < w.heap.size) (hn : D.length = n) (hx : BytesIn w w.heap.size a D) (hnil : a = none → c = 0) (hw : BytesWf D) (hl : n ≤ 100000000)
    (r : List Int × Int) (hr : (if 1048576 < n then ([], 3) else (frameB 1 D, 0) : List Int × Int) = r) :
    Calls Tryz.prog 31 #[.slice (some ⟨b, 0, none⟩) 1 1] w (BytesE r w) := by
  subst hn
  refine (putF_any (some ⟨b, 0, none⟩) 1 [⟨1, a, c, D⟩] w (Or.inr ⟨b, 0, rfl, hb, fun i hi => ?_⟩) (fun f hf => ?_) ?_ (by simp)).mono ?_
  · obtain rfl : i = 0 := by simpa using hi
    exact ⟨k0, k1, hx⟩
  · rw [List.mem_singleton] at hf
    subst hf
    exact ⟨(show (Lit.int .i64 1).wf = true by decide), hnil, hw, by dsimp only; omega⟩
  · simp only [putB, List.flatMap_cons, List.flatMap_nil, List.append_nil, frameB_len]
    omega
  · rintro e w' ⟨v, rfl, h1, h2, h3⟩
    by_cases hg : 1048576 < D.length
    · have he : putE [⟨1, a, c, D⟩] = 3 := by simp [putE, hg]
      rw [if_pos hg] at hr
      subst hr
      rw [he] at h2 ⊢
      exact ⟨none, 0, 0, by rw [h2 (by decide)], ⟨rfl, World.ownsRow_nil _ _ _ _⟩, h3⟩
    · have he : putE [⟨1, a, c, D⟩] = 0 := by simp [putE, hg]
      rw [if_neg hg] at hr
      subst hr
      rw [he] at h1 ⊢
      have hp : putB [⟨1, a, c, D⟩] = frameB 1 D := by simp [putB]
      rw [hp] at h1
      obtain ⟨a2, n2, c2, rfl, ho⟩ := own_value (h1 rfl)
      exact ⟨a2, n2, c2, rfl, ho, h3⟩
theorem three_parts {w : World} {g : Nat} {p1 p2 p3 : Pt} (h : w.heap[g]? = some (.cells #[.slice p1.ao p1.data.length p1.cap, .slice p2.ao p2.data.length p2.cap, .slice p3.ao p3.data.length p3.cap] 23 (0, 0))) (h1 : ptSub w w.heap.size p1) (h2 : ptSub w w.heap.size p2) (h3 : ptSub w w.heap.size p3) :
    RowsIn 1 ptCells ptSub w w.heap.size (some ⟨g, 0, none⟩) [p1, p2, p3] := by
  refine Or.inr ⟨g, 0, rfl, (Array.getElem?_eq_some_iff.1 h).1, fun i x hx => ?_⟩
  rcases i with _ | _ | _ | i
  · simp at hx; subst hx
    exact ⟨fun j hj => by obtain rfl : j = 0 := by omega
                          rw [Go.Joins.cell_of_block h]; rfl, h1⟩
  · simp at hx; subst hx
    exact ⟨fun j hj => by obtain rfl : j = 0 := by omega
                          rw [Go.Joins.cell_of_block h]; rfl, h2⟩
  · simp at hx; subst hx
    exact ⟨fun j hj => by obtain rfl : j = 0 := by omega
                          rw [Go.Joins.cell_of_block h]; rfl, h3⟩
  · simp at hx
theorem join3_any (g : Nat) (a1 a2 a3 : Option Addr) (n1 n2 n3 c1 c2 c3 : Nat) (l1 l2 l3 L : List Int) (w : World) (hk : w.heap[g]? = some (.cells #[.slice a1 n1 c1, .slice a2 n2 c2, .slice a3 n3 c3] 23 (0, 0)))
    (e1 : l1.length = n1) (e2 : l2.length = n2) (e3 : l3.length = n3) (h1 : BytesIn w w.heap.size a1 l1) (h2 : BytesIn w w.heap.size a2 l2) (h3 : BytesIn w w.heap.size a3 l3) (w1 : BytesWf l1) (w2 : BytesWf l2) (w3 : BytesWf l3) (hL : l1 ++ (l2 ++ l3) = L) (n : Nat) (hn : L.length = n) (hl : n ≤ 100000000) :
    Calls Tryz.prog 32 #[.slice (some ⟨g, 0, none⟩) 3 3] w fun e w' => ∃ a c, e = .returned (.slice a n c) ∧ BytesIn w' w'.heap.size a L ∧ (a = none → c = 0) ∧ n ≤ c ∧ Below w.heap.size w w' := by
  subst e1 e2 e3 hn
  refine (wjoin_any (some ⟨g, 0, none⟩) 3 3 [⟨a1, c1, l1⟩, ⟨a2, c2, l2⟩, ⟨a3, c3, l3⟩] L w w.heap.size rfl (by rw [← hL]; simp) (three_parts (p1 := ⟨a1, c1, l1⟩) (p2 := ⟨a2, c2, l2⟩) (p3 := ⟨a3, c3, l3⟩) hk h1 h2 h3) (Nat.le_refl _) (fun p hp => ?_) (Nat.le_refl _) (by omega) (by omega)).mono ?_
  · simp only [List.mem_cons, List.not_mem_nil, or_false] at hp
    rcases hp with rfl | rfl | rfl <;> assumption
  · rintro e w' ⟨a, c, rfl, q1, q2, q3, _, q5⟩
    exact ⟨a, c, rfl, q1, q2, q3, q5⟩
set_option maxHeartbeats 4000000 in
/-- snap.Put. -/
theorem sput_any (x : Sn) (w : World) (hx : snSub w w.heap.size x) (hf : SnFine x) (r : List Int × Int) (hr : snPut x.plain = r) :
    Calls Tryz.prog 7 #[snVal x] w (BytesE r w) := by
  obtain ⟨g, hg⟩ : ∃ g, snRight x.plain = g := ⟨_, rfl⟩
  have HRT := Lib.hid fun w hx => sright_any x w hx hf g hg
  obtain ⟨si, st, va, xs, vc, ia, im, ic⟩ := x
  obtain ⟨f1, f2, f3, f4, f5, f6, f7, f8, f9, f10⟩ := hf
  dsimp only [snVal, Sn.plain, snSub] at hx hg hr HRT f1 f2 f3 f4 f5 f6 f7 f8 f9 f10 ⊢
  have HL := snData_len ⟨si, st, xs, im⟩
  have HD := Lib.hid (show [si, st, (xs.length : Int)].flatMap (numB 8) ++ (xs.flatMap (numB 8) ++ im) = snData ⟨si, st, xs, im⟩ by simp [snData, snHead])
  have HDW := Lib.hid (snData_wf (s := ⟨si, st, xs, im⟩) f5)
  unfold snPut at hr
  rw [hg] at hr
  generalize snData ⟨si, st, xs, im⟩ = D at HL HD HDW hr
  dsimp only at HL
  obtain ⟨n, hn⟩ : ∃ n, xs.length = n := ⟨_, rfl⟩
  obtain ⟨m, hm⟩ : ∃ m, im.length = m := ⟨_, rfl⟩
  obtain ⟨dl, hdl⟩ : ∃ d, D.length = d := ⟨_, rfl⟩
  rw [hn] at HRT HL HD f4 f9 ⊢
  rw [hm] at HRT HL f6 f10 ⊢
  rw [hdl] at HL hr
  have HN := Lib.hid hn
  have HM := Lib.hid hm
  have HDL := Lib.hid hdl
  have HX := Lib.hid hx
  have HW := Lib.hid f5
  have HI := Lib.hid f8
  clear hn hm hdl hx f5 f7 f8 f3 f1 f2 hg f9 f10
  have hdm : dl ≤ 100000000 := by omega
  clear HL
  have hb0 := (Below.refl w.heap.size w).alloc (Nat.le_refl _) (.cells #[.int .i64 si, .int .i64 st, .slice va n vc, .slice ia m ic] 25)
  have hk0 := heap_alloc_new w (.cells #[.int .i64 si, .int .i64 st, .slice va n vc, .slice ia m ic] 25)
  have HB0 := Lib.hid hb0
  have HK0 := Lib.hid hk0
  clear hb0 hk0
  have HR := Lib.hid hr
  clear hr
  go_enter Tryz.func7, Tryz.ntmps7
  go_wp2_with fail
  generalize w.alloc (.cells #[.int .i64 si, .int .i64 st, .slice va n vc, .slice ia m ic] 25) = w0 at HB0 HK0 ⊢
  refine (HRT.out w0 ((HX.out.1.below noSub_kept HB0.out (Nat.le_refl _)).mono noSub_rising HB0.out.size)).mono ?_
  rintro e w1 ⟨rfl, hb1⟩
  have hz0 := HB0.out.size
  have hlt0 := (Array.getElem?_eq_some_iff.1 HK0.out).1
  have HB1 := Lib.hid (HB0.out.trans (hb1.mono hz0))
  have HK1 := Lib.hid ((hb1.block _ hlt0).trans HK0.out)
  have hlt1 := (Array.getElem?_eq_some_iff.1 HK1.out).1
  clear hb1 HB0 HK0 HRT
  cases g with
  | false =>
    go_wp2_with fail
    go_ret2
    rw [← HR.out]
    exact ⟨none, 0, 0, rfl, ⟨rfl, World.ownsRow_nil _ _ _ _⟩, HB1.out⟩
  | true =>
    have hr2 := HR.out
    rw [if_neg (by simp)] at hr2
    have HR2 := Lib.hid hr2
    clear hr2
    go_wp2_with fail
    have hC : ∀ w', Below w1.heap.size w1 w' → w'.cell? ⟨w.heap.size, 0, none⟩ = some (.int .i64 si) ∧ w'.cell? ⟨w.heap.size, 1, none⟩ = some (.int .i64 st) ∧ w'.cell? ⟨w.heap.size, 2, none⟩ = some (.slice va n vc) ∧ w'.cell? ⟨w.heap.size, 3, none⟩ = some (.slice ia m ic) := fun w' hb => by
      have hk := (hb.block _ hlt1).trans HK1.out
      exact ⟨Go.Joins.cell_of_block hk 0, Go.Joins.cell_of_block hk 1, Go.Joins.cell_of_block hk 2, Go.Joins.cell_of_block hk 3⟩
    have HC := Lib.hid hC
    clear hC
    refine heldS_begin (fun w' => Below w1.heap.size w1 w') (by kernel_rfl) ((Below.refl _ _).drew) ?_
    intro hS0
    (first | (refine takeS_no 0 rfl (by kernel_rfl) (by kernel_rfl) (by kernel_rfl) (fun _ _ _ h => h) (by rfl) (by assumption) ?_) | (refine takeS_yes (v := ?_) 0 rfl (by kernel_rfl) (by kernel_rfl) (by kernel_rfl) (fun _ _ _ h => h) (by rfl) (by assumption) ?_ ?_; rotate_left; focus (intro wS hSw; obtain ⟨q0, q1, q2, q3⟩ := HC.out wS hSw; go_simp; first | done | with_reducible rfl)))
    (try simp only [Act.put, List.setIfInBounds_toArray, List.set_cons_zero, List.set_cons_succ])
    (first | (refine takeS_no 1 rfl (by kernel_rfl) (by kernel_rfl) (by kernel_rfl) (fun _ _ _ h => h) (by rfl) (by assumption) ?_) | (refine takeS_yes (v := ?_) 1 rfl (by kernel_rfl) (by kernel_rfl) (by kernel_rfl) (fun _ _ _ h => h) (by rfl) (by assumption) ?_ ?_; rotate_left; focus (intro wS hSw; obtain ⟨q0, q1, q2, q3⟩ := HC.out wS hSw; go_simp; first | done | with_reducible rfl)))
    (try simp only [Act.put, List.setIfInBounds_toArray, List.set_cons_zero, List.set_cons_succ])
    (first | (refine takeS_no 2 rfl (by kernel_rfl) (by kernel_rfl) (by kernel_rfl) (fun _ _ _ h => h) (by rfl) (by assumption) ?_) | (refine takeS_yes (v := ?_) 2 rfl (by kernel_rfl) (by kernel_rfl) (by kernel_rfl) (fun _ _ _ h => h) (by rfl) (by assumption) ?_ ?_; rotate_left; focus (intro wS hSw; obtain ⟨q0, q1, q2, q3⟩ := HC.out wS hSw; go_simp; first | done | with_reducible rfl)))
    (try simp only [Act.put, List.setIfInBounds_toArray, List.set_cons_zero, List.set_cons_succ])
    (first | (refine takeS_no 3 rfl (by kernel_rfl) (by kernel_rfl) (by kernel_rfl) (fun _ _ _ h => h) (by rfl) (by assumption) ?_) | (refine takeS_yes (v := ?_) 3 rfl (by kernel_rfl) (by kernel_rfl) (by kernel_rfl) (fun _ _ _ h => h) (by rfl) (by assumption) ?_ ?_; rotate_left; focus (intro wS hSw; obtain ⟨q0, q1, q2, q3⟩ := HC.out wS hSw; go_simp; first | done | with_reducible rfl)))
    (try simp only [Act.put, List.setIfInBounds_toArray, List.set_cons_zero, List.set_cons_succ])
    (first | (refine takeS_no 4 rfl (by kernel_rfl) (by kernel_rfl) (by kernel_rfl) (fun _ _ _ h => h) (by rfl) (by assumption) ?_) | (refine takeS_yes (v := ?_) 4 rfl (by kernel_rfl) (by kernel_rfl) (by kernel_rfl) (fun _ _ _ h => h) (by rfl) (by assumption) ?_ ?_; rotate_left; focus (intro wS hSw; obtain ⟨q0, q1, q2, q3⟩ := HC.out wS hSw; go_simp; first | done | with_reducible rfl)))
    (try simp only [Act.put, List.setIfInBounds_toArray, List.set_cons_zero, List.set_cons_succ])
    (first | (refine takeS_no 5 rfl (by kernel_rfl) (by kernel_rfl) (by kernel_rfl) (fun _ _ _ h => h) (by rfl) (by assumption) ?_) | (refine takeS_yes (v := ?_) 5 rfl (by kernel_rfl) (by kernel_rfl) (by kernel_rfl) (fun _ _ _ h => h) (by rfl) (by assumption) ?_ ?_; rotate_left; focus (intro wS hSw; obtain ⟨q0, q1, q2, q3⟩ := HC.out wS hSw; go_simp; first | done | with_reducible rfl)))
    (try simp only [Act.put, List.setIfInBounds_toArray, List.set_cons_zero, List.set_cons_succ])
    (first | (refine takeS_no 6 rfl (by kernel_rfl) (by kernel_rfl) (by kernel_rfl) (fun _ _ _ h => h) (by rfl) (by assumption) ?_) | (refine takeS_yes (v := ?_) 6 rfl (by kernel_rfl) (by kernel_rfl) (by kernel_rfl) (fun _ _ _ h => h) (by rfl) (by assumption) ?_ ?_; rotate_left; focus (intro wS hSw; obtain ⟨q0, q1, q2, q3⟩ := HC.out wS hSw; go_simp; first | done | with_reducible rfl)))
    (try simp only [Act.put, List.setIfInBounds_toArray, List.set_cons_zero, List.set_cons_succ])
    (first | (refine takeS_no 9 rfl (by kernel_rfl) (by kernel_rfl) (by kernel_rfl) (fun _ _ _ h => h) (by rfl) (by assumption) ?_) | (refine takeS_yes (v := ?_) 9 rfl (by kernel_rfl) (by kernel_rfl) (by kernel_rfl) (fun _ _ _ h => h) (by rfl) (by assumption) ?_ ?_; rotate_left; focus (intro wS hSw; obtain ⟨q0, q1, q2, q3⟩ := HC.out wS hSw; go_simp; first | done | with_reducible rfl)))
    (try simp only [Act.put, List.setIfInBounds_toArray, List.set_cons_zero, List.set_cons_succ])
    (first | (refine takeS_no 10 rfl (by kernel_rfl) (by kernel_rfl) (by kernel_rfl) (fun _ _ _ h => h) (by rfl) (by assumption) ?_) | (refine takeS_yes (v := ?_) 10 rfl (by kernel_rfl) (by kernel_rfl) (by kernel_rfl) (fun _ _ _ h => h) (by rfl) (by assumption) ?_ ?_; rotate_left; focus (intro wS hSw; obtain ⟨q0, q1, q2, q3⟩ := HC.out wS hSw; go_simp; first | done | with_reducible rfl)))
    (try simp only [Act.put, List.setIfInBounds_toArray, List.set_cons_zero, List.set_cons_succ])
    (first | (refine takeS_no 12 rfl (by kernel_rfl) (by kernel_rfl) (by kernel_rfl) (fun _ _ _ h => h) (by rfl) (by assumption) ?_) | (refine takeS_yes (v := ?_) 12 rfl (by kernel_rfl) (by kernel_rfl) (by kernel_rfl) (fun _ _ _ h => h) (by rfl) (by assumption) ?_ ?_; rotate_left; focus (intro wS hSw; obtain ⟨q0, q1, q2, q3⟩ := HC.out wS hSw; go_simp; first | done | with_reducible rfl)))
    (try simp only [Act.put, List.setIfInBounds_toArray, List.set_cons_zero, List.set_cons_succ])
    (first | (refine takeS_no 13 rfl (by kernel_rfl) (by kernel_rfl) (by kernel_rfl) (fun _ _ _ h => h) (by rfl) (by assumption) ?_) | (refine takeS_yes (v := ?_) 13 rfl (by kernel_rfl) (by kernel_rfl) (by kernel_rfl) (fun _ _ _ h => h) (by rfl) (by assumption) ?_ ?_; rotate_left; focus (intro wS hSw; obtain ⟨q0, q1, q2, q3⟩ := HC.out wS hSw; go_simp; first | done | with_reducible rfl)))
    (try simp only [Act.put, List.setIfInBounds_toArray, List.set_cons_zero, List.set_cons_succ])
    generalize w1.drew = wd at hS0 ⊢
    have hzd := hS0.size
    have hz1 := HB1.out.size
    refine takeS_alone 7 rfl (by kernel_rfl) (by rfl) (fun K hK => ?_)
    go_simp
    (have c2 := hS0.alloc hzd (.cells #[.int .i64 si, .int .i64 st, .int .i64 n] 3); have k2 := snums_new wd [si, st, (n : Int)] #[.int .i64 si, .int .i64 st, .int .i64 n] rfl; have s2 : (wd.alloc (.cells #[.int .i64 si, .int .i64 st, .int .i64 n] 3)).heap.size = wd.heap.size + 1 := (by simp); generalize wd.alloc (.cells #[.int .i64 si, .int .i64 st, .int .i64 n] 3) = w2 at c2 k2 s2 ⊢; rw [← s2] at k2; clear s2)
    refine hK.out _ _ (by assumption) ?_
    clear hK K
    (try simp only [Act.put, List.setIfInBounds_toArray, List.set_cons_zero, List.set_cons_succ])
    refine takeS_alone 8 rfl (by kernel_rfl) (by rfl) (fun K hK => ?_)
    go_simp
    (refine (snumbers_any (some ⟨wd.heap.size, 0, none⟩) 3 3 [si, st, (n : Int)] _ w2 w2.heap.size rfl rfl k2 (Nat.le_refl _) (by omega)).mono ?_; rintro e w3 ⟨a1, n1, c1, rfl, ho1, hb3⟩; have c3 := c2.trans (hb3.mono c2.size); clear hb3 k2)
    refine hK.out _ _ (by assumption) ?_
    clear hK K
    (try simp only [Act.put, List.setIfInBounds_toArray, List.set_cons_zero, List.set_cons_succ])
    refine takeS_alone 11 rfl (by kernel_rfl) (by rfl) (fun K hK => ?_)
    go_simp
    (refine (snumbers_any va n vc xs _ w3 w.heap.size rfl HN.out (HX.out.1.below noSub_kept (HB1.out.trans (c3.mono hz1)) (Nat.le_refl _)) (Nat.le_trans hz1 c3.size) f4).mono ?_; rintro e w4 ⟨a2, n2, c2', rfl, ho2, hb4⟩; have c4 := c3.trans (hb4.mono c3.size); have ho1 := ho1.below hb4 (Nat.le_refl _); clear hb4)
    refine hK.out _ _ (by assumption) ?_
    clear hK K
    (try simp only [Act.put, List.setIfInBounds_toArray, List.set_cons_zero, List.set_cons_succ])
    refine takeS_alone 14 rfl (by kernel_rfl) (by rfl) (fun K hK => ?_)
    go_simp
    (have b5 := (Below.refl w4.heap.size w4).alloc (Nat.le_refl _) (.cells #[.slice a1 n1 c1, .slice a2 n2 c2', .slice ia m ic] 23); have k5 := heap_alloc_new w4 (.cells #[.slice a1 n1 c1, .slice a2 n2 c2', .slice ia m ic] 23); have c5 := c4.trans (b5.mono c4.size); generalize w4.alloc (.cells #[.slice a1 n1 c1, .slice a2 n2 c2', .slice ia m ic] 23) = w5 at b5 k5 c5 ⊢)
    refine hK.out _ _ (by assumption) ?_
    clear hK K
    (try simp only [Act.put, List.setIfInBounds_toArray, List.set_cons_zero, List.set_cons_succ])
    refine takeS_alone 15 rfl (by kernel_rfl) (by rfl) (fun K hK => ?_)
    go_simp
    (refine (join3_any w4.heap.size a1 a2 ia n1 n2 m c1 c2' ic _ _ im D w5 k5 ho1.len ho2.len HM.out ((ho1.in.below b5 (Nat.le_refl _)).mono b5.size) ((ho2.in.below b5 (Nat.le_refl _)).mono b5.size) ((HX.out.2.below (HB1.out.trans (c5.mono hz1)) (Nat.le_refl _)).mono (Nat.le_trans hz1 c5.size)) (BytesWf.flat fun n _ => numB_wf 8 n) (BytesWf.flat fun n _ => numB_wf 8 n) HW.out HD.out dl HDL.out hdm).mono ?_; rintro e w6 ⟨a3, c3', rfl, hi6, hn6, hc6, hb6⟩; have c6 := c5.trans (hb6.mono c5.size); clear hb6 b5 k5)
    refine hK.out _ _ (by assumption) ?_
    clear hK K
    (try simp only [Act.put, List.setIfInBounds_toArray, List.set_cons_zero, List.set_cons_succ])
    (first | (refine takeS_no 16 rfl (by kernel_rfl) (by kernel_rfl) (by kernel_rfl) (fun _ _ _ h => h) (by rfl) (by assumption) ?_) | (refine takeS_yes (v := ?_) 16 rfl (by kernel_rfl) (by kernel_rfl) (by kernel_rfl) (fun _ _ _ h => h) (by rfl) (by assumption) ?_ ?_; rotate_left; focus (intro wS hSw; obtain ⟨q0, q1, q2, q3⟩ := HC.out wS hSw; go_simp; first | done | with_reducible rfl)))
    (try simp only [Act.put, List.setIfInBounds_toArray, List.set_cons_zero, List.set_cons_succ])
    refine takeS_alone 17 rfl (by kernel_rfl) (by rfl) (fun K hK => ?_)
    go_simp
    (have b7 := (Below.refl w6.heap.size w6).alloc (Nat.le_refl _) (.cells #[.int .i64 1, .slice a3 dl c3'] 61); have k7 := heap_alloc_new w6 (.cells #[.int .i64 1, .slice a3 dl c3'] 61); have c7 := c6.trans (b7.mono c6.size); generalize w6.alloc (.cells #[.int .i64 1, .slice a3 dl c3'] 61) = w7 at b7 k7 c7 ⊢)
    refine hK.out _ _ (by assumption) ?_
    clear hK K
    (try simp only [Act.put, List.setIfInBounds_toArray, List.set_cons_zero, List.set_cons_succ])
    refine takeS_alone 18 rfl (by kernel_rfl) (by rfl) (fun K hK => ?_)
    go_simp
    (refine (fput1_any w6.heap.size a3 dl c3' D w7 (Go.Joins.cell_of_block k7 0) (Go.Joins.cell_of_block k7 1) (Array.getElem?_eq_some_iff.1 k7).1 HDL.out ((hi6.below b7 (Nat.le_refl _)).mono b7.size) hn6 HDW.out hdm r HR2.out).mono ?_; rintro e w8 ⟨a, n8, c, rfl, ho, hb8⟩; have c8 := c7.trans (hb8.mono c7.size))
    refine hK.out _ _ (by assumption) ?_
    clear hK K
    (try simp only [Act.put, List.setIfInBounds_toArray, List.set_cons_zero, List.set_cons_succ])
    (first | (refine takeS_no 19 rfl (by kernel_rfl) (by kernel_rfl) (by kernel_rfl) (fun _ _ _ h => h) (by rfl) (by assumption) ?_) | (refine takeS_yes (v := ?_) 19 rfl (by kernel_rfl) (by kernel_rfl) (by kernel_rfl) (fun _ _ _ h => h) (by rfl) (by assumption) ?_ ?_; rotate_left; focus (intro wS hSw; obtain ⟨q0, q1, q2, q3⟩ := HC.out wS hSw; go_simp; first | done | with_reducible rfl)))
    (try simp only [Act.put, List.setIfInBounds_toArray, List.set_cons_zero, List.set_cons_succ])
    (first | (refine takeS_no 20 rfl (by kernel_rfl) (by kernel_rfl) (by kernel_rfl) (fun _ _ _ h => h) (by rfl) (by assumption) ?_) | (refine takeS_yes (v := ?_) 20 rfl (by kernel_rfl) (by kernel_rfl) (by kernel_rfl) (fun _ _ _ h => h) (by rfl) (by assumption) ?_ ?_; rotate_left; focus (intro wS hSw; obtain ⟨q0, q1, q2, q3⟩ := HC.out wS hSw; go_simp; first | done | with_reducible rfl)))
    (try simp only [Act.put, List.setIfInBounds_toArray, List.set_cons_zero, List.set_cons_succ])
    (first | (refine takeS_no 21 rfl (by kernel_rfl) (by kernel_rfl) (by kernel_rfl) (fun _ _ _ h => h) (by rfl) (by assumption) ?_) | (refine takeS_yes (v := ?_) 21 rfl (by kernel_rfl) (by kernel_rfl) (by kernel_rfl) (fun _ _ _ h => h) (by rfl) (by assumption) ?_ ?_; rotate_left; focus (intro wS hSw; obtain ⟨q0, q1, q2, q3⟩ := HC.out wS hSw; go_simp; first | done | with_reducible rfl)))
    (try simp only [Act.put, List.setIfInBounds_toArray, List.set_cons_zero, List.set_cons_succ])
    (first | (refine takeS_no 22 rfl (by kernel_rfl) (by kernel_rfl) (by kernel_rfl) (fun _ _ _ h => h) (by rfl) (by assumption) ?_) | (refine takeS_yes (v := ?_) 22 rfl (by kernel_rfl) (by kernel_rfl) (by kernel_rfl) (fun _ _ _ h => h) (by rfl) (by assumption) ?_ ?_; rotate_left; focus (intro wS hSw; obtain ⟨q0, q1, q2, q3⟩ := HC.out wS hSw; go_simp; first | done | with_reducible rfl)))
    (try simp only [Act.put, List.setIfInBounds_toArray, List.set_cons_zero, List.set_cons_succ])
    refine wpAnyH_done (by kernel_rfl) ?_ _
    have HFIN := Lib.hid (show BytesE r w (.returned (.tuple #[.slice a n8 c, .int .i64 r.2])) w8 from ⟨a, n8, c, rfl, ho.le (Nat.le_trans hz1 c7.size), HB1.out.trans (c8.mono hz1)⟩)
    go_wp2_with fail
    go_ret2
    exact HFIN.out
end Go.Proofs.YtnkjoihnniiidaaGreatDoor
/- What four bytes say, as the program reckons it. Conditions: the slice's cells lie as its reading says; four bytes at least. -/
namespace Go.Proofs.YtnkjoihnniiidaaGreatDoor
open Go.RowKit
set_option maxRecDepth 20000
theorem or_add (i a b : Nat) (hb : b < 2 ^ i) (h : 2 ^ i * a + b < 4294967296) : bits .or .u32 ((2 ^ i * a : Nat) : Int) ((b : Nat) : Int) = ((2 ^ i * a + b : Nat) : Int) := by
  rw [u32_or_nat _ _ (by omega) (by omega), Nat.two_pow_add_eq_or_of_lt hb]
theorem said_bits {a b c d : Int} (ha : 0 ≤ a ∧ a < 256) (hb : 0 ≤ b ∧ b < 256) (hc : 0 ≤ c ∧ c < 256) (hd : 0 ≤ d ∧ d < 256) :
    bits .or .u32 (bits .or .u32 (bits .or .u32 (a * 16777216) (b * 65536)) (c * 256)) d = a * 16777216 + b * 65536 + c * 256 + d := by
  obtain ⟨x, rfl⟩ := Int.eq_ofNat_of_zero_le ha.1
  obtain ⟨y, rfl⟩ := Int.eq_ofNat_of_zero_le hb.1
  obtain ⟨z, rfl⟩ := Int.eq_ofNat_of_zero_le hc.1
  obtain ⟨u, rfl⟩ := Int.eq_ofNat_of_zero_le hd.1
  have e1 := or_add 24 x (65536 * y) (by omega) (by omega)
  have e2 := or_add 16 (256 * x + y) (256 * z) (by omega) (by omega)
  have e3 := or_add 8 (65536 * x + 256 * y + z) u (by omega) (by omega)
  have f1 : (x : Int) * 16777216 = ((2 ^ 24 * x : Nat) : Int) := by omega
  have f2 : (y : Int) * 65536 = ((65536 * y : Nat) : Int) := by omega
  have f3 : (z : Int) * 256 = ((256 * z : Nat) : Int) := by omega
  rw [f1, f2, f3, e1]
  rw [show 2 ^ 24 * x + 65536 * y = 2 ^ 16 * (256 * x + y) by omega, e2]
  rw [show 2 ^ 16 * (256 * x + y) + 256 * z = 2 ^ 8 * (65536 * x + 256 * y + z) by omega, e3]
  omega
theorem saidF_any (ao : Option Addr) (n cap : Nat) (xs : List Int) (w : World) (B : Nat) (hn : xs.length = n) (hx : BytesIn w B ao xs) (hw : BytesWf xs) (hl : 4 ≤ xs.length) (hm : n ≤ maxLen) :
    Calls Tryz.prog 107 #[.slice ao n cap] w fun e w' => e = .returned (.int .u32 (saidS xs)) ∧ ∃ n, w' = w.drewN n := by
  unfold maxLen at hm
  rcases hx with h0 | ⟨b, off, rfl, _, hc⟩
  · rw [h0] at hl; simp at hl
  have c0 := hc 0 (by omega)
  rw [Nat.add_zero] at c0
  have c1 := hc 1 (by omega)
  have c2 := hc 2 (by omega)
  have c3 := hc 3 (by omega)
  have w0 := hw _ (bytes_mem (k := 0) (xs := xs) (by omega))
  have w1 := hw _ (bytes_mem (k := 1) (xs := xs) (by omega))
  have w2 := hw _ (bytes_mem (k := 2) (xs := xs) (by omega))
  have w3 := hw _ (bytes_mem (k := 3) (xs := xs) (by omega))
  have hs : ((saidS xs : Nat) : Int) = xs.getD 0 0 * 16777216 + xs.getD 1 0 * 65536 + xs.getD 2 0 * 256 + xs.getD 3 0 := by unfold saidS; omega
  generalize xs.getD 0 0 = x0 at c0 w0 hs
  generalize xs.getD 1 0 = x1 at c1 w1 hs
  generalize xs.getD 2 0 = x2 at c2 w2 hs
  generalize xs.getD 3 0 = x3 at c3 w3 hs
  have HB := Lib.hid (said_bits w0 w1 w2 w3)
  have HS := Lib.hid hs
  have l0 : (0 : Int) < n := by omega
  have l1 : (1 : Int) < n := by omega
  have l2 : (2 : Int) < n := by omega
  have l3 : (3 : Int) < n := by omega
  clear hc hs hw hn
  go_enter Tryz.func107, Tryz.ntmps107
  go_wp2_with fail
  go_quiet (fail)
  go_wp2_with fail
  go_ret
  exact ⟨congrArg (fun n => Ending.returned (.int .u32 n)) (by rw [HS.out, ← HB.out]), _, rfl⟩
end Go.Proofs.YtnkjoihnniiidaaGreatDoor
