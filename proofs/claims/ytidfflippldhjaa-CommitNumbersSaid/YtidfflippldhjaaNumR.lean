/- Of the law CommitNumbers: what its rows are; the part that asks five times. Conditions: as each says. -/
import Derived.Test.YtidfflippldhjaaCommit4
import Derived.Test.YtidfflippldhjaaHeldT
import Derived.Deep.Cut
namespace Go.Proofs.Ytidfflippldhjaa
open Go.RowKit Go.Maps

theorem infoPair : (Try.prog.info? 26).map (fun i => (i.zero, i.size, i.bytes)) = some (some (.agg #[.int .i64 0, .int .i64 0]), 2, 16) := by kernel_rfl
def flatP (ps : List (Int × Int)) : List Value := ps.flatMap fun p => [Value.int .i64 p.1, Value.int .i64 p.2]
theorem flatP_get : ∀ (l : List (Int × Int)) (i : Nat), i < l.length → (flatP l)[i * 2]? = some (.int .i64 (l.getD i (0, 0)).1) ∧ (flatP l)[i * 2 + 1]? = some (.int .i64 (l.getD i (0, 0)).2) := by
  intro l
  induction l with
  | nil => intro i hi; simp at hi
  | cons p l ih =>
    intro i hi
    cases i with
    | zero => exact ⟨rfl, rfl⟩
    | succ i =>
      have := ih i (by simpa using hi)
      have e1 : (i + 1) * 2 = i * 2 + 1 + 1 := by omega
      rw [e1]
      unfold flatP at this ⊢
      rw [List.flatMap_cons]
      simpa using this
theorem own_pairs {w : World} {base n : Nat} {v : Value} {ps : List (Int × Int)} (hn : ps.length = n) (h : w.ownsRow base 26 2 v n (flatP ps)) : ∃ ao cap, v = .slice ao ps.length cap ∧ PairsIn w w.heap.size ao ps := by
  subst hn
  rcases Go.Joins.ownsRow_forms h with ⟨rfl, hz⟩ | ⟨g, cap', rfl⟩
  · exact ⟨none, 0, by rw [hz], Or.inl (List.eq_nil_of_length_eq_zero hz)⟩
  · refine ⟨_, _, rfl, Or.inr ⟨g, 0, rfl, ownsRow_lt h, fun i hi => ?_⟩⟩
    have := flatP_get ps i hi
    rw [Nat.zero_add, World.ownsRow.cellAt h _ (by omega), World.ownsRow.cellAt h _ (by omega)]
    exact this

/-- Some row of numbers: a slice value whose numbers lie below B. -/
def SomeInts (w : World) (B : Nat) (v : Value) : Prop := ∃ ao xs cap, v = .slice ao xs.length cap ∧ IntsIn w B ao xs ∧ (ao = none → cap = 0) ∧ WfAll xs ∧ xs.length ≤ 300
def RowsIn (w : World) (B rb : Nat) : Prop := rb < B ∧ ∀ i, i < 12 → ∃ v, w.cell? ⟨rb, i, none⟩ = some v ∧ SomeInts w B v

theorem SomeInts.up {w : World} {B : Nat} {v : Value} (h : SomeInts w B v) (hB : B ≤ w.heap.size) (o : Obj) : SomeInts (w.alloc o) B v := by
  obtain ⟨ao, xs, cap, h1, h2, h3, h4, h5⟩ := h
  exact ⟨ao, xs, cap, h1, h2.below ((Below.refl w.heap.size w).alloc (Nat.le_refl _) o) hB, h3, h4, h5⟩
theorem SomeInts.below {w w' : World} {B B' : Nat} {v : Value} (h : SomeInts w B v) (hb : Below B' w w') (hB : B ≤ B') : SomeInts w' B v := by
  obtain ⟨ao, xs, cap, h1, h2, h3, h4, h5⟩ := h
  exact ⟨ao, xs, cap, h1, h2.below hb hB, h3, h4, h5⟩
theorem SomeInts.mono {w : World} {B B' : Nat} {v : Value} (h : SomeInts w B v) (hB : B ≤ B') : SomeInts w B' v := by
  obtain ⟨ao, xs, cap, h1, h2, h3, h4, h5⟩ := h
  exact ⟨ao, xs, cap, h1, h2.mono hB, h3, h4, h5⟩
theorem someInts_new (w : World) (T : TypeId) (xs : List Int) (cs : Array Value) (g n B : Nat) (hcs : cs = (xs.map (Value.int .i64)).toArray) (hg : g = w.heap.size) (hB : B = g + 1) (hn : xs.length = n) (hw : WfAll xs) (hn3 : n ≤ 300) : SomeInts (w.alloc (.cells cs T)) B (.slice (some ⟨g, 0, none⟩) n n) := by
  subst hn hB
  exact ⟨_, xs, _, rfl, ints_new w T xs cs g _ hcs hg (by omega), by simp, hw, hn3⟩
theorem RowsIn.below {w w' : World} {B rb : Nat} (h : RowsIn w B rb) (hb : Below B w w') : RowsIn w' B rb := by
  refine ⟨h.1, fun i hi => ?_⟩
  obtain ⟨v, h1, h2⟩ := h.2 i hi
  exact ⟨v, (hb.cell (p := ⟨rb, i, none⟩) h.1).trans h1, h2.below hb (Nat.le_refl _)⟩
theorem cells_new (w : World) (T : TypeId) (news : List Value) (cs : Array Value) (hcs : cs = news.toArray) : ∀ j u, news[j]? = some u → (w.alloc (.cells cs T)).cell? ((⟨w.heap.size, 0, none⟩ : Addr).add j) = some u := by
  subst hcs
  intro j u hu
  have hadd : (⟨w.heap.size, 0, none⟩ : Addr).add j = ⟨w.heap.size, j, none⟩ := by unfold Addr.add; split <;> simp_all
  rw [hadd, World.cell?_alloc_at _ _ _ _ rfl]
  simpa using hu

theorem pairs_snoc {ps : List (Int × Int)} {a b : Int} (h : PairsWf ps) (ha : (Lit.int .i64 a).wf = true) (hb : (Lit.int .i64 b).wf = true) : PairsWf (ps ++ [(a, b)]) := by
  intro p hp
  rcases List.mem_append.1 hp with hp | hp
  · exact h p hp
  · obtain rfl := List.mem_singleton.1 hp
    exact ⟨ha, hb⟩

theorem commitIndex_at (W : World) (ao : Option Addr) (n1 cap : Nat) (xs : List Int) (hn1 : xs.length = n1) (hx : IntsIn W W.heap.size ao xs) (hao : ao = none → cap = 0) (hwx : WfAll xs) (hl : xs.length ≤ 1099511627776000) (co : Option Addr) (n cap2 : Nat) (ps : List (Int × Int)) (hn : ps.length = n) (hy : PairsIn W W.heap.size co ps) (hwp : PairsWf ps) (hl2 : ps.length ≤ 1099511627776000) :
    Calls Try.prog 4 #[.slice ao n1 cap, .slice co n cap2] W fun e w' => e = .returned (.bool true) ∧ Below W.heap.size W w' := by
  subst hn hn1; exact commitIndex_any W ao cap xs hx hao hwx hl co cap2 ps hy hwp hl2
/-- Six numbers stand in block g. -/
def EndsIn (w : World) (g : Nat) : Prop := g < w.heap.size ∧ ∀ i, i < 6 → ∃ x, w.cell? ⟨g, i, none⟩ = some (.int .i64 x) ∧ (Lit.int .i64 x).wf = true
theorem ends_new (w : World) (T : TypeId) : EndsIn (w.alloc (.cells #[Value.int .i64 (-9223372036854775808), Value.int .i64 (-1), Value.int .i64 0, Value.int .i64 1, Value.int .i64 2, Value.int .i64 9223372036854775807] T)) w.heap.size := by
  refine ⟨by simp, fun i hi => ?_⟩
  rw [World.cell?_alloc_at _ _ _ _ rfl]
  match i, hi with
  | 0, _ => exact ⟨_, rfl, by decide⟩
  | 1, _ => exact ⟨_, rfl, by decide⟩
  | 2, _ => exact ⟨_, rfl, by decide⟩
  | 3, _ => exact ⟨_, rfl, by decide⟩
  | 4, _ => exact ⟨_, rfl, by decide⟩
  | 5, _ => exact ⟨_, rfl, by decide⟩

theorem Below.alloc' {B : Nat} {a w : World} (h : Below B a w) (hB : B ≤ a.heap.size) (o : Obj) : Below B a (w.alloc o) := h.alloc (Nat.le_trans hB h.size) o
theorem Below.call {B : Nat} {a w w' : World} (h : Below B a w) (hB : B ≤ a.heap.size) (hc : Below w.heap.size w w') : Below B a w' := h.trans (hc.mono (Nat.le_trans hB h.size))
theorem ints_up {w : World} {ao : Option Addr} {xs : List Int} (h : IntsIn w w.heap.size ao xs) (o : Obj) : IntsIn (w.alloc o) (w.alloc o).heap.size ao xs := h.alloc (Nat.le_refl _) (by simp) o
theorem pairs_up {w : World} {ao : Option Addr} {ps : List (Int × Int)} (h : PairsIn w w.heap.size ao ps) (o : Obj) : PairsIn (w.alloc o) (w.alloc o).heap.size ao ps := h.alloc (Nat.le_refl _) (by simp) o
theorem ints_top {w : World} {B : Nat} {ao : Option Addr} {xs : List Int} (h : IntsIn w w.heap.size ao xs) (hB : w.heap.size ≤ B) : IntsIn w B ao xs := h.mono hB
theorem pairs_top {w : World} {B : Nat} {ao : Option Addr} {ps : List (Int × Int)} (h : PairsIn w w.heap.size ao ps) (hB : w.heap.size ≤ B) : PairsIn w B ao ps := h.mono hB
theorem ints_drew {w : World} {ao : Option Addr} {xs : List Int} (h : IntsIn w w.heap.size ao xs) : IntsIn w.drew w.drew.heap.size ao xs := h
theorem pairs_drew {w : World} {ao : Option Addr} {ps : List (Int × Int)} (h : PairsIn w w.heap.size ao ps) : PairsIn w.drew w.drew.heap.size ao ps := h
theorem one_pair {a x : Int} (ha : (Lit.int .i64 a).wf = true) (hx : (Lit.int .i64 x).wf = true) : PairsWf [(a, x)] := pairs_snoc (ps := []) (fun _ h => (by cases h)) ha hx


/-- A function's code from a region on. -/
def fromRegion (n : Nat) : Code → Option Code
  | .seq (.region i o d) c => if i = n then some (.seq (.region i o d) c) else fromRegion n c
  | .seq a b => match fromRegion n a with
    | some c => some c
    | none => fromRegion n b
  | .loop c => fromRegion n c
  | .block _ c => fromRegion n c
  | .scope c => fromRegion n c
  | .cond _ a b => match fromRegion n a with
    | some c => some c
    | none => fromRegion n b
  | _ => none
def headOf : Code → Code
  | .seq a _ => a
  | _ => .skip
def tailOf : Code → Code
  | .seq _ b => b
  | _ => .skip
noncomputable def regAt (n : Nat) : Code := headOf ((Try.f3.body.bind (fromRegion n)).getD .skip)
set_option maxHeartbeats 40000000 in
set_option maxRecDepth 1000000 in
theorem reg24_any {wr : World} {B gE i m : Nat} (hi6 : i < 6) (hm6 : m < 6) {x y : Int} (hx : (Lit.int .i64 x).wf = true) (hy : (Lit.int .i64 y).wf = true) (hS : ∀ w', Below B wr w' → w'.cell? ⟨gE, i, none⟩ = some (.int .i64 x) ∧ w'.cell? ⟨gE, m, none⟩ = some (.int .i64 y)) (hBw : B ≤ wr.heap.size) (u0 u1 u2 u3 u4 u5 u6 u7 u8 u9 u10 u11 u12 u13 u14 u15 u16 u17 u18 u19 u20 u21 u22 u23 u24 u25 u26 u27 u28 u29 u30 u31 u32 u33 u34 u35 u36 u37 u38 u39 u40 u41 u42 u43 u44 u45 u46 u47 u48 u49 u50 u51 u52 u53 u54 u55 u56 u57 u58 u59 u60 u61 u62 u63 u64 u65 u66 u67 u68 u69 u70 u71 u72 u73 u74 u75 u76 u77 u78 u79 u80 u81 u82 u83 u84 u85 u86 u87 u88 u89 u90 u91 u92 u93 u94 u95 u96 u97 u98 u99 u100 u101 u102 u103 u104 u105 u106 u107 u108 u109 u110 u111 u112 u113 u114 u115 u116 u117 u118 u119 u120 u121 u122 u123 u124 u125 u126 u127 u128 u129 u130 u131 u132 u133 u134 : Value) {K : Act → World → Prop} {Q : Exit → Act → World → Prop} (hQ : ∀ c a k v w, Q (.panic c) (a.put (some k) v) w → Q (.panic c) a w)
    (hK : ∀ (v73 v74 v75 v76 v77 v78 v79 v80 v81 v82 v83 v84 v85 v86 v87 v88 v89 v90 v91 v92 v93 v94 v95 v96 v97 v98 v99 v100 v101 v102 v103 v104 v105 v106 v107 v108 v109 v110 v111 v112 v113 v114 v115 v116 v117 v118 v119 v120 v121 v122 v123 v124 v125 v126 v127 v128 v129 v130 v131 v132 : Value) (w' : World), Below B wr w' → K ⟨(u0 :: u1 :: u2 :: u3 :: u4 :: u5 :: u6 :: .slice (some ⟨gE, 0, none⟩) 6 6 :: .int .i64 i :: .int .i64 m :: u10 :: u11 :: u12 :: u13 :: u14 :: u15 :: u16 :: u17 :: u18 :: u19 :: u20 :: u21 :: u22 :: u23 :: u24 :: u25 :: u26 :: u27 :: u28 :: u29 :: u30 :: u31 :: u32 :: u33 :: u34 :: u35 :: u36 :: u37 :: u38 :: u39 :: u40 :: u41 :: u42 :: u43 :: u44 :: u45 :: u46 :: u47 :: u48 :: u49 :: u50 :: u51 :: u52 :: u53 :: u54 :: u55 :: u56 :: u57 :: u58 :: u59 :: u60 :: u61 :: u62 :: u63 :: u64 :: u65 :: u66 :: u67 :: u68 :: u69 :: u70 :: u71 :: u72 :: v73 :: v74 :: v75 :: v76 :: v77 :: v78 :: v79 :: v80 :: v81 :: v82 :: v83 :: v84 :: v85 :: v86 :: v87 :: v88 :: v89 :: v90 :: v91 :: v92 :: v93 :: v94 :: v95 :: v96 :: v97 :: v98 :: v99 :: v100 :: v101 :: v102 :: v103 :: v104 :: v105 :: v106 :: v107 :: v108 :: v109 :: v110 :: v111 :: v112 :: v113 :: v114 :: v115 :: v116 :: v117 :: v118 :: v119 :: v120 :: v121 :: v122 :: v123 :: v124 :: v125 :: v126 :: v127 :: v128 :: v129 :: v130 :: v131 :: v132 :: .bool false :: u134 :: []).toArray, []⟩ w') :
    Code.wp Try.prog (regAt 24) (Exit.then K Q) ⟨(u0 :: u1 :: u2 :: u3 :: u4 :: u5 :: u6 :: .slice (some ⟨gE, 0, none⟩) 6 6 :: .int .i64 i :: .int .i64 m :: u10 :: u11 :: u12 :: u13 :: u14 :: u15 :: u16 :: u17 :: u18 :: u19 :: u20 :: u21 :: u22 :: u23 :: u24 :: u25 :: u26 :: u27 :: u28 :: u29 :: u30 :: u31 :: u32 :: u33 :: u34 :: u35 :: u36 :: u37 :: u38 :: u39 :: u40 :: u41 :: u42 :: u43 :: u44 :: u45 :: u46 :: u47 :: u48 :: u49 :: u50 :: u51 :: u52 :: u53 :: u54 :: u55 :: u56 :: u57 :: u58 :: u59 :: u60 :: u61 :: u62 :: u63 :: u64 :: u65 :: u66 :: u67 :: u68 :: u69 :: u70 :: u71 :: u72 :: u73 :: u74 :: u75 :: u76 :: u77 :: u78 :: u79 :: u80 :: u81 :: u82 :: u83 :: u84 :: u85 :: u86 :: u87 :: u88 :: u89 :: u90 :: u91 :: u92 :: u93 :: u94 :: u95 :: u96 :: u97 :: u98 :: u99 :: u100 :: u101 :: u102 :: u103 :: u104 :: u105 :: u106 :: u107 :: u108 :: u109 :: u110 :: u111 :: u112 :: u113 :: u114 :: u115 :: u116 :: u117 :: u118 :: u119 :: u120 :: u121 :: u122 :: u123 :: u124 :: u125 :: u126 :: u127 :: u128 :: u129 :: u130 :: u131 :: u132 :: u133 :: u134 :: []).toArray, []⟩ wr := by
  conv => arg 2; whnf
  have HSS := Lib.hid hS
  have HKK := Lib.hid hK
  have hrf : Below B wr wr := Below.refl _ _
  have i1 : (i : Int) < 6 := by omega
  have i2 : (m : Int) < 6 := by omega
  clear hS hK
  refine heldS_begin (fun w' => Below B wr w') (by as_aux_lemma => kernel_rfl) ((Below.refl _ _).drew) ?_
  intro hS0
  (first | (refine takeS_no 1 rfl (by as_aux_lemma => kernel_rfl) (by as_aux_lemma => kernel_rfl) (by as_aux_lemma => kernel_rfl) (fun _ _ _ h => hQ _ _ _ _ _ h) (by rfl) (by assumption) ?_) | (refine takeS_yes (v := ?_) 1 rfl (by as_aux_lemma => kernel_rfl) (by as_aux_lemma => kernel_rfl) (by as_aux_lemma => kernel_rfl) (fun _ _ _ h => hQ _ _ _ _ _ h) (by rfl) (by assumption) ?_ ?_; rotate_left; focus (intro wS hSw; obtain ⟨z0, z1⟩ := HSS.out wS hSw; go_simp; first | done | with_reducible rfl)))
  (try simp only [Act.put, List.setIfInBounds_toArray, List.set_cons_zero, List.set_cons_succ])
  (first | (refine takeS_no 2 rfl (by as_aux_lemma => kernel_rfl) (by as_aux_lemma => kernel_rfl) (by as_aux_lemma => kernel_rfl) (fun _ _ _ h => hQ _ _ _ _ _ h) (by rfl) (by assumption) ?_) | (refine takeS_yes (v := ?_) 2 rfl (by as_aux_lemma => kernel_rfl) (by as_aux_lemma => kernel_rfl) (by as_aux_lemma => kernel_rfl) (fun _ _ _ h => hQ _ _ _ _ _ h) (by rfl) (by assumption) ?_ ?_; rotate_left; focus (intro wS hSw; obtain ⟨z0, z1⟩ := HSS.out wS hSw; go_simp; first | done | with_reducible rfl)))
  (try simp only [Act.put, List.setIfInBounds_toArray, List.set_cons_zero, List.set_cons_succ])
  (first | (refine takeS_no 3 rfl (by as_aux_lemma => kernel_rfl) (by as_aux_lemma => kernel_rfl) (by as_aux_lemma => kernel_rfl) (fun _ _ _ h => hQ _ _ _ _ _ h) (by rfl) (by assumption) ?_) | (refine takeS_yes (v := ?_) 3 rfl (by as_aux_lemma => kernel_rfl) (by as_aux_lemma => kernel_rfl) (by as_aux_lemma => kernel_rfl) (fun _ _ _ h => hQ _ _ _ _ _ h) (by rfl) (by assumption) ?_ ?_; rotate_left; focus (intro wS hSw; obtain ⟨z0, z1⟩ := HSS.out wS hSw; go_simp; first | done | with_reducible rfl)))
  (try simp only [Act.put, List.setIfInBounds_toArray, List.set_cons_zero, List.set_cons_succ])
  (first | (refine takeS_no 4 rfl (by as_aux_lemma => kernel_rfl) (by as_aux_lemma => kernel_rfl) (by as_aux_lemma => kernel_rfl) (fun _ _ _ h => hQ _ _ _ _ _ h) (by rfl) (by assumption) ?_) | (refine takeS_yes (v := ?_) 4 rfl (by as_aux_lemma => kernel_rfl) (by as_aux_lemma => kernel_rfl) (by as_aux_lemma => kernel_rfl) (fun _ _ _ h => hQ _ _ _ _ _ h) (by rfl) (by assumption) ?_ ?_; rotate_left; focus (intro wS hSw; obtain ⟨z0, z1⟩ := HSS.out wS hSw; go_simp; first | done | with_reducible rfl)))
  (try simp only [Act.put, List.setIfInBounds_toArray, List.set_cons_zero, List.set_cons_succ])
  (first | (refine takeS_no 5 rfl (by as_aux_lemma => kernel_rfl) (by as_aux_lemma => kernel_rfl) (by as_aux_lemma => kernel_rfl) (fun _ _ _ h => hQ _ _ _ _ _ h) (by rfl) (by assumption) ?_) | (refine takeS_yes (v := ?_) 5 rfl (by as_aux_lemma => kernel_rfl) (by as_aux_lemma => kernel_rfl) (by as_aux_lemma => kernel_rfl) (fun _ _ _ h => hQ _ _ _ _ _ h) (by rfl) (by assumption) ?_ ?_; rotate_left; focus (intro wS hSw; obtain ⟨z0, z1⟩ := HSS.out wS hSw; go_simp; first | done | with_reducible rfl)))
  (try simp only [Act.put, List.setIfInBounds_toArray, List.set_cons_zero, List.set_cons_succ])
  (first | (refine takeS_no 6 rfl (by as_aux_lemma => kernel_rfl) (by as_aux_lemma => kernel_rfl) (by as_aux_lemma => kernel_rfl) (fun _ _ _ h => hQ _ _ _ _ _ h) (by rfl) (by assumption) ?_) | (refine takeS_yes (v := ?_) 6 rfl (by as_aux_lemma => kernel_rfl) (by as_aux_lemma => kernel_rfl) (by as_aux_lemma => kernel_rfl) (fun _ _ _ h => hQ _ _ _ _ _ h) (by rfl) (by assumption) ?_ ?_; rotate_left; focus (intro wS hSw; obtain ⟨z0, z1⟩ := HSS.out wS hSw; go_simp; first | done | with_reducible rfl)))
  (try simp only [Act.put, List.setIfInBounds_toArray, List.set_cons_zero, List.set_cons_succ])
  (first | (refine takeS_no 7 rfl (by as_aux_lemma => kernel_rfl) (by as_aux_lemma => kernel_rfl) (by as_aux_lemma => kernel_rfl) (fun _ _ _ h => hQ _ _ _ _ _ h) (by rfl) (by assumption) ?_) | (refine takeS_yes (v := ?_) 7 rfl (by as_aux_lemma => kernel_rfl) (by as_aux_lemma => kernel_rfl) (by as_aux_lemma => kernel_rfl) (fun _ _ _ h => hQ _ _ _ _ _ h) (by rfl) (by assumption) ?_ ?_; rotate_left; focus (intro wS hSw; obtain ⟨z0, z1⟩ := HSS.out wS hSw; go_simp; first | done | with_reducible rfl)))
  (try simp only [Act.put, List.setIfInBounds_toArray, List.set_cons_zero, List.set_cons_succ])
  (first | (refine takeS_no 8 rfl (by as_aux_lemma => kernel_rfl) (by as_aux_lemma => kernel_rfl) (by as_aux_lemma => kernel_rfl) (fun _ _ _ h => hQ _ _ _ _ _ h) (by rfl) (by assumption) ?_) | (refine takeS_yes (v := ?_) 8 rfl (by as_aux_lemma => kernel_rfl) (by as_aux_lemma => kernel_rfl) (by as_aux_lemma => kernel_rfl) (fun _ _ _ h => hQ _ _ _ _ _ h) (by rfl) (by assumption) ?_ ?_; rotate_left; focus (intro wS hSw; obtain ⟨z0, z1⟩ := HSS.out wS hSw; go_simp; first | done | with_reducible rfl)))
  (try simp only [Act.put, List.setIfInBounds_toArray, List.set_cons_zero, List.set_cons_succ])
  (first | (refine takeS_no 9 rfl (by as_aux_lemma => kernel_rfl) (by as_aux_lemma => kernel_rfl) (by as_aux_lemma => kernel_rfl) (fun _ _ _ h => hQ _ _ _ _ _ h) (by rfl) (by assumption) ?_) | (refine takeS_yes (v := ?_) 9 rfl (by as_aux_lemma => kernel_rfl) (by as_aux_lemma => kernel_rfl) (by as_aux_lemma => kernel_rfl) (fun _ _ _ h => hQ _ _ _ _ _ h) (by rfl) (by assumption) ?_ ?_; rotate_left; focus (intro wS hSw; obtain ⟨z0, z1⟩ := HSS.out wS hSw; go_simp; first | done | with_reducible rfl)))
  (try simp only [Act.put, List.setIfInBounds_toArray, List.set_cons_zero, List.set_cons_succ])
  (first | (refine takeS_no 10 rfl (by as_aux_lemma => kernel_rfl) (by as_aux_lemma => kernel_rfl) (by as_aux_lemma => kernel_rfl) (fun _ _ _ h => hQ _ _ _ _ _ h) (by rfl) (by assumption) ?_) | (refine takeS_yes (v := ?_) 10 rfl (by as_aux_lemma => kernel_rfl) (by as_aux_lemma => kernel_rfl) (by as_aux_lemma => kernel_rfl) (fun _ _ _ h => hQ _ _ _ _ _ h) (by rfl) (by assumption) ?_ ?_; rotate_left; focus (intro wS hSw; obtain ⟨z0, z1⟩ := HSS.out wS hSw; go_simp; first | done | with_reducible rfl)))
  (try simp only [Act.put, List.setIfInBounds_toArray, List.set_cons_zero, List.set_cons_succ])
  refine takeS_two 0 11 rfl rfl (by as_aux_lemma => kernel_rfl) (by rfl) (by rfl) (fun K hK => ?_) (fun K hK => ?_)
  rotate_left
  focus
    go_simp
    (have hP := pairs_new wr 26 [(1, x), (2, y)] #[Value.int .i64 1, Value.int .i64 x, Value.int .i64 2, Value.int .i64 y] wr.heap.size (wr.alloc (.cells #[Value.int .i64 1, Value.int .i64 x, Value.int .i64 2, Value.int .i64 y] 26)).heap.size rfl rfl (by simp); have hS1n := Below.alloc' hrf hBw (.cells #[Value.int .i64 1, Value.int .i64 x, Value.int .i64 2, Value.int .i64 y] 26); have hS1a := hS1n.drew)
    refine hK.out _ _ (by assumption) ?_
    clear hK K
    (try simp only [Act.put, List.setIfInBounds_toArray, List.set_cons_zero, List.set_cons_succ])
    refine takeS_alone 0 rfl (by as_aux_lemma => kernel_rfl) (by rfl) (fun K hK => ?_)
    go_simp
    (have hP2 := pairs_up hP (.cells #[Value.int .i64 1, Value.int .i64 2, Value.int .i64 3] 3); have hI2 := ints_new (wr.alloc (.cells #[Value.int .i64 1, Value.int .i64 x, Value.int .i64 2, Value.int .i64 y] 26)) 3 [1, 2, 3] #[Value.int .i64 1, Value.int .i64 2, Value.int .i64 3] (wr.heap.size + 1) ((wr.alloc (.cells #[Value.int .i64 1, Value.int .i64 x, Value.int .i64 2, Value.int .i64 y] 26)).alloc (.cells #[Value.int .i64 1, Value.int .i64 2, Value.int .i64 3] 3)).heap.size rfl (by simp) (by simp); have hS2 := (Below.alloc' hS1n hBw (.cells #[Value.int .i64 1, Value.int .i64 2, Value.int .i64 3] 3)).drew; replace hI2 := ints_drew hI2; replace hP2 := pairs_drew hP2; generalize ((wr.alloc (.cells #[Value.int .i64 1, Value.int .i64 x, Value.int .i64 2, Value.int .i64 y] 26)).alloc (.cells #[Value.int .i64 1, Value.int .i64 2, Value.int .i64 3] 3)).drew = wA at hI2 hP2 hS2 ⊢)
    refine hK.out _ _ (by assumption) ?_
    clear hK K
    (try simp only [Act.put, List.setIfInBounds_toArray, List.set_cons_zero, List.set_cons_succ])
  rotate_left
  focus
    go_simp
    (have hI := ints_new wr 3 [1, 2, 3] #[Value.int .i64 1, Value.int .i64 2, Value.int .i64 3] wr.heap.size (wr.alloc (.cells #[Value.int .i64 1, Value.int .i64 2, Value.int .i64 3] 3)).heap.size rfl rfl (by simp); have hS1n := Below.alloc' hrf hBw (.cells #[Value.int .i64 1, Value.int .i64 2, Value.int .i64 3] 3); have hS1a := hS1n.drew)
    refine hK.out _ _ (by assumption) ?_
    clear hK K
    (try simp only [Act.put, List.setIfInBounds_toArray, List.set_cons_zero, List.set_cons_succ])
    refine takeS_alone 11 rfl (by as_aux_lemma => kernel_rfl) (by rfl) (fun K hK => ?_)
    go_simp
    (have hI2 := ints_up hI (.cells #[Value.int .i64 1, Value.int .i64 x, Value.int .i64 2, Value.int .i64 y] 26); have hP2 := pairs_new (wr.alloc (.cells #[Value.int .i64 1, Value.int .i64 2, Value.int .i64 3] 3)) 26 [(1, x), (2, y)] #[Value.int .i64 1, Value.int .i64 x, Value.int .i64 2, Value.int .i64 y] (wr.heap.size + 1) ((wr.alloc (.cells #[Value.int .i64 1, Value.int .i64 2, Value.int .i64 3] 3)).alloc (.cells #[Value.int .i64 1, Value.int .i64 x, Value.int .i64 2, Value.int .i64 y] 26)).heap.size rfl (by simp) (by simp); have hS2 := (Below.alloc' hS1n hBw (.cells #[Value.int .i64 1, Value.int .i64 x, Value.int .i64 2, Value.int .i64 y] 26)).drew; replace hI2 := ints_drew hI2; replace hP2 := pairs_drew hP2; generalize ((wr.alloc (.cells #[Value.int .i64 1, Value.int .i64 2, Value.int .i64 3] 3)).alloc (.cells #[Value.int .i64 1, Value.int .i64 x, Value.int .i64 2, Value.int .i64 y] 26)).drew = wA at hI2 hP2 hS2 ⊢)
    refine hK.out _ _ (by assumption) ?_
    clear hK K
    (try simp only [Act.put, List.setIfInBounds_toArray, List.set_cons_zero, List.set_cons_succ])
  all_goals
    refine takeS_alone 12 rfl (by as_aux_lemma => kernel_rfl) (by rfl) (fun K hK => ?_)
    go_simp
    (refine (commitIndex_at wA _ 3 3 [1, 2, 3] rfl hI2 (by simp) (by unfold WfAll; decide) (by decide) _ 2 2 [(1, x), (2, y)] rfl hP2 (pairs_snoc (one_pair (by decide) hx) (by decide) hy) (by simp)).mono ?_; rintro e w3 ⟨rfl, hb3⟩; have hS3 := Below.call hS2 hBw hb3; clear hI2 hP2 hS2 hb3)
    refine hK.out _ _ (by assumption) ?_
    clear hK K
    (try simp only [Act.put, List.setIfInBounds_toArray, List.set_cons_zero, List.set_cons_succ])
    (first | (refine takeS_no 13 rfl (by as_aux_lemma => kernel_rfl) (by as_aux_lemma => kernel_rfl) (by as_aux_lemma => kernel_rfl) (fun _ _ _ h => hQ _ _ _ _ _ h) (by rfl) (by assumption) ?_) | (refine takeS_yes (v := ?_) 13 rfl (by as_aux_lemma => kernel_rfl) (by as_aux_lemma => kernel_rfl) (by as_aux_lemma => kernel_rfl) (fun _ _ _ h => hQ _ _ _ _ _ h) (by rfl) (by assumption) ?_ ?_; rotate_left; focus (intro wS hSw; obtain ⟨z0, z1⟩ := HSS.out wS hSw; go_simp; first | done | with_reducible rfl)))
    (try simp only [Act.put, List.setIfInBounds_toArray, List.set_cons_zero, List.set_cons_succ])
    (first | (refine takeS_no 14 rfl (by as_aux_lemma => kernel_rfl) (by as_aux_lemma => kernel_rfl) (by as_aux_lemma => kernel_rfl) (fun _ _ _ h => hQ _ _ _ _ _ h) (by rfl) (by assumption) ?_) | (refine takeS_yes (v := ?_) 14 rfl (by as_aux_lemma => kernel_rfl) (by as_aux_lemma => kernel_rfl) (by as_aux_lemma => kernel_rfl) (fun _ _ _ h => hQ _ _ _ _ _ h) (by rfl) (by assumption) ?_ ?_; rotate_left; focus (intro wS hSw; obtain ⟨z0, z1⟩ := HSS.out wS hSw; go_simp; first | done | with_reducible rfl)))
    (try simp only [Act.put, List.setIfInBounds_toArray, List.set_cons_zero, List.set_cons_succ])
    (first | (refine takeS_no 16 rfl (by as_aux_lemma => kernel_rfl) (by as_aux_lemma => kernel_rfl) (by as_aux_lemma => kernel_rfl) (fun _ _ _ h => hQ _ _ _ _ _ h) (by rfl) (by assumption) ?_) | (refine takeS_yes (v := ?_) 16 rfl (by as_aux_lemma => kernel_rfl) (by as_aux_lemma => kernel_rfl) (by as_aux_lemma => kernel_rfl) (fun _ _ _ h => hQ _ _ _ _ _ h) (by rfl) (by assumption) ?_ ?_; rotate_left; focus (intro wS hSw; obtain ⟨z0, z1⟩ := HSS.out wS hSw; go_simp; first | done | with_reducible rfl)))
    (try simp only [Act.put, List.setIfInBounds_toArray, List.set_cons_zero, List.set_cons_succ])
    (first | (refine takeS_no 17 rfl (by as_aux_lemma => kernel_rfl) (by as_aux_lemma => kernel_rfl) (by as_aux_lemma => kernel_rfl) (fun _ _ _ h => hQ _ _ _ _ _ h) (by rfl) (by assumption) ?_) | (refine takeS_yes (v := ?_) 17 rfl (by as_aux_lemma => kernel_rfl) (by as_aux_lemma => kernel_rfl) (by as_aux_lemma => kernel_rfl) (fun _ _ _ h => hQ _ _ _ _ _ h) (by rfl) (by assumption) ?_ ?_; rotate_left; focus (intro wS hSw; obtain ⟨z0, z1⟩ := HSS.out wS hSw; go_simp; first | done | with_reducible rfl)))
    (try simp only [Act.put, List.setIfInBounds_toArray, List.set_cons_zero, List.set_cons_succ])
    (first | (refine takeS_no 18 rfl (by as_aux_lemma => kernel_rfl) (by as_aux_lemma => kernel_rfl) (by as_aux_lemma => kernel_rfl) (fun _ _ _ h => hQ _ _ _ _ _ h) (by rfl) (by assumption) ?_) | (refine takeS_yes (v := ?_) 18 rfl (by as_aux_lemma => kernel_rfl) (by as_aux_lemma => kernel_rfl) (by as_aux_lemma => kernel_rfl) (fun _ _ _ h => hQ _ _ _ _ _ h) (by rfl) (by assumption) ?_ ?_; rotate_left; focus (intro wS hSw; obtain ⟨z0, z1⟩ := HSS.out wS hSw; go_simp; first | done | with_reducible rfl)))
    (try simp only [Act.put, List.setIfInBounds_toArray, List.set_cons_zero, List.set_cons_succ])
    (first | (refine takeS_no 19 rfl (by as_aux_lemma => kernel_rfl) (by as_aux_lemma => kernel_rfl) (by as_aux_lemma => kernel_rfl) (fun _ _ _ h => hQ _ _ _ _ _ h) (by rfl) (by assumption) ?_) | (refine takeS_yes (v := ?_) 19 rfl (by as_aux_lemma => kernel_rfl) (by as_aux_lemma => kernel_rfl) (by as_aux_lemma => kernel_rfl) (fun _ _ _ h => hQ _ _ _ _ _ h) (by rfl) (by assumption) ?_ ?_; rotate_left; focus (intro wS hSw; obtain ⟨z0, z1⟩ := HSS.out wS hSw; go_simp; first | done | with_reducible rfl)))
    (try simp only [Act.put, List.setIfInBounds_toArray, List.set_cons_zero, List.set_cons_succ])
    (first | (refine takeS_no 20 rfl (by as_aux_lemma => kernel_rfl) (by as_aux_lemma => kernel_rfl) (by as_aux_lemma => kernel_rfl) (fun _ _ _ h => hQ _ _ _ _ _ h) (by rfl) (by assumption) ?_) | (refine takeS_yes (v := ?_) 20 rfl (by as_aux_lemma => kernel_rfl) (by as_aux_lemma => kernel_rfl) (by as_aux_lemma => kernel_rfl) (fun _ _ _ h => hQ _ _ _ _ _ h) (by rfl) (by assumption) ?_ ?_; rotate_left; focus (intro wS hSw; obtain ⟨z0, z1⟩ := HSS.out wS hSw; go_simp; first | done | with_reducible rfl)))
    (try simp only [Act.put, List.setIfInBounds_toArray, List.set_cons_zero, List.set_cons_succ])
    refine takeS_two 15 21 rfl rfl (by as_aux_lemma => kernel_rfl) (by rfl) (by rfl) (fun K hK => ?_) (fun K hK => ?_)
    rotate_left
    focus
      go_simp
      (have hP := pairs_new w3 26 [(1, x)] #[Value.int .i64 1, Value.int .i64 x] w3.heap.size (w3.alloc (.cells #[Value.int .i64 1, Value.int .i64 x] 26)).heap.size rfl rfl (by simp); have hS1b := Below.alloc' (show Below B wr w3 from hS3) hBw (.cells #[Value.int .i64 1, Value.int .i64 x] 26))
      refine hK.out _ _ (by assumption) ?_
      clear hK K
      (try simp only [Act.put, List.setIfInBounds_toArray, List.set_cons_zero, List.set_cons_succ])
      refine takeS_alone 15 rfl (by as_aux_lemma => kernel_rfl) (by rfl) (fun K hK => ?_)
      go_simp
      (have hP2 := pairs_up hP (.cells #[Value.int .i64 1] 3); have hI2 := ints_new (w3.alloc (.cells #[Value.int .i64 1, Value.int .i64 x] 26)) 3 [1] #[Value.int .i64 1] (w3.heap.size + 1) ((w3.alloc (.cells #[Value.int .i64 1, Value.int .i64 x] 26)).alloc (.cells #[Value.int .i64 1] 3)).heap.size rfl (by simp) (by simp); have hS2 := Below.alloc' hS1b hBw (.cells #[Value.int .i64 1] 3); generalize (w3.alloc (.cells #[Value.int .i64 1, Value.int .i64 x] 26)).alloc (.cells #[Value.int .i64 1] 3) = wB at hI2 hP2 hS2 ⊢)
      refine hK.out _ _ (by assumption) ?_
      clear hK K
      (try simp only [Act.put, List.setIfInBounds_toArray, List.set_cons_zero, List.set_cons_succ])
    rotate_left
    focus
      go_simp
      (have hI := ints_new w3 3 [1] #[Value.int .i64 1] w3.heap.size (w3.alloc (.cells #[Value.int .i64 1] 3)).heap.size rfl rfl (by simp); have hS1b := Below.alloc' (show Below B wr w3 from hS3) hBw (.cells #[Value.int .i64 1] 3))
      refine hK.out _ _ (by assumption) ?_
      clear hK K
      (try simp only [Act.put, List.setIfInBounds_toArray, List.set_cons_zero, List.set_cons_succ])
      refine takeS_alone 21 rfl (by as_aux_lemma => kernel_rfl) (by rfl) (fun K hK => ?_)
      go_simp
      (have hI2 := ints_up hI (.cells #[Value.int .i64 1, Value.int .i64 x] 26); have hP2 := pairs_new (w3.alloc (.cells #[Value.int .i64 1] 3)) 26 [(1, x)] #[Value.int .i64 1, Value.int .i64 x] (w3.heap.size + 1) ((w3.alloc (.cells #[Value.int .i64 1] 3)).alloc (.cells #[Value.int .i64 1, Value.int .i64 x] 26)).heap.size rfl (by simp) (by simp); have hS2 := Below.alloc' hS1b hBw (.cells #[Value.int .i64 1, Value.int .i64 x] 26); generalize (w3.alloc (.cells #[Value.int .i64 1] 3)).alloc (.cells #[Value.int .i64 1, Value.int .i64 x] 26) = wB at hI2 hP2 hS2 ⊢)
      refine hK.out _ _ (by assumption) ?_
      clear hK K
      (try simp only [Act.put, List.setIfInBounds_toArray, List.set_cons_zero, List.set_cons_succ])
    all_goals
      refine takeS_alone 22 rfl (by as_aux_lemma => kernel_rfl) (by rfl) (fun K hK => ?_)
      go_simp
      (refine (commitIndex_at wB _ 1 1 [1] rfl hI2 (by simp) (by unfold WfAll; decide) (by decide) _ 1 1 [(1, x)] rfl hP2 (one_pair (by decide) hx) (by simp)).mono ?_; rintro e w4 ⟨rfl, hb3⟩; have hS4 := Below.call hS2 hBw hb3; clear hI2 hP2 hS2 hb3)
      refine hK.out _ _ (by assumption) ?_
      clear hK K
      (try simp only [Act.put, List.setIfInBounds_toArray, List.set_cons_zero, List.set_cons_succ])
      (first | (refine takeS_no 23 rfl (by as_aux_lemma => kernel_rfl) (by as_aux_lemma => kernel_rfl) (by as_aux_lemma => kernel_rfl) (fun _ _ _ h => hQ _ _ _ _ _ h) (by rfl) (by assumption) ?_) | (refine takeS_yes (v := ?_) 23 rfl (by as_aux_lemma => kernel_rfl) (by as_aux_lemma => kernel_rfl) (by as_aux_lemma => kernel_rfl) (fun _ _ _ h => hQ _ _ _ _ _ h) (by rfl) (by assumption) ?_ ?_; rotate_left; focus (intro wS hSw; obtain ⟨z0, z1⟩ := HSS.out wS hSw; go_simp; first | done | with_reducible rfl)))
      (try simp only [Act.put, List.setIfInBounds_toArray, List.set_cons_zero, List.set_cons_succ])
      (first | (refine takeS_no 24 rfl (by as_aux_lemma => kernel_rfl) (by as_aux_lemma => kernel_rfl) (by as_aux_lemma => kernel_rfl) (fun _ _ _ h => hQ _ _ _ _ _ h) (by rfl) (by assumption) ?_) | (refine takeS_yes (v := ?_) 24 rfl (by as_aux_lemma => kernel_rfl) (by as_aux_lemma => kernel_rfl) (by as_aux_lemma => kernel_rfl) (fun _ _ _ h => hQ _ _ _ _ _ h) (by rfl) (by assumption) ?_ ?_; rotate_left; focus (intro wS hSw; obtain ⟨z0, z1⟩ := HSS.out wS hSw; go_simp; first | done | with_reducible rfl)))
      (try simp only [Act.put, List.setIfInBounds_toArray, List.set_cons_zero, List.set_cons_succ])
      (first | (refine takeS_no 25 rfl (by as_aux_lemma => kernel_rfl) (by as_aux_lemma => kernel_rfl) (by as_aux_lemma => kernel_rfl) (fun _ _ _ h => hQ _ _ _ _ _ h) (by rfl) (by assumption) ?_) | (refine takeS_yes (v := ?_) 25 rfl (by as_aux_lemma => kernel_rfl) (by as_aux_lemma => kernel_rfl) (by as_aux_lemma => kernel_rfl) (fun _ _ _ h => hQ _ _ _ _ _ h) (by rfl) (by assumption) ?_ ?_; rotate_left; focus (intro wS hSw; obtain ⟨z0, z1⟩ := HSS.out wS hSw; go_simp; first | done | with_reducible rfl)))
      (try simp only [Act.put, List.setIfInBounds_toArray, List.set_cons_zero, List.set_cons_succ])
      (first | (refine takeS_no 26 rfl (by as_aux_lemma => kernel_rfl) (by as_aux_lemma => kernel_rfl) (by as_aux_lemma => kernel_rfl) (fun _ _ _ h => hQ _ _ _ _ _ h) (by rfl) (by assumption) ?_) | (refine takeS_yes (v := ?_) 26 rfl (by as_aux_lemma => kernel_rfl) (by as_aux_lemma => kernel_rfl) (by as_aux_lemma => kernel_rfl) (fun _ _ _ h => hQ _ _ _ _ _ h) (by rfl) (by assumption) ?_ ?_; rotate_left; focus (intro wS hSw; obtain ⟨z0, z1⟩ := HSS.out wS hSw; go_simp; first | done | with_reducible rfl)))
      (try simp only [Act.put, List.setIfInBounds_toArray, List.set_cons_zero, List.set_cons_succ])
      (first | (refine takeS_no 27 rfl (by as_aux_lemma => kernel_rfl) (by as_aux_lemma => kernel_rfl) (by as_aux_lemma => kernel_rfl) (fun _ _ _ h => hQ _ _ _ _ _ h) (by rfl) (by assumption) ?_) | (refine takeS_yes (v := ?_) 27 rfl (by as_aux_lemma => kernel_rfl) (by as_aux_lemma => kernel_rfl) (by as_aux_lemma => kernel_rfl) (fun _ _ _ h => hQ _ _ _ _ _ h) (by rfl) (by assumption) ?_ ?_; rotate_left; focus (intro wS hSw; obtain ⟨z0, z1⟩ := HSS.out wS hSw; go_simp; first | done | with_reducible rfl)))
      (try simp only [Act.put, List.setIfInBounds_toArray, List.set_cons_zero, List.set_cons_succ])
      (first | (refine takeS_no 28 rfl (by as_aux_lemma => kernel_rfl) (by as_aux_lemma => kernel_rfl) (by as_aux_lemma => kernel_rfl) (fun _ _ _ h => hQ _ _ _ _ _ h) (by rfl) (by assumption) ?_) | (refine takeS_yes (v := ?_) 28 rfl (by as_aux_lemma => kernel_rfl) (by as_aux_lemma => kernel_rfl) (by as_aux_lemma => kernel_rfl) (fun _ _ _ h => hQ _ _ _ _ _ h) (by rfl) (by assumption) ?_ ?_; rotate_left; focus (intro wS hSw; obtain ⟨z0, z1⟩ := HSS.out wS hSw; go_simp; first | done | with_reducible rfl)))
      (try simp only [Act.put, List.setIfInBounds_toArray, List.set_cons_zero, List.set_cons_succ])
      (first | (refine takeS_no 29 rfl (by as_aux_lemma => kernel_rfl) (by as_aux_lemma => kernel_rfl) (by as_aux_lemma => kernel_rfl) (fun _ _ _ h => hQ _ _ _ _ _ h) (by rfl) (by assumption) ?_) | (refine takeS_yes (v := ?_) 29 rfl (by as_aux_lemma => kernel_rfl) (by as_aux_lemma => kernel_rfl) (by as_aux_lemma => kernel_rfl) (fun _ _ _ h => hQ _ _ _ _ _ h) (by rfl) (by assumption) ?_ ?_; rotate_left; focus (intro wS hSw; obtain ⟨z0, z1⟩ := HSS.out wS hSw; go_simp; first | done | with_reducible rfl)))
      (try simp only [Act.put, List.setIfInBounds_toArray, List.set_cons_zero, List.set_cons_succ])
      (first | (refine takeS_no 30 rfl (by as_aux_lemma => kernel_rfl) (by as_aux_lemma => kernel_rfl) (by as_aux_lemma => kernel_rfl) (fun _ _ _ h => hQ _ _ _ _ _ h) (by rfl) (by assumption) ?_) | (refine takeS_yes (v := ?_) 30 rfl (by as_aux_lemma => kernel_rfl) (by as_aux_lemma => kernel_rfl) (by as_aux_lemma => kernel_rfl) (fun _ _ _ h => hQ _ _ _ _ _ h) (by rfl) (by assumption) ?_ ?_; rotate_left; focus (intro wS hSw; obtain ⟨z0, z1⟩ := HSS.out wS hSw; go_simp; first | done | with_reducible rfl)))
      (try simp only [Act.put, List.setIfInBounds_toArray, List.set_cons_zero, List.set_cons_succ])
      (first | (refine takeS_no 31 rfl (by as_aux_lemma => kernel_rfl) (by as_aux_lemma => kernel_rfl) (by as_aux_lemma => kernel_rfl) (fun _ _ _ h => hQ _ _ _ _ _ h) (by rfl) (by assumption) ?_) | (refine takeS_yes (v := ?_) 31 rfl (by as_aux_lemma => kernel_rfl) (by as_aux_lemma => kernel_rfl) (by as_aux_lemma => kernel_rfl) (fun _ _ _ h => hQ _ _ _ _ _ h) (by rfl) (by assumption) ?_ ?_; rotate_left; focus (intro wS hSw; obtain ⟨z0, z1⟩ := HSS.out wS hSw; go_simp; first | done | with_reducible rfl)))
      (try simp only [Act.put, List.setIfInBounds_toArray, List.set_cons_zero, List.set_cons_succ])
      (first | (refine takeS_no 32 rfl (by as_aux_lemma => kernel_rfl) (by as_aux_lemma => kernel_rfl) (by as_aux_lemma => kernel_rfl) (fun _ _ _ h => hQ _ _ _ _ _ h) (by rfl) (by assumption) ?_) | (refine takeS_yes (v := ?_) 32 rfl (by as_aux_lemma => kernel_rfl) (by as_aux_lemma => kernel_rfl) (by as_aux_lemma => kernel_rfl) (fun _ _ _ h => hQ _ _ _ _ _ h) (by rfl) (by assumption) ?_ ?_; rotate_left; focus (intro wS hSw; obtain ⟨z0, z1⟩ := HSS.out wS hSw; go_simp; first | done | with_reducible rfl)))
      (try simp only [Act.put, List.setIfInBounds_toArray, List.set_cons_zero, List.set_cons_succ])
      (first | (refine takeS_no 33 rfl (by as_aux_lemma => kernel_rfl) (by as_aux_lemma => kernel_rfl) (by as_aux_lemma => kernel_rfl) (fun _ _ _ h => hQ _ _ _ _ _ h) (by rfl) (by assumption) ?_) | (refine takeS_yes (v := ?_) 33 rfl (by as_aux_lemma => kernel_rfl) (by as_aux_lemma => kernel_rfl) (by as_aux_lemma => kernel_rfl) (fun _ _ _ h => hQ _ _ _ _ _ h) (by rfl) (by assumption) ?_ ?_; rotate_left; focus (intro wS hSw; obtain ⟨z0, z1⟩ := HSS.out wS hSw; go_simp; first | done | with_reducible rfl)))
      (try simp only [Act.put, List.setIfInBounds_toArray, List.set_cons_zero, List.set_cons_succ])
      refine takeS_alone 34 rfl (by as_aux_lemma => kernel_rfl) (by rfl) (fun K hK => ?_)
      go_simp
      (refine (walk_CommitNext _ _ (by first | assumption | decide) _ (by first | assumption | decide) _ (by first | assumption | decide) _ (by first | assumption | decide)).mono ?_; rintro e w5 ⟨rfl, hb3⟩; have hS5 := Below.call hS4 hBw hb3; clear hb3)
      refine hK.out _ _ (by assumption) ?_
      clear hK K
      (try simp only [Act.put, List.setIfInBounds_toArray, List.set_cons_zero, List.set_cons_succ])
      (first | (refine takeS_no 35 rfl (by as_aux_lemma => kernel_rfl) (by as_aux_lemma => kernel_rfl) (by as_aux_lemma => kernel_rfl) (fun _ _ _ h => hQ _ _ _ _ _ h) (by rfl) (by assumption) ?_) | (refine takeS_yes (v := ?_) 35 rfl (by as_aux_lemma => kernel_rfl) (by as_aux_lemma => kernel_rfl) (by as_aux_lemma => kernel_rfl) (fun _ _ _ h => hQ _ _ _ _ _ h) (by rfl) (by assumption) ?_ ?_; rotate_left; focus (intro wS hSw; obtain ⟨z0, z1⟩ := HSS.out wS hSw; go_simp; first | done | with_reducible rfl)))
      (try simp only [Act.put, List.setIfInBounds_toArray, List.set_cons_zero, List.set_cons_succ])
      (first | (refine takeS_no 36 rfl (by as_aux_lemma => kernel_rfl) (by as_aux_lemma => kernel_rfl) (by as_aux_lemma => kernel_rfl) (fun _ _ _ h => hQ _ _ _ _ _ h) (by rfl) (by assumption) ?_) | (refine takeS_yes (v := ?_) 36 rfl (by as_aux_lemma => kernel_rfl) (by as_aux_lemma => kernel_rfl) (by as_aux_lemma => kernel_rfl) (fun _ _ _ h => hQ _ _ _ _ _ h) (by rfl) (by assumption) ?_ ?_; rotate_left; focus (intro wS hSw; obtain ⟨z0, z1⟩ := HSS.out wS hSw; go_simp; first | done | with_reducible rfl)))
      (try simp only [Act.put, List.setIfInBounds_toArray, List.set_cons_zero, List.set_cons_succ])
      (first | (refine takeS_no 37 rfl (by as_aux_lemma => kernel_rfl) (by as_aux_lemma => kernel_rfl) (by as_aux_lemma => kernel_rfl) (fun _ _ _ h => hQ _ _ _ _ _ h) (by rfl) (by assumption) ?_) | (refine takeS_yes (v := ?_) 37 rfl (by as_aux_lemma => kernel_rfl) (by as_aux_lemma => kernel_rfl) (by as_aux_lemma => kernel_rfl) (fun _ _ _ h => hQ _ _ _ _ _ h) (by rfl) (by assumption) ?_ ?_; rotate_left; focus (intro wS hSw; obtain ⟨z0, z1⟩ := HSS.out wS hSw; go_simp; first | done | with_reducible rfl)))
      (try simp only [Act.put, List.setIfInBounds_toArray, List.set_cons_zero, List.set_cons_succ])
      (first | (refine takeS_no 38 rfl (by as_aux_lemma => kernel_rfl) (by as_aux_lemma => kernel_rfl) (by as_aux_lemma => kernel_rfl) (fun _ _ _ h => hQ _ _ _ _ _ h) (by rfl) (by assumption) ?_) | (refine takeS_yes (v := ?_) 38 rfl (by as_aux_lemma => kernel_rfl) (by as_aux_lemma => kernel_rfl) (by as_aux_lemma => kernel_rfl) (fun _ _ _ h => hQ _ _ _ _ _ h) (by rfl) (by assumption) ?_ ?_; rotate_left; focus (intro wS hSw; obtain ⟨z0, z1⟩ := HSS.out wS hSw; go_simp; first | done | with_reducible rfl)))
      (try simp only [Act.put, List.setIfInBounds_toArray, List.set_cons_zero, List.set_cons_succ])
      (first | (refine takeS_no 39 rfl (by as_aux_lemma => kernel_rfl) (by as_aux_lemma => kernel_rfl) (by as_aux_lemma => kernel_rfl) (fun _ _ _ h => hQ _ _ _ _ _ h) (by rfl) (by assumption) ?_) | (refine takeS_yes (v := ?_) 39 rfl (by as_aux_lemma => kernel_rfl) (by as_aux_lemma => kernel_rfl) (by as_aux_lemma => kernel_rfl) (fun _ _ _ h => hQ _ _ _ _ _ h) (by rfl) (by assumption) ?_ ?_; rotate_left; focus (intro wS hSw; obtain ⟨z0, z1⟩ := HSS.out wS hSw; go_simp; first | done | with_reducible rfl)))
      (try simp only [Act.put, List.setIfInBounds_toArray, List.set_cons_zero, List.set_cons_succ])
      (first | (refine takeS_no 40 rfl (by as_aux_lemma => kernel_rfl) (by as_aux_lemma => kernel_rfl) (by as_aux_lemma => kernel_rfl) (fun _ _ _ h => hQ _ _ _ _ _ h) (by rfl) (by assumption) ?_) | (refine takeS_yes (v := ?_) 40 rfl (by as_aux_lemma => kernel_rfl) (by as_aux_lemma => kernel_rfl) (by as_aux_lemma => kernel_rfl) (fun _ _ _ h => hQ _ _ _ _ _ h) (by rfl) (by assumption) ?_ ?_; rotate_left; focus (intro wS hSw; obtain ⟨z0, z1⟩ := HSS.out wS hSw; go_simp; first | done | with_reducible rfl)))
      (try simp only [Act.put, List.setIfInBounds_toArray, List.set_cons_zero, List.set_cons_succ])
      (first | (refine takeS_no 41 rfl (by as_aux_lemma => kernel_rfl) (by as_aux_lemma => kernel_rfl) (by as_aux_lemma => kernel_rfl) (fun _ _ _ h => hQ _ _ _ _ _ h) (by rfl) (by assumption) ?_) | (refine takeS_yes (v := ?_) 41 rfl (by as_aux_lemma => kernel_rfl) (by as_aux_lemma => kernel_rfl) (by as_aux_lemma => kernel_rfl) (fun _ _ _ h => hQ _ _ _ _ _ h) (by rfl) (by assumption) ?_ ?_; rotate_left; focus (intro wS hSw; obtain ⟨z0, z1⟩ := HSS.out wS hSw; go_simp; first | done | with_reducible rfl)))
      (try simp only [Act.put, List.setIfInBounds_toArray, List.set_cons_zero, List.set_cons_succ])
      (first | (refine takeS_no 42 rfl (by as_aux_lemma => kernel_rfl) (by as_aux_lemma => kernel_rfl) (by as_aux_lemma => kernel_rfl) (fun _ _ _ h => hQ _ _ _ _ _ h) (by rfl) (by assumption) ?_) | (refine takeS_yes (v := ?_) 42 rfl (by as_aux_lemma => kernel_rfl) (by as_aux_lemma => kernel_rfl) (by as_aux_lemma => kernel_rfl) (fun _ _ _ h => hQ _ _ _ _ _ h) (by rfl) (by assumption) ?_ ?_; rotate_left; focus (intro wS hSw; obtain ⟨z0, z1⟩ := HSS.out wS hSw; go_simp; first | done | with_reducible rfl)))
      (try simp only [Act.put, List.setIfInBounds_toArray, List.set_cons_zero, List.set_cons_succ])
      (first | (refine takeS_no 43 rfl (by as_aux_lemma => kernel_rfl) (by as_aux_lemma => kernel_rfl) (by as_aux_lemma => kernel_rfl) (fun _ _ _ h => hQ _ _ _ _ _ h) (by rfl) (by assumption) ?_) | (refine takeS_yes (v := ?_) 43 rfl (by as_aux_lemma => kernel_rfl) (by as_aux_lemma => kernel_rfl) (by as_aux_lemma => kernel_rfl) (fun _ _ _ h => hQ _ _ _ _ _ h) (by rfl) (by assumption) ?_ ?_; rotate_left; focus (intro wS hSw; obtain ⟨z0, z1⟩ := HSS.out wS hSw; go_simp; first | done | with_reducible rfl)))
      (try simp only [Act.put, List.setIfInBounds_toArray, List.set_cons_zero, List.set_cons_succ])
      (first | (refine takeS_no 44 rfl (by as_aux_lemma => kernel_rfl) (by as_aux_lemma => kernel_rfl) (by as_aux_lemma => kernel_rfl) (fun _ _ _ h => hQ _ _ _ _ _ h) (by rfl) (by assumption) ?_) | (refine takeS_yes (v := ?_) 44 rfl (by as_aux_lemma => kernel_rfl) (by as_aux_lemma => kernel_rfl) (by as_aux_lemma => kernel_rfl) (fun _ _ _ h => hQ _ _ _ _ _ h) (by rfl) (by assumption) ?_ ?_; rotate_left; focus (intro wS hSw; obtain ⟨z0, z1⟩ := HSS.out wS hSw; go_simp; first | done | with_reducible rfl)))
      (try simp only [Act.put, List.setIfInBounds_toArray, List.set_cons_zero, List.set_cons_succ])
      (first | (refine takeS_no 45 rfl (by as_aux_lemma => kernel_rfl) (by as_aux_lemma => kernel_rfl) (by as_aux_lemma => kernel_rfl) (fun _ _ _ h => hQ _ _ _ _ _ h) (by rfl) (by assumption) ?_) | (refine takeS_yes (v := ?_) 45 rfl (by as_aux_lemma => kernel_rfl) (by as_aux_lemma => kernel_rfl) (by as_aux_lemma => kernel_rfl) (fun _ _ _ h => hQ _ _ _ _ _ h) (by rfl) (by assumption) ?_ ?_; rotate_left; focus (intro wS hSw; obtain ⟨z0, z1⟩ := HSS.out wS hSw; go_simp; first | done | with_reducible rfl)))
      (try simp only [Act.put, List.setIfInBounds_toArray, List.set_cons_zero, List.set_cons_succ])
      refine takeS_alone 46 rfl (by as_aux_lemma => kernel_rfl) (by rfl) (fun K hK => ?_)
      go_simp
      (refine (walk_CommitNext _ _ (by first | assumption | decide) _ (by first | assumption | decide) _ (by first | assumption | decide) _ (by first | assumption | decide)).mono ?_; rintro e w6 ⟨rfl, hb3⟩; have hS6 := Below.call hS5 hBw hb3; clear hb3)
      refine hK.out _ _ (by assumption) ?_
      clear hK K
      (try simp only [Act.put, List.setIfInBounds_toArray, List.set_cons_zero, List.set_cons_succ])
      (first | (refine takeS_no 47 rfl (by as_aux_lemma => kernel_rfl) (by as_aux_lemma => kernel_rfl) (by as_aux_lemma => kernel_rfl) (fun _ _ _ h => hQ _ _ _ _ _ h) (by rfl) (by assumption) ?_) | (refine takeS_yes (v := ?_) 47 rfl (by as_aux_lemma => kernel_rfl) (by as_aux_lemma => kernel_rfl) (by as_aux_lemma => kernel_rfl) (fun _ _ _ h => hQ _ _ _ _ _ h) (by rfl) (by assumption) ?_ ?_; rotate_left; focus (intro wS hSw; obtain ⟨z0, z1⟩ := HSS.out wS hSw; go_simp; first | done | with_reducible rfl)))
      (try simp only [Act.put, List.setIfInBounds_toArray, List.set_cons_zero, List.set_cons_succ])
      (first | (refine takeS_no 48 rfl (by as_aux_lemma => kernel_rfl) (by as_aux_lemma => kernel_rfl) (by as_aux_lemma => kernel_rfl) (fun _ _ _ h => hQ _ _ _ _ _ h) (by rfl) (by assumption) ?_) | (refine takeS_yes (v := ?_) 48 rfl (by as_aux_lemma => kernel_rfl) (by as_aux_lemma => kernel_rfl) (by as_aux_lemma => kernel_rfl) (fun _ _ _ h => hQ _ _ _ _ _ h) (by rfl) (by assumption) ?_ ?_; rotate_left; focus (intro wS hSw; obtain ⟨z0, z1⟩ := HSS.out wS hSw; go_simp; first | done | with_reducible rfl)))
      (try simp only [Act.put, List.setIfInBounds_toArray, List.set_cons_zero, List.set_cons_succ])
      (first | (refine takeS_no 49 rfl (by as_aux_lemma => kernel_rfl) (by as_aux_lemma => kernel_rfl) (by as_aux_lemma => kernel_rfl) (fun _ _ _ h => hQ _ _ _ _ _ h) (by rfl) (by assumption) ?_) | (refine takeS_yes (v := ?_) 49 rfl (by as_aux_lemma => kernel_rfl) (by as_aux_lemma => kernel_rfl) (by as_aux_lemma => kernel_rfl) (fun _ _ _ h => hQ _ _ _ _ _ h) (by rfl) (by assumption) ?_ ?_; rotate_left; focus (intro wS hSw; obtain ⟨z0, z1⟩ := HSS.out wS hSw; go_simp; first | done | with_reducible rfl)))
      (try simp only [Act.put, List.setIfInBounds_toArray, List.set_cons_zero, List.set_cons_succ])
      (first | (refine takeS_no 50 rfl (by as_aux_lemma => kernel_rfl) (by as_aux_lemma => kernel_rfl) (by as_aux_lemma => kernel_rfl) (fun _ _ _ h => hQ _ _ _ _ _ h) (by rfl) (by assumption) ?_) | (refine takeS_yes (v := ?_) 50 rfl (by as_aux_lemma => kernel_rfl) (by as_aux_lemma => kernel_rfl) (by as_aux_lemma => kernel_rfl) (fun _ _ _ h => hQ _ _ _ _ _ h) (by rfl) (by assumption) ?_ ?_; rotate_left; focus (intro wS hSw; obtain ⟨z0, z1⟩ := HSS.out wS hSw; go_simp; first | done | with_reducible rfl)))
      (try simp only [Act.put, List.setIfInBounds_toArray, List.set_cons_zero, List.set_cons_succ])
      (first | (refine takeS_no 51 rfl (by as_aux_lemma => kernel_rfl) (by as_aux_lemma => kernel_rfl) (by as_aux_lemma => kernel_rfl) (fun _ _ _ h => hQ _ _ _ _ _ h) (by rfl) (by assumption) ?_) | (refine takeS_yes (v := ?_) 51 rfl (by as_aux_lemma => kernel_rfl) (by as_aux_lemma => kernel_rfl) (by as_aux_lemma => kernel_rfl) (fun _ _ _ h => hQ _ _ _ _ _ h) (by rfl) (by assumption) ?_ ?_; rotate_left; focus (intro wS hSw; obtain ⟨z0, z1⟩ := HSS.out wS hSw; go_simp; first | done | with_reducible rfl)))
      (try simp only [Act.put, List.setIfInBounds_toArray, List.set_cons_zero, List.set_cons_succ])
      (first | (refine takeS_no 52 rfl (by as_aux_lemma => kernel_rfl) (by as_aux_lemma => kernel_rfl) (by as_aux_lemma => kernel_rfl) (fun _ _ _ h => hQ _ _ _ _ _ h) (by rfl) (by assumption) ?_) | (refine takeS_yes (v := ?_) 52 rfl (by as_aux_lemma => kernel_rfl) (by as_aux_lemma => kernel_rfl) (by as_aux_lemma => kernel_rfl) (fun _ _ _ h => hQ _ _ _ _ _ h) (by rfl) (by assumption) ?_ ?_; rotate_left; focus (intro wS hSw; obtain ⟨z0, z1⟩ := HSS.out wS hSw; go_simp; first | done | with_reducible rfl)))
      (try simp only [Act.put, List.setIfInBounds_toArray, List.set_cons_zero, List.set_cons_succ])
      (first | (refine takeS_no 53 rfl (by as_aux_lemma => kernel_rfl) (by as_aux_lemma => kernel_rfl) (by as_aux_lemma => kernel_rfl) (fun _ _ _ h => hQ _ _ _ _ _ h) (by rfl) (by assumption) ?_) | (refine takeS_yes (v := ?_) 53 rfl (by as_aux_lemma => kernel_rfl) (by as_aux_lemma => kernel_rfl) (by as_aux_lemma => kernel_rfl) (fun _ _ _ h => hQ _ _ _ _ _ h) (by rfl) (by assumption) ?_ ?_; rotate_left; focus (intro wS hSw; obtain ⟨z0, z1⟩ := HSS.out wS hSw; go_simp; first | done | with_reducible rfl)))
      (try simp only [Act.put, List.setIfInBounds_toArray, List.set_cons_zero, List.set_cons_succ])
      (first | (refine takeS_no 54 rfl (by as_aux_lemma => kernel_rfl) (by as_aux_lemma => kernel_rfl) (by as_aux_lemma => kernel_rfl) (fun _ _ _ h => hQ _ _ _ _ _ h) (by rfl) (by assumption) ?_) | (refine takeS_yes (v := ?_) 54 rfl (by as_aux_lemma => kernel_rfl) (by as_aux_lemma => kernel_rfl) (by as_aux_lemma => kernel_rfl) (fun _ _ _ h => hQ _ _ _ _ _ h) (by rfl) (by assumption) ?_ ?_; rotate_left; focus (intro wS hSw; obtain ⟨z0, z1⟩ := HSS.out wS hSw; go_simp; first | done | with_reducible rfl)))
      (try simp only [Act.put, List.setIfInBounds_toArray, List.set_cons_zero, List.set_cons_succ])
      (first | (refine takeS_no 55 rfl (by as_aux_lemma => kernel_rfl) (by as_aux_lemma => kernel_rfl) (by as_aux_lemma => kernel_rfl) (fun _ _ _ h => hQ _ _ _ _ _ h) (by rfl) (by assumption) ?_) | (refine takeS_yes (v := ?_) 55 rfl (by as_aux_lemma => kernel_rfl) (by as_aux_lemma => kernel_rfl) (by as_aux_lemma => kernel_rfl) (fun _ _ _ h => hQ _ _ _ _ _ h) (by rfl) (by assumption) ?_ ?_; rotate_left; focus (intro wS hSw; obtain ⟨z0, z1⟩ := HSS.out wS hSw; go_simp; first | done | with_reducible rfl)))
      (try simp only [Act.put, List.setIfInBounds_toArray, List.set_cons_zero, List.set_cons_succ])
      (first | (refine takeS_no 56 rfl (by as_aux_lemma => kernel_rfl) (by as_aux_lemma => kernel_rfl) (by as_aux_lemma => kernel_rfl) (fun _ _ _ h => hQ _ _ _ _ _ h) (by rfl) (by assumption) ?_) | (refine takeS_yes (v := ?_) 56 rfl (by as_aux_lemma => kernel_rfl) (by as_aux_lemma => kernel_rfl) (by as_aux_lemma => kernel_rfl) (fun _ _ _ h => hQ _ _ _ _ _ h) (by rfl) (by assumption) ?_ ?_; rotate_left; focus (intro wS hSw; obtain ⟨z0, z1⟩ := HSS.out wS hSw; go_simp; first | done | with_reducible rfl)))
      (try simp only [Act.put, List.setIfInBounds_toArray, List.set_cons_zero, List.set_cons_succ])
      (first | (refine takeS_no 57 rfl (by as_aux_lemma => kernel_rfl) (by as_aux_lemma => kernel_rfl) (by as_aux_lemma => kernel_rfl) (fun _ _ _ h => hQ _ _ _ _ _ h) (by rfl) (by assumption) ?_) | (refine takeS_yes (v := ?_) 57 rfl (by as_aux_lemma => kernel_rfl) (by as_aux_lemma => kernel_rfl) (by as_aux_lemma => kernel_rfl) (fun _ _ _ h => hQ _ _ _ _ _ h) (by rfl) (by assumption) ?_ ?_; rotate_left; focus (intro wS hSw; obtain ⟨z0, z1⟩ := HSS.out wS hSw; go_simp; first | done | with_reducible rfl)))
      (try simp only [Act.put, List.setIfInBounds_toArray, List.set_cons_zero, List.set_cons_succ])
      refine takeS_alone 58 rfl (by as_aux_lemma => kernel_rfl) (by rfl) (fun K hK => ?_)
      go_simp
      (refine (walk_CommitNext _ _ (by first | assumption | decide) _ (by first | assumption | decide) _ (by first | assumption | decide) _ (by first | assumption | decide)).mono ?_; rintro e w7 ⟨rfl, hb3⟩; have hS7 := Below.call hS6 hBw hb3; clear hb3)
      refine hK.out _ _ (by assumption) ?_
      clear hK K
      (try simp only [Act.put, List.setIfInBounds_toArray, List.set_cons_zero, List.set_cons_succ])
      (first | (refine takeS_no 59 rfl (by as_aux_lemma => kernel_rfl) (by as_aux_lemma => kernel_rfl) (by as_aux_lemma => kernel_rfl) (fun _ _ _ h => hQ _ _ _ _ _ h) (by rfl) (by assumption) ?_) | (refine takeS_yes (v := ?_) 59 rfl (by as_aux_lemma => kernel_rfl) (by as_aux_lemma => kernel_rfl) (by as_aux_lemma => kernel_rfl) (fun _ _ _ h => hQ _ _ _ _ _ h) (by rfl) (by assumption) ?_ ?_; rotate_left; focus (intro wS hSw; obtain ⟨z0, z1⟩ := HSS.out wS hSw; go_simp; first | done | with_reducible rfl)))
      (try simp only [Act.put, List.setIfInBounds_toArray, List.set_cons_zero, List.set_cons_succ])
      (first | (refine takeS_no 60 rfl (by as_aux_lemma => kernel_rfl) (by as_aux_lemma => kernel_rfl) (by as_aux_lemma => kernel_rfl) (fun _ _ _ h => hQ _ _ _ _ _ h) (by rfl) (by assumption) ?_) | (refine takeS_yes (v := ?_) 60 rfl (by as_aux_lemma => kernel_rfl) (by as_aux_lemma => kernel_rfl) (by as_aux_lemma => kernel_rfl) (fun _ _ _ h => hQ _ _ _ _ _ h) (by rfl) (by assumption) ?_ ?_; rotate_left; focus (intro wS hSw; obtain ⟨z0, z1⟩ := HSS.out wS hSw; go_simp; first | done | with_reducible rfl)))
      (try simp only [Act.put, List.setIfInBounds_toArray, List.set_cons_zero, List.set_cons_succ])
      refine wpAnyH_done (by as_aux_lemma => kernel_rfl) ?_ _
      exact HKK.out _ _ _ _ _ _ _ _ _ _ _ _ _ _ _ _ _ _ _ _ _ _ _ _ _ _ _ _ _ _ _ _ _ _ _ _ _ _ _ _ _ _ _ _ _ _ _ _ _ _ _ _ _ _ _ _ _ _ _ _ _ hS7
end Go.Proofs.Ytidfflippldhjaa
