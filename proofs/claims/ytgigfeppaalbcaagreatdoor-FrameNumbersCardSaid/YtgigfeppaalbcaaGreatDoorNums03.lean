/- The law FrameNumbers, walked: it returns true. No condition. -/
import Derived.Test.YtgigfeppaalbcaaGreatDoorPuts
import Derived.Test.YtgigfeppaalbcaaGreatDoorScans
namespace Go.Proofs.YtgigfeppaalbcaaGreatDoor
open Go.RowKit
set_option maxRecDepth 20000

theorem four_wf {n : Nat} (h : n < 4294967296) : BytesWf (fourB n) := by
  intro x hx
  simp only [fourB, List.mem_cons, List.not_mem_nil, or_false] at hx
  omega
theorem frameB_wf {k : Int} {d : List Int} (hk : 0 ≤ k ∧ k ≤ 255) (hd : BytesWf d) (hl : d.length < 4294967296) : BytesWf (frameB k d) := by
  intro x hx
  unfold frameB at hx
  rcases List.mem_append.1 hx with hx | hx
  · rcases List.mem_append.1 hx with hx | hx
    · rcases List.mem_append.1 hx with hx | hx
      · exact four_wf hl x hx
      · rw [List.mem_singleton.1 hx]; omega
    · refine four_wf (sumS_lt ?_) x hx
      intro y hy
      rcases List.mem_cons.1 hy with rfl | hy
      · omega
      · exact hd y hy
  · exact hd x hx
theorem putB_wf {fs : List Fr} (hok : ∀ f ∈ fs, okF f) (hw : ∀ f ∈ fs, BytesWf f.data) : BytesWf (putB fs) := by
  intro x hx
  unfold putB at hx
  obtain ⟨f, hf, hx⟩ := List.mem_flatMap.1 hx
  have h := hok f hf
  unfold okF at h
  exact frameB_wf ⟨h.1, h.2.1⟩ (hw f hf) (by omega) x hx
theorem copyB_any (ao : Option Addr) (n cap : Nat) (xs : List Int) (w : World) (B : Nat) (hn : xs.length = n) (hx : BytesIn w B ao xs) (hB : B ≤ w.heap.size) (hao : ao = none → cap = 0) (hl : n ≤ 1099511627776) :
    Calls Tryz.prog 22 #[.slice ao n cap] w fun e w' => ∃ a c, e = .returned (.slice a n c) ∧ w'.ownsRow w.heap.size 5 1 (.slice a n c) n (xs.map bv) ∧ Below w.heap.size w w' := by
  subst hn
  have HX := Lib.hid hx
  have HA := Lib.hid hao
  clear hx hao
  go_enter Tryz.func22, Tryz.ntmps22
  go_wp2_with (at_builtin; refine wpList_append_bytes_at rfl (.tmp 4) (.tmp 5) rfl w.heap.size (.slice none 0 0) [] rfl (World.ownsRow_nil _ _ _ _) ao cap xs rfl B HX.out HA.out (by simp; try omega) (Nat.le_refl _) ?_)
  intro v2 w2 L HLe hown hg _
  have hL : L = xs := HLe.out
  subst hL
  have hb : Below w.heap.size w w2 := (Below.refl w.heap.size w).grown hg (Nat.le_refl _) (fun k hk => by cases hk)
  obtain ⟨a, c, hv, _⟩ := own_bytes hown
  subst hv
  have HO := Lib.hid hown
  clear hown hg
  go_wp2_with fail
  go_ret
  exact ⟨a, c, rfl, HO.out, hb⟩
/-- The same, at an operation that is guarded, and wanted. -/
theorem wpList_append_bytes_g {w : World} {ops : Array Oper} {rest : List Oper} {o : Oper} {a : Act} {Q : Exit → Act → World → Prop} (hgd : Region.wanted o (yielded ops a.tmps) = true) (s x : Operand)
    (ho : o.op = .call { callee := .builtin .append, args := #[s, x], argTypes := #[26, 26] })
    (base : Nat) (v : Value) (l : List Int) (hs : a.eval s = v) (hown : w.ownsRow base 5 1 v l.length (l.map bv))
    (ad : Addr) (cap : Nat) (xs : List Int) (hx : a.eval x = .slice (some ad) xs.length cap) (B : Nat) (hin : BytesIn w B (some ad) xs) (hlim : l.length + xs.length ≤ 140737488351232) (hbase : base ≤ w.heap.size)
    (h : ∀ v' w' l', Hid (l' = l ++ xs) → w'.ownsRow base 5 1 v' l'.length (l'.map bv) → w.grownBy w' v.ownBlock → wpList Tryz.prog ops Q rest (a.put o.dst v') w') : wpList Tryz.prog ops Q (o :: rest) a w := by
  obtain ⟨i0, hi, hz0, hz1, hz2⟩ := info_parts infoByte
  unfold wpList
  rw [if_pos hgd]
  left
  obtain ⟨v', w', hrun, r1, r2, _⟩ := run_append_own (P := Tryz.prog) w base 26 o.type 5 i0 (.int .u8 0) 1 1 Tryz.underlying26 hi hz0 hz1 hz2 rfl (by decide) v l.length _ hown ad xs.length cap (xs.map bv) (by simp) (fun j u hu => cells_of_bytes hin (Below.refl _ _) rfl hu) (bytes_oneCell _) (by unfold maxLen; omega) (by omega) hbase
  unfold Oper.wp
  simp [execOp, ho, resolve, invoke, builtin, hs, hx, hrun, Result.andThen]
  refine h v' w' (l ++ xs) (Lib.hid rfl) ?_ r2
  rw [List.length_append, List.map_append]
  exact r1
theorem wf_append {l m : List Int} (h : BytesWf l) (h2 : BytesWf m) : BytesWf (l ++ m) := fun x hx => (List.mem_append.1 hx).elim (h x) (h2 x)
theorem scan_own {B n c : Nat} {a : Option Addr} {l : List Int} (w : World) (h : w.ownsRow B 5 1 (.slice a n c) n (l.map bv)) (hn : l.length = n) (hw : BytesWf l) :
    Calls Tryz.prog 4 #[.slice a n c] w fun e w' => e = .returned (.bool true) ∧ Below w.heap.size w w' :=
  scans_any w a n c l _ hn (own_at hn h) (Nat.le_refl _) hw (own_none h) (own_cap h)
theorem made_in (w : World) (n B : Nat) (g : Nat) (hg : g = w.heap.size) (hB : g < B) : BytesIn (w.alloc (.cells (madeCells #[.int .u8 0] n) 5)) B (some ⟨g, 0, none⟩) (List.replicate n 0) := by
  subst hg
  refine Or.inr ⟨_, 0, rfl, hB, fun i hi => ?_⟩
  have hi' : i < n := by simpa using hi
  rw [Nat.zero_add, Go.Joins.cell_of_block (heap_alloc_new w _) i, ← Array.getElem?_toList, made_list, List.getElem?_map, List.getElem?_range hi']
  simp [List.getD, hi']
theorem rep_wf (n : Nat) : BytesWf (List.replicate n 0) := by
  intro x hx
  rw [List.eq_of_mem_replicate hx]; omega
def PutN (L : List Int) (n : Nat) (z : Int) (w : World) (e : Ending) (w' : World) : Prop :=
  ∃ ao cap, e = .returned (.tuple #[.slice ao n cap, .int .i64 z]) ∧ w'.ownsRow w.heap.size 5 1 (.slice ao n cap) n (L.map bv) ∧ Below w.heap.size w w'
theorem put_n (ao : Option Addr) (m cap : Nat) (fs : List Fr) (L : List Int) (n : Nat) (z : Int) (w : World) (B : Nat) (hm : fs.length = m) (hL : putL fs = L) (hn : L.length = n) (hz : putE fs = z) (hx : FramesIn w B ao fs) (hB : B ≤ w.heap.size) (hw : ∀ f ∈ fs, FrWf f) (hl : (putB fs).length ≤ 140737488351232) (hn2 : m ≤ 1099511627776) :
    Calls Tryz.prog 9 #[.slice ao m cap] w (PutN L n z w) := by
  subst hn
  exact put_at ao m cap fs L z w B hm hL hz hx hB hw hl hn2
/-- A frame whose kind and data are small. -/
theorem fr_wf {k : Int} {a : Option Addr} {c : Nat} {d : List Int} (hk : -9223372036854775808 ≤ k ∧ k ≤ 9223372036854775807) (ha : a = none → c = 0) (hd : BytesWf d) (hl : d.length ≤ 140737488351232) : FrWf ⟨k, a, c, d⟩ :=
  ⟨by simp [Lit.wf, IntKind.min, IntKind.max, IntKind.signed, IntKind.bits]; omega, ha, hd, hl⟩
def fs3 (g : Nat) : List Fr := [⟨0, none, 0, []⟩, ⟨255, some ⟨g, 0, none⟩, 3, [1, 2, 3]⟩, ⟨9, some ⟨g + 1, 0, none⟩, 40, List.replicate 40 0⟩]
theorem fs3_ok (g : Nat) : ∀ f ∈ fs3 g, okF f := by
  intro f hf
  simp only [fs3, List.mem_cons, List.not_mem_nil, or_false] at hf
  rcases hf with rfl | rfl | rfl <;> (unfold okF; simp)
theorem fs3_wf (g : Nat) : ∀ f ∈ fs3 g, FrWf f := by
  intro f hf
  simp only [fs3, List.mem_cons, List.not_mem_nil, or_false] at hf
  rcases hf with rfl | rfl | rfl
  · exact fr_wf (by omega) (by simp) (by intro x hx; cases hx) (by simp)
  · exact fr_wf (by omega) (by simp) (by intro x hx; simp at hx; omega) (by simp)
  · exact fr_wf (by omega) (by simp) (rep_wf 40) (by simp)
theorem fs3_len (g : Nat) : (putB (fs3 g)).length = 70 := by
  simp only [fs3, putB, List.flatMap_cons, List.flatMap_nil, List.length_append, frameB_len, List.length_replicate, List.length_cons, List.length_nil]
theorem putL_ok {fs : List Fr} (h : ∀ f ∈ fs, okF f) : putL fs = putB fs := by unfold putL; rw [if_pos (putE_ok h)]
theorem u8_xor {x : Int} (hx : 0 ≤ x ∧ x < 256) : 0 ≤ bits .xor .u8 x 128 ∧ bits .xor .u8 x 128 < 256 := by
  show 0 ≤ IntKind.u8.wrap _ ∧ IntKind.u8.wrap _ < 256
  unfold IntKind.wrap
  simp [IntKind.signed, IntKind.bits]
  omega
theorem wf_set {l : List Int} {k : Nat} {y : Int} (h : BytesWf l) (hy : 0 ≤ y ∧ y < 256) : BytesWf (l.set k y) := by
  intro x hx
  rcases List.mem_or_eq_of_mem_set hx with hx | hx
  · exact h x hx
  · rw [hx]; exact hy

theorem fs3_in (W : World) : FramesIn (((W.alloc (.cells #[.int .u8 1, .int .u8 2, .int .u8 3] 5)).alloc (.cells (madeCells #[.int .u8 0] 40) 5)).alloc (.cells #[.int .i64 0, .slice none 0 0, .int .i64 255, .slice (some ⟨W.heap.size, 0, none⟩) 3 3, .int .i64 9, .slice (some ⟨W.heap.size + 1, 0, none⟩) 40 40] 44)) (W.heap.size + 3) (some ⟨W.heap.size + 1 + 1, 0, none⟩) (fs3 W.heap.size) := by
  have h2 : (((W.alloc (.cells #[.int .u8 1, .int .u8 2, .int .u8 3] 5)).alloc (.cells (madeCells #[.int .u8 0] 40) 5)).alloc (.cells #[.int .i64 0, .slice none 0 0, .int .i64 255, .slice (some ⟨W.heap.size, 0, none⟩) 3 3, .int .i64 9, .slice (some ⟨W.heap.size + 1, 0, none⟩) 40 40] 44)).heap[W.heap.size + 1 + 1]? = some (.cells #[.int .i64 0, .slice none 0 0, .int .i64 255, .slice (some ⟨W.heap.size, 0, none⟩) 3 3, .int .i64 9, .slice (some ⟨W.heap.size + 1, 0, none⟩) 40 40] 44 (0, 0)) := by
    have h := heap_alloc_new ((W.alloc (.cells #[.int .u8 1, .int .u8 2, .int .u8 3] 5)).alloc (.cells (madeCells #[.int .u8 0] 40) 5)) (.cells #[.int .i64 0, .slice none 0 0, .int .i64 255, .slice (some ⟨W.heap.size, 0, none⟩) 3 3, .int .i64 9, .slice (some ⟨W.heap.size + 1, 0, none⟩) 40 40] 44)
    have e : ((W.alloc (.cells #[.int .u8 1, .int .u8 2, .int .u8 3] 5)).alloc (.cells (madeCells #[.int .u8 0] 40) 5)).heap.size = W.heap.size + 1 + 1 := by simp
    rwa [e] at h
  have b1 := bytes_new W 5 [1, 2, 3] #[.int .u8 1, .int .u8 2, .int .u8 3] (0, 0) W.heap.size (W.heap.size + 1) rfl rfl (by omega)
  have b2 := made_in (W.alloc (.cells #[.int .u8 1, .int .u8 2, .int .u8 3] 5)) 40 (W.heap.size + 2) (W.heap.size + 1) (by simp) (by omega)
  refine Or.inr ⟨W.heap.size + 1 + 1, 0, rfl, by omega, fun i hi => ?_⟩
  have hi3 : i = 0 ∨ i = 1 ∨ i = 2 := by simp [fs3] at hi; omega
  rcases hi3 with rfl | rfl | rfl
  · exact ⟨Go.Joins.cell_of_block h2 0, Go.Joins.cell_of_block h2 1, Or.inl rfl⟩
  · refine ⟨Go.Joins.cell_of_block h2 2, Go.Joins.cell_of_block h2 3, ?_⟩
    exact (b1.below (B' := W.heap.size + 1) (((Below.refl (W.heap.size + 1) (W.alloc (.cells #[.int .u8 1, .int .u8 2, .int .u8 3] 5))).alloc (by simp) (.cells (madeCells #[.int .u8 0] 40) 5)).alloc (by simp) (.cells #[.int .i64 0, .slice none 0 0, .int .i64 255, .slice (some ⟨W.heap.size, 0, none⟩) 3 3, .int .i64 9, .slice (some ⟨W.heap.size + 1, 0, none⟩) 40 40] 44)) (Nat.le_refl _)).mono (by omega)
  · refine ⟨Go.Joins.cell_of_block h2 4, Go.Joins.cell_of_block h2 5, ?_⟩
    exact (b2.below (B' := W.heap.size + 2) ((Below.refl (W.heap.size + 2) ((W.alloc (.cells #[.int .u8 1, .int .u8 2, .int .u8 3] 5)).alloc (.cells (madeCells #[.int .u8 0] 40) 5))).alloc (by simp) (.cells #[.int .i64 0, .slice none 0 0, .int .i64 255, .slice (some ⟨W.heap.size, 0, none⟩) 3 3, .int .i64 9, .slice (some ⟨W.heap.size + 1, 0, none⟩) 40 40] 44)) (Nat.le_refl _)).mono (by omega)

theorem kinds_at {v0 wr : World} {gk q : Nat} (h : v0.heap[gk]? = some (.cells #[.int .i64 (-9223372036854775808), .int .i64 (-1), .int .i64 0, .int .i64 255, .int .i64 256, .int .i64 9223372036854775807] 3 (0, 0))) (hb : Below v0.heap.size v0 wr) (hg : gk < v0.heap.size) (hq : q < 6) :
    ∃ kv : Int, wr.cell? ⟨gk, q, none⟩ = some (.int .i64 kv) ∧ -9223372036854775808 ≤ kv ∧ kv ≤ 9223372036854775807 := by
  have hc := fun i => Go.Joins.cell_of_block ((hb.block gk hg).trans h) i
  have hq6 : q = 0 ∨ q = 1 ∨ q = 2 ∨ q = 3 ∨ q = 4 ∨ q = 5 := by omega
  rcases hq6 with rfl | rfl | rfl | rfl | rfl | rfl
  · exact ⟨_, hc 0, by omega, by omega⟩
  · exact ⟨_, hc 1, by omega, by omega⟩
  · exact ⟨_, hc 2, by omega, by omega⟩
  · exact ⟨_, hc 3, by omega, by omega⟩
  · exact ⟨_, hc 4, by omega, by omega⟩
  · exact ⟨_, hc 5, by omega, by omega⟩
/-- Two frames as a literal. -/
theorem fr2_in (w : World) (g : Nat) (k1 k2 : Int) (a1 a2 : Option Addr) (c1 c2 : Nat) (d1 d2 : List Int) (n1 n2 B : Nat) (hg : g = w.heap.size) (h1 : d1.length = n1) (h2 : d2.length = n2) (hx1 : BytesIn w B a1 d1) (hx2 : BytesIn w B a2 d2) (hB : B ≤ w.heap.size) :
    FramesIn (w.alloc (.cells #[.int .i64 k1, .slice a1 n1 c1, .int .i64 k2, .slice a2 n2 c2] 44)) (g + 1) (some ⟨g, 0, none⟩) [⟨k1, a1, c1, d1⟩, ⟨k2, a2, c2, d2⟩] := by
  subst h1 h2 hg
  refine Or.inr ⟨w.heap.size, 0, rfl, by omega, fun i hi => ?_⟩
  have hi2 : i = 0 ∨ i = 1 := by simp at hi; omega
  have hb := (Below.refl w.heap.size w).alloc (Nat.le_refl _) (.cells #[.int .i64 k1, .slice a1 d1.length c1, .int .i64 k2, .slice a2 d2.length c2] 44)
  rcases hi2 with rfl | rfl
  · exact ⟨Go.Joins.cell_of_block (heap_alloc_new w _) 0, Go.Joins.cell_of_block (heap_alloc_new w _) 1, (hx1.below hb hB).mono (by omega)⟩
  · exact ⟨Go.Joins.cell_of_block (heap_alloc_new w _) 2, Go.Joins.cell_of_block (heap_alloc_new w _) 3, (hx2.below hb hB).mono (by omega)⟩
theorem fr3_in (w : World) (g : Nat) (k1 k2 k3 : Int) (a1 a2 a3 : Option Addr) (c1 c2 c3 : Nat) (d1 d2 d3 : List Int) (n1 n2 n3 B : Nat) (hg : g = w.heap.size) (h1 : d1.length = n1) (h2 : d2.length = n2) (h3 : d3.length = n3) (hx1 : BytesIn w B a1 d1) (hx2 : BytesIn w B a2 d2) (hx3 : BytesIn w B a3 d3) (hB : B ≤ w.heap.size) :
    FramesIn (w.alloc (.cells #[.int .i64 k1, .slice a1 n1 c1, .int .i64 k2, .slice a2 n2 c2, .int .i64 k3, .slice a3 n3 c3] 44)) (g + 1) (some ⟨g, 0, none⟩) [⟨k1, a1, c1, d1⟩, ⟨k2, a2, c2, d2⟩, ⟨k3, a3, c3, d3⟩] := by
  subst h1 h2 h3 hg
  refine Or.inr ⟨w.heap.size, 0, rfl, by omega, fun i hi => ?_⟩
  have hi2 : i = 0 ∨ i = 1 ∨ i = 2 := by simp at hi; omega
  have hb := (Below.refl w.heap.size w).alloc (Nat.le_refl _) (.cells #[.int .i64 k1, .slice a1 d1.length c1, .int .i64 k2, .slice a2 d2.length c2, .int .i64 k3, .slice a3 d3.length c3] 44)
  rcases hi2 with rfl | rfl | rfl
  · exact ⟨Go.Joins.cell_of_block (heap_alloc_new w _) 0, Go.Joins.cell_of_block (heap_alloc_new w _) 1, (hx1.below hb hB).mono (by omega)⟩
  · exact ⟨Go.Joins.cell_of_block (heap_alloc_new w _) 2, Go.Joins.cell_of_block (heap_alloc_new w _) 3, (hx2.below hb hB).mono (by omega)⟩
  · exact ⟨Go.Joins.cell_of_block (heap_alloc_new w _) 4, Go.Joins.cell_of_block (heap_alloc_new w _) 5, (hx3.below hb hB).mono (by omega)⟩
theorem three_all {p : Fr → Prop} {x y z : Fr} (hx : p x) (hy : p y) (hz : p z) : ∀ f ∈ [x, y, z], p f := by
  intro f hf
  simp only [List.mem_cons, List.not_mem_nil, or_false] at hf
  rcases hf with rfl | rfl | rfl
  · exact hx
  · exact hy
  · exact hz
theorem putL_bad {fs : List Fr} {z : Int} (h : putE fs = z) (hz : z ≠ 0) : putL fs = [] := by unfold putL; rw [if_neg (by rw [h]; exact hz)]
theorem fr_arg {k : Int} {a : Option Addr} {c : Nat} {d : List Int} (hk : -9223372036854775808 ≤ k ∧ k ≤ 9223372036854775807) (ha : a = none → c = 0) (hd : BytesWf d) (hl : d.length ≤ c) (hc : c ≤ 9223372036854775807) : FrArg ⟨k, a, c, d⟩ :=
  ⟨by simp [Lit.wf, IntKind.min, IntKind.max, IntKind.signed, IntKind.bits]; omega, ha, hd, hl, by unfold maxLen; omega⟩
theorem nil_wf : BytesWf [] := by intro x hx; cases hx
theorem two_all {p : Fr → Prop} {x y : Fr} (hx : p x) (hy : p y) : ∀ f ∈ [x, y], p f := by
  intro f hf
  simp only [List.mem_cons, List.not_mem_nil, or_false] at hf
  rcases hf with rfl | rfl
  · exact hx
  · exact hy

def zerosA : List Int := List.replicate 1048576 0
def zerosB : List Int := List.replicate 1048577 0
theorem zA_len : zerosA.length = 1048576 := List.length_replicate
theorem zB_len : zerosB.length = 1048577 := List.length_replicate
theorem zA_wf : BytesWf zerosA := rep_wf _
theorem zB_wf : BytesWf zerosB := rep_wf _
/-- What the last part's big frames are. -/
structure BigAt (X : World) (w : World) : Prop where
  below : Below w.heap.size w X
  size : X.heap.size = w.heap.size + 5
  za : BytesIn X X.heap.size (some ⟨w.heap.size, 0, none⟩) zerosA
  zb : BytesIn X X.heap.size (some ⟨w.heap.size + 1 + 1, 0, none⟩) zerosB
  fb : X.heap[w.heap.size + 1 + 1 + 1]? = some (.cells #[.int .i64 1, .slice (some ⟨w.heap.size + 1 + 1, 0, none⟩) 1048577 1048577] 44 (0, 0))
  fs : FramesIn X X.heap.size (some ⟨w.heap.size + 1 + 1 + 1 + 1, 0, none⟩) [⟨1, some ⟨w.heap.size, 0, none⟩, 1048576, zerosA⟩, ⟨2, none, 0, []⟩]
theorem big_at (w : World) : BigAt (((((w.alloc (.cells (madeCells #[.int .u8 0] 1048576) 5)).alloc (.cells #[.int .i64 1, .slice (some ⟨w.heap.size, 0, none⟩) 1048576 1048576] 44)).alloc (.cells (madeCells #[.int .u8 0] 1048577) 5)).alloc (.cells #[.int .i64 1, .slice (some ⟨w.heap.size + 1 + 1, 0, none⟩) 1048577 1048577] 44)).alloc (.cells #[.int .i64 1, .slice (some ⟨w.heap.size, 0, none⟩) 1048576 1048576, .int .i64 2, .slice none 0 0] 44)) w := by
  have z1 : (w.alloc (.cells (madeCells #[.int .u8 0] 1048576) 5)).heap.size = w.heap.size + 1 := by simp
  have z2 : ((w.alloc (.cells (madeCells #[.int .u8 0] 1048576) 5)).alloc (.cells #[.int .i64 1, .slice (some ⟨w.heap.size, 0, none⟩) 1048576 1048576] 44)).heap.size = w.heap.size + 1 + 1 := by simp
  have z3 : (((w.alloc (.cells (madeCells #[.int .u8 0] 1048576) 5)).alloc (.cells #[.int .i64 1, .slice (some ⟨w.heap.size, 0, none⟩) 1048576 1048576] 44)).alloc (.cells (madeCells #[.int .u8 0] 1048577) 5)).heap.size = w.heap.size + 1 + 1 + 1 := by simp
  have z4 : ((((w.alloc (.cells (madeCells #[.int .u8 0] 1048576) 5)).alloc (.cells #[.int .i64 1, .slice (some ⟨w.heap.size, 0, none⟩) 1048576 1048576] 44)).alloc (.cells (madeCells #[.int .u8 0] 1048577) 5)).alloc (.cells #[.int .i64 1, .slice (some ⟨w.heap.size + 1 + 1, 0, none⟩) 1048577 1048577] 44)).heap.size = w.heap.size + 1 + 1 + 1 + 1 := by simp
  have a1 := made_in w 1048576 (w.heap.size + 1) w.heap.size rfl (by omega)
  have a3 := made_in ((w.alloc (.cells (madeCells #[.int .u8 0] 1048576) 5)).alloc (.cells #[.int .i64 1, .slice (some ⟨w.heap.size, 0, none⟩) 1048576 1048576] 44)) 1048577 (w.heap.size + 3) (w.heap.size + 1 + 1) z2.symm (by omega)
  have b14 : Below (w.heap.size + 1) (w.alloc (.cells (madeCells #[.int .u8 0] 1048576) 5)) ((((w.alloc (.cells (madeCells #[.int .u8 0] 1048576) 5)).alloc (.cells #[.int .i64 1, .slice (some ⟨w.heap.size, 0, none⟩) 1048576 1048576] 44)).alloc (.cells (madeCells #[.int .u8 0] 1048577) 5)).alloc (.cells #[.int .i64 1, .slice (some ⟨w.heap.size + 1 + 1, 0, none⟩) 1048577 1048577] 44)) := (((Below.refl _ _).alloc (by omega) _).alloc (by omega) _).alloc (by omega) _
  have b34 : Below (w.heap.size + 3) (((w.alloc (.cells (madeCells #[.int .u8 0] 1048576) 5)).alloc (.cells #[.int .i64 1, .slice (some ⟨w.heap.size, 0, none⟩) 1048576 1048576] 44)).alloc (.cells (madeCells #[.int .u8 0] 1048577) 5)) ((((w.alloc (.cells (madeCells #[.int .u8 0] 1048576) 5)).alloc (.cells #[.int .i64 1, .slice (some ⟨w.heap.size, 0, none⟩) 1048576 1048576] 44)).alloc (.cells (madeCells #[.int .u8 0] 1048577) 5)).alloc (.cells #[.int .i64 1, .slice (some ⟨w.heap.size + 1 + 1, 0, none⟩) 1048577 1048577] 44)) := (Below.refl _ _).alloc (by omega) _
  have a14 := a1.below b14 (Nat.le_refl _)
  have a34 := a3.below b34 (Nat.le_refl _)
  have hfb : ((((w.alloc (.cells (madeCells #[.int .u8 0] 1048576) 5)).alloc (.cells #[.int .i64 1, .slice (some ⟨w.heap.size, 0, none⟩) 1048576 1048576] 44)).alloc (.cells (madeCells #[.int .u8 0] 1048577) 5)).alloc (.cells #[.int .i64 1, .slice (some ⟨w.heap.size + 1 + 1, 0, none⟩) 1048577 1048577] 44)).heap[w.heap.size + 1 + 1 + 1]? = some (.cells #[.int .i64 1, .slice (some ⟨w.heap.size + 1 + 1, 0, none⟩) 1048577 1048577] 44 (0, 0)) := by
    have h := heap_alloc_new (((w.alloc (.cells (madeCells #[.int .u8 0] 1048576) 5)).alloc (.cells #[.int .i64 1, .slice (some ⟨w.heap.size, 0, none⟩) 1048576 1048576] 44)).alloc (.cells (madeCells #[.int .u8 0] 1048577) 5)) (.cells #[.int .i64 1, .slice (some ⟨w.heap.size + 1 + 1, 0, none⟩) 1048577 1048577] 44)
    rwa [z3] at h
  have b04 : Below w.heap.size w ((((w.alloc (.cells (madeCells #[.int .u8 0] 1048576) 5)).alloc (.cells #[.int .i64 1, .slice (some ⟨w.heap.size, 0, none⟩) 1048576 1048576] 44)).alloc (.cells (madeCells #[.int .u8 0] 1048577) 5)).alloc (.cells #[.int .i64 1, .slice (some ⟨w.heap.size + 1 + 1, 0, none⟩) 1048577 1048577] 44)) := ((((Below.refl _ _).alloc (Nat.le_refl _) _).alloc (by omega) _).alloc (by omega) _).alloc (by omega) _
  generalize ((((w.alloc (.cells (madeCells #[.int .u8 0] 1048576) 5)).alloc (.cells #[.int .i64 1, .slice (some ⟨w.heap.size, 0, none⟩) 1048576 1048576] 44)).alloc (.cells (madeCells #[.int .u8 0] 1048577) 5)).alloc (.cells #[.int .i64 1, .slice (some ⟨w.heap.size + 1 + 1, 0, none⟩) 1048577 1048577] 44)) = x4 at z4 a14 a34 hfb b04 ⊢
  have b5 : Below x4.heap.size x4 (x4.alloc (.cells #[.int .i64 1, .slice (some ⟨w.heap.size, 0, none⟩) 1048576 1048576, .int .i64 2, .slice none 0 0] 44)) := (Below.refl _ _).alloc (Nat.le_refl _) _
  have z5 : (x4.alloc (.cells #[.int .i64 1, .slice (some ⟨w.heap.size, 0, none⟩) 1048576 1048576, .int .i64 2, .slice none 0 0] 44)).heap.size = w.heap.size + 5 := by simp; omega
  refine ⟨b04.alloc (by omega) _, z5, ?_, ?_, ?_, ?_⟩
  · exact (a14.below b5 (by omega)).mono (by omega)
  · exact (a34.below b5 (by omega)).mono (by omega)
  · exact (b5.block _ (by omega)).trans hfb
  · have h := fr2_in x4 (w.heap.size + 1 + 1 + 1 + 1) 1 2 (some ⟨w.heap.size, 0, none⟩) none 1048576 0 zerosA [] 1048576 0 x4.heap.size z4.symm zA_len rfl (a14.mono (by omega)) (Or.inl rfl) (Nat.le_refl _)
    exact h.mono (by omega)

/-- A function's code from a region on. -/
def fromRegion (n : Nat) : Code → Option Code
  | .seq (.region i o d) c => if i = n then some (.seq (.region i o d) c) else fromRegion n c
  | .seq a b => match fromRegion n a with
    | some c => some c
    | none => fromRegion n b
  | .loop c => fromRegion n c
  | .block _ c => fromRegion n c
  | .scope c => fromRegion n c
  | .cond _ a b => match fromRegion n a with
    | some c => some c
    | none => fromRegion n b
  | _ => none
theorem putB_two (f g : Fr) : (putB [f, g]).length = 18 + f.data.length + g.data.length := by
  simp only [putB, List.flatMap_cons, List.flatMap_nil, List.length_append, frameB_len, List.length_nil]; omega
theorem putB_three (f g h : Fr) : (putB [f, g, h]).length = 27 + f.data.length + g.data.length + h.data.length := by
  simp only [putB, List.flatMap_cons, List.flatMap_nil, List.length_append, frameB_len, List.length_nil]; omega
def headOf : Code → Code
  | .seq a _ => a
  | _ => .skip
def tailOf : Code → Code
  | .seq _ b => b
  | _ => .skip
noncomputable def regAt (n : Nat) : Code := headOf ((Tryz.f5.body.bind (fromRegion n)).getD .skip)
noncomputable def afterAt (n : Nat) : Code := tailOf ((Tryz.f5.body.bind (fromRegion n)).getD .skip)
end Go.Proofs.YtgigfeppaalbcaaGreatDoor
