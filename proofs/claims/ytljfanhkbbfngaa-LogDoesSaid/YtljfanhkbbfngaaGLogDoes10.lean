/- Deeds among the arguments; light. Conditions: as each says. -/
import Derived.Test.YtljfanhkbbfngaaGLogDoes9
import Derived.Test.YtljfanhkbbfngaaGLogDoes3
import Derived.Test.YtljfanhkbbfngaaGLogDoes0
import Derived.ArgAppend
import Derived.Deep.OwnRows
import Derived.StillTailTactics
set_option linter.unusedVariables false
set_option linter.unusedSimpArgs false
namespace Go.Proofs.Ytljfanhkbbfngaa
open Go.RowKit
set_option maxRecDepth 20000
/-- A deed: its kind, index, term, whether the term is the one there, its entries. -/
structure De where
  kind : Int
  index : Int
  term : Int
  same : Bool
  eo : Option Addr
  ents : List En
  ec : Nat
def deCells (d : De) : List Value := [.int .i64 d.kind, .int .i64 d.index, .int .i64 d.term, .bool d.same, .slice d.eo d.ents.length d.ec]
def deSub (w : World) (B : Nat) (d : De) : Prop := EnsIn w B d.eo d.ents
def DesIn (w : World) (B : Nat) (ao : Option Addr) (xs : List De) : Prop := RowsIn 5 deCells deSub w B ao xs
theorem deSub_kept : Kept deSub := fun _ _ _ _ _ h hb hB => h.below enSub_kept hb hB
theorem deSub_rising : Rising deSub := fun _ _ _ _ h hB => h.mono enSub_rising hB
structure DeWf (d : De) : Prop where
  kind : (Lit.int .i64 d.kind).wf = true
  index : (Lit.int .i64 d.index).wf = true
  term : (Lit.int .i64 d.term).wf = true
  ents : ∀ e ∈ d.ents, EnWf e
  nil : d.eo = none → d.ec = 0
  cap : d.ents.length ≤ d.ec
  len : d.ents.length * 112 ≤ 140737488351232
theorem cells_de : Try.prog.cellsOf 37 = 5 := by kernel_rfl
theorem bytes_de : Try.prog.bytesOf 37 = 56 := by kernel_rfl
theorem cells_boolO : Try.prog.cellsOf 4 = 1 := by kernel_rfl
theorem cells_ensO : Try.prog.cellsOf 22 = 1 := by kernel_rfl
theorem de_el {H : Type} {enc : TypeId × Value → H} {W : World} {sp : Nat → Bool} {hd : Bool} (cs : List Value) (n : Nat) (y : DataW H) (pl : List MemPlace) (hl : cs.length = 5) (h : DataW.trod enc Try.prog W 0 sp hd n 37 cs = some (y, pl)) (hz : DSized Try.prog 37 y) :
    ∃ d : De, deCells d = cs ∧ deSub W W.heap.size d ∧ DeWf d := by
  obtain ⟨c0, c1, c2, c3, c4, rfl⟩ : ∃ c0 c1 c2 c3 c4, cs = [c0, c1, c2, c3, c4] := by
    match cs, hl with
    | [c0, c1, c2, c3, c4], _ => exact ⟨c0, c1, c2, c3, c4, rfl⟩
  obtain ⟨xs, m, _, hx, _, hlen, hf⟩ := DataW.trod_struct Try.underlying37 h
  simp only [Prod.mk.injEq] at hx
  obtain ⟨rfl, _⟩ := hx
  match xs, hlen with
  | [y0, y1, y2, y3, y4], _ =>
    have h0 := hf 0 _ rfl
    have h1 := hf 1 _ rfl
    have h2 := hf 2 _ rfl
    have h3 := hf 3 _ rfl
    have h4 := hf 4 _ rfl
    have z4 := DSized.field Try.underlying37 hz (i := 4) (y := y4) rfl rfl
    simp [cells_i64, cells_boolO, cells_ensO] at h0 h1 h2 h3 h4
    obtain ⟨k0, e0, _, w0⟩ := DataW.trod_int Try.underlying3 h0
    obtain ⟨k1, e1, _, w1⟩ := DataW.trod_int Try.underlying3 h1
    obtain ⟨k2, e2, _, w2⟩ := DataW.trod_int Try.underlying3 h2
    obtain ⟨k3, e3, _⟩ := DataW.trod_bool Try.underlying4 h3
    obtain ⟨va, vl, vc, e4, t4⟩ := slice_cell Try.underlying22 h4
    obtain ⟨es, n1, x1, wf1, nil1, c1', z1⟩ := open_entries t4 z4
    simp at e0 e1 e2 e3 e4
    subst e0 e1 e2 e3 e4
    subst n1
    exact ⟨⟨k0, k1, k2, k3, va, es, vc⟩, rfl, x1, ⟨w0, w1, w2, wf1, nil1, c1', z1⟩⟩
/-- Deeds among the arguments. -/
theorem open_deeds {H : Type} {enc : TypeId × Value → H} {W : World} {sp : Nat → Bool} {hd : Bool} {ao : Option Addr} {len cap : Nat} {d : DataW H} {p : List MemPlace} (h : DataW.Trod enc Try.prog W 0 sp hd 23 (.slice ao len cap) d p) (hz : DSized Try.prog 23 d) :
    ∃ ds : List De, ds.length = len ∧ DesIn W W.heap.size ao ds ∧ (∀ e ∈ ds, DeWf e) ∧ (ao = none → cap = 0) ∧ len ≤ cap ∧ len * 56 ≤ 140737488351232 := by
  obtain ⟨es, h1, h2, h3, h4, h5, h6⟩ := open_sized (k := 5) (cells := deCells) (sub := deSub) DeWf Try.underlying23 cells_de (by decide) de_el h hz
  rw [bytes_de] at h6
  exact ⟨es, h1, h2, h3, h4, h5, h6⟩
/-- Numbers among the arguments. -/
theorem open_nums {H : Type} {enc : TypeId × Value → H} {W : World} {sp : Nat → Bool} {hd : Bool} {ao : Option Addr} {len cap : Nat} {d : DataW H} {p : List MemPlace} (h : DataW.Trod enc Try.prog W 0 sp hd 24 (.slice ao len cap) d p) (hz : DSized Try.prog 24 d) :
    ∃ xs : List Int, xs.length = len ∧ NumsIn W W.heap.size ao xs ∧ (ao = none → cap = 0) := by
  obtain ⟨es, h1, h2, _, h4, _, _⟩ := open_sized (k := 1) (cells := iCells) (sub := noSub) (fun x => (Lit.int .i64 x).wf = true) Try.underlying24 cells_i64 (by decide) i_el h hz
  exact ⟨es, h1, h2, h4⟩
def lightD (d : De) : Bool := decide (d.ents.length ≤ 30) && plainB d.ents
def lightB (ds : List De) : Bool := ds.all lightD && decide (ds.length ≤ 60)
set_option maxHeartbeats 2000000 in
theorem light_any (ao : Option Addr) (n cap : Nat) (ds : List De) (w : World) (hn : ds.length = n) (hx : DesIn w w.heap.size ao ds) (hq : ∀ d ∈ ds, DeWf d) (hl : n * 56 ≤ 140737488351232) :
    Calls Try.prog 5 #[.slice ao n cap] w fun e w' => e = .returned (.bool (lightB ds)) ∧ Below w.heap.size w w' := by
  have HX := Lib.hid hx
  have HN := Lib.hid hn
  have HQ := Lib.hid hq
  clear hx hn hq
  go_enter Try.func5, Try.ntmps5
  go_wp2_with fail
  go_loopw [3] (fun i wr => ∃ k : Nat, k ≤ n ∧ i = .int .i64 k ∧ (ds.take k).all lightD = true ∧ Below w.heap.size w wr) (fun i _ => n - (intOf i).toNat)
  case atStart => exact ⟨0, by omega, rfl, rfl, Below.refl _ _⟩
  case round =>
    obtain ⟨k, hk, rfl, hal, hbel⟩ := hrel
    have HAL := Lib.hid hal
    have hsw := hbel.size
    clear hal
    by_cases hlt : k < n
    · have hlt' : k < ds.length := by rw [HN.out]; exact hlt
      have hkx : ds[k]? = some (ds[k]'hlt') := List.getElem?_eq_getElem hlt'
      obtain ⟨b, off, hao, hb, hc, hsub⟩ := HX.out.at hkx
      have hqx := HQ.out _ (List.getElem_mem hlt')
      have htk : (ds.take (k + 1)).all lightD = ((ds.take k).all lightD && lightD (ds[k]'hlt')) := by
        rw [List.take_succ_eq_append_getElem hlt', List.all_append]; simp
      have hin : lightB ds = true → lightD (ds[k]'hlt') = true := fun h => by
        simp only [lightB, Bool.and_eq_true, List.all_eq_true] at h
        exact h.1 _ (List.getElem_mem hlt')
      generalize ds[k]'hlt' = x at hc hsub hqx htk hin
      obtain ⟨kd, ix, tm, sm, eo, es, ec⟩ := x
      obtain ⟨m, hm⟩ : ∃ m, es.length = m := ⟨_, rfl⟩
      have c4 : wr.cell? ⟨b, off + k * 5 + 4, none⟩ = some (.slice eo m ec) := by rw [← hm]; exact (hbel.cell (p := ⟨b, _, none⟩) hb).trans (hc 4 (by decide))
      have hse : EnsIn wr wr.heap.size eo es := RowsIn.mono enSub_rising (RowsIn.below enSub_kept hsub hbel (Nat.le_refl _)) hsw
      have hld : lightD ⟨kd, ix, tm, sm, eo, es, ec⟩ = (decide (m ≤ 30) && plainB es) := by rw [← hm]; rfl
      rw [hld] at htk hin
      have HM := Lib.hid hm
      have HSE := Lib.hid hse
      have HQX := Lib.hid hqx.ents
      have HT := Lib.hid htk
      have HIN := Lib.hid hin
      have hml : m * 112 ≤ 140737488351232 := by rw [← hm]; exact hqx.len
      have i1 : (k : Int) < n := by omega
      subst hao
      clear hc hkx hsub hqx htk hin hm hse hld
      by_cases hm30 : 30 < m
      · have i2 : (30 : Int) < m := by omega
        go_wp2_with fail
        go_ret
        refine ⟨?_, hbel⟩
        cases hh : lightB ds with
        | false => rfl
        | true => have := HIN.out hh; simp at this; omega
      · have i2 : ¬ (30 : Int) < m := by omega
        have i3 : decide ((30 : Int) < m) = false := by simpa using i2
        go_wp2_with fail
        refine (plain_any eo m ec es wr HM.out HSE.out HQX.out (by omega)).mono ?_
        rintro e w3 ⟨rfl, b3⟩
        have hb3 := hbel.trans (b3.mono hsw)
        clear b3 c4
        obtain ⟨P, hP⟩ : ∃ P, plainB es = P := ⟨_, rfl⟩
        rw [hP] at HT HIN ⊢
        cases P
        · go_wp2_with fail
          go_ret
          refine ⟨?_, hb3⟩
          cases hh : lightB ds with
          | false => rfl
          | true => have := HIN.out hh; simp at this
        · go_wp2_with fail
          go_roundw
          case rel => exact ⟨k + 1, by omega, by go_num, by rw [HT.out, HAL.out]; simp; omega, hb3⟩
          case measure => simp [intOf]; omega
    · obtain rfl : k = n := by omega
      have hall : lightB ds = decide (k ≤ 60) := by
        have h := HAL.out
        rw [List.take_of_length_le (by rw [HN.out]; exact Nat.le_refl _)] at h
        simp only [lightB, h, HN.out, Bool.true_and]
      have HALL := Lib.hid hall
      clear hall
      go_wp2_with fail
      go_ret
      refine ⟨?_, hbel⟩
      rw [HALL.out]
      congr 2
      by_cases h60 : k ≤ 60
      · have : (k : Int) ≤ 60 := by omega
        simp [h60, this]
      · have : ¬ (k : Int) ≤ 60 := by omega
        simp [h60, this]
end Go.Proofs.Ytljfanhkbbfngaa
/- Rows of a call's own: what one of them is where another one grows or is written. No program. Conditions: as each says. -/
namespace Go.Proofs.Ytljfanhkbbfngaa
open Go.RowKit
/-- The marks of a row's first places. -/
def mks (mk : Nat → Nat → List Value) (k n : Nat) : List Value := (List.range n).flatMap (mk k)
theorem mks_succ (mk : Nat → Nat → List Value) (k n : Nat) : mks mk k (n + 1) = mks mk k n ++ mk k n := by
  unfold mks; rw [List.range_succ, List.flatMap_append]; simp
theorem mks_get {mk : Nat → Nat → List Value} {SZ : Nat} (h : ∀ k i, (mk k i).length = SZ) (k n i j : Nat) (hi : i < n) (hj : j < SZ) : (mks mk k n)[i * SZ + j]? = (mk k i)[j]? := by
  unfold mks
  exact flat_get (h k) (List.range n) i i (by simp [hi]) j hj
end Go.Proofs.Ytljfanhkbbfngaa
/- What is written between two marks of the heap, and nothing else. No program. Conditions: as each says. -/
namespace Go.Proofs.Ytljfanhkbbfngaa
open Go.RowKit
set_option maxRecDepth 20000
/-- Neither below B anything is changed, nor of what is from T on. -/
structure Mid (B T : Nat) (w w' : World) : Prop where
  below : Below B w w'
  far : ∀ b, T ≤ b → b < w.heap.size → w'.heap[b]? = w.heap[b]?
theorem Mid.refl (B T : Nat) (w : World) : Mid B T w w := ⟨Below.refl _ _, fun _ _ _ => rfl⟩
theorem Mid.trans_below {B T : Nat} {w w' w'' : World} (h : Mid B T w w') (hb : Below w'.heap.size w' w'') (hB : B ≤ w'.heap.size) : Mid B T w w'' :=
  ⟨h.below.trans (hb.mono hB), fun b h1 h2 => (hb.block b (Nat.lt_of_lt_of_le h2 h.below.size)).trans (h.far b h1 h2)⟩
end Go.Proofs.Ytljfanhkbbfngaa
/- What is written over keeps its shape: blocks between two marks of the heap, of certain types. No program. Conditions: as each says. -/
namespace Go.Proofs.Ytljfanhkbbfngaa
open Go.RowKit
set_option maxRecDepth 20000
/-- A block of so many cells of a type. -/
def Blk (w : World) (g : Nat) (E : TypeId) (m : Nat) : Prop := ∃ cs, w.heap[g]? = some (.cells cs E (0, 0)) ∧ cs.size = m
theorem Blk.lt {w : World} {g m : Nat} {E : TypeId} (h : Blk w g E m) : g < w.heap.size := by
  obtain ⟨cs, h, _⟩ := h
  exact (Array.getElem?_eq_some_iff.1 h).1
theorem Blk.set {w : World} {g m : Nat} {E : TypeId} (h : Blk w g E m) (b i : Nat) (v : Value) : Blk (w.setCell ⟨b, i, none⟩ v) g E m := by
  obtain ⟨cs, h, hm⟩ := h
  by_cases e : g = b
  · subst e
    exact ⟨_, heap_setCell_same w g i cs E v h, by simpa using hm⟩
  · exact ⟨cs, (heap_setCell_other w ⟨b, i, none⟩ g v e).trans h, hm⟩
theorem Blk.below {w w' : World} {g m B : Nat} {E : TypeId} (h : Blk w g E m) (hb : Below B w w') (hB : w.heap.size ≤ B) : Blk w' g E m := by
  have hl := h.lt
  obtain ⟨cs, h, hm⟩ := h
  exact ⟨cs, (hb.block g (by omega)).trans h, hm⟩
theorem Blk.cell {w : World} {g m : Nat} {E : TypeId} (h : Blk w g E m) {i : Nat} (hi : i < m) : ∃ v, w.cell? ⟨g, i, none⟩ = some v := by
  obtain ⟨cs, h, hm⟩ := h
  exact ⟨cs[i]'(by omega), (Go.Joins.cell_of_block h i).trans (Array.getElem?_eq_getElem _)⟩
theorem Blk.free {w : World} {g m : Nat} {E : TypeId} (h : Blk w g E m) (i : Nat) : w.frozen? ⟨g, i, none⟩ = false := by
  obtain ⟨cs, h, hm⟩ := h
  exact Go.Joins.unfrozen_of_block h i
theorem Blk.of_own {w : World} {B g E SZ n c : Nat} {xs : List Value} (h : w.ownsRow B E SZ (.slice (some ⟨g, 0, none⟩) n c) n xs) : Blk w g E (c * SZ) := by
  rcases h.2 with ⟨h', _⟩ | ⟨_, _, cur, h', _, k2, _, _, k5, _⟩
  · cases h'
  · cases h'
    exact ⟨cur, k2, k5⟩
/-- Blocks of certain types between B and T may be written over; all keep their shape, the others what is in them. -/
structure OverK (B T : Nat) (Ts : List TypeId) (w w' : World) : Prop where
  mid : Mid B T w w'
  blk : ∀ g E m, Blk w g E m → Blk w' g E m
  far : ∀ (g : Nat) (cs : Array Value) (E : TypeId), w.heap[g]? = some (.cells cs E (0, 0)) → E ∉ Ts → w'.heap[g]? = some (.cells cs E (0, 0))
theorem OverK.refl (B T : Nat) (Ts : List TypeId) (w : World) : OverK B T Ts w w := ⟨Mid.refl _ _ _, fun _ _ _ h => h, fun _ _ _ h _ => h⟩
theorem Mid.trans {B T : Nat} {w w' w'' : World} (h : Mid B T w w') (h2 : Mid B T w' w'') : Mid B T w w'' :=
  ⟨h.below.trans h2.below, fun b h1 h3 => (h2.far b h1 (Nat.lt_of_lt_of_le h3 h.below.size)).trans (h.far b h1 h3)⟩
theorem OverK.trans {B T : Nat} {Ts Us : List TypeId} {w w' w'' : World} (h : OverK B T Ts w w') (h2 : OverK B T Us w' w'') (hs : ∀ E, E ∈ Us → E ∈ Ts) : OverK B T Ts w w'' :=
  ⟨h.mid.trans h2.mid, fun g E m hb => h2.blk g E m (h.blk g E m hb), fun g cs E hg hE => h2.far g cs E (h.far g cs E hg hE) (fun he => hE (hs E he))⟩
theorem OverK.then_below {B T : Nat} {Ts : List TypeId} {w w' w'' : World} (h : OverK B T Ts w w') (hb : Below w'.heap.size w' w'') (hB : B ≤ w'.heap.size) : OverK B T Ts w w'' :=
  ⟨h.mid.trans_below hb hB, fun g E m hg => (h.blk g E m hg).below hb (Nat.le_refl _), fun g cs E hg hE => by
    have h1 := h.far g cs E hg hE
    exact (hb.block g (Array.getElem?_eq_some_iff.1 h1).1).trans h1⟩
theorem OverK.set {B T : Nat} {Ts : List TypeId} {w w' : World} (h : OverK B T Ts w w') {g m : Nat} {E : TypeId} (hk : Blk w' g E m) (hE : E ∈ Ts) (hB : B ≤ g) (hT : g < T) (i : Nat) (v : Value) : OverK B T Ts w (w'.setCell ⟨g, i, none⟩ v) := by
  refine ⟨⟨h.mid.below.setCell (p := ⟨g, i, none⟩) hB v, fun b h1 h2 => ?_⟩, fun b E m hb => (h.blk b E m hb).set g i v, fun b cs E' hg hE' => ?_⟩
  · rw [heap_setCell_other _ _ _ _ (by show b ≠ g; omega)]
    exact h.mid.far b h1 h2
  · have h1 := h.far b cs E' hg hE'
    by_cases e : b = g
    · subst e
      obtain ⟨cs2, h2, _⟩ := hk
      rw [h1] at h2
      cases h2
      exact absurd hE hE'
    · exact (heap_setCell_other w' ⟨g, i, none⟩ b v e).trans h1
theorem OverK.size {B T : Nat} {Ts : List TypeId} {w w' : World} (h : OverK B T Ts w w') : w.heap.size ≤ w'.heap.size := h.mid.below.size
/-- A row that may be written over, with twelve places behind its end. -/
def Room (w : World) (B T : Nat) (E : TypeId) (SZ : Nat) (a : Option Addr) (n c : Nat) : Prop := ∃ g, a = some ⟨g, 0, none⟩ ∧ B ≤ g ∧ g < T ∧ c = n + 12 ∧ Blk w g E ((n + 12) * SZ)
theorem Room.over {w w' : World} {B T n c : Nat} {E : TypeId} {SZ : Nat} {a : Option Addr} {Ts : List TypeId} (h : Room w B T E SZ a n c) (ho : OverK B T Ts w w') : Room w' B T E SZ a n c := by
  obtain ⟨g, h1, h2, h3, h4, h5⟩ := h
  exact ⟨g, h1, h2, h3, h4, ho.blk _ _ _ h5⟩
theorem Room.below {w w' : World} {B T n c : Nat} {E : TypeId} {SZ : Nat} {a : Option Addr} (h : Room w B T E SZ a n c) (hb : Below w.heap.size w w') : Room w' B T E SZ a n c := by
  obtain ⟨g, h1, h2, h3, h4, h5⟩ := h
  exact ⟨g, h1, h2, h3, h4, h5.below hb (Nat.le_refl _)⟩
end Go.Proofs.Ytljfanhkbbfngaa
/- LentBytes, KeptBytes: a row of bytes is copied with marks behind its end; as long as nobody writes there, it is found as it was. Conditions: the row has less than 2 to the 40 bytes. -/
namespace Go.Proofs.Ytljfanhkbbfngaa
open Go.RowKit
set_option maxRecDepth 20000
end Go.Proofs.Ytljfanhkbbfngaa
/- Rows of bytes that lie apart are found to do so. Conditions: each row is the call's own, in a block of its own. -/
namespace Go.Proofs.Ytljfanhkbbfngaa
open Go.RowKit
set_option maxRecDepth 20000
def markN (k i : Nat) : Int := 1000003 * ((k : Int) + 7) + i
theorem mark_at (a b : Int) (k i : Nat) (ha : a = k) (hb : b = i) (hk : k ≤ 1000000) (hi : i ≤ 2000000000000) (w : World) :
    Calls Try.prog 46 #[.int .i64 a, .int .i64 b] w fun e w' => e = .returned (.int .i64 (markN k i)) ∧ w = w' := by
  subst ha hb
  go_enter Try.func46, Try.ntmps46
  go_wp2_with fail
  go_ret
  exact ⟨rfl, rfl⟩
end Go.Proofs.Ytljfanhkbbfngaa
/- Small laws for rows whose elements take several cells. No program. Conditions: as each says. -/
namespace Go.Proofs.Ytljfanhkbbfngaa
open Go.RowKit
theorem cells_new (w : World) (T : TypeId) (cs : List Value) : ∀ j u, cs[j]? = some u → (w.alloc (.cells cs.toArray T)).cell? ((⟨w.heap.size, 0, none⟩ : Addr).add j) = some u := by
  intro j u hu
  have hadd : (⟨w.heap.size, 0, none⟩ : Addr).add j = ⟨w.heap.size, j, none⟩ := by unfold Addr.add; split <;> simp_all
  rw [hadd, World.cell?_alloc_at _ _ _ _ rfl]
  simpa using hu
end Go.Proofs.Ytljfanhkbbfngaa
/- The marks of ropewalkkit/lent.go: numbers, values, entries. Conditions: the places are not too great. -/
namespace Go.Proofs.Ytljfanhkbbfngaa
open Go.RowKit
set_option maxRecDepth 20000
def mkI (k i : Nat) : List Value := [.int .i64 (markN k i)]
theorem mkI_len (k i : Nat) : (mkI k i).length = 1 := rfl
def mkV (k i : Nat) : List Value := [.int .u8 0, .int .i64 (markN k i), .string ByteArray.empty]
theorem mkV_len (k i : Nat) : (mkV k i).length = 3 := rfl
def mkE (k i : Nat) : List Value := [.int .i64 (markN k i), .int .u8 0, .int .i64 0, .int .i64 0, .int .u8 0, .string ByteArray.empty, .slice none 0 0, .int .i64 0, .slice none 0 0]
theorem mkE_len (k i : Nat) : (mkE k i).length = 9 := rfl
theorem markI_at (a b : Int) (k i : Nat) (ha : a = k) (hb : b = i) (hk : k ≤ 1000000) (hi : i ≤ 2000000000000) (w : World) :
    Calls Try.prog 46 #[.int .i64 a, .int .i64 b] w fun e w' => e = .returned (.int .i64 (markN k i)) ∧ Below w.heap.size w w' :=
  (mark_at a b k i ha hb hk hi w).mono fun _ _ ⟨h1, h2⟩ => ⟨h1, h2 ▸ Below.refl _ _⟩
theorem markV_at (a b : Int) (k i : Nat) (ha : a = k) (hb : b = i) (hk : k ≤ 1000000) (hi : i ≤ 2000000000000) (w : World) :
    Calls Try.prog 63 #[.int .i64 a, .int .i64 b] w fun e w' => e = .returned (.agg #[.int .u8 0, .int .i64 (markN k i), .string ByteArray.empty]) ∧ Below w.heap.size w w' := by
  have hm : 0 ≤ markN k i ∧ markN k i ≤ 4000000000000 := by unfold markN; omega
  have hc := mark_at a b k i ha hb hk hi
  generalize markN k i = m at hm hc
  have HC := Lib.hid hc
  clear hc ha hb
  go_enter Try.func63, Try.ntmps63
  go_wp2_with fail
  refine (HC.out _).mono ?_
  rintro e w' ⟨rfl, rfl⟩
  go_wp2_with fail
  exact bodyPost_ret (v := .agg #[.int .u8 0, .int .i64 m, .string ByteArray.empty]) (by simp [results, Try.results63, go_sem]; rfl) rfl ⟨rfl, (Below.refl _ _).alloc (Nat.le_refl _) _⟩
theorem markE_at (a b : Int) (k i : Nat) (ha : a = k) (hb : b = i) (hk : k ≤ 1000000) (hi : i ≤ 2000000000000) (w : World) :
    Calls Try.prog 28 #[.int .i64 a, .int .i64 b] w fun e w' => e = .returned (.agg #[.int .i64 (markN k i), .int .u8 0, .int .i64 0, .int .i64 0, .int .u8 0, .string ByteArray.empty, .slice none 0 0, .int .i64 0, .slice none 0 0]) ∧ Below w.heap.size w w' := by
  have hm : 0 ≤ markN k i ∧ markN k i ≤ 4000000000000 := by unfold markN; omega
  have hc := mark_at a b k i ha hb hk hi
  generalize markN k i = m at hm hc
  have HC := Lib.hid hc
  clear hc ha hb
  go_enter Try.func28, Try.ntmps28
  go_wp2_with fail
  refine (HC.out _).mono ?_
  rintro e w' ⟨rfl, rfl⟩
  go_wp2_with fail
  exact bodyPost_ret (v := .agg #[.int .i64 m, .int .u8 0, .int .i64 0, .int .i64 0, .int .u8 0, .string ByteArray.empty, .slice none 0 0, .int .i64 0, .slice none 0 0]) (by simp [results, Try.results28, go_sem]; rfl) rfl ⟨rfl, (Below.refl _ _).alloc (Nat.le_refl _) _⟩
theorem markI_is (a b : Int) (k i : Nat) (m : Int) (hm : markN k i = m) (ha : a = k) (hb : b = i) (hk : k ≤ 1000000) (hi : i ≤ 2000000000000) (w : World) :
    Calls Try.prog 46 #[.int .i64 a, .int .i64 b] w fun e w' => e = .returned (.int .i64 m) ∧ Below w.heap.size w w' := hm ▸ markI_at a b k i ha hb hk hi w
theorem markV_is (a b : Int) (k i : Nat) (m : Int) (hm : markN k i = m) (ha : a = k) (hb : b = i) (hk : k ≤ 1000000) (hi : i ≤ 2000000000000) (w : World) :
    Calls Try.prog 63 #[.int .i64 a, .int .i64 b] w fun e w' => e = .returned (.agg #[.int .u8 0, .int .i64 m, .string ByteArray.empty]) ∧ Below w.heap.size w w' := hm ▸ markV_at a b k i ha hb hk hi w
theorem markE_is (a b : Int) (k i : Nat) (m : Int) (hm : markN k i = m) (ha : a = k) (hb : b = i) (hk : k ≤ 1000000) (hi : i ≤ 2000000000000) (w : World) :
    Calls Try.prog 28 #[.int .i64 a, .int .i64 b] w fun e w' => e = .returned (.agg #[.int .i64 m, .int .u8 0, .int .i64 0, .int .i64 0, .int .u8 0, .string ByteArray.empty, .slice none 0 0, .int .i64 0, .slice none 0 0]) ∧ Below w.heap.size w w' := hm ▸ markE_at a b k i ha hb hk hi w
/-- Equal marks are the same entries. -/
theorem sameMarkE (n : Int) (w : World) : Calls Try.prog 31 #[.agg #[.int .i64 n, .int .u8 0, .int .i64 0, .int .i64 0, .int .u8 0, .string ByteArray.empty, .slice none 0 0, .int .i64 0, .slice none 0 0], .agg #[.int .i64 n, .int .u8 0, .int .i64 0, .int .i64 0, .int .u8 0, .string ByteArray.empty, .slice none 0 0, .int .i64 0, .slice none 0 0]] w fun e w' => e = .returned (.bool true) ∧ Below w.heap.size w w' :=
  sameE_any ⟨n, 0, 0, 0, 0, ByteArray.empty, none, [], 0, 0, none, [], 0⟩ ⟨n, 0, 0, 0, 0, ByteArray.empty, none, [], 0, 0, none, [], 0⟩ w w.heap.size rfl ⟨Or.inl rfl, Or.inl rfl⟩ ⟨Or.inl rfl, Or.inl rfl⟩ (Nat.le_refl _) (by simp) (by simp)
end Go.Proofs.Ytljfanhkbbfngaa
/- LentValues, KeptValues, OverValues: a row is copied with marks behind its end; as long as nobody writes there it is found as it was; it is written over. Conditions: the row is not too long. -/
namespace Go.Proofs.Ytljfanhkbbfngaa
open Go.RowKit
set_option maxRecDepth 20000
theorem eql_val (t : TypeId) (h : t = 76) (a b : Int) (s : ByteArray) (w : World) : (binOp .eql t (.agg #[.int .u8 a, .int .i64 b, .string s]) (.agg #[.int .u8 a, .int .i64 b, .string s])).run Try.prog w = .ok (.bool true) w := by
  subst h
  simp [go_sem, Try.underlying76]
/-- Block g holds the row xs and twelve marks behind it. -/
def LentV (w : World) (B g : Nat) (xs : List Va) : Prop :=
  w.ownsRow B 76 3 (.slice (some ⟨g, 0, none⟩) (xs.length + 12) (xs.length + 12)) (xs.length + 12) (xs.flatMap vaCells ++ mks mkV 1 12)
def LentVPost (xs : List Va) (n : Nat) (w : World) (e : Ending) (w' : World) : Prop :=
  ∃ g, e = .returned (.slice (some ⟨g, 0, none⟩) n (n + 12)) ∧ w.heap.size ≤ g ∧ g < w'.heap.size ∧ LentV w' w.heap.size g xs ∧ Below w.heap.size w w'
theorem LentV.lt {w : World} {B g : Nat} {xs : List Va} (h : LentV w B g xs) : B ≤ g ∧ g < w.heap.size := World.ownsRow.lt h g rfl
theorem LentV.below {w w' : World} {B g B' : Nat} {xs : List Va} (h : LentV w B g xs) (hb : Below B' w w') (hB : w.heap.size ≤ B') : LentV w' B g xs := own_below h hb hB
theorem LentV.le {w : World} {B B' g : Nat} {xs : List Va} (h : LentV w B g xs) (hB : B' ≤ B) : LentV w B' g xs := Go.Joins.ownsRow_le h hB
theorem LentV.rows {w : World} {B g : Nat} {xs : List Va} (h : LentV w B g xs) : RowsIn 3 vaCells noSub w (g + 1) (some ⟨g, 0, none⟩) xs := by
  refine Or.inr ⟨g, 0, rfl, by omega, fun i x hx => ⟨fun j hj => ?_, trivial⟩⟩
  have hi := (List.getElem?_eq_some_iff.1 hx).1
  have hl := flat_len vaCells_len xs
  rw [Nat.zero_add, World.ownsRow.cellAt h _ (by omega), List.getElem?_append_left (by omega)]
  exact flat_get vaCells_len xs i x hx j hj
theorem LentV.mark {w : World} {B g : Nat} {xs : List Va} (h : LentV w B g xs) {i : Nat} (hi : i < 12) (j : Nat) (hj : j < 3) : w.cell? ⟨g, (xs.length + i) * 3 + j, none⟩ = (mkV 1 i)[j]? := by
  have hl := flat_len vaCells_len xs
  rw [World.ownsRow.cellAt h _ (by omega), List.getElem?_append_right (by omega), hl, show (xs.length + i) * 3 + j - xs.length * 3 = i * 3 + j by omega]
  exact mks_get mkV_len 1 12 i j hi hj
set_option maxHeartbeats 1000000 in
theorem lentV_any (ao : Option Addr) (n cap : Nat) (xs : List Va) (w : World) (hn : xs.length = n) (hx : RowsIn 3 vaCells noSub w w.heap.size ao xs) (hao : ao = none → cap = 0) (hl : n ≤ 1099511627776) :
    Calls Try.prog 57 #[.slice ao n cap] w (LentVPost xs n w) := by
  subst hn
  obtain ⟨i0, hi, hz0, hz1, hz2⟩ := info_parts infoVa
  have hm1 : (0 : Int) ≤ (xs.length : Int) + 12 := by omega
  have HX := Lib.hid hx
  clear hx
  go_enter Try.func57, Try.ntmps57
  go_wp2_with (at_make; refine wpList_make_own _ rfl _ _ 55 rfl w.heap.size 76 i0 (.agg #[.int .u8 0, .int .i64 0, .string ByteArray.empty]) 3 Try.underlying55 hi hz0 hz1 .i64 .i64 _ (xs.length + 12) rfl rfl (by omega) (by rw [hz2]; omega) (by unfold maxLen; omega) (Nat.le_refl _) ?_)
  intro w1 hown1 hg1
  have hb1 : Below w.heap.size w w1 := (Below.refl _ _).grown hg1 (Nat.le_refl _) (fun k hk => by cases hk)
  have hnone : ao = none → xs.length = 0 ∧ cap = 0 := fun h => ⟨by rcases HX.out with h0 | ⟨b, off, h1, _⟩; (rw [h0]; rfl); (rw [h] at h1; cases h1), hao h⟩
  have hcell : ∀ ad, ao = some ad → ∀ (j : Nat) u, (xs.flatMap vaCells)[j]? = some u → w1.cell? (ad.add j) = some u := fun ad had j u hu => cells_of_rows vaCells_len (by decide) HX.out hb1 had hu
  have hone : ∀ u ∈ xs.flatMap vaCells, u.oneCell' = true := fun u hu => by obtain ⟨y, _, hy⟩ := List.mem_flatMap.1 hu; exact vaCells_one y u hy
  go_wp2_with (at_builtin; refine wpList_append_fits_any _ rfl (.tmp 9) (.tmp 10) 55 rfl w.heap.size 76 i0 3 Try.underlying55 hi hz1 w.heap.size 0 (xs.length + 12) [] rfl hown1 ao xs.length cap (xs.flatMap vaCells) rfl (flat_len vaCells_len xs) hnone hcell hone (by omega) ?_)
  intro w2 hown2 hg2
  have hb2 : Below w.heap.size w w2 := hb1.grown hg2 (hb1.size) (fun k hk => by cases hk; exact Nat.le_refl _)
  have HO2 := Lib.hid (show w2.ownsRow w.heap.size 76 3 (.slice (some ⟨w.heap.size, 0, none⟩) (xs.length + 0) (xs.length + 12)) (xs.length + 0) (xs.flatMap vaCells ++ mks mkV 1 0) by simpa [mks] using hown2)
  clear hnone hcell hone hown1 hown2 hg1 hg2 hb1
  go_wp2_with fail
  go_loopw [3, 4] (fun v i wr => ∃ k : Nat, k ≤ 12 ∧ i = .int .i64 k ∧ v = .slice (some ⟨w.heap.size, 0, none⟩) (xs.length + k) (xs.length + 12) ∧ wr.ownsRow w.heap.size 76 3 (.slice (some ⟨w.heap.size, 0, none⟩) (xs.length + k) (xs.length + 12)) (xs.length + k) (xs.flatMap vaCells ++ mks mkV 1 k) ∧ Below w.heap.size w wr) (fun _ i _ => 12 - (intOf i).toNat)
  case atStart => exact ⟨0, by omega, rfl, rfl, HO2.out, hb2⟩
  case round =>
    clear hb2 HO2
    obtain ⟨k, hk, rfl, rfl, hown, hbel⟩ := hrel
    have HO := Lib.hid hown
    clear hown
    by_cases hlt : k < 12
    · obtain ⟨mm, hmm⟩ : ∃ mm, markN 1 k = mm := ⟨_, rfl⟩
      have hmk : mkV 1 k = [.int .u8 0, .int .i64 mm, .string ByteArray.empty] := by rw [← hmm]; rfl
      have HMM := Lib.hid hmm
      have HMK := Lib.hid hmk
      clear hmm hmk
      go_wp2_with fail
      refine (markV_is 1 _ 1 k mm HMM.out (by omega) rfl (by omega) (by omega) _).mono ?_
      rintro e w3 ⟨rfl, hb3⟩
      have ho3 := own_below HO.out hb3 (Nat.le_refl _)
      have hb4 := hbel.trans (hb3.mono hbel.size)
      have hs4 := hb4.size
      have HO3 := Lib.hid ho3
      clear ho3 hb3 hbel
      go_wp2_with (at_builtin; refine wpList_append_fits _ rfl (.tmp 16) (.tmp 19) 55 rfl w.heap.size 76 i0 3 Try.underlying55 hi hz1 w.heap.size (xs.length + k) (xs.length + 12) (xs.flatMap vaCells ++ mks mkV 1 k) rfl (World.ownsRow.alloc HO3.out _) ⟨w3.heap.size, 0, none⟩ 1 1 [.int .u8 0, .int .i64 mm, .string ByteArray.empty] rfl rfl (cells_new w3 76 [.int .u8 0, .int .i64 mm, .string ByteArray.empty]) (by simp [Value.oneCell']) (by omega) ?_)
      intro w5 hown5 hg5
      have hb5 : Below w.heap.size w w5 := (hb4.alloc hs4 _).grown hg5 (by simp; omega) (fun k hk => by cases hk; exact Nat.le_refl _)
      have ho5 : w5.ownsRow w.heap.size 76 3 (.slice (some ⟨w.heap.size, 0, none⟩) (xs.length + (k + 1)) (xs.length + 12)) (xs.length + (k + 1)) (xs.flatMap vaCells ++ mks mkV 1 (k + 1)) := by
        rw [mks_succ, HMK.out, ← Nat.add_assoc]; simpa using hown5
      have HO5 := Lib.hid ho5
      clear hown5 hg5 ho5
      go_wp2_with fail
      go_roundw
      case rel => exact ⟨k + 1, by omega, by go_num, by rw [Nat.add_assoc], HO5.out, hb5⟩
      case measure => simp [intOf]; omega
    · obtain rfl : k = 12 := by omega
      go_wp2_with fail
      go_ret
      exact ⟨w.heap.size, rfl, Nat.le_refl _, (World.ownsRow.lt HO.out _ rfl).2, HO.out, hbel⟩
set_option maxHeartbeats 1000000 in
theorem keptV_any (ao : Option Addr) (n cap g B : Nat) (xs : List Va) (w : World) (hn : xs.length = n) (hx : RowsIn 3 vaCells noSub w w.heap.size ao xs) (hL : LentV w B g xs) (hl : n ≤ 1099511627776) :
    Calls Try.prog 58 #[.slice (some ⟨g, 0, none⟩) n (n + 12 : Nat), .slice ao n cap] w fun e w' => e = .returned (.bool true) ∧ Below w.heap.size w w' := by
  subst hn
  have heq : ∀ (a b : Int) (s : ByteArray) (w : World), (binOp .eql 76 (.agg #[.int .u8 a, .int .i64 b, .string s]) (.agg #[.int .u8 a, .int .i64 b, .string s])).run Try.prog w = .ok (.bool true) w := eql_val _ rfl
  have HX := Lib.hid hx
  have HL := Lib.hid hL
  have hgl := hL.lt.2
  clear hx hL
  go_enter Try.func58, Try.ntmps58
  go_wp2_with fail
  go_loopw [6] (fun i wr => ∃ k : Nat, k ≤ xs.length + 12 ∧ i = .int .i64 k ∧ Below w.heap.size w wr) (fun i _ => xs.length + 12 - (intOf i).toNat)
  case atStart => exact ⟨0, by omega, rfl, Below.refl _ _⟩
  case round =>
    obtain ⟨k, hk, rfl, hbel⟩ := hrel
    by_cases hlt : k < xs.length
    · have hkx : xs[k]? = some xs[k] := List.getElem?_eq_getElem hlt
      obtain ⟨b, off, hao, hb, hc, _⟩ := HX.out.at hkx
      obtain ⟨b2, off2, hao2, _, hc2, _⟩ := HL.out.rows.at hkx
      cases hao2
      generalize xs[k] = x at hc hc2
      obtain ⟨kd, num, text⟩ := x
      simp only [Nat.zero_add] at hc2
      subst hao
      have c0 : ∀ y : Calm w.heap.size w, y.1.cell? ⟨b, off + k * 3, none⟩ = some (.int .u8 kd) := fun y => y.cell (hc 0 (by decide)) hb
      have c1 : ∀ y : Calm w.heap.size w, y.1.cell? ⟨b, off + k * 3 + 1, none⟩ = some (.int .i64 num) := fun y => y.cell (hc 1 (by decide)) hb
      have c2 : ∀ y : Calm w.heap.size w, y.1.cell? ⟨b, off + k * 3 + 2, none⟩ = some (.string text) := fun y => y.cell (hc 2 (by decide)) hb
      have e0 : ∀ y : Calm w.heap.size w, y.1.cell? ⟨g, k * 3, none⟩ = some (.int .u8 kd) := fun y => y.cell (hc2 0 (by decide)) hgl
      have e1 : ∀ y : Calm w.heap.size w, y.1.cell? ⟨g, k * 3 + 1, none⟩ = some (.int .i64 num) := fun y => y.cell (hc2 1 (by decide)) hgl
      have e2 : ∀ y : Calm w.heap.size w, y.1.cell? ⟨g, k * 3 + 2, none⟩ = some (.string text) := fun y => y.cell (hc2 2 (by decide)) hgl
      have i1 : (k : Int) < xs.length := by omega
      have d1 : decide (xs.length ≤ k) = false := by simp; omega
      clear hc hc2 hkx
      go_wp2_with fail
      refine wp_region_calm (B := w.heap.size) (W0 := w) hbel (by kernel_rfl) (by kernel_rfl) ?_
      repeat (go_big_quiet_step (fail))
      refine wpQuiet_nil ?_
      intro w5 hb5
      clear c0 e0 c1 e1 c2 e2
      go_wp2_with fail
      go_roundw
      case rel => exact ⟨k + 1, by omega, by go_num, hb5⟩
      case measure => simp [intOf]; omega
    · by_cases hlt2 : k < xs.length + 12
      · obtain ⟨m, rfl⟩ : ∃ m, k = xs.length + m := ⟨k - xs.length, by omega⟩
        obtain ⟨mm, hmm⟩ : ∃ mm, markN 1 m = mm := ⟨_, rfl⟩
        have hmk : mkV 1 m = [.int .u8 0, .int .i64 mm, .string ByteArray.empty] := by rw [← hmm]; rfl
        have HMM := Lib.hid hmm
        have HMK := Lib.hid hmk
        clear hmm hmk
        have e0 : ∀ y : Calm w.heap.size w, y.1.cell? ⟨g, (xs.length + m) * 3, none⟩ = some (.int .u8 0) := fun y => y.cell (by have := HL.out.mark (i := m) (by omega) 0 (by decide); rw [HMK.out] at this; simpa using this) hgl
        have e1 : ∀ y : Calm w.heap.size w, y.1.cell? ⟨g, (xs.length + m) * 3 + 1, none⟩ = some (.int .i64 mm) := fun y => y.cell (by have := HL.out.mark (i := m) (by omega) 1 (by decide); rw [HMK.out] at this; simpa using this) hgl
        have e2 : ∀ y : Calm w.heap.size w, y.1.cell? ⟨g, (xs.length + m) * 3 + 2, none⟩ = some (.string ByteArray.empty) := fun y => y.cell (by have := HL.out.mark (i := m) (by omega) 2 (by decide); rw [HMK.out] at this; simpa using this) hgl
        have i1 : ¬ (xs.length : Int) + m < xs.length := by omega
        have i2 : (xs.length : Int) + m < xs.length + 12 := by omega
        have d1 : decide ((xs.length : Int) + m < xs.length) = false := by simp; omega
        have n1 : ((xs.length : Int) + m).toNat = xs.length + m := by omega
        have n2 : IntKind.i64.wrap (m : Int) = m := IntWalk.i64_in _ (by omega)
        have n3 : (0 : Int) ≤ (xs.length : Int) + m := by omega
        go_wp2_with fail
        refine wp_region_calm (B := w.heap.size) (W0 := w) hbel (by kernel_rfl) (by kernel_rfl) ?_
        repeat (go_big_quiet_step ((go_at_call 63; exact Calm.call (Nat.le_refl _) (markV_is 1 _ 1 m mm HMM.out (by omega) (by omega) (by omega) (by omega) _))))
        refine wpQuiet_nil ?_
        intro w5 hb5
        clear e0 e1 e2
        go_wp2_with fail
        go_roundw
        case rel => exact ⟨xs.length + m + 1, by omega, by go_num, hb5⟩
        case measure => simp [intOf]; omega
      · go_wp2_with fail
        go_ret
        exact ⟨rfl, hbel⟩
end Go.Proofs.Ytljfanhkbbfngaa
/- LentInts, KeptInts, OverInts: a row is copied with marks behind its end; as long as nobody writes there it is found as it was; it is written over. Conditions: the row is not too long. -/
namespace Go.Proofs.Ytljfanhkbbfngaa
open Go.RowKit
set_option maxRecDepth 20000
/-- Block g holds the row xs and twelve marks behind it. -/
def LentI (w : World) (B g : Nat) (xs : List Int) : Prop :=
  w.ownsRow B 3 1 (.slice (some ⟨g, 0, none⟩) (xs.length + 12) (xs.length + 12)) (xs.length + 12) (xs.flatMap iCells ++ mks mkI 1 12)
def LentIPost (xs : List Int) (n : Nat) (w : World) (e : Ending) (w' : World) : Prop :=
  ∃ g, e = .returned (.slice (some ⟨g, 0, none⟩) n (n + 12)) ∧ w.heap.size ≤ g ∧ g < w'.heap.size ∧ LentI w' w.heap.size g xs ∧ Below w.heap.size w w'
theorem LentI.lt {w : World} {B g : Nat} {xs : List Int} (h : LentI w B g xs) : B ≤ g ∧ g < w.heap.size := World.ownsRow.lt h g rfl
theorem LentI.below {w w' : World} {B g B' : Nat} {xs : List Int} (h : LentI w B g xs) (hb : Below B' w w') (hB : w.heap.size ≤ B') : LentI w' B g xs := own_below h hb hB
theorem LentI.le {w : World} {B B' g : Nat} {xs : List Int} (h : LentI w B g xs) (hB : B' ≤ B) : LentI w B' g xs := Go.Joins.ownsRow_le h hB
theorem LentI.rows {w : World} {B g : Nat} {xs : List Int} (h : LentI w B g xs) : RowsIn 1 iCells noSub w (g + 1) (some ⟨g, 0, none⟩) xs := by
  refine Or.inr ⟨g, 0, rfl, by omega, fun i x hx => ⟨fun j hj => ?_, trivial⟩⟩
  have hi := (List.getElem?_eq_some_iff.1 hx).1
  have hl := flat_len iCells_len xs
  rw [Nat.zero_add, World.ownsRow.cellAt h _ (by omega), List.getElem?_append_left (by omega)]
  exact flat_get iCells_len xs i x hx j hj
theorem LentI.mark {w : World} {B g : Nat} {xs : List Int} (h : LentI w B g xs) {i : Nat} (hi : i < 12) (j : Nat) (hj : j < 1) : w.cell? ⟨g, (xs.length + i) * 1 + j, none⟩ = (mkI 1 i)[j]? := by
  have hl := flat_len iCells_len xs
  rw [World.ownsRow.cellAt h _ (by omega), List.getElem?_append_right (by omega), hl, show (xs.length + i) * 1 + j - xs.length * 1 = i * 1 + j by omega]
  exact mks_get mkI_len 1 12 i j hi hj
set_option maxHeartbeats 1000000 in
theorem lentI_any (ao : Option Addr) (n cap : Nat) (xs : List Int) (w : World) (hn : xs.length = n) (hx : RowsIn 1 iCells noSub w w.heap.size ao xs) (hao : ao = none → cap = 0) (hl : n ≤ 1099511627776) :
    Calls Try.prog 45 #[.slice ao n cap] w (LentIPost xs n w) := by
  subst hn
  obtain ⟨i0, hi, hz0, hz1, hz2⟩ := info_parts infoI
  have hm1 : (0 : Int) ≤ (xs.length : Int) + 12 := by omega
  have HX := Lib.hid hx
  clear hx
  go_enter Try.func45, Try.ntmps45
  go_wp2_with (at_make; refine wpList_make_own _ rfl _ _ 24 rfl w.heap.size 3 i0 (.int .i64 0) 1 Try.underlying24 hi hz0 hz1 .i64 .i64 _ (xs.length + 12) rfl rfl (by omega) (by rw [hz2]; omega) (by unfold maxLen; omega) (Nat.le_refl _) ?_)
  intro w1 hown1 hg1
  have hb1 : Below w.heap.size w w1 := (Below.refl _ _).grown hg1 (Nat.le_refl _) (fun k hk => by cases hk)
  have hnone : ao = none → xs.length = 0 ∧ cap = 0 := fun h => ⟨by rcases HX.out with h0 | ⟨b, off, h1, _⟩; (rw [h0]; rfl); (rw [h] at h1; cases h1), hao h⟩
  have hcell : ∀ ad, ao = some ad → ∀ (j : Nat) u, (xs.flatMap iCells)[j]? = some u → w1.cell? (ad.add j) = some u := fun ad had j u hu => cells_of_rows iCells_len (by decide) HX.out hb1 had hu
  have hone : ∀ u ∈ xs.flatMap iCells, u.oneCell' = true := fun u hu => by obtain ⟨y, _, hy⟩ := List.mem_flatMap.1 hu; exact iCells_one y u hy
  go_wp2_with (at_builtin; refine wpList_append_fits_any _ rfl (.tmp 9) (.tmp 10) 24 rfl w.heap.size 3 i0 1 Try.underlying24 hi hz1 w.heap.size 0 (xs.length + 12) [] rfl hown1 ao xs.length cap (xs.flatMap iCells) rfl (flat_len iCells_len xs) hnone hcell hone (by omega) ?_)
  intro w2 hown2 hg2
  have hb2 : Below w.heap.size w w2 := hb1.grown hg2 (hb1.size) (fun k hk => by cases hk; exact Nat.le_refl _)
  have HO2 := Lib.hid (show w2.ownsRow w.heap.size 3 1 (.slice (some ⟨w.heap.size, 0, none⟩) (xs.length + 0) (xs.length + 12)) (xs.length + 0) (xs.flatMap iCells ++ mks mkI 1 0) by simpa [mks] using hown2)
  clear hnone hcell hone hown1 hown2 hg1 hg2 hb1
  go_wp2_with fail
  go_loopw [3, 4] (fun v i wr => ∃ k : Nat, k ≤ 12 ∧ i = .int .i64 k ∧ v = .slice (some ⟨w.heap.size, 0, none⟩) (xs.length + k) (xs.length + 12) ∧ wr.ownsRow w.heap.size 3 1 (.slice (some ⟨w.heap.size, 0, none⟩) (xs.length + k) (xs.length + 12)) (xs.length + k) (xs.flatMap iCells ++ mks mkI 1 k) ∧ Below w.heap.size w wr) (fun _ i _ => 12 - (intOf i).toNat)
  case atStart => exact ⟨0, by omega, rfl, rfl, HO2.out, hb2⟩
  case round =>
    clear hb2 HO2
    obtain ⟨k, hk, rfl, rfl, hown, hbel⟩ := hrel
    have HO := Lib.hid hown
    clear hown
    by_cases hlt : k < 12
    · obtain ⟨mm, hmm⟩ : ∃ mm, markN 1 k = mm := ⟨_, rfl⟩
      have hmk : mkI 1 k = [.int .i64 mm] := by rw [← hmm]; rfl
      have HMM := Lib.hid hmm
      have HMK := Lib.hid hmk
      clear hmm hmk
      go_wp2_with fail
      refine (markI_is 1 _ 1 k mm HMM.out (by omega) rfl (by omega) (by omega) _).mono ?_
      rintro e w3 ⟨rfl, hb3⟩
      have ho3 := own_below HO.out hb3 (Nat.le_refl _)
      have hb4 := hbel.trans (hb3.mono hbel.size)
      have hs4 := hb4.size
      have HO3 := Lib.hid ho3
      clear ho3 hb3 hbel
      go_wp2_with (at_builtin; refine wpList_append_fits _ rfl (.tmp 16) (.tmp 19) 24 rfl w.heap.size 3 i0 1 Try.underlying24 hi hz1 w.heap.size (xs.length + k) (xs.length + 12) (xs.flatMap iCells ++ mks mkI 1 k) rfl (World.ownsRow.alloc HO3.out _) ⟨w3.heap.size, 0, none⟩ 1 1 [.int .i64 mm] rfl rfl (cells_new w3 3 [.int .i64 mm]) (by simp [Value.oneCell']) (by omega) ?_)
      intro w5 hown5 hg5
      have hb5 : Below w.heap.size w w5 := (hb4.alloc hs4 _).grown hg5 (by simp; omega) (fun k hk => by cases hk; exact Nat.le_refl _)
      have ho5 : w5.ownsRow w.heap.size 3 1 (.slice (some ⟨w.heap.size, 0, none⟩) (xs.length + (k + 1)) (xs.length + 12)) (xs.length + (k + 1)) (xs.flatMap iCells ++ mks mkI 1 (k + 1)) := by
        rw [mks_succ, HMK.out, ← Nat.add_assoc]; simpa using hown5
      have HO5 := Lib.hid ho5
      clear hown5 hg5 ho5
      go_wp2_with fail
      go_roundw
      case rel => exact ⟨k + 1, by omega, by go_num, by rw [Nat.add_assoc], HO5.out, hb5⟩
      case measure => simp [intOf]; omega
    · obtain rfl : k = 12 := by omega
      go_wp2_with fail
      go_ret
      exact ⟨w.heap.size, rfl, Nat.le_refl _, (World.ownsRow.lt HO.out _ rfl).2, HO.out, hbel⟩
set_option maxHeartbeats 1000000 in
theorem keptI_any (ao : Option Addr) (n cap g B : Nat) (xs : List Int) (w : World) (hn : xs.length = n) (hx : RowsIn 1 iCells noSub w w.heap.size ao xs) (hL : LentI w B g xs) (hl : n ≤ 1099511627776) :
    Calls Try.prog 50 #[.slice (some ⟨g, 0, none⟩) n (n + 12 : Nat), .slice ao n cap] w fun e w' => e = .returned (.bool true) ∧ Below w.heap.size w w' := by
  subst hn
  have HX := Lib.hid hx
  have HL := Lib.hid hL
  have hgl := hL.lt.2
  clear hx hL
  go_enter Try.func50, Try.ntmps50
  go_wp2_with fail
  go_loopw [6] (fun i wr => ∃ k : Nat, k ≤ xs.length + 12 ∧ i = .int .i64 k ∧ Below w.heap.size w wr) (fun i _ => xs.length + 12 - (intOf i).toNat)
  case atStart => exact ⟨0, by omega, rfl, Below.refl _ _⟩
  case round =>
    obtain ⟨k, hk, rfl, hbel⟩ := hrel
    by_cases hlt : k < xs.length
    · have hkx : xs[k]? = some xs[k] := List.getElem?_eq_getElem hlt
      obtain ⟨b, off, hao, hb, hc, _⟩ := HX.out.at hkx
      obtain ⟨b2, off2, hao2, _, hc2, _⟩ := HL.out.rows.at hkx
      cases hao2
      generalize xs[k] = x at hc hc2
      simp only [Nat.zero_add] at hc2
      subst hao
      have c0 : ∀ y : Calm w.heap.size w, y.1.cell? ⟨b, off + k, none⟩ = some (.int .i64 x) := fun y => y.cell (by simpa [iCells] using hc 0 (by decide)) hb
      have e0 : ∀ y : Calm w.heap.size w, y.1.cell? ⟨g, k, none⟩ = some (.int .i64 x) := fun y => y.cell (by simpa [iCells] using hc2 0 (by decide)) hgl
      have i1 : (k : Int) < xs.length := by omega
      have d1 : decide (xs.length ≤ k) = false := by simp; omega
      clear hc hc2 hkx
      go_wp2_with fail
      refine wp_region_calm (B := w.heap.size) (W0 := w) hbel (by kernel_rfl) (by kernel_rfl) ?_
      repeat (go_big_quiet_step (fail))
      refine wpQuiet_nil ?_
      intro w5 hb5
      clear c0 e0
      go_wp2_with fail
      go_roundw
      case rel => exact ⟨k + 1, by omega, by go_num, hb5⟩
      case measure => simp [intOf]; omega
    · by_cases hlt2 : k < xs.length + 12
      · obtain ⟨m, rfl⟩ : ∃ m, k = xs.length + m := ⟨k - xs.length, by omega⟩
        obtain ⟨mm, hmm⟩ : ∃ mm, markN 1 m = mm := ⟨_, rfl⟩
        have hmk : mkI 1 m = [.int .i64 mm] := by rw [← hmm]; rfl
        have HMM := Lib.hid hmm
        have HMK := Lib.hid hmk
        clear hmm hmk
        have e0 : ∀ y : Calm w.heap.size w, y.1.cell? ⟨g, xs.length + m, none⟩ = some (.int .i64 mm) := fun y => y.cell (by have := HL.out.mark (i := m) (by omega) 0 (by decide); rw [HMK.out] at this; simpa using this) hgl
        have i1 : ¬ (xs.length : Int) + m < xs.length := by omega
        have i2 : (xs.length : Int) + m < xs.length + 12 := by omega
        have d1 : decide ((xs.length : Int) + m < xs.length) = false := by simp; omega
        have n1 : ((xs.length : Int) + m).toNat = xs.length + m := by omega
        have n2 : IntKind.i64.wrap (m : Int) = m := IntWalk.i64_in _ (by omega)
        have n3 : (0 : Int) ≤ (xs.length : Int) + m := by omega
        go_wp2_with fail
        refine wp_region_calm (B := w.heap.size) (W0 := w) hbel (by kernel_rfl) (by kernel_rfl) ?_
        repeat (go_big_quiet_step ((go_at_call 46; exact Calm.call (Nat.le_refl _) (markI_is 1 _ 1 m mm HMM.out (by omega) (by omega) (by omega) (by omega) _))))
        refine wpQuiet_nil ?_
        intro w5 hb5
        clear e0
        go_wp2_with fail
        go_roundw
        case rel => exact ⟨xs.length + m + 1, by omega, by go_num, hb5⟩
        case measure => simp [intOf]; omega
      · go_wp2_with fail
        go_ret
        exact ⟨rfl, hbel⟩
end Go.Proofs.Ytljfanhkbbfngaa
