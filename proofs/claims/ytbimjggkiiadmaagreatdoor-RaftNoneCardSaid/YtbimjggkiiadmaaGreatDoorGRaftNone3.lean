/- A peer, plain: its cells one after the other. No program's run. -/
import Derived.Test.YtbimjggkiiadmaaGreatDoorGRaftNone2
import Derived.Deep.Cut
import Derived.Deep.MidRow
import Derived.Laws.Tables
import Derived.RangeFuncNested
import Derived.RangeFuncLeaves
import Derived.Shelf.Abstract
import Derived.WalkKit
import Derived.OwnWalkIn
import Derived.TacticsInMore
import Derived.LoopNIn
import Derived.LoopIn
import Derived.Test.YtbimjggkiiadmaaGreatDoorGRaftNone0
import Derived.Deep.RegionHeld3
set_option linter.unusedVariables false
set_option linter.unusedSimpArgs false
namespace Go.Proofs.YtbimjggkiiadmaaGreatDoor
open Go.RowKit
set_option maxRecDepth 20000
structure Ten where
  (a0 a1 a2 a3 a4 a5 a6 a7 a8 a9 : Int)
def Ten.all (x : Int) : Ten := ⟨x, x, x, x, x, x, x, x, x, x⟩
structure PP where
  term : Int
  voted : Int
  frm : Int
  letters : Value
  commit : Int
  snap : Value
  sure : Int
  lost : Bool
  nx : Ten
  mt : Ten
  rd : Ten
  id : Int
  first : Value
  log : Value
  role : Int
  leader : Int
  waited : Int
  limit : Int
  votes : Value
  own : Int
  ki : Int
  kt : Int
  kv : Value
  km : Value
def PP.cells (s : PP) : Array Value := #[.int .i64 s.term, .int .i64 s.voted, .int .i64 s.frm, s.letters, .int .i64 s.commit, s.snap, .int .i64 s.sure, .bool s.lost,
  .int .i64 s.nx.a0, .int .i64 s.nx.a1, .int .i64 s.nx.a2, .int .i64 s.nx.a3, .int .i64 s.nx.a4, .int .i64 s.nx.a5, .int .i64 s.nx.a6, .int .i64 s.nx.a7, .int .i64 s.nx.a8, .int .i64 s.nx.a9,
  .int .i64 s.mt.a0, .int .i64 s.mt.a1, .int .i64 s.mt.a2, .int .i64 s.mt.a3, .int .i64 s.mt.a4, .int .i64 s.mt.a5, .int .i64 s.mt.a6, .int .i64 s.mt.a7, .int .i64 s.mt.a8, .int .i64 s.mt.a9,
  .int .i64 s.rd.a0, .int .i64 s.rd.a1, .int .i64 s.rd.a2, .int .i64 s.rd.a3, .int .i64 s.rd.a4, .int .i64 s.rd.a5, .int .i64 s.rd.a6, .int .i64 s.rd.a7, .int .i64 s.rd.a8, .int .i64 s.rd.a9,
  .int .i64 s.id, s.first, s.log, .int .u8 s.role, .int .i64 s.leader, .int .i64 s.waited, .int .i64 s.limit, s.votes, .int .i64 s.own, .int .i64 s.ki, .int .i64 s.kt, s.kv, s.km]
theorem PP.size (s : PP) : s.cells.size = 51 := rfl
theorem PP.set_mt1 (s : PP) (x : Int) : s.cells.setIfInBounds 19 (.int .i64 x) = { s with mt := { s.mt with a1 := x } }.cells := rfl
theorem PP.set_rd1 (s : PP) (x : Int) : s.cells.setIfInBounds 29 (.int .i64 x) = { s with rd := { s.rd with a1 := x } }.cells := rfl
/-- What is told: the first eight cells. -/
def PP.out (s : PP) : Array Value := #[.int .i64 s.term, .int .i64 s.voted, .int .i64 s.frm, s.letters, .int .i64 s.commit, s.snap, .int .i64 s.sure, .bool s.lost]
/-- A peer of these voters that follows nobody: it has waited so long. -/
def PP.fresh (id : Int) (first log : Value) (waited limit : Int) : PP := ⟨0, 0, 0, .slice none 0 0, 0, .pointer none, 0, false, .all 0, .all 0, .all 0, id, first, log, 1, 0, waited, limit, .slice none 0 0, 0, 0, 0, .slice none 0 0, .slice none 0 0⟩
/-- A peer as it lies in memory, with its log and its first voters. -/
structure PeerIs (w : World) (B pb lb : Nat) (s : PP) (vs : List Int) (ps : List EnP) : Prop where
  blk : w.heap[pb]? = some (.cells s.cells 52 (0, 0))
  lg : s.log = .pointer (some ⟨lb, 0, none⟩)
  log : LogIs w B lb 0 0 ps
  row : w.ownsRow B 3 1 s.first vs.length (vs.flatMap iCells)
  low : B ≤ pb
theorem PeerIs.lt {w : World} {B pb lb : Nat} {s : PP} {vs : List Int} {ps : List EnP} (h : PeerIs w B pb lb s vs ps) : pb < w.heap.size := (Array.getElem?_eq_some_iff.1 h.blk).1
theorem PeerIs.below {w w' : World} {B B' pb lb : Nat} {s : PP} {vs : List Int} {ps : List EnP} (h : PeerIs w B pb lb s vs ps) (hb : Below B' w w') (hB : w.heap.size ≤ B') : PeerIs w' B pb lb s vs ps :=
  ⟨(hb.block pb (Nat.lt_of_lt_of_le h.lt hB)).trans h.blk, h.lg, h.log.below hb hB, own_below h.row hb hB, h.low⟩
/-- A store into the peer's block. -/
theorem PeerIs.set {w : World} {B pb lb : Nat} {s : PP} {vs : List Int} {ps : List EnP} (h : PeerIs w B pb lb s vs ps) (k : Nat) (u : Value) (s' : PP) (hs : s.cells.setIfInBounds k u = s'.cells) (hl : s'.log = s.log) (hf : s'.first = s.first) : PeerIs (w.setCell ⟨pb, k, none⟩ u) B pb lb s' vs ps := by
  obtain ⟨v, es, h1, h2⟩ := h.log
  have hlp : lb ≠ pb := fun e => by
    have hq := h1.blk
    rw [e, h.blk] at hq
    simp only [Option.some.injEq, Obj.cells.injEq] at hq
    exact absurd hq.2.1 (by decide)
  exact ⟨by rw [Go.Joins.block_setCell (i := k) h.blk u, hs], hl.trans h.lg,
    ⟨v, es, ⟨(heap_setCell_other _ _ _ _ hlp).trans h1.blk, h1.ens.setT h.blk (by decide) (by decide) (by decide) k u, h1.low⟩, h2⟩,
    by rw [hf]; exact ownsRow_setCell_other h.row (row_ne_T h.blk h.row (by decide)) u, h.low⟩
/-- Its first voters, as arguments. -/
theorem PeerIs.firsts {w : World} {B pb lb : Nat} {s : PP} {vs : List Int} {ps : List EnP} (h : PeerIs w B pb lb s vs ps) : ∃ a c, s.first = .slice a vs.length c ∧ NumsIn w w.heap.size a vs ∧ (a = none → c = 0) := by
  obtain ⟨a, c, hv⟩ := row_slice h.row
  have hr := h.row
  rw [hv] at hr
  exact ⟨a, c, hv, own_rowsIn iCells_len rfl hr fun _ _ => trivial, own_none hr⟩
end Go.Proofs.YtbimjggkiiadmaaGreatDoor
/- What a log tells, plain: entries at an index, voters; the reference's reading of a log. No program. Conditions: none. -/
namespace Go.Proofs.YtbimjggkiiadmaaGreatDoor
open Go.RowKit
set_option maxRecDepth 20000
/-- The voters that the last entry that says some says. -/
def votS (first : List Int) (ps : List EnP) : List Int := ps.foldl (fun out p => if p.kind = 3 then p.vs else out) first
end Go.Proofs.YtbimjggkiiadmaaGreatDoor
/- Blocks that are kept: rows of a call's own and rows that are only read. Conditions: as each says. -/
namespace Go.Proofs.YtbimjggkiiadmaaGreatDoor
open Go.RowKit
set_option maxRecDepth 20000
end Go.Proofs.YtbimjggkiiadmaaGreatDoor
/- A log's At, and its Voters. Conditions: the log is one that was made; its numbers are not too great. -/
namespace Go.Proofs.YtbimjggkiiadmaaGreatDoor
open Go.RowKit
set_option maxRecDepth 20000
theorem setRow_sameL {w : World} {g : Nat} {cs : Array Value} {t : TypeId} {fr : Nat × Nat} (h : w.heap[g]? = some (.cells cs t fr)) : w.setRow g cs = w := by
  have hm : (w.setRow g cs).heap = w.heap := by
    apply Array.ext_getElem?
    intro j
    by_cases hj : g = j
    · subst hj
      rw [setRow_heap w g cs cs t fr h, h]
    · simp only [World.setRow, Array.getElem?_modify, if_neg hj]
  have : w.setRow g cs = { w with heap := (w.setRow g cs).heap } := rfl
  rw [this, hm]
end Go.Proofs.YtbimjggkiiadmaaGreatDoor
/- A log's At at an index that it knows. Conditions: the log is one that was made; its numbers are not too great. -/
namespace Go.Proofs.YtbimjggkiiadmaaGreatDoor
open Go.RowKit
set_option maxRecDepth 20000
end Go.Proofs.YtbimjggkiiadmaaGreatDoor
/- slices.Backward over entries: its contract. Conditions: the entries lie where the loop's body writes nothing. -/
namespace Go.Proofs.YtbimjggkiiadmaaGreatDoor
open Go.RowKit Go.Shelf
attribute [local go_sem] Oper.semAt_some
/-- The places that have come when k rounds are over. -/
def backF (n : Nat) : (k : Nat) → k ≤ n → List (Fin n)
  | 0, _ => []
  | k + 1, h => backF n k (Nat.le_of_succ_le h) ++ [⟨n - 1 - k, by omega⟩]
theorem backF_length {n : Nat} : ∀ (k : Nat) (h : k ≤ n), (backF n k h).length = k := by
  intro k
  induction k with
  | zero => intro _; rfl
  | succ k ih => intro h; rw [backF, List.length_append, ih]; rfl
theorem backF_eq {n k k' : Nat} (e : k = k') (h : k ≤ n) (h' : k' ≤ n) : backF n k h = backF n k' h' := by subst e; rfl
theorem backF_step {n q : Nat} (hq : q < n) : backF n (n - q) (Nat.sub_le _ _) = backF n (n - (q + 1)) (Nat.sub_le _ _) ++ [⟨q, hq⟩] := by
  rw [backF_eq (show n - q = (n - (q + 1)) + 1 by omega) _ (by omega), backF]
  congr 2
  simp; omega
set_option maxRecDepth 100000 in
set_option maxHeartbeats 2000000 in
theorem back1_in (F : Fence) (n : Nat) (hF : F.fn 96) (hro : F.round = none) (hn : 1 ≤ n) (l Bs n₀ b off cap : Nat) (es : List En) (hb : b < n₀) (hBn : Bs < n₀) (J Jx : List (Fin es.length) → World → Prop)
    (hY : ∀ pre x W, J pre W → pre.length < es.length → YieldAt F (n - 1) Tryz.prog l #[.int .i64 (x.val : Int), enVal es[x.val]] W fun e W' =>
      (e = .returned (.bool true) ∧ J (pre ++ [x]) W' ∧ Below n₀ W W') ∨ (e = .returned (.bool false) ∧ Jx (pre ++ [x]) W'))
    (W : World) (hBs : W.cell? ⟨Bs, 0, none⟩ = some (.slice (some ⟨b, off, none⟩) es.length cap)) (hcs : ∀ k x, es[k]? = some x → ∀ j, j < 9 → W.cell? ⟨b, off + k * 9 + j, none⟩ = (enCells x)[j]?) (h0 : J [] W) (hl : es.length ≤ 1099511627776) :
    CallsIn F n Tryz.prog 96 #[.func (.yield l) #[] #[], .pointer (some ⟨Bs, 0, none⟩)] W fun e W' => (∃ v, e = .returned v) ∧
      ((∃ ys, ys = backF es.length es.length (Nat.le_refl _) ∧ J ys W') ∨ (∃ pre, (∃ k h, pre = backF es.length (k + 1) h) ∧ Jx pre W')) := by
  refine callsIn_of_wp Tryz.func96 rfl hF ?_ hro
  simp only [Tryz.ntmps96, List.size_toArray, List.length_cons, List.length_nil, Nat.reduceAdd, Nat.reduceSub, Array.replicate_succ, Array.replicate_zero, List.push_toArray, List.append_toArray, List.nil_append, List.cons_append]
  have HCS := Lib.hid hcs
  have w1 : IntKind.i64.wrap ((es.length : Int) - 1) = (es.length : Int) - 1 := IntWalk.i64_in _ (by omega)
  clear hcs
  gi_wp2
  gi_loopw [3] (fun i wr => ∃ m : Nat, m ≤ es.length ∧ i = .int .i64 ((m : Int) - 1) ∧ J (backF es.length (es.length - m) (Nat.sub_le _ _)) wr ∧ Below n₀ W wr)
    (fun i _ => (intOf i + 1).toNat)
  case atStart => exact ⟨es.length, Nat.le_refl _, by first | rfl | (rw [w1]), by rw [backF_eq (Nat.sub_self es.length) _ (Nat.zero_le _)]; exact h0, Below.refl _ _⟩
  case round =>
    obtain ⟨m, hm, rfl, hJs, hnx⟩ := hrel
    cases m with
    | zero =>
      gi_wp2
      go_end0
      exact ⟨⟨_, rfl⟩, .inl ⟨_, rfl, hJs⟩⟩
    | succ q =>
      have hq : q < es.length := by omega
      have hqx : es[q]? = some es[q] := List.getElem?_eq_getElem hq
      have hc := HCS.out q _ hqx
      have hsu := backF_step hq
      obtain ⟨fn, tmps, assign, body, hy, hR⟩ := hY _ ⟨q, hq⟩ wr hJs (by rw [backF_length]; omega)
      dsimp only at hy
      generalize es[q] = x at hc hy
      rw [← hsu] at hR
      have HJ := Lib.hid hJs
      obtain ⟨x0, x1, x2, x3, ck, text, ao, args, ac, num, vo, vs, vc⟩ := x
      have c0 : wr.cell? ⟨b, off + q * 9, none⟩ = some (.int .i64 x0) := (hnx.cell (p := ⟨b, _, none⟩) hb).trans (hc 0 (by decide))
      have c1 : wr.cell? ⟨b, off + q * 9 + 1, none⟩ = some (.int .u8 x1) := (hnx.cell (p := ⟨b, _, none⟩) hb).trans (hc 1 (by decide))
      have c2 : wr.cell? ⟨b, off + q * 9 + 1 + 1, none⟩ = some (.int .i64 x2) := (hnx.cell (p := ⟨b, _, none⟩) hb).trans (hc 2 (by decide))
      have c3 : wr.cell? ⟨b, off + q * 9 + 1 + 1 + 1, none⟩ = some (.int .i64 x3) := (hnx.cell (p := ⟨b, _, none⟩) hb).trans (hc 3 (by decide))
      have c4 : wr.cell? ⟨b, off + q * 9 + 1 + 1 + 1 + 1, none⟩ = some (.int .u8 ck) := (hnx.cell (p := ⟨b, _, none⟩) hb).trans (hc 4 (by decide))
      have c5 : wr.cell? ⟨b, off + q * 9 + 1 + 1 + 1 + 1 + 1, none⟩ = some (.string text) := (hnx.cell (p := ⟨b, _, none⟩) hb).trans (hc 5 (by decide))
      have c6 : wr.cell? ⟨b, off + q * 9 + 1 + 1 + 1 + 1 + 1 + 1, none⟩ = some (.slice ao args.length ac) := (hnx.cell (p := ⟨b, _, none⟩) hb).trans (hc 6 (by decide))
      have c7 : wr.cell? ⟨b, off + q * 9 + 1 + 1 + 1 + 1 + 1 + 1 + 1, none⟩ = some (.int .i64 num) := (hnx.cell (p := ⟨b, _, none⟩) hb).trans (hc 7 (by decide))
      have c8 : wr.cell? ⟨b, off + q * 9 + 1 + 1 + 1 + 1 + 1 + 1 + 1 + 1, none⟩ = some (.slice vo vs.length vc) := (hnx.cell (p := ⟨b, _, none⟩) hb).trans (hc 8 (by decide))
      have i1 : (q : Int) < es.length := by omega
      have cb : wr.cell? ⟨Bs, 0, none⟩ = some (.slice (some ⟨b, off, none⟩) es.length cap) := (hnx.cell (p := ⟨Bs, 0, none⟩) hBn).trans hBs
      have i2 : ((q + 1 : Nat) : Int) - 1 = q := by omega
      rw [i2]
      simp only [enVal] at hy
      clear hc hqx hsu hJs
      gi_wp2
      refine hR.mono ?_
      rintro e W3 (⟨rfl, hJ3, hk3⟩ | ⟨rfl, hJx3⟩)
      · gi_wp2
        go_roundw
        case rel => exact ⟨q, by omega, by go_num, hJ3, hnx.trans hk3⟩
        case measure => simp [intOf]
      · gi_wp2
        refine bodyPost_ret (results_none rfl _ _ _) rfl ?_
        exact ⟨⟨_, rfl⟩, .inr ⟨_, ⟨es.length - (q + 1), by omega, backF_eq (by omega) _ _⟩, hJx3⟩⟩
set_option maxRecDepth 100000 in
set_option maxHeartbeats 1000000 in
theorem back1_nil_in (F : Fence) (n : Nat) (hF : F.fn 96) (hro : F.round = none) (l Bs cap : Nat) (ao : Option Addr) (J : List (Fin 0) → World → Prop) (W : World) (hBs : W.cell? ⟨Bs, 0, none⟩ = some (.slice ao 0 cap)) (h0 : J [] W) :
    CallsIn F n Tryz.prog 96 #[.func (.yield l) #[] #[], .pointer (some ⟨Bs, 0, none⟩)] W fun e W' => (∃ v, e = .returned v) ∧ J [] W' := by
  refine callsIn_of_wp Tryz.func96 rfl hF ?_ hro
  simp only [Tryz.ntmps96, List.size_toArray, List.length_cons, List.length_nil, Nat.reduceAdd, Nat.reduceSub, Array.replicate_succ, Array.replicate_zero, List.push_toArray, List.append_toArray, List.nil_append, List.cons_append]
  gi_wp2
  gi_loopw [3] (fun i wr => i = .int .i64 (-1) ∧ J [] wr) (fun _ _ => 0)
  case atStart => exact ⟨rfl, h0⟩
  case round =>
    obtain ⟨rfl, hJs⟩ := hrel
    gi_wp2
    go_end0
    exact ⟨⟨_, rfl⟩, hJs⟩
set_option maxHeartbeats 1000000 in
/-- slices.Backward: the slice is boxed, the function value captures the box. -/
theorem back_in (F : Fence) (n : Nat) (hF : F.fn 85) (hro : F.round = none) (a : Option Addr) (len cap : Nat) (w : World) :
    CallsIn F n Tryz.prog 85 #[.slice a len cap] w fun e w' => e = .returned (.func (.func 96) #[] #[.pointer (some ⟨w.heap.size, 0, none⟩)]) ∧ w' = w.alloc (.cells #[.slice a len cap] 23) := by
  refine callsIn_of_wp Tryz.func85 rfl hF ?_ hro
  simp only [Tryz.ntmps85, List.size_toArray, List.length_cons, List.length_nil, Nat.reduceAdd, Nat.reduceSub, Array.replicate_succ, Array.replicate_zero, List.push_toArray, List.append_toArray, List.nil_append, List.cons_append]
  gi_wp2
  go_ret
  exact ⟨rfl, rfl⟩
theorem back_stops (F : Fence) (n : Nat) (hF : F.fn 96) (hro : F.round = none) (hn : 1 ≤ n) (Bs n₀ cap : Nat) (ao : Option Addr) (es : List En) (w : World) (hBs : Bs < n₀) (hn₀ : n₀ ≤ w.heap.size)
    (hc : w.cell? ⟨Bs, 0, none⟩ = some (.slice ao es.length cap)) (hI : EnsIn w n₀ ao es) (hl : es.length ≤ 1099511627776) :
    SeqStopsK F n Tryz.prog 96 #[.pointer (some ⟨Bs, 0, none⟩)] (fun x : Fin es.length => #[Value.int .i64 (x.val : Int), enVal es[x.val]]) (Below n₀) (fun ys => ys = backF es.length es.length (Nat.le_refl _)) (fun pre => ∃ k h, pre = backF es.length (k + 1) h) es.length w := fun l J Jx W hW _ _ hY h0 => by
  have hc' := (hW.cell (p := ⟨Bs, 0, none⟩) (Nat.lt_of_lt_of_le hBs hn₀)).trans hc
  rcases hI with h | ⟨b, off, rfl, hb, hcs⟩
  · subst h
    exact (back1_nil_in F n hF hro l Bs cap ao J W hc' h0).mono fun e W' ⟨he, hj⟩ => ⟨he, .inl ⟨_, rfl, hj⟩⟩
  · exact back1_in F n hF hro hn l Bs n₀ b off cap es hb hBs J Jx hY W hc' (fun k x hx j hj => (hW.cell (p := ⟨b, _, none⟩) (Nat.lt_of_lt_of_le hb hn₀)).trans ((hcs k x hx).1 j hj)) h0 hl
end Go.Proofs.YtbimjggkiiadmaaGreatDoor
/- A log's Voters. Conditions: the log is one that was made; its numbers are not too great. -/
namespace Go.Proofs.YtbimjggkiiadmaaGreatDoor
open Go.RowKit Go.Shelf
attribute [local go_sem] Oper.semAt_some
set_option maxRecDepth 20000
/-- Numbers of a call's own are told. -/
def IntsE (L : List Int) (w : World) (e : Ending) (w' : World) : Prop :=
  ∃ a n c, e = .returned (.slice a n c) ∧ L.length = n ∧ w'.ownsRow w.heap.size 3 1 (.slice a n c) n (L.flatMap iCells) ∧ Below w.heap.size w w'
theorem votS_all {first : List Int} {es : List En} (h : ∀ x ∈ es, x.kind ≠ 3) : votS first (es.map En.plain) = first := by
  induction es with
  | nil => rfl
  | cons x es ih =>
    have hx := h x (List.mem_cons_self ..)
    show votS (if x.kind = 3 then x.vs else first) (es.map En.plain) = first
    rw [if_neg hx]
    exact ih fun y hy => h y (List.mem_cons_of_mem _ hy)
theorem votS_at {first : List Int} {es : List En} {q : Nat} {x : En} (hx : es[q]? = some x) (hk : x.kind = 3) (h : ∀ j y, q < j → es[j]? = some y → y.kind ≠ 3) : votS first (es.map En.plain) = x.vs := by
  induction es generalizing first q with
  | nil => simp at hx
  | cons z es ih =>
    cases q with
    | zero =>
      simp at hx
      subst hx
      show votS (if z.kind = 3 then z.vs else first) (es.map En.plain) = z.vs
      rw [if_pos hk]
      exact votS_all fun y hy => by
        obtain ⟨j, hj⟩ := List.getElem?_of_mem hy
        exact h (j + 1) y (Nat.succ_pos _) (by simpa using hj)
    | succ q =>
      exact ih (q := q) (by simpa using hx) (fun j y hj hy => h (j + 1) y (by omega) (by simpa using hy))
theorem backF_mem {n : Nat} : ∀ (k : Nat) (h : k ≤ n) (x : Fin n), x ∈ backF n k h ↔ n ≤ x.val + k := by
  intro k
  induction k with
  | zero => intro h x; have := x.2; simp [backF]
  | succ k ih =>
    intro h x
    rw [backF, List.mem_append, ih, List.mem_singleton, Fin.ext_iff]
    have := x.2
    simp
    omega
theorem own_kept_nc {A B : World} {row : Option Nat} {base e size n : Nat} {v : Value} {xs : List Value} (h : A.ownsRow base e size v n xs) (hg : A.grownBy B row) (hr : ∀ r, row = some r → ∃ o : Obj, A.heap[r]? = some o ∧ o.isCells = false) : B.ownsRow base e size v n xs := by
  refine World.ownsRow.kept h hg ?_
  rcases h.2 with ⟨h3, _⟩ | ⟨g, cap, cur, h3, _, h4, _⟩
  · exact Or.inl (by rw [h3]; rfl)
  · refine Or.inr fun e => ?_
    rw [h3] at e
    obtain ⟨o, h1, h2⟩ := hr g e.symm
    rw [h4] at h1
    cases h1
    cases h2
theorem block_kept_nc {A B : World} {row : Option Nat} {g : Nat} {cs : Array Value} {t : TypeId} {fr : Nat × Nat} (h : A.heap[g]? = some (.cells cs t fr)) (hg : A.grownBy B row) (hr : ∀ r, row = some r → ∃ o : Obj, A.heap[r]? = some o ∧ o.isCells = false) : B.heap[g]? = some (.cells cs t fr) := by
  refine (hg.block g (Array.getElem?_eq_some_iff.1 h).1 fun e => ?_).trans h
  obtain ⟨o, h1, h2⟩ := hr g e.symm
  rw [h] at h1
  cases h1
  cases h2
/-- What the loop leaves where it returns. -/
def VotLeft (es : List En) (w : World) (c : Code) (pre : List (Fin es.length)) (W : World) : Prop :=
  c = .ret ∧ ∃ (pre' : List (Fin es.length)) (x : Fin es.length) (a2 : Option Addr) (n2 c2 : Nat), pre = pre' ++ [x] ∧ (∀ y ∈ pre', (es[y.val]).kind ≠ 3) ∧ (es[x.val]).kind = 3 ∧ (es[x.val]).vs.length = n2 ∧ Boxed W w.heap.size 24 (.slice a2 n2 c2) ∧ W.ownsRow w.heap.size 3 1 (.slice a2 n2 c2) n2 ((es[x.val]).vs.flatMap iCells) ∧ Below w.heap.size w W
theorem votLeft_own (es : List En) (w : World) (c : Code) (B0 : Nat) (hB : w.heap.size ≤ B0) : OwnFrom B0 (VotLeft es w c) := fun pre A B row ⟨h1, pre', x, a2, n2, c2, h2, h3, h4, h5, h6, h7, h8⟩ hg hr =>
  ⟨h1, pre', x, a2, n2, c2, h2, h3, h4, h5, block_kept_nc h6 hg (fun r e => (hr r e).2), own_kept_nc h7 hg (fun r e => (hr r e).2), ownFrom_below (β := Unit) (Nat.le_refl _) hB () A B row h8 hg hr⟩
set_option maxRecDepth 100000 in
set_option maxHeartbeats 4000000 in
theorem voters_any (B lb : Nat) (base term : Int) (v : Value) (es : List En) (fo : Option Addr) (fn fcap : Nat) (first : List Int) (w : World) (hL : LogAt w B lb base term v es) (hfn : first.length = fn) (hf : NumsIn w w.heap.size fo first) (hfnil : fo = none → fcap = 0) (hq : EnsArg es) (hl : es.length ≤ 1099511627776) (hfl : fn ≤ 1099511627776) :
    Calls Tryz.prog 50 #[.pointer (some ⟨lb, 0, none⟩), .slice fo fn fcap] w (IntsE (votS first (es.map En.plain)) w) := by
  obtain ⟨a, c, hv⟩ := hL.form
  subst hv
  have hL1 := hL.below ((Below.refl w.heap.size w).alloc (Nat.le_refl _) (.cells #[.slice none 0 0] 24)) (Nat.le_refl _)
  have d3 := hL1.c3
  have HL1 := Lib.hid hL1
  have HL := Lib.hid hL
  have HF := Lib.hid hf
  have HQ := Lib.hid hq
  have HFN := Lib.hid hfn
  have HNIL := Lib.hid hfnil
  clear hL hL1 hf hq hfn hfnil
  refine (callsIn_wide (n := 6)).1 ?_
  refine callsIn_of_wp_marks Tryz.func50 rfl trivial ?_ rfl
  simp only [Tryz.ntmps50, List.size_toArray, List.length_cons, List.length_nil, Nat.reduceAdd, Nat.reduceSub, Array.replicate_succ, Array.replicate_zero, List.push_toArray, List.append_toArray, List.nil_append, List.cons_append]
  gi_wp2_with (first | (refine ⟨trivial, ?_⟩; gi_at_call 55; refine (callsIn_wide.2 (there_any lb _ HL1.out.c0)).mono ?_; rintro e w' ⟨rfl, rfl⟩) | (gi_at_call 55; refine (callsIn_wide.2 (there_any lb _ HL1.out.c0)).mono ?_; rintro e w' ⟨rfl, rfl⟩) | (gi_at_call 85; refine (back_in Fence.wide _ trivial rfl _ _ _ _).mono ?_; rintro e w' ⟨rfl, rfl⟩))
  refine ⟨trivial, (back_in Fence.wide _ trivial rfl _ _ _ _).mono ?_⟩
  rintro e w' ⟨rfl, rfl⟩
  have bR := (Boxed.new w 24 (.slice none 0 0)).alloc (.cells #[.slice a es.length c] 23)
  have bB := Boxed.new (w.alloc (.cells #[.slice none 0 0] 24)) 23 (.slice a es.length c)
  have hB0 : Below w.heap.size w ((w.alloc (.cells #[.slice none 0 0] 24)).alloc (.cells #[.slice a es.length c] 23)) := ((Below.refl _ w).alloc (Nat.le_refl _) _).alloc (by simp) _
  have hsz : ((w.alloc (.cells #[.slice none 0 0] 24)).alloc (.cells #[.slice a es.length c] 23)).heap.size = w.heap.size + 2 := by simp
  rw [World.size_alloc] at bB
  gi_wp2
  generalize (w.alloc (.cells #[.slice none 0 0] 24)).alloc (.cells #[.slice a es.length c] 23) = W0 at bR bB hB0 hsz ⊢
  have hL0 := HL.out.below hB0 (Nat.le_refl _)
  have hin : EnsIn W0 W0.heap.size a es := by
    obtain ⟨a', c', hv, _, _, h⟩ := hL0.ens.lie
    cases hv
    exact h
  have HE := Lib.hid (show ∀ x : Fin es.length, enSub W0 W0.heap.size es[x.val] from fun x => (hL0.ens.own _ (List.getElem_mem _)).sub)
  clear d3 HL1 hL0
  refine wpIn_rangeFunc_ownH rfl (by omega) (gf := 96) (lb := #[.pointer (some ⟨w.heap.size + 1, 0, none⟩)]) rfl trivial (enters_of Tryz.func96 (by kernel_rfl) rfl)
    (back_stops Fence.wide _ trivial rfl (by omega) (w.heap.size + 1) W0.heap.size c a es W0 (by omega) (Nat.le_refl _) bB.cell hin hl) belowK_t (belowK_b (Nat.le_refl _)) (Below.refl _ _) (fun _ => rfl)
    (fun pre W => (∀ y ∈ pre, (es[y.val]).kind ≠ 3) ∧ Below W0.heap.size W0 W)
    (VotLeft es w)
    (OwnFrom.and (ownFrom_pure _ _) (ownFrom_below (Nat.le_refl _) (Nat.le_refl _)))
    (fun c => votLeft_own es w c _ (by omega))
    ⟨(fun y hy => by cases hy), Below.refl _ _⟩
    (fun x a' W => ∃ Bx, W0.heap.size ≤ Bx ∧ W.heap[Bx]? = some (.cells (enCells es[x.val]).toArray 34 (0, 0)) ∧ a' = { tmps := #[.pointer (some ⟨lb, 0, none⟩), .slice fo fn fcap, undef, undef, .pointer (some ⟨w.heap.size, 0, none⟩), undef, .pointer (some ⟨Bx, 0, none⟩), .pointer (some ⟨lb, 0, none⟩), .bool true, .bool false, .pointer (some ⟨lb, 0, none⟩), .pointer (some ⟨lb, 0, none⟩), .pointer (some ⟨lb, 3, none⟩), .slice a es.length c, .func (.func 96) #[] #[.pointer (some ⟨w.heap.size + 1, 0, none⟩)], .int .i64 (x.val : Int), enVal es[x.val], undef, undef, undef, undef, undef, undef, undef, undef], defers := [] })
    (fun x a' _ X Y row hs hg hr => by obtain ⟨Bx, h1, h2, h3⟩ := hs; exact ⟨Bx, h1, block_kept_nc h2 hg (fun r e => (hr r e).2), h3⟩)
    ?assign ?body ?done ?stop
  case assign =>
    rintro l pre x W K ⟨hk, hb⟩ hK
    dsimp only [enVal]
    gi_wp2
    exact hK _ _ ((KeepsOthers.alloc _ _).from _) ((Below.refl _ W).alloc hb.size _) ⟨hk, hb.alloc hb.size _⟩ ⟨W.heap.size, hb.size, heap_alloc_new W _, rfl⟩
  case body =>
    rintro l pre x a' W hlB ⟨r, hr⟩ ⟨hk, hb⟩ ⟨Bx, hBx, bX, rfl⟩ hlt
    have hbR : Boxed W w.heap.size 24 (.slice none 0 0) := (hb.block _ (by omega)).trans bR
    have hsub := (HE.out x).2
    have hvn := (HQ.out.2 _ (List.getElem_mem x.2)).2
    have hvl := (HQ.out.1 _ (List.getElem_mem x.2)).2
    obtain ⟨n2, hn2⟩ : ∃ n2, (es[x.val]).vs.length = n2 := ⟨_, rfl⟩
    have c1 : W.cell? ⟨Bx, 1, none⟩ = some (.int .u8 (es[x.val]).kind) := Go.Joins.cell_of_block bX 1
    have c8 : W.cell? ⟨Bx, 8, none⟩ = some (.slice (es[x.val]).vao (es[x.val]).vs.length (es[x.val]).vcap) := Go.Joins.cell_of_block bX 8
    have hxk := hk
    have HK := Lib.hid hk
    obtain ⟨kd, hkd⟩ : ∃ kd, (es[x.val]).kind = kd := ⟨_, rfl⟩
    obtain ⟨xv, hxv⟩ : ∃ xv, (es[x.val]).vao = xv := ⟨_, rfl⟩
    obtain ⟨xc, hxc⟩ : ∃ xc, (es[x.val]).vcap = xc := ⟨_, rfl⟩
    rw [hkd] at c1
    rw [hn2, hxv, hxc] at c8
    rw [hxv, hxc] at hvn
    rw [hxv] at hsub
    rw [hn2] at hvl
    obtain ⟨eV, heV⟩ : ∃ eV, enVal es[x.val] = eV := ⟨_, rfl⟩
    rw [heV]
    have HKD := Lib.hid hkd
    have HN2 := Lib.hid hn2
    have HSUB := Lib.hid hsub
    have HVN := Lib.hid hvn
    have hBR := hbR
    have cR := hbR.cell
    have fR := hbR.frozen
    clear hk hxk hkd hn2 hxv hxc heV hsub hvn
    by_cases hk3 : kd = 3
    · subst hk3
      gi_wp2_with (refine ⟨trivial, ?_⟩; gi_at_call 47; refine (CallsIn.inRound l (callsIn_wide.2 (cloneI_any noSub xv n2 xc (es[x.val]).vs W W0.heap.size HN2.out (HSUB.out.below noSub_kept hb (Nat.le_refl _)) noSub_kept hb.size HVN.out hvl))).mono ?_; rintro e w3 ⟨a3, c3, rfl, ho3, hb3⟩; have hR3 : Boxed w3 w.heap.size 24 (.slice none 0 0) := (hb3.block _ (Boxed.lt hBR)).trans hBR; have cR3 := hR3.cell; have fR3 := hR3.frozen; clear c1 c8)
      have hbs := hb.size
      refine ⟨KeepsFrom.trans (⟨hb3.size, fun k o _ hko _ => (hb3.block k (Array.getElem?_eq_some_iff.1 hko).1).trans hko⟩ : KeepsFrom W0.heap.size W w3) ((KeepsOthers.setCell _ _ _).from _), rfl, pre, x, a3, n2, c3, rfl, HK.out, HKD.out, HN2.out, hR3.set _, Go.Joins.ownsRow_le (ownsRow_setCell_other ho3 (fun e => by have h1 : W.heap.size ≤ w.heap.size := (World.ownsRow.lt ho3 w.heap.size e).1; omega) _) (by omega), ((hB0.trans (hb.mono (by omega))).trans (hb3.mono (by omega))).setCell (p := ⟨w.heap.size, 0, none⟩) (Nat.le_refl _) _⟩
    · gi_wp2
      refine ⟨KeepsFrom.refl _ _, Below.refl _ _, fun y hy => ?_, hb⟩
      rcases List.mem_append.1 hy with h | h
      · exact HK.out y h
      · rw [List.mem_singleton.1 h, HKD.out]; exact hk3
  case done =>
    rintro D xs W hD rfl ⟨hk, hb⟩ hK
    have hbR : Boxed W w.heap.size 24 (.slice none 0 0) := (hb.block _ (by omega)).trans bR
    have cR := hbR.cell
    have fR := hbR.frozen
    have hbw : Below w.heap.size w W := hB0.trans (hb.mono (by omega))
    have hvs : votS first (es.map En.plain) = first := votS_all fun y hy => by
      obtain ⟨q, hq, rfl⟩ := List.mem_iff_getElem.1 hy
      exact hk ⟨q, hq⟩ ((backF_mem _ _ _).2 (by simp))
    have HVS := Lib.hid hvs
    clear hk hvs
    gi_wp2_with (refine ⟨trivial, ?_⟩; gi_at_call 47; refine (callsIn_wide.2 (cloneI_any noSub fo fn fcap first W w.heap.size HFN.out (HF.out.below noSub_kept hbw (Nat.le_refl _)) noSub_kept hbw.size HNIL.out hfl)).mono ?_; rintro e w3 ⟨a3, c3, rfl, ho3, hb3⟩; have hR3 : Boxed w3 w.heap.size 24 (.slice none 0 0) := (hb3.block _ (Boxed.lt hbR)).trans hbR; have cR3 := hR3.cell; have fR3 := hR3.frozen; clear cR fR)
    have hbs := hbw.size
    have hDlt : D < W.heap.size := (Array.getElem?_eq_some_iff.1 hK).1
    have hK' : (w3.setCell ⟨w.heap.size, 0, none⟩ (.slice a3 fn c3)).heap[D]? = some (.deferred (some [])) := (KeepsOthers.setCell w3 ⟨w.heap.size, 0, none⟩ (.slice a3 fn c3)).same D _ ((hb3.block D hDlt).trans hK) rfl
    have hR4 : Boxed (w3.setCell ⟨w.heap.size, 0, none⟩ (.slice a3 fn c3)) w.heap.size 24 (.slice a3 fn c3) := hR3.set _
    have hO4 : (w3.setCell ⟨w.heap.size, 0, none⟩ (.slice a3 fn c3)).ownsRow w.heap.size 3 1 (.slice a3 fn c3) fn (first.flatMap iCells) := Go.Joins.ownsRow_le (ownsRow_setCell_other ho3 (fun e => by have h1 : W.heap.size ≤ w.heap.size := (World.ownsRow.lt ho3 w.heap.size e).1; omega) _) (by omega)
    have hB4 : Below w.heap.size w (w3.setCell ⟨w.heap.size, 0, none⟩ (.slice a3 fn c3)) := (hbw.trans (hb3.mono (by omega))).setCell (p := ⟨w.heap.size, 0, none⟩) (Nat.le_refl _) _
    generalize w3.setCell ⟨w.heap.size, 0, none⟩ (.slice a3 fn c3) = w4 at hK' hR4 hO4 hB4 ⊢
    refine ⟨by simp, .inl ⟨_, _, rfl, run_takeDeferred hK', ?_⟩⟩
    have hc5 := cell_kept hR4.cell (grownBy_putObj' _ D (.deferred none)) (fun r e => by cases e; exact ⟨_, hK', rfl⟩)
    refine ⟨.slice a3 fn c3, ?_, a3, fn, c3, rfl, by rw [HVS.out]; exact HFN.out, by rw [HVS.out]; exact own_kept_nc hO4 (grownBy_putObj' _ D (.deferred none)) (fun r e => by cases e; exact ⟨_, hK', rfl⟩), hB4.trans (belowK_b (w := w) (Nat.le_refl _) w4 D _ _ (by omega) hK' rfl rfl)⟩
    simp [results, Tryz.results50, go_sem, hc5]
  case stop =>
    rintro D c pre W hD ⟨k, hkk, rfl⟩ ⟨rfl, pre', x, a2, n2, c2, h2, h3, h4, h5, h6, h7, h8⟩ hK
    have cR := h6.cell
    have hlast : backF es.length k (Nat.le_of_succ_le hkk) ++ [⟨es.length - 1 - k, by omega⟩] = pre' ++ [x] := h2
    obtain ⟨e1, e2⟩ := List.append_inj' hlast rfl
    have hxv : x.val = es.length - 1 - k := by
      have := List.cons.inj e2
      rw [← this.1]
    have hvs : votS first (es.map En.plain) = (es[x.val]'x.2).vs := votS_at (List.getElem?_eq_getElem x.2) h4 fun j y hj hy => by
      obtain ⟨hjl, rfl⟩ := List.getElem?_eq_some_iff.1 hy
      refine h3 ⟨j, hjl⟩ ?_
      rw [← e1]
      exact (backF_mem _ _ _).2 (by simp; omega)
    have HVS := Lib.hid hvs
    have H5 := Lib.hid h5
    have H7 := Lib.hid h7
    clear h2 h3 h4 h5 h7 hvs hxv e1 e2 hlast
    gi_wp2
    refine ⟨by simp, .inl ⟨_, _, rfl, run_takeDeferred hK, ?_⟩⟩
    have hc5 := cell_kept cR (grownBy_putObj' _ D (.deferred none)) (fun r e => by cases e; exact ⟨_, hK, rfl⟩)
    refine ⟨.slice a2 n2 c2, ?_, a2, n2, c2, rfl, by rw [HVS.out]; exact H5.out, by rw [HVS.out]; exact own_kept_nc H7.out (grownBy_putObj' _ D (.deferred none)) (fun r e => by cases e; exact ⟨_, hK, rfl⟩), h8.trans (belowK_b (w := w) (Nat.le_refl _) W D _ _ (by omega) hK rfl rfl)⟩
    simp [results, Tryz.results50, go_sem, hc5]
end Go.Proofs.YtbimjggkiiadmaaGreatDoor
/- Steps of a region that draws its order, guarded operations included, each taken by its number. Any program. Conditions: as each says. -/
namespace Go.Proofs.YtbimjggkiiadmaaGreatDoor
open Go.RowKit
variable {P : Program} {md : Region.Mode} {ops : Array Oper} {Q : Exit → Act → World → Prop}
end Go.Proofs.YtbimjggkiiadmaaGreatDoor
/- Steps of a region that draws its order, guarded operations and loads included, each taken by its number, in worlds of which something is kept. Any program. Conditions: as each says. -/
namespace Go.Proofs.YtbimjggkiiadmaaGreatDoor
open Go.RowKit
variable {P : Program} {md : Region.Mode} {ops : Array Oper} {Q : Exit → Act → World → Prop} {S : World → Prop}
theorem takeS_no (i : Nat) {oi : Oper} {fuel : Nat} {listed : Array Bool} {a : Act} {w : World} (hi : ops.toList[i]? = some oi) (hs : Region.noSelect ops = true) (hf : Region.free md ops listed i = true) (hr : (Region.ready md ops listed).contains i = true)
    (hQ : ∀ c a w, Q (.panic c) (a.put oi.dst undef) w → Q (.panic c) a w) (hw : Region.wanted oi (yielded ops a.tmps) = false) (hS : S w) (h : wpAnyH P md ops Q S fuel (listed.setIfInBounds i true) (a.put oi.dst undef) w) : wpAnyH P md ops Q S (fuel + 1) listed a w :=
  wpAnyH_take (by rw [← Array.getElem?_toList]; exact hi) hs hf hr hQ (Or.inr ⟨hw, rfl⟩) hS h
/-- An operation that yields the same in whatever world of the kind. -/
theorem takeS_yes (i : Nat) {oi : Oper} {v : Value} {fuel : Nat} {listed : Array Bool} {a : Act} {w : World} (hi : ops.toList[i]? = some oi) (hs : Region.noSelect ops = true) (hf : Region.free md ops listed i = true) (hr : (Region.ready md ops listed).contains i = true)
    (hQ : ∀ c a w, Q (.panic c) (a.put oi.dst v) w → Q (.panic c) a w) (hw : Region.wanted oi (yielded ops a.tmps) = true) (hS : S w) (hy : ∀ w, S w → (execOp a.eval oi).run P w = .ok (.value v) w) (h : wpAnyH P md ops Q S fuel (listed.setIfInBounds i true) (a.put oi.dst v) w) : wpAnyH P md ops Q S (fuel + 1) listed a w :=
  wpAnyH_take (by rw [← Array.getElem?_toList]; exact hi) hs hf hr hQ (Or.inl ⟨hw, hy⟩) hS h
/-- An operation that alone may come up. -/
theorem takeS_alone (i : Nat) {oi : Oper} {fuel : Nat} {listed : Array Bool} {a : Act} {w : World} (hi : ops.toList[i]? = some oi) (hr : Region.ready md ops listed = [i]) (hw : Region.wanted oi (yielded ops a.tmps) = true)
    (h : ∀ K' : Act → World → Prop, Shut (∀ a w, S w → wpAnyH P md ops Q S fuel (listed.setIfInBounds i true) a w → K' a w) → Oper.wp P oi a w K' Q) : wpAnyH P md ops Q S (fuel + 1) listed a w :=
  wpAnyH_ready (rs := [i]) hr (by simp) (AllReadyH.cons (by rw [← Array.getElem?_toList]; exact hi) (fun K hK => by rw [if_pos hw]; exact h K (fun a w hS hW => hK.out a w hS (fun _ => hW))) AllReadyH.nil)
theorem heldS_begin {id : Nat} {a : Act} {w : World} (S : World → Prop) (hm : P.follows .mixedOrders = true) (hS : S w.drew) (h : S w.drew → wpAnyH P .any ops Q S ops.size (Array.replicate ops.size false) a w.drew) : (Code.region id ops true).wp P Q a w :=
  wp_region_held_drew hm hS h
end Go.Proofs.YtbimjggkiiadmaaGreatDoor
