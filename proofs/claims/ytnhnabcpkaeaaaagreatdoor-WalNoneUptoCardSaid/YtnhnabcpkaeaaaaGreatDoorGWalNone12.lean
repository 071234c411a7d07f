/- frame.Put: the frames' bytes, or that some is none. Conditions: the frames' cells lie as their reading says. -/
import Derived.Test.YtnhnabcpkaeaaaaGreatDoorGWalNone11
import Derived.Test.YtnhnabcpkaeaaaaGreatDoorGWalNone0
import Derived.Test.YtnhnabcpkaeaaaaGreatDoorGWalNone1
import Derived.Test.YtnhnabcpkaeaaaaGreatDoorGWalNone2
import Derived.Test.YtnhnabcpkaeaaaaGreatDoorGWalNone10
set_option linter.unusedVariables false
set_option linter.unusedSimpArgs false
namespace Go.Proofs.YtnhnabcpkaeaaaaGreatDoor
open Go.RowKit
set_option maxRecDepth 20000
/-- What the writer holds, told. -/
theorem bytes_ofF (B b : Nat) (bs : List Int) (w : World) (h : BufF w B b bs) :
    Calls Tryz.prog 94 #[.pointer (some ⟨b, 0, none⟩)] w fun e w' => ∃ v, e = .returned v ∧ w'.ownsRow B 5 1 v bs.length (bs.map bv) ∧ Below w.heap.size w w' := by
  obtain ⟨hBb, v, lr, h3, hown, hvb⟩ := h
  rw [List.length_map] at hown
  have HO := Lib.hid hown
  have hfm : ∃ g c, v = .slice g bs.length c ∧ bs.length ≤ c ∧ (g = none → c = 0) := by
    rcases hown.2 with ⟨rfl, h⟩ | ⟨g, cap, cur, rfl, _, _, h1, h2, _⟩
    · exact ⟨none, 0, by rw [h], by omega, fun _ => rfl⟩
    · exact ⟨some ⟨g, 0, none⟩, cap, rfl, h1, by simp⟩
  obtain ⟨g, c, rfl, hlc, hg⟩ := hfm
  have c0 := h3.c0
  have c1 := h3.c1
  clear h3 hown
  go_enter Tryz.func94, Tryz.ntmps94
  go_wp2_with fail
  go_quiet (fail)
  go_wp2_with fail
  go_ret
  exact ⟨_, rfl, HO.out, below_drewN (Below.refl _ _) _⟩
/-- A frame as it lies in memory: its kind, and its slice of bytes. -/
structure Fr where
  kind : Int
  ao : Option Addr
  cap : Nat
  data : List Int
def Fr.zero : Fr := ⟨0, none, 0, []⟩
/-- The frames fs lie behind the slice's address, all in blocks below B. -/
def FramesIn (w : World) (B : Nat) (ao : Option Addr) (fs : List Fr) : Prop :=
  fs = [] ∨ ∃ b off, ao = some ⟨b, off, none⟩ ∧ b < B ∧ ∀ i, i < fs.length →
    w.cell? ⟨b, off + i * 2, none⟩ = some (.int .i64 (fs.getD i Fr.zero).kind) ∧
    w.cell? ⟨b, off + i * 2 + 1, none⟩ = some (.slice (fs.getD i Fr.zero).ao (fs.getD i Fr.zero).data.length (fs.getD i Fr.zero).cap) ∧
    BytesIn w B (fs.getD i Fr.zero).ao (fs.getD i Fr.zero).data
def FrWf (f : Fr) : Prop := (Lit.int .i64 f.kind).wf = true ∧ (f.ao = none → f.cap = 0) ∧ BytesWf f.data ∧ f.data.length ≤ 140737488351232
theorem FramesIn.below {w w' : World} {B B' : Nat} {ao : Option Addr} {fs : List Fr} (h : FramesIn w B ao fs) (hb : Below B' w w') (hB : B ≤ B') : FramesIn w' B ao fs := by
  rcases h with h | ⟨b, off, h1, h2, h3⟩
  · exact Or.inl h
  · refine Or.inr ⟨b, off, h1, h2, fun i hi => ?_⟩
    rw [hb.cell (p := ⟨b, _, none⟩) (by show b < B'; omega), hb.cell (p := ⟨b, _, none⟩) (by show b < B'; omega)]
    exact ⟨(h3 i hi).1, (h3 i hi).2.1, (h3 i hi).2.2.below hb hB⟩
/-- What Put tells of frames: 0, or the error of the first that is none. -/
def putE : List Fr → Int
  | [] => 0
  | f :: fs => if f.kind < 0 ∨ 255 < f.kind then 2 else if 1048576 < f.data.length then 3 else putE fs
def putB (fs : List Fr) : List Int := fs.flatMap fun f => frameB f.kind f.data
/-- Is it a frame that may be? -/
def okF (f : Fr) : Prop := 0 ≤ f.kind ∧ f.kind ≤ 255 ∧ f.data.length ≤ 1048576
theorem putE_ok : ∀ {fs : List Fr}, (∀ f ∈ fs, okF f) → putE fs = 0 := by
  intro fs
  induction fs with
  | nil => intro _; rfl
  | cons f fs ih =>
    intro h
    have h1 := h f List.mem_cons_self
    unfold okF at h1
    unfold putE
    rw [if_neg (by omega), if_neg (by omega)]
    exact ih (fun x hx => h x (List.mem_cons_of_mem _ hx))
theorem putE_at : ∀ {fs : List Fr} {k : Nat}, k < fs.length → (∀ f ∈ fs.take k, okF f) → ¬ okF (fs.getD k Fr.zero) → putE fs = if (fs.getD k Fr.zero).kind < 0 ∨ 255 < (fs.getD k Fr.zero).kind then 2 else 3 := by
  intro fs
  induction fs with
  | nil => intro k h; simp at h
  | cons f fs ih =>
    intro k hk h hb
    cases k with
    | zero =>
      have e : (f :: fs).getD 0 Fr.zero = f := rfl
      rw [e] at hb ⊢
      unfold okF at hb
      unfold putE
      split
      · rfl
      · rw [if_pos (by omega)]
    | succ k =>
      have e : (f :: fs).getD (k + 1) Fr.zero = fs.getD k Fr.zero := rfl
      rw [e] at hb ⊢
      have h1 := h f (by simp)
      unfold okF at h1
      unfold putE
      rw [if_neg (by omega), if_neg (by omega)]
      exact ih (by simpa using hk) (fun x hx => h x (by simp [hx])) hb
end Go.Proofs.YtnhnabcpkaeaaaaGreatDoor
/- Frames that a call has made: a row of them, the bytes of each in a block of its own. Conditions: as each says. -/
namespace Go.Proofs.YtnhnabcpkaeaaaaGreatDoor
open Go.RowKit
set_option maxRecDepth 20000
def Fr.pair (f : Fr) : Int × List Int := (f.kind, f.data)
def frCells (f : Fr) : List Value := [.int .i64 f.kind, .slice f.ao f.data.length f.cap]
def dataOwn (w : World) (base : Nat) (f : Fr) : Prop := w.ownsRow base 5 1 (.slice f.ao f.data.length f.cap) f.data.length (f.data.map bv)
def Fr.blk (f : Fr) : Option Nat := (Value.slice f.ao f.data.length f.cap).ownBlock
/-- The frames that a row made here holds. -/
def FramesOwn (w : World) (base : Nat) (v : Value) (frs : List Fr) : Prop :=
  w.ownsRow base 83 2 v frs.length (frs.flatMap frCells) ∧ (∀ f ∈ frs, dataOwn w base f) ∧ frs.Pairwise fun f g => f.blk = none ∨ f.blk ≠ g.blk
theorem FramesOwn.below {w w' : World} {base B : Nat} {v : Value} {frs : List Fr} (h : FramesOwn w base v frs) (hb : Below B w w') (hB : w.heap.size ≤ B) : FramesOwn w' base v frs :=
  ⟨own_below h.1 hb hB, fun f hf => own_below (h.2.1 f hf) hb hB, h.2.2⟩
theorem FramesOwn.nil (w : World) (base : Nat) : FramesOwn w base (.slice none 0 0) [] := ⟨World.ownsRow_nil _ _ _ _, by simp, List.Pairwise.nil⟩
theorem frCells_len (x : Fr) : (frCells x).length = 2 := rfl
/-- A frame more. -/
theorem FramesOwn.snoc {w w1 w2 w3 : World} {base : Nat} {v v' : Value} {frs : List Fr} {f : Fr} (h : FramesOwn w base v frs) (hB : base ≤ w.heap.size) (hb : Below w.heap.size w w1) (hd : dataOwn w1 w.heap.size f) (hb2 : Below w1.heap.size w1 w2)
    (hown : w3.ownsRow base 83 2 v' (frs.length + 1) (frs.flatMap frCells ++ frCells f)) (hg : w2.grownBy w3 v.ownBlock) : FramesOwn w3 base v' (frs ++ [f]) := by
  have k1 := h.1
  have h1 := (own_below (own_below h.1 hb (Nat.le_refl _)) hb2 (Nat.le_refl _))
  refine ⟨by rw [List.length_append, List.flatMap_append]; simpa using hown, ?_, ?_⟩
  · intro x hx
    rcases List.mem_append.1 hx with hx | hx
    · have h2 := (own_below (own_below (h.2.1 x hx) hb (Nat.le_refl _)) hb2 (Nat.le_refl _))
      exact World.ownsRow.kept h2 hg (own_apart h2 h1 (by decide))
    · obtain rfl := List.mem_singleton.1 hx
      have h2 := own_below hd hb2 (Nat.le_refl _)
      exact Go.Joins.ownsRow_le (World.ownsRow.kept h2 hg (own_apart h2 h1 (by decide))) hB
  · refine List.pairwise_append.2 ⟨h.2.2, List.pairwise_singleton _ _, fun x hx y hy => ?_⟩
    obtain rfl := List.mem_singleton.1 hy
    rcases hxb : x.blk with _ | g
    · exact Or.inl rfl
    · right
      have := ((h.2.1 x hx).lt g hxb).2
      intro hh
      have := (World.ownsRow.lt hd g hh.symm).1
      omega
/-- What is owned, as frames that lie. -/
theorem FramesOwn.lie {w : World} {base : Nat} {v : Value} {frs : List Fr} (h : FramesOwn w base v frs) : ∃ ao cap, v = .slice ao frs.length cap ∧ frs.length ≤ cap ∧ (ao = none → cap = 0) ∧ FramesIn w w.heap.size ao frs := by
  have h0 := h.1
  rcases Go.Joins.ownsRow_forms h.1 with ⟨rfl, hz⟩ | ⟨g, cap', rfl⟩
  · exact ⟨none, 0, by rw [hz], by omega, fun _ => rfl, Or.inl (List.eq_nil_of_length_eq_zero hz)⟩
  · have hg := (ownsRow_lt' h0).2
    have hc : frs.length ≤ cap' := by
      rcases h0.2 with ⟨h', _⟩ | ⟨g', c', cur, h', _, _, h3, _⟩
      · cases h'
      · cases h'; exact h3
    refine ⟨_, _, rfl, hc, by simp, Or.inr ⟨g, 0, rfl, hg, fun i hi => ?_⟩⟩
    have e : frs.getD i Fr.zero = frs[i] := by simp [List.getD, List.getElem?_eq_getElem hi]
    have hx : frs[i]? = some frs[i] := List.getElem?_eq_getElem hi
    have f0 := flat_get (k := 2) frCells_len frs i _ hx 0 (by decide)
    have f1 := flat_get (k := 2) frCells_len frs i _ hx 1 (by decide)
    have hd := h.2.1 frs[i] (List.getElem_mem hi)
    obtain ⟨a', c', hv', hB'⟩ := own_bytes hd
    rw [e, Nat.zero_add, World.ownsRow.cellAt h0 _ (by omega), World.ownsRow.cellAt h0 _ (by omega)]
    refine ⟨f0, f1, ?_⟩
    injection hv' with e1 e2 e3
    rw [e1]; exact hB'
end Go.Proofs.YtnhnabcpkaeaaaaGreatDoor
/- What four bytes say, as the program reckons it. Conditions: the slice's cells lie as its reading says; four bytes at least. -/
namespace Go.Proofs.YtnhnabcpkaeaaaaGreatDoor
open Go.RowKit
set_option maxRecDepth 20000
theorem or_add (i a b : Nat) (hb : b < 2 ^ i) (h : 2 ^ i * a + b < 4294967296) : bits .or .u32 ((2 ^ i * a : Nat) : Int) ((b : Nat) : Int) = ((2 ^ i * a + b : Nat) : Int) := by
  rw [u32_or_nat _ _ (by omega) (by omega), Nat.two_pow_add_eq_or_of_lt hb]
theorem said_bits {a b c d : Int} (ha : 0 ≤ a ∧ a < 256) (hb : 0 ≤ b ∧ b < 256) (hc : 0 ≤ c ∧ c < 256) (hd : 0 ≤ d ∧ d < 256) :
    bits .or .u32 (bits .or .u32 (bits .or .u32 (a * 16777216) (b * 65536)) (c * 256)) d = a * 16777216 + b * 65536 + c * 256 + d := by
  obtain ⟨x, rfl⟩ := Int.eq_ofNat_of_zero_le ha.1
  obtain ⟨y, rfl⟩ := Int.eq_ofNat_of_zero_le hb.1
  obtain ⟨z, rfl⟩ := Int.eq_ofNat_of_zero_le hc.1
  obtain ⟨u, rfl⟩ := Int.eq_ofNat_of_zero_le hd.1
  have e1 := or_add 24 x (65536 * y) (by omega) (by omega)
  have e2 := or_add 16 (256 * x + y) (256 * z) (by omega) (by omega)
  have e3 := or_add 8 (65536 * x + 256 * y + z) u (by omega) (by omega)
  have f1 : (x : Int) * 16777216 = ((2 ^ 24 * x : Nat) : Int) := by omega
  have f2 : (y : Int) * 65536 = ((65536 * y : Nat) : Int) := by omega
  have f3 : (z : Int) * 256 = ((256 * z : Nat) : Int) := by omega
  rw [f1, f2, f3, e1]
  rw [show 2 ^ 24 * x + 65536 * y = 2 ^ 16 * (256 * x + y) by omega, e2]
  rw [show 2 ^ 16 * (256 * x + y) + 256 * z = 2 ^ 8 * (65536 * x + 256 * y + z) by omega, e3]
  omega
theorem saidF_any (ao : Option Addr) (n cap : Nat) (xs : List Int) (w : World) (B : Nat) (hn : xs.length = n) (hx : BytesIn w B ao xs) (hw : BytesWf xs) (hl : 4 ≤ xs.length) (hm : n ≤ maxLen) :
    Calls Tryz.prog 62 #[.slice ao n cap] w fun e w' => e = .returned (.int .u32 (saidS xs)) ∧ ∃ n, w' = w.drewN n := by
  unfold maxLen at hm
  rcases hx with h0 | ⟨b, off, rfl, _, hc⟩
  · rw [h0] at hl; simp at hl
  have c0 := hc 0 (by omega)
  rw [Nat.add_zero] at c0
  have c1 := hc 1 (by omega)
  have c2 := hc 2 (by omega)
  have c3 := hc 3 (by omega)
  have w0 := hw _ (bytes_mem (k := 0) (xs := xs) (by omega))
  have w1 := hw _ (bytes_mem (k := 1) (xs := xs) (by omega))
  have w2 := hw _ (bytes_mem (k := 2) (xs := xs) (by omega))
  have w3 := hw _ (bytes_mem (k := 3) (xs := xs) (by omega))
  have hs : ((saidS xs : Nat) : Int) = xs.getD 0 0 * 16777216 + xs.getD 1 0 * 65536 + xs.getD 2 0 * 256 + xs.getD 3 0 := by unfold saidS; omega
  generalize xs.getD 0 0 = x0 at c0 w0 hs
  generalize xs.getD 1 0 = x1 at c1 w1 hs
  generalize xs.getD 2 0 = x2 at c2 w2 hs
  generalize xs.getD 3 0 = x3 at c3 w3 hs
  have HB := Lib.hid (said_bits w0 w1 w2 w3)
  have HS := Lib.hid hs
  have l0 : (0 : Int) < n := by omega
  have l1 : (1 : Int) < n := by omega
  have l2 : (2 : Int) < n := by omega
  have l3 : (3 : Int) < n := by omega
  clear hc hs hw hn
  go_enter Tryz.func62, Tryz.ntmps62
  go_wp2_with fail
  go_quiet (fail)
  go_wp2_with fail
  go_ret
  exact ⟨congrArg (fun n => Ending.returned (.int .u32 n)) (by rw [HS.out, ← HB.out]), _, rfl⟩
end Go.Proofs.YtnhnabcpkaeaaaaGreatDoor
/- frame.Scan: the frames that bytes begin with. Conditions: the bytes' cells lie as their reading says. -/
namespace Go.Proofs.YtnhnabcpkaeaaaaGreatDoor
open Go.RowKit
set_option maxRecDepth 20000
theorem step_a {b : List Int} (h : b.length < 4) : stepS b = .stop false := by unfold stepS; rw [if_pos h]
theorem step_b {b : List Int} (h : 4 ≤ b.length) (h2 : 1048576 < saidS b) : stepS b = .stop true := by unfold stepS; rw [if_neg (by omega), if_pos h2]
theorem step_c {b : List Int} (h : 4 ≤ b.length) (h2 : saidS b ≤ 1048576) (h3 : b.length < 9 + saidS b) : stepS b = .stop false := by unfold stepS; rw [if_neg (by omega), if_neg (by omega), if_pos h3]
theorem step_d {b : List Int} (h : 4 ≤ b.length) (h2 : saidS b ≤ 1048576) (h3 : 9 + saidS b ≤ b.length) (h4 : saidS (b.drop 5) ≠ sumS (kindF b :: dataS b)) : stepS b = .stop true := by
  unfold stepS; rw [if_neg (by omega), if_neg (by omega), if_neg (by omega), if_pos h4]
theorem step_e {b : List Int} (h : 4 ≤ b.length) (h2 : saidS b ≤ 1048576) (h3 : 9 + saidS b ≤ b.length) (h4 : saidS (b.drop 5) = sumS (kindF b :: dataS b)) : stepS b = .one (kindF b) (dataS b) := by
  unfold stepS; rw [if_neg (by omega), if_neg (by omega), if_neg (by omega), if_neg (by omega)]
theorem said_at (ao : Option Addr) (n cap : Nat) (xs : List Int) (z : Nat) (w : World) (B : Nat) (hn : xs.length = n) (hz : saidS xs = z) (hx : BytesIn w B ao xs) (hw : BytesWf xs) (hl : 4 ≤ n) (hm : n ≤ 1099511627776) :
    Calls Tryz.prog 62 #[.slice ao n cap] w fun e w' => e = .returned (.int .u32 z) ∧ Below w.heap.size w w' := by
  subst hz
  refine (saidF_any ao n cap xs w B hn hx hw (by omega) (by unfold maxLen; omega)).mono ?_
  rintro e w' ⟨h, k, rfl⟩
  exact ⟨h, below_drewN (Below.refl _ _) _⟩
theorem sum_at (ao : Option Addr) (n cap : Nat) (xs : List Int) (z : Nat) (w : World) (B : Nat) (hn : xs.length = n) (hz : sumS xs = z) (hx : BytesIn w B ao xs) (hw : BytesWf xs) (hl : n ≤ 4611686018427387904) :
    Calls Tryz.prog 63 #[.slice ao n cap] w fun e w' => e = .returned (.int .u32 z) ∧ w = w' := by
  subst hn hz
  exact sum_any ao cap xs w B hx hw hl
theorem clone_at (ao : Option Addr) (n cap : Nat) (xs : List Int) (w : World) (B : Nat) (hn : xs.length = n) (hx : BytesIn w B ao xs) (hB : B ≤ w.heap.size) (hao : ao = none → cap = 0) (hl : n ≤ 140737488351232) :
    Calls Tryz.prog 64 #[.slice ao n cap] w (ClonePostF xs w) := by
  subst hn; exact clone_anyF ao cap xs w B hx hB hao hl
theorem said_lt {b : List Int} (hb : BytesWf b) : saidS b < 4294967296 := by
  have h : ∀ i, 0 ≤ b.getD i 0 ∧ b.getD i 0 < 256 := by
    intro i
    rcases Nat.lt_or_ge i b.length with h | h
    · exact hb _ (bytes_mem h)
    · rw [List.getD_eq_getElem?_getD, List.getElem?_eq_none h]; decide
  have h0 := h 0
  have h1 := h 1
  have h2 := h 2
  have h3 := h 3
  unfold saidS
  omega
theorem infoFrame : (Tryz.prog.info? 83).map (fun i => (i.zero, i.size, i.bytes)) = some (some (.agg #[.int .i64 0, .slice none 0 0]), 2, 32) := by kernel_rfl
theorem frame_cells_new (w : World) (T : TypeId) (x y : Value) : ∀ j u, [x, y][j]? = some u → (w.alloc (.cells #[x, y] T)).cell? ((⟨w.heap.size, 0, none⟩ : Addr).add j) = some u := by
  intro j u hu
  have hadd : (⟨w.heap.size, 0, none⟩ : Addr).add j = ⟨w.heap.size, j, none⟩ := by unfold Addr.add; split <;> simp_all
  rw [hadd, World.cell?_alloc_at _ _ _ _ rfl]
  simpa using hu
def ScanPost (xs : List Int) (w : World) (e : Ending) (w' : World) : Prop :=
  ∃ v frs, e = .returned (.tuple #[v, .int .i64 (scanS xs).2.1, .bool (scanS xs).2.2]) ∧ frs.map Fr.pair = (scanS xs).1 ∧ FramesOwn w' w.heap.size v frs ∧ Below w.heap.size w w'
theorem scan_post {xs : List Int} {w w' : World} {v : Value} {frs : List Fr} {used : Nat} {s : Bool} (h : scanS xs = (frs.map Fr.pair, used, s)) (ho : FramesOwn w' w.heap.size v frs) (hb : Below w.heap.size w w') : ScanPost xs w (.returned (.tuple #[v, .int .i64 used, .bool s])) w' :=
  ⟨v, frs, by rw [h], by rw [h], ho, hb⟩
set_option maxHeartbeats 2000000 in
theorem scan_any (ao : Option Addr) (cap : Nat) (xs : List Int) (w : World) (hx : BytesIn w w.heap.size ao xs) (hw : BytesWf xs) (hao : ao = none → cap = 0) (hcap : xs.length ≤ cap) (hl : xs.length ≤ 1099511627776) :
    Calls Tryz.prog 30 #[.slice ao xs.length cap] w (ScanPost xs w) := by
  obtain ⟨i0, hi, hz0, hz1, hz2⟩ := info_parts infoFrame
  have HX := Lib.hid hx
  have HA := Lib.hid hao
  have HC := Lib.hid hcap
  clear hx hao
  go_enter Tryz.func30, Tryz.ntmps30
  go_wp2_with fail
  go_loopw [2, 3, 5, 6, 7, 8] (fun v u l _ _ _ wr => ∃ (frs : List Fr) (used m c : Nat) (lo : Option Addr), u = .int .i64 used ∧ frs.length ≤ used ∧ m + used = xs.length ∧ m ≤ c ∧ l = .slice lo m c ∧ (lo = none → c = 0) ∧ BytesIn wr w.heap.size lo (xs.drop used) ∧ FramesOwn wr w.heap.size v frs ∧ scanS xs = joinS (frs.map Fr.pair) used (scanS (xs.drop used)) ∧ Below w.heap.size w wr) (fun _ u _ _ _ _ _ => xs.length - (intOf u).toNat)
  case atStart => exact ⟨[], 0, xs.length, cap, ao, rfl, by simp, by omega, hcap, rfl, HA.out, by simpa using HX.out, FramesOwn.nil _ _, by simp [joinS], Below.refl _ _⟩
  case round =>
    obtain ⟨frs, used, m, c, lo, rfl, hfl, hm, hmc, rfl, hlo, hbi, hfo, hsc, hbel⟩ := hrel
    have HL := Lib.hid hlo
    have HF := Lib.hid hfo
    have HS := Lib.hid hsc
    clear hlo hfo hsc hcap
    have hs := hbel.size
    obtain ⟨left, hleft⟩ : ∃ left, left = xs.drop used := ⟨_, rfl⟩
    have hwl : BytesWf left := by rw [hleft]; exact hw.drop used
    have HM := Lib.hid (show left.length = m by rw [hleft, List.length_drop]; omega)
    rw [← hleft] at hbi
    have HD := Lib.hid hleft
    clear hleft
    by_cases h4 : m < 4
    · have i1 : ¬ (4 : Int) ≤ m := by omega
      have hj := join_stop (s := false) (by rw [← HD.out]; exact step_a (by rw [HM.out]; exact h4)) HS.out
      have HJ := Lib.hid hj
      clear hj
      go_wp2_with fail
      go_ret3
      exact scan_post HJ.out HF.out hbel
    · have i1 : (4 : Int) ≤ m := by omega
      obtain ⟨n, hn⟩ : ∃ n, saidS left = n := ⟨_, rfl⟩
      have hn32 : n < 4294967296 := hn ▸ said_lt hwl
      have HN := Lib.hid hn
      clear hn
      go_wp2_with fail
      refine (said_at lo m c left n wr _ HM.out HN.out hbi hwl (by omega) (by omega)).mono ?_
      rintro e w1 ⟨rfl, hb1⟩
      have hbi1 := hbi.below hb1 hs
      have hfo1 := HF.out.below hb1 (Nat.le_refl _)
      have hbel1 := hbel.trans (hb1.mono hs)
      have HF1 := Lib.hid hfo1
      clear hfo1 HF hbi
      have hs1 := hbel1.size
      by_cases h5 : 1048576 < n
      · have i2 : (1048576 : Int) < n := by omega
        have hj := join_stop (s := true) (by rw [← HD.out]; exact step_b (by rw [HM.out]; omega) (by rw [HN.out]; exact h5)) HS.out
        have HJ := Lib.hid hj
        clear hj
        go_wp2_with fail
        go_ret3
        exact scan_post HJ.out HF1.out hbel1
      · have i2 : ¬ (1048576 : Int) < n := by omega
        by_cases h6 : m < 9 + n
        · have i3 : (m : Int) < 9 + (n : Int) := by omega
          have hj := join_stop (s := false) (by rw [← HD.out]; exact step_c (by rw [HM.out]; omega) (by rw [HN.out]; omega) (by rw [HM.out, HN.out]; exact h6)) HS.out
          have HJ := Lib.hid hj
          clear hj
          go_wp2_with fail
          go_ret3
          exact scan_post HJ.out HF1.out hbel1
        · have i3 : ¬ (m : Int) < 9 + (n : Int) := by omega
          have hHM := HM.out
          rcases hbi1 with h0 | ⟨b, off, hlo1, hbB, hc⟩
          · rw [h0] at hHM; simp at hHM; omega
          have hc4 := hc 4 (by omega)
          have hk4 := hwl _ (bytes_mem (k := 4) (xs := left) (by omega))
          have hbi1 : BytesIn w1 w.heap.size lo left := Or.inr ⟨b, off, hlo1, hbB, hc⟩
          have hd9 := hbi1.sub (cap := c) 9 n (by omega)
          have hd5 := hbi1.drop (cap := c) 5 (by omega)
          have ha9 : subA lo c 9 1 = none → c - 9 = 0 := fun h => by have := HL.out (subA_eq_none h); omega
          have hsl9 : ∀ w, (Instr.sliceAt 22 (.slice lo m c) (some (.int .i64 9)) (some (.int .i64 (9 + (n : Int)))) none).run Tryz.prog w = .ok (.slice (subA lo c 9 1) n (c - 9)) w := fun w => by
            have := run_sub_lh sliceByte sizeByte lo m c 9 (9 + n) (by omega) (by omega) .i64 .i64 9 (9 + (n : Int)) rfl (by omega) w
            rwa [Nat.add_sub_cancel_left] at this
          have hsl5 : ∀ w, (Instr.sliceAt 22 (.slice lo m c) (some (.int .i64 5)) none none).run Tryz.prog w = .ok (.slice (subA lo c 5 1) (m - 5) (c - 5)) w := fun w => run_sub_l sliceByte sizeByte lo m c 5 (by omega) .i64 5 rfl w
          have hks : kindF left = left.getD 4 0 := rfl
          have hds : dataS left = (left.drop 9).take n := by unfold dataS; rw [HN.out]
          have hdl : ((left.drop 9).take n).length = n := by rw [List.length_take, List.length_drop]; omega
          have hdw : BytesWf ((left.drop 9).take n) := (hwl.drop 9).take n
          subst hlo1
          clear hc hbi1 hHM
          obtain ⟨kd, hkd⟩ : ∃ kd, kd = left.getD 4 0 := ⟨_, rfl⟩
          rw [← hkd] at hc4 hk4 hks
          obtain ⟨dt, hdt⟩ : ∃ dt, dt = (left.drop 9).take n := ⟨_, rfl⟩
          rw [← hdt] at hd9 hds hdl hdw
          obtain ⟨a9, ha9e⟩ : ∃ a9, a9 = subA (some ⟨b, off, none⟩) c 9 1 := ⟨_, rfl⟩
          obtain ⟨a5, ha5e⟩ : ∃ a5, a5 = subA (some ⟨b, off, none⟩) c 5 1 := ⟨_, rfl⟩
          rw [← ha9e] at hd9 ha9
          simp only [← ha9e] at hsl9
          simp only [← ha5e] at hsl5
          rw [← ha5e] at hd5
          have HK := Lib.hid hks
          have HT := Lib.hid hds
          have H9 := Lib.hid ha9
          clear hkd hdt ha9e ha5e hks hds ha9
          subst hdl
          have n1 : IntKind.i64.wrap (9 + (dt.length : Int)) = 9 + (dt.length : Int) := IntWalk.i64_in _ (by omega)
          have l4 : (4 : Int) < m := by omega
          go_wp2_with fail
          go_quiet (fail)
          have hb2 : Below w1.heap.size w1 (w1.drewN nq) := below_drewN (Below.refl _ _) _
          generalize w1.drewN nq = w2 at hb2 ⊢
          have hfo2 := HF1.out.below hb2 (Nat.le_refl _)
          have hbel2 := hbel1.trans (hb2.mono hs1)
          have hd9' := hd9.below hb2 hs1
          have hd5' := hd5.below hb2 hs1
          have hs2 := hbel2.size
          have HF2 := Lib.hid hfo2
          clear hfo2 HF1 hd9 hd5 hc4 n1 hsl9
          obtain ⟨z, hz⟩ : ∃ z, saidS (left.drop 5) = z := ⟨_, rfl⟩
          have HZ := Lib.hid hz
          have H5L := Lib.hid (show (left.drop 5).length = m - 5 by rw [List.length_drop, HM.out])
          have hz32 : z < 4294967296 := hz ▸ said_lt (hwl.drop 5)
          clear hz
          go_wp2_with fail
          refine (said_at a5 (m - 5) (c - 5) (left.drop 5) z w2 _ H5L.out HZ.out hd5' (hwl.drop 5) (by omega) (by omega)).mono ?_
          rintro e w3 ⟨rfl, hb3⟩
          have hfo3 := HF2.out.below hb3 (Nat.le_refl _)
          have hbel3 := hbel2.trans (hb3.mono hs2)
          have hd3 := hd9'.below hb3 hs2
          have hs3 := hbel3.size
          have HF3 := Lib.hid hfo3
          clear hfo3 HF2 hd9' hd5' hsl5
          have hao3 := H9.out
          go_wp2_with (at_builtin; refine wpList_append_bytes rfl (.tmp 41) (.tmp 42) rfl w3.heap.size _ [kd] rfl (World.ownsRow_lit w3 #[.int .u8 kd] 1 (Nat.le_refl _) (by unfold maxLen; omega) rfl) a9 (c - 9) dt rfl w.heap.size (hd3.below ((Below.refl w.heap.size w3).alloc (by omega) _) (Nat.le_refl _)) hao3 (by simp; omega) (by simp) ?_)
          intro v4 w4 hown4 hg4
          have hb4 : Below w3.heap.size w3 w4 := ((Below.refl w3.heap.size w3).alloc (Nat.le_refl _) _).grown hg4 (by simp) (fun k hk => by cases hk; exact Nat.le_refl _)
          obtain ⟨a4, cap4, hv4, hD4⟩ := own_bytes (l := kd :: dt) hown4
          subst hv4
          have hw4 : BytesWf (kd :: dt) := by
            intro x hx
            rcases List.mem_cons.1 hx with hx | hx
            · rw [hx]; exact hk4
            · exact hdw x hx
          have hfo4 := HF3.out.below hb4 (Nat.le_refl _)
          have hbel4 := hbel3.trans (hb4.mono hs3)
          have hd4 := hd3.below hb4 hs3
          have hs4 := hbel4.size
          have HF4 := Lib.hid hfo4
          clear hown4 hg4 hfo4 HF3 hd3 hao3
          obtain ⟨sm, hsm⟩ : ∃ sm, sumS (kd :: dt) = sm := ⟨_, rfl⟩
          have HSM := Lib.hid hsm
          clear hsm
          go_wp2_with fail
          refine (sum_at a4 _ cap4 (kd :: dt) sm w4 _ (by simp) HSM.out hD4 hw4 (by simp; omega)).mono ?_
          rintro e w5 ⟨rfl, rfl⟩
          by_cases hzs : z = sm
          · subst hzs
            have hst : stepS (xs.drop used) = .one kd dt := by
              rw [← HD.out, HK.out.symm, HT.out.symm]
              exact step_e (by rw [HM.out]; omega) (by rw [HN.out]; omega) (by rw [HM.out, HN.out]; omega) (by rw [HZ.out, HK.out, HT.out, HSM.out])
            have hj := join_one hst HS.out
            have HJ := Lib.hid hj
            clear hj hst
            have hao5 := H9.out
            go_wp2_with fail
            refine (clone_at a9 _ (c - 9) dt w4 _ rfl hd4 hs4 hao5 (by omega)).mono ?_
            rintro e w6 ⟨v6, rfl, hown6, hb6⟩
            have hown6' := hown6
            obtain ⟨a6, cap6, hv6, _⟩ := own_bytes hown6'
            subst hv6
            have hfo6 := HF4.out.below hb6 (Nat.le_refl _)
            have HFR := Lib.hid hfo6
            have HO6 := Lib.hid hown6
            have hbel6 := hbel4.trans (hb6.mono hs4)
            have hs6 := hbel6.size
            have hu1 : used + 9 + dt.length ≤ xs.length := by omega
            have hslu : ∀ w, (Instr.sliceAt 22 (.slice ao xs.length cap) (some (.int .i64 ((used : Int) + (9 + (dt.length : Int))))) none none).run Tryz.prog w = .ok (.slice (subA ao cap (used + 9 + dt.length) 1) (xs.length - (used + 9 + dt.length)) (cap - (used + 9 + dt.length))) w := fun w => run_sub_l sliceByte sizeByte ao xs.length cap (used + 9 + dt.length) hu1 .i64 _ (by omega) w
            obtain ⟨au, hau⟩ : ∃ au, au = subA ao cap (used + 9 + dt.length) 1 := ⟨_, rfl⟩
            simp only [← hau] at hslu
            have HAU := Lib.hid hau
            clear hfo6 hown6 hown6' hao5 hau hd4
            go_wp2_with (at_builtin; refine wpList_append_own _ rfl (.tmp 48) (.tmp 54) 76 rfl w.heap.size 83 i0 (.agg #[.int .i64 0, .slice none 0 0]) 2 32 Tryz.underlying76 hi hz0 hz1 hz2 rfl (by decide) _ frs.length (frs.flatMap frCells) rfl (World.ownsRow.alloc HFR.out.1 _) ⟨w6.heap.size, 0, none⟩ 1 1 [.int .i64 kd, .slice a6 dt.length cap6] rfl rfl (frame_cells_new _ _ _ _) (by simp [Value.oneCell']) (by unfold maxLen; omega) (by omega) (by simp; omega) ?_)
            intro v7 w7 hown7 hg7 _
            have hfo7 := HF4.out.snoc (f := ⟨kd, a6, cap6, dt⟩) hs4 hb6 HO6.out ((Below.refl w6.heap.size w6).alloc (Nat.le_refl _) _) hown7 hg7
            have hbel7 : Below w.heap.size w w7 := (hbel6.alloc hs6 _).grown hg7 (by simp; omega) (fun k hk => (HFR.out.1.lt k hk).1)
            have HF7 := Lib.hid hfo7
            clear hown7 hg7 hfo7
            go_wp2_with fail
            go_roundw
            case rel => exact ⟨frs ++ [⟨kd, a6, cap6, dt⟩], used + 9 + dt.length, _, _, au, by go_num, by simp; omega, by omega, by have := HC.out; omega, rfl, fun h => by rw [HAU.out] at h; rw [HA.out (subA_eq_none h)]; omega, by rw [HAU.out]; exact (HX.out.below hbel7 (Nat.le_refl _)).drop _ HC.out, HF7.out, by rw [List.map_append]; exact HJ.out, hbel7⟩
            case measure => simp [intOf]; omega
          · have i5 : ¬ ((z : Int) = (sm : Int)) := by omega
            have hj := join_stop (s := true) (by rw [← HD.out]; exact step_d (by rw [HM.out]; omega) (by rw [HN.out]; omega) (by rw [HM.out, HN.out]; omega) (by rw [HZ.out, HK.out, HT.out, HSM.out]; exact hzs)) HS.out
            have HJ := Lib.hid hj
            clear hj
            go_wp2_with fail
            go_ret3
            exact scan_post HJ.out HF4.out hbel4
end Go.Proofs.YtnhnabcpkaeaaaaGreatDoor
/- Frames done one behind the other, as Open does them. Conditions: the frames lie as they read; what is said is of a block of its own. -/
namespace Go.Proofs.YtnhnabcpkaeaaaaGreatDoor
open Go.RowKit
set_option maxRecDepth 20000
/-- A wal that is being opened: its variable, its block, what is said. -/
structure OpenSt (w : World) (B xb wb sb db : Nat) (s : WP) : Prop where
  xbk : w.heap[xb]? = some (.cells #[.pointer (some ⟨wb, 0, none⟩)] 28 (0, 0))
  wbk : w.heap[wb]? = some (.cells #[.pointer (some ⟨sb, 0, none⟩), .pointer (some ⟨db, 0, none⟩)] 45 (0, 0))
  say : SayIs w B sb s
theorem OpenSt.xne {w : World} {B xb wb sb db : Nat} {s : WP} (h : OpenSt w B xb wb sb db s) : xb ≠ sb := by
  obtain ⟨v, es, hs, _⟩ := h.say
  rintro rfl
  have := h.xbk.symm.trans hs.blk
  simp only [Option.some.injEq, Obj.cells.injEq] at this
  exact absurd this.2.1 (by decide)
theorem OpenSt.wne {w : World} {B xb wb sb db : Nat} {s : WP} (h : OpenSt w B xb wb sb db s) : wb ≠ sb := by
  obtain ⟨v, es, hs, _⟩ := h.say
  rintro rfl
  have := h.wbk.symm.trans hs.blk
  simp only [Option.some.injEq, Obj.cells.injEq] at this
  exact absurd this.2.1 (by decide)
theorem OpenSt.xlt {w : World} {B xb wb sb db : Nat} {s : WP} (h : OpenSt w B xb wb sb db s) : xb < w.heap.size := (Array.getElem?_eq_some_iff.1 h.xbk).1
theorem OpenSt.wlt {w : World} {B xb wb sb db : Nat} {s : WP} (h : OpenSt w B xb wb sb db s) : wb < w.heap.size := (Array.getElem?_eq_some_iff.1 h.wbk).1
theorem OpenSt.slt {w : World} {B xb wb sb db : Nat} {s : WP} (h : OpenSt w B xb wb sb db s) : sb < w.heap.size := by obtain ⟨v, es, hs, _⟩ := h.say; exact hs.lt
theorem SayIs.below {w w' : World} {B B' sb : Nat} {s : WP} (h : SayIs w B sb s) (hb : Below B' w w') (hB : w.heap.size ≤ B') : SayIs w' B sb s := by
  obtain ⟨v, es, hs, hm⟩ := h
  exact ⟨v, es, hs.below hb hB, hm⟩
theorem OpenSt.next {w w' : World} {B xb wb sb db : Nat} {s t : WP} (h : OpenSt w B xb wb sb db s) (hg : w.grownBy w' (some sb)) (hs : SayIs w' B sb t) : OpenSt w' B xb wb sb db t :=
  ⟨(hg.block xb h.xlt (fun e => h.xne (Option.some.inj e))).trans h.xbk, (hg.block wb h.wlt (fun e => h.wne (Option.some.inj e))).trans h.wbk, hs⟩
theorem OpenSt.below {w w' : World} {B xb wb sb db : Nat} {s : WP} (h : OpenSt w B xb wb sb db s) (hb : Below w.heap.size w w') : OpenSt w' B xb wb sb db s :=
  h.next (grown_bel hb _) (h.say.below hb (Nat.le_refl _))
/-- What the closure of Open tells of a frame: can it not be done? -/
def NotDone (w : World) (B xb wb sb db : Nat) (r : Option WP) (e : Ending) (w' : World) : Prop :=
  match r with
  | none => e = .returned (.bool true) ∧ w.grownBy w' (some sb)
  | some t => e = .returned (.bool false) ∧ OpenSt w' B xb wb sb db t ∧ w.grownBy w' (some sb)
set_option maxHeartbeats 2000000 in
theorem openclo_any (B xb wb sb db n nd cap : Nat) (s : WP) (kind : Int) (ao : Option Addr) (data : List Int) (w : World) (h : OpenSt w B xb wb sb db s) (hok : s.Ok n) (hn : n ≤ 1048576) (hd : data.length = nd) (hx : BytesIn w w.heap.size ao data) (hw : BytesWf data) (hnil : ao = none → cap = 0) (hl : nd ≤ 140737488351232) (hk : (Lit.int .i64 kind).wf = true) :
    Calls Tryz.prog 32 #[.agg #[.int .i64 kind, .slice ao nd cap], .pointer (some ⟨xb, 0, none⟩)] w (NotDone w B xb wb sb db (doW s kind data)) := by
  have hb0 := (Below.refl w.heap.size w).alloc (Nat.le_refl _) (.cells #[.int .i64 kind, .slice ao nd cap] 83)
  have hk0 := heap_alloc_new w (.cells #[.int .i64 kind, .slice ao nd cap] 83)
  have H := Lib.hid h
  have HX := Lib.hid hx
  have HD := Lib.hid hd
  have HW := Lib.hid hw
  have HNIL := Lib.hid hnil
  have HOK := Lib.hid hok
  clear h hx hd hw hnil hok
  go_enter Tryz.func32, Tryz.ntmps32
  go_upto_region 1 with fail
  generalize w.alloc (.cells #[.int .i64 kind, .slice ao nd cap] 83) = w1 at hb0 hk0 ⊢
  have h1 := H.out.below hb0
  have hS : w1.cell? ⟨xb, 0, none⟩ = some (.pointer (some ⟨wb, 0, none⟩)) ∧ w1.cell? ⟨wb, 0, none⟩ = some (.pointer (some ⟨sb, 0, none⟩)) ∧ w1.cell? ⟨w.heap.size, 0, none⟩ = some (.int .i64 kind) ∧ w1.cell? ⟨w.heap.size, 1, none⟩ = some (.slice ao nd cap) :=
    ⟨Go.Joins.cell_of_block h1.xbk 0, Go.Joins.cell_of_block h1.wbk 0, Go.Joins.cell_of_block hk0 0, Go.Joins.cell_of_block hk0 1⟩
  have h2 := h1.below (Below.refl w1.heap.size w1).drew
  have hb2 : Below w.heap.size w w1.drew := hb0.drew
  have H2 := Lib.hid h2
  have HB2 := Lib.hid hb2
  have hxne := h2.xne
  have hwne := h2.wne
  have hzne : w.heap.size ≠ sb := fun e => by have := H.out.slt; omega
  have hk9 : w1.drew.heap[w.heap.size]? = some (.cells #[.int .i64 kind, .slice ao nd cap] 83 (0, 0)) := hk0
  obtain ⟨r, hr⟩ : ∃ r, doW s kind data = r := ⟨_, rfl⟩
  have HR := Lib.hid hr
  clear h1 h2 hb0 hb2 hk0 hr
  refine heldS_begin (fun w' => w'.cell? ⟨xb, 0, none⟩ = some (.pointer (some ⟨wb, 0, none⟩)) ∧ w'.cell? ⟨wb, 0, none⟩ = some (.pointer (some ⟨sb, 0, none⟩)) ∧ w'.cell? ⟨w.heap.size, 0, none⟩ = some (.int .i64 kind) ∧ w'.cell? ⟨w.heap.size, 1, none⟩ = some (.slice ao nd cap)) (by kernel_rfl) (hS) ?_
  intro hS0
  (first | (refine takeS_no 0 rfl (by kernel_rfl) (by kernel_rfl) (by kernel_rfl) (fun _ _ _ h => h) (by rfl) (by assumption) ?_) | (refine takeS_yes (v := ?_) 0 rfl (by kernel_rfl) (by kernel_rfl) (by kernel_rfl) (fun _ _ _ h => h) (by rfl) (by assumption) ?_ ?_; rotate_left; focus (intro wS hSw; obtain ⟨q0, q1, q2, q3⟩ := hSw; go_simp; first | done | with_reducible rfl)))
  (try simp only [Act.put, List.setIfInBounds_toArray, List.set_cons_zero, List.set_cons_succ])
  (first | (refine takeS_no 1 rfl (by kernel_rfl) (by kernel_rfl) (by kernel_rfl) (fun _ _ _ h => h) (by rfl) (by assumption) ?_) | (refine takeS_yes (v := ?_) 1 rfl (by kernel_rfl) (by kernel_rfl) (by kernel_rfl) (fun _ _ _ h => h) (by rfl) (by assumption) ?_ ?_; rotate_left; focus (intro wS hSw; obtain ⟨q0, q1, q2, q3⟩ := hSw; go_simp; first | done | with_reducible rfl)))
  (try simp only [Act.put, List.setIfInBounds_toArray, List.set_cons_zero, List.set_cons_succ])
  (first | (refine takeS_no 2 rfl (by kernel_rfl) (by kernel_rfl) (by kernel_rfl) (fun _ _ _ h => h) (by rfl) (by assumption) ?_) | (refine takeS_yes (v := ?_) 2 rfl (by kernel_rfl) (by kernel_rfl) (by kernel_rfl) (fun _ _ _ h => h) (by rfl) (by assumption) ?_ ?_; rotate_left; focus (intro wS hSw; obtain ⟨q0, q1, q2, q3⟩ := hSw; go_simp; first | done | with_reducible rfl)))
  (try simp only [Act.put, List.setIfInBounds_toArray, List.set_cons_zero, List.set_cons_succ])
  (first | (refine takeS_no 3 rfl (by kernel_rfl) (by kernel_rfl) (by kernel_rfl) (fun _ _ _ h => h) (by rfl) (by assumption) ?_) | (refine takeS_yes (v := ?_) 3 rfl (by kernel_rfl) (by kernel_rfl) (by kernel_rfl) (fun _ _ _ h => h) (by rfl) (by assumption) ?_ ?_; rotate_left; focus (intro wS hSw; obtain ⟨q0, q1, q2, q3⟩ := hSw; go_simp; first | done | with_reducible rfl)))
  (try simp only [Act.put, List.setIfInBounds_toArray, List.set_cons_zero, List.set_cons_succ])
  (first | (refine takeS_no 4 rfl (by kernel_rfl) (by kernel_rfl) (by kernel_rfl) (fun _ _ _ h => h) (by rfl) (by assumption) ?_) | (refine takeS_yes (v := ?_) 4 rfl (by kernel_rfl) (by kernel_rfl) (by kernel_rfl) (fun _ _ _ h => h) (by rfl) (by assumption) ?_ ?_; rotate_left; focus (intro wS hSw; obtain ⟨q0, q1, q2, q3⟩ := hSw; go_simp; first | done | with_reducible rfl)))
  (try simp only [Act.put, List.setIfInBounds_toArray, List.set_cons_zero, List.set_cons_succ])
  refine takeS_alone 5 rfl (by kernel_rfl) (by rfl) (fun K hK => ?_)
  go_simp
  (refine (wdo_any B sb n nd cap s kind ao data w1.drew H2.out.say HOK.out hn HD.out ((HX.out.below HB2.out (Nat.le_refl _)).mono HB2.out.size) HW.out HNIL.out hl hk).mono ?_; rw [HR.out]; intro e w5 hda; have hg5 : w1.drew.grownBy w5 (some sb) := (by { cases r with | none => exact grown_bel hda.2 _ | some t => exact hda.2.2 }); have hS5 := And.intro ((cell_block (hg5.block xb H2.out.xlt (fun e => hxne (Option.some.inj e)))).trans hS0.1) (And.intro ((cell_block (hg5.block wb H2.out.wlt (fun e => hwne (Option.some.inj e)))).trans hS0.2.1) (And.intro ((cell_block (hg5.block w.heap.size (Array.getElem?_eq_some_iff.1 hk9).1 (fun e => hzne (Option.some.inj e)))).trans hS0.2.2.1) ((cell_block (hg5.block w.heap.size (Array.getElem?_eq_some_iff.1 hk9).1 (fun e => hzne (Option.some.inj e)))).trans hS0.2.2.2))); have hbq : ∃ bq, e = .returned (.bool bq) := (by { cases r with | none => exact ⟨_, hda.1⟩ | some t => exact ⟨_, hda.1⟩ }); obtain ⟨bq, rfl⟩ := hbq; have HDA := Lib.hid hda; clear hda)
  refine hK.out _ _ (by assumption) ?_
  clear hK K
  (try simp only [Act.put, List.setIfInBounds_toArray, List.set_cons_zero, List.set_cons_succ])
  (first | (refine takeS_no 6 rfl (by kernel_rfl) (by kernel_rfl) (by kernel_rfl) (fun _ _ _ h => h) (by rfl) (by assumption) ?_) | (refine takeS_yes (v := ?_) 6 rfl (by kernel_rfl) (by kernel_rfl) (by kernel_rfl) (fun _ _ _ h => h) (by rfl) (by assumption) ?_ ?_; rotate_left; focus (intro wS hSw; obtain ⟨q0, q1, q2, q3⟩ := hSw; go_simp; first | done | with_reducible rfl)))
  (try simp only [Act.put, List.setIfInBounds_toArray, List.set_cons_zero, List.set_cons_succ])
  (first | (refine takeS_no 7 rfl (by kernel_rfl) (by kernel_rfl) (by kernel_rfl) (fun _ _ _ h => h) (by rfl) (by assumption) ?_) | (refine takeS_yes (v := ?_) 7 rfl (by kernel_rfl) (by kernel_rfl) (by kernel_rfl) (fun _ _ _ h => h) (by rfl) (by assumption) ?_ ?_; rotate_left; focus (intro wS hSw; obtain ⟨q0, q1, q2, q3⟩ := hSw; go_simp; first | done | with_reducible rfl)))
  (try simp only [Act.put, List.setIfInBounds_toArray, List.set_cons_zero, List.set_cons_succ])
  refine wpAnyH_done (by kernel_rfl) ?_ _
  simp only [Exit.then]
  rename (∀ (_ : Act) (_ : World), _ → _) => hK0
  refine hK0 _ _ ?_
  clear hK0
  go_wp2_with fail
  go_ret
  have hda := HDA.out
  have hgw : w.grownBy w1.drew (some sb) := grown_bel HB2.out _
  rw [HR.out]
  cases r with
  | none =>
    obtain ⟨h1, _⟩ := hda
    injection h1 with h1
    injection h1 with h1
    subst h1
    exact ⟨rfl, hgw.trans hg5⟩
  | some t =>
    obtain ⟨h1, h2, h3⟩ := hda
    injection h1 with h1
    injection h1 with h1
    subst h1
    exact ⟨rfl, H2.out.next h3 h2, hgw.trans hg5⟩
end Go.Proofs.YtnhnabcpkaeaaaaGreatDoor
/- Are there frames that can't be done? Conditions: the frames lie as they read, below what is said. -/
namespace Go.Proofs.YtnhnabcpkaeaaaaGreatDoor
open Go.RowKit
set_option maxRecDepth 20000
theorem grown_atW {w w' : World} {b : Nat} (hg : w.grownBy w' (some b)) (hb : b ≤ w.heap.size) : Below b w w' := ⟨hg.os, hg.tape, hg.output, hg.size, fun i hi => hg.block i (by omega) (by simp; omega)⟩
/-- Where the first frame stands that can't be done. -/
def IdxAt (w : World) (B xb wb sb db : Nat) (r : Option WP) (e : Ending) (w' : World) : Prop :=
  match r with
  | none => (∃ k : Nat, e = .returned (.int .i64 k)) ∧ w.grownBy w' (some sb)
  | some t => e = .returned (.int .i64 (-1)) ∧ OpenSt w' B xb wb sb db t ∧ w.grownBy w' (some sb)
/-- Frames that may be read. -/
structure FrOk (f : Fr) : Prop where
  wf : FrWf f
  len : f.data.length ≤ 1099511627776
set_option maxHeartbeats 2000000 in
theorem index_any (B xb wb sb db n m : Nat) (ao : Option Addr) (cap : Nat) (s : WP) (frs : List Fr) (w : World) (hm : frs.length = m) (hx : FramesIn w sb ao frs) (hfr : ∀ f ∈ frs, FrOk f) (h : OpenSt w B xb wb sb db s) (hok : s.Ok n) (hn : n + m ≤ 1048576) :
    Calls Tryz.prog 65 #[.slice ao m cap, .func (.func 32) #[] #[.pointer (some ⟨xb, 0, none⟩)]] w (IdxAt w B xb wb sb db (doAll s (frs.map Fr.pair))) := by
  have hfn : ∀ args w, (callFunc 32 args).run Tryz.prog w = .ok (.enter 32 args) w := fun _ _ => rfl
  have HX := Lib.hid hx
  have HM := Lib.hid hm
  have HFR := Lib.hid hfr
  have H := Lib.hid h
  have HOK := Lib.hid hok
  clear hx hm hfr h hok
  go_enter Tryz.func65, Tryz.ntmps65
  go_wp2_with fail
  go_loopw [5, 8] (fun _ i wr => ∃ (k : Nat) (sk : WP), k ≤ m ∧ i = .int .i64 k ∧ doAll s ((frs.map Fr.pair).take k) = some sk ∧ sk.Ok (n + k) ∧ OpenSt wr B xb wb sb db sk ∧ w.grownBy wr (some sb)) (fun _ i _ => m - (intOf i).toNat)
  case atStart => exact ⟨0, s, by omega, rfl, rfl, HOK.out, H.out, World.grownBy.refl _ _⟩
  case round =>
    obtain ⟨k, sk, hk, rfl, hdo, hok, hst, hg⟩ := hrel
    have HDO := Lib.hid hdo
    have HOKK := Lib.hid hok
    have HST := Lib.hid hst
    have HG := Lib.hid hg
    clear hdo hok hst hg
    by_cases hlt : k < m
    · have hkf : k < frs.length := by rw [HM.out]; exact hlt
      rcases HX.out with h0 | ⟨bb, off, rfl, hb, hc⟩
      · rw [h0] at hkf; simp at hkf
      obtain ⟨c0, c1, hD⟩ := hc k hkf
      have hbel : Below sb w wr := grown_atW HG.out (Nat.le_of_lt H.out.slt)
      rw [← hbel.cell (p := ⟨bb, _, none⟩) hb] at c0 c1
      have hD2 := (hD.below hbel (Nat.le_refl _)).mono (Nat.le_of_lt HST.out.slt)
      have hfk : frs[k]? = some (frs.getD k Fr.zero) := by simp [List.getD, List.getElem?_eq_getElem hkf]
      have hfw := HFR.out (frs.getD k Fr.zero) (List.mem_of_getElem? hfk)
      obtain ⟨f, hfe⟩ : ∃ f, f = frs.getD k Fr.zero := ⟨_, rfl⟩
      rw [← hfe] at c0 c1 hD2 hfw hfk
      clear hfe hD hc hbel
      have hpk : (frs.map Fr.pair)[k]? = some f.pair := by rw [List.getElem?_map, hfk]; rfl
      have hnext : ∀ t, doW sk f.kind f.data = some t → doAll s ((frs.map Fr.pair).take (k + 1)) = some t := fun t ht => by
        obtain ⟨hkl, hkg⟩ := List.getElem?_eq_some_iff.1 hpk
        rw [List.take_succ_eq_append_getElem hkl, doAll_snoc, HDO.out, hkg]
        exact ht
      have hstop : doW sk f.kind f.data = none → doAll s (frs.map Fr.pair) = none := fun hn => doAll_none HDO.out hpk hn
      have hokn : ∀ t, doW sk f.kind f.data = some t → t.Ok (n + (k + 1)) := fun t ht => doW_ok HOKK.out hfw.wf.2.2.1 hfw.len ht
      have HNEXT := Lib.hid hnext
      have HSTOP := Lib.hid hstop
      have HOKN := Lib.hid hokn
      have HD2 := Lib.hid hD2
      have HFW := Lib.hid hfw
      clear hfk hpk hnext hstop hokn hD2 hfw
      obtain ⟨fk, fa, fc, fd⟩ := f
      dsimp only at c0 c1 HNEXT HSTOP HOKN HD2
      have i1 : (k : Int) < m := by omega
      go_wp2_with fail
      refine (openclo_any B xb wb sb db (n + k) fd.length fc sk fk fa fd wr HST.out HOKK.out (by omega) rfl HD2.out HFW.out.wf.2.2.1 HFW.out.wf.2.1 HFW.out.wf.2.2.2 HFW.out.wf.1).mono ?_
      obtain ⟨r, hr⟩ : ∃ r, doW sk fk fd = r := ⟨_, rfl⟩
      rw [hr]
      have HR := Lib.hid hr
      clear hr
      intro e w5 hda
      cases r with
      | none =>
        obtain ⟨rfl, hg5⟩ := hda
        go_wp2_with fail
        go_ret
        rw [HSTOP.out HR.out]
        exact ⟨⟨k, rfl⟩, HG.out.trans hg5⟩
      | some t =>
        obtain ⟨rfl, hs5, hg5⟩ := hda
        have HS5 := Lib.hid hs5
        have HG5 := Lib.hid hg5
        clear hs5 hg5
        go_wp2_with fail
        go_roundw
        case rel => exact ⟨k + 1, t, by omega, by go_num, HNEXT.out t HR.out, HOKN.out t HR.out, HS5.out, HG.out.trans HG5.out⟩
        case measure => simp [intOf]; omega
    · obtain rfl : k = m := by omega
      have hdo := HDO.out
      rw [List.take_of_length_le (by rw [List.length_map, HM.out]; exact Nat.le_refl _)] at hdo
      go_wp2_with fail
      go_ret
      rw [hdo]
      exact ⟨rfl, HST.out, HG.out⟩
theorem contains_any (B xb wb sb db n m : Nat) (ao : Option Addr) (cap : Nat) (s : WP) (frs : List Fr) (w : World) (hm : frs.length = m) (hx : FramesIn w sb ao frs) (hfr : ∀ f ∈ frs, FrOk f) (h : OpenSt w B xb wb sb db s) (hok : s.Ok n) (hn : n + m ≤ 1048576) :
    Calls Tryz.prog 31 #[.slice ao m cap, .func (.func 32) #[] #[.pointer (some ⟨xb, 0, none⟩)]] w (NotDone w B xb wb sb db (doAll s (frs.map Fr.pair))) := by
  have HC := Lib.hid (index_any B xb wb sb db n m ao cap s frs w hm hx hfr h hok hn)
  clear hm hx hfr h hok hn
  obtain ⟨r, hr⟩ : ∃ r, doAll s (frs.map Fr.pair) = r := ⟨_, rfl⟩
  rw [hr] at HC ⊢
  clear hr
  go_enter Tryz.func31, Tryz.ntmps31
  go_wp2_with fail
  refine HC.out.mono ?_
  intro e w5 hda
  cases r with
  | none =>
    obtain ⟨⟨k, rfl⟩, hg5⟩ := hda
    have d1 : decide (0 ≤ (k : Int)) = true := by simp
    have d2 : (0 : Int) ≤ (k : Int) := by omega
    go_wp2_with fail
    go_ret
    exact ⟨rfl, hg5⟩
  | some t =>
    obtain ⟨rfl, hs5, hg5⟩ := hda
    have HS5 := Lib.hid hs5
    go_wp2_with fail
    go_ret
    exact ⟨rfl, HS5.out, hg5⟩
end Go.Proofs.YtnhnabcpkaeaaaaGreatDoor
