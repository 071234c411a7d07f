/- The writer of wire: what it writes stands behind what it held. Conditions: the buffer holds bytes, and has only been written. -/
import Derived.Test.YthiijbjhgkeikaaDoorGSnapKeeps0
import Derived.StillTailTactics
set_option linter.unusedVariables false
set_option linter.unusedSimpArgs false
namespace Go.Proofs.YthiijbjhgkeikaaDoor
open Go.RowKit
set_option maxRecDepth 20000
/-- Block b is a writer that holds these bytes. -/
def BufIs (w : World) (B b : Nat) (bs : List Int) : Prop := LibA.IsBuffer 119 (fun _ => none) 5 B b 0 (bs.map bv) w
/-- What a writing method does. -/
def Wrote (B b : Nat) (bs : List Int) (w w' : World) : Prop := BufIs w' B b bs ∧ Below B w w' ∧ Lib.OthersKept 5 (some b) w w'
theorem Wrote.trans {B b : Nat} {bs cs : List Int} {w w' w'' : World} (h : Wrote B b bs w w') (h2 : Wrote B b cs w' w'') : Wrote B b cs w w'' := ⟨h2.1, h.2.1.trans h2.2.1, h.2.2.trans h2.2.2⟩
theorem Wrote.drew {B b : Nat} {bs : List Int} {w w' : World} (h : Wrote B b bs w w') : Wrote B b bs w w'.drew := ⟨h.1, h.2.1.drew, h.2.2⟩
theorem writeByte_any (B b : Nat) (bs : List Int) (c : Int) (w : World) (h : BufIs w B b bs) (hBw : B ≤ w.heap.size) (hlim : bs.length + 1 ≤ 140737488355328) :
    Calls Tryd.prog 68 #[.pointer (some ⟨b, 0, none⟩), .int .u8 c] w fun e w' => e = .returned .nilIface ∧ Wrote B b (bs ++ [c]) w w' := by
  refine (Tryd.Buffer_WriteByte_at _ _ B b 0 _ c w h hBw (bytes_oneCell _) (by simpa using hlim)).mono ?_
  rintro e w' ⟨h1, h2, h3, h4⟩
  exact ⟨h1, by unfold BufIs; rw [List.map_append]; exact h2, h3, h4⟩
theorem flatN_len (size : Nat) (xs : List Int) : (xs.flatMap (numB size)).length = xs.length * size := by
  induction xs with
  | nil => simp
  | cons x xs ih => rw [List.flatMap_cons, List.length_append, ih, numB_len, List.length_cons, Nat.add_mul]; omega
set_option maxHeartbeats 1000000 in
theorem put_any (B b rb m c size : Nat) (bs xs : List Int) (w : World) (hsz : size ≤ 8) (hs0 : 1 ≤ size) (hrb : rb ≠ b) (hm : xs.length = m) (hrow : w.heap[rb]? = some (.cells (xs.map fun x => .int .i64 x).toArray 2 (0, 0))) (h : BufIs w B b bs) (hBw : B ≤ w.heap.size) (hml : m ≤ 1000) (hlim : bs.length + 9000 ≤ 140737488355328) :
    Calls Tryd.prog 71 #[.pointer (some ⟨b, 0, none⟩), .int .i64 size, .slice (some ⟨rb, 0, none⟩) m c] w fun e w' => e = .returned (.tuple #[]) ∧ Wrote B b (bs ++ xs.flatMap (numB size)) w w' := by
  have HM := Lib.hid hm
  have HR := Lib.hid hrow
  have HB := Lib.hid h
  clear hm hrow h
  have hne : some rb ≠ some b := by simpa using hrb
  go_enter Tryd.func71, Tryd.ntmps71
  go_wp2_with fail
  go_loopw [11] (fun i wr => ∃ k : Nat, k ≤ m ∧ i = .int .i64 k ∧ Wrote B b (bs ++ (xs.take k).flatMap (numB size)) w wr) (fun i _ => m - (intOf i).toNat)
  case atStart => exact ⟨0, by omega, rfl, by simpa using HB.out, Below.refl _ _, Lib.OthersKept.refl _ _ _⟩
  case round =>
    obtain ⟨k, hk, rfl, hw⟩ := hrel
    have HW := Lib.hid hw
    clear hw
    by_cases hlt : k < m
    · have hkx : xs[k]? = some (xs[k]'(by rw [HM.out]; exact hlt)) := List.getElem?_eq_getElem _
      have htk : (xs.take (k + 1)).flatMap (numB size) = (xs.take k).flatMap (numB size) ++ numB size (xs[k]'(by rw [HM.out]; exact hlt)) := by
        rw [List.take_succ_eq_append_getElem (by rw [HM.out]; exact hlt), List.flatMap_append]; simp
      have hlen : ((xs.take k).flatMap (numB size)).length ≤ k * 8 := by
        rw [flatN_len, List.length_take]
        exact Nat.mul_le_mul (Nat.min_le_left _ _) hsz
      generalize (xs[k]'(by rw [HM.out]; exact hlt)) = x at hkx htk
      have hrw := HW.out.2.2 rb _ HR.out hne (by intro c fz hh; injection hh with _ h2 _; revert h2; decide)
      have c0 : wr.cell? ⟨rb, k, none⟩ = some (.int .i64 x) := by
        rw [Go.Joins.cell_of_block hrw k, List.getElem?_toArray, List.getElem?_map, hkx]; rfl
      have HT := Lib.hid htk
      have i1 : (k : Int) < m := by omega
      clear hkx htk hrw
      go_wp2_with fail
      obtain ⟨wo, rfl⟩ : ∃ wo : World, wo = wr := ⟨_, rfl⟩
      have w0 : IntKind.i64.wrap ((size : Int) - 1) = (size : Int) - 1 := IntWalk.i64_in _ (by omega)
      go_loopw [8] (fun i wi => ∃ q : Nat, q ≤ size ∧ i = .int .i64 ((size : Int) - 1 - q) ∧ Wrote B b (bs ++ (xs.take k).flatMap (numB size) ++ (numB size x).take q) w wi) (fun i _ => (intOf i + 1).toNat)
      case atStart => exact ⟨0, by omega, by simp, by simpa using HW.out⟩
      case round =>
        obtain ⟨q, hq, rfl, hw2⟩ := hrel
        have HW2 := Lib.hid hw2
        clear hw2 c0
        by_cases hltq : q < size
        · obtain ⟨p, hp⟩ : ∃ p : Nat, p = size - 1 - q := ⟨_, rfl⟩
          have hpe : (size : Int) - 1 - q = p := by omega
          have hnt := numB_take size x q hltq
          rw [← hp] at hnt
          have HNT := Lib.hid hnt
          have hp8 : p ≤ 7 := by omega
          have w3 : IntKind.i64.wrap (8 * (p : Int)) = 8 * p := IntWalk.i64_in _ (by omega)
          have n3 : ((8 : Int) * p).toNat = 8 * p := by omega
          have g3 : (0 : Int) ≤ 8 * p := by omega
          have HPE := Lib.hid hpe
          have hlq : ((numB size x).take q).length ≤ 8 := by rw [List.length_take, numB_len]; omega
          rw [hpe]
          clear hnt hp hpe
          go_wp2_with fail
          go_still_tail 8, (by kernel_rfl)
          change wpList _ _ _ _ _ wr.drew
          have hw4 : Wrote B b (bs ++ (xs.take k).flatMap (numB size) ++ (numB size x).take q) w wr.drew := HW2.out.drew
          generalize wr.drew = w6 at hw4 ⊢
          have HW4 := Lib.hid hw4
          clear hw4
          go_wp2_with fail
          refine (writeByte_any B b _ (x / 2 ^ (8 * p) % 256) w6 HW4.out.1 (Nat.le_trans hBw HW4.out.2.1.size) (by simp only [List.length_append]; omega)).mono ?_
          rintro e w7 ⟨rfl, hw7⟩
          have hw8 := HW4.out.trans hw7
          rw [List.append_assoc, ← HNT.out] at hw8
          have HW8 := Lib.hid hw8
          clear hw7 hw8
          go_wp2_with fail
          go_roundw
          case rel => exact ⟨q + 1, by omega, by have := HPE.out; congr 1; push_cast; omega, HW8.out⟩
          case measure => first | (simp [intOf]; done) | (have := HPE.out; simp [intOf]; omega)
        · have hqe : q = size := by omega
          have hw5 := HW2.out
          rw [hqe, List.take_of_length_le (l := numB size x) (by rw [numB_len]; exact Nat.le_refl _), List.append_assoc, ← HT.out] at hw5
          have HW5 := Lib.hid hw5
          have g5 : (size : Int) - 1 - q < 0 := by omega
          clear hw5 hqe
          go_wp2_with fail
          go_roundw
          case rel => exact ⟨k + 1, by omega, by go_num, HW5.out⟩
          case measure => simp [intOf]; omega
    · obtain rfl : k = m := by omega
      have hw5 := HW.out
      rw [List.take_of_length_le (by rw [HM.out]; exact Nat.le_refl _)] at hw5
      have HW5 := Lib.hid hw5
      clear hw5
      go_wp2_with fail
      go_end0
      exact ⟨rfl, HW5.out⟩
end Go.Proofs.YthiijbjhgkeikaaDoor
/- The writer of wire: counts, texts, values, rows of values. Conditions: the buffer holds bytes, and has only been written. -/
namespace Go.Proofs.YthiijbjhgkeikaaDoor
open Go.RowKit
set_option maxRecDepth 20000
theorem Wrote.start {B b : Nat} {bs : List Int} {w : World} (h : BufIs w B b bs) : Wrote B b bs w w := ⟨h, Below.refl _ _, Lib.OthersKept.refl _ _ _⟩
theorem Wrote.alloc {B b : Nat} {bs : List Int} {w w' : World} (h : Wrote B b bs w w') (hB : B ≤ w.heap.size) (o : Obj) : Wrote B b bs w (w'.alloc o) := ⟨LibA.IsBuffer.alloc h.1 o, h.2.1.alloc (Nat.le_trans hB h.2.1.size) o, h.2.2.alloc o⟩
theorem BufIs.lt {w : World} {B b : Nat} {bs : List Int} (h : BufIs w B b bs) : b < w.heap.size := LibA.IsBuffer.lt h
/-- One number, in 4 or 8 bytes. -/
theorem put1_any (B b size g : Nat) (bs : List Int) (n : Int) (w : World) (hg : w.heap.size = g) (hsz : size ≤ 8) (hs0 : 1 ≤ size) (h : BufIs w B b bs) (hBw : B ≤ w.heap.size) (hlim : bs.length + 9000 ≤ 140737488355328) :
    Calls Tryd.prog 71 #[.pointer (some ⟨b, 0, none⟩), .int .i64 size, .slice (some ⟨g, 0, none⟩) 1 1] (w.alloc (.cells #[.int .i64 n] 2)) fun e w' => e = .returned (.tuple #[]) ∧ Wrote B b (bs ++ numB size n) w w' := by
  subst hg
  have h1 := (Wrote.start h).alloc hBw (.cells #[.int .i64 n] 2)
  refine (put_any B b w.heap.size 1 1 size bs [n] _ hsz hs0 (by have := h.lt; omega) rfl (heap_alloc_new w _) h1.1 (by simp; omega) (by omega) hlim).mono ?_
  rintro e w' ⟨he, hw⟩
  refine ⟨he, ?_⟩
  have := h1.trans hw
  simpa using this
end Go.Proofs.YthiijbjhgkeikaaDoor
/- Rows of a call's own. No program. Conditions: as each says. -/
namespace Go.Proofs.YthiijbjhgkeikaaDoor
open Go.RowKit
theorem own_none {w : World} {base e size n m cap : Nat} {ao : Option Addr} {xs : List Value} (h : w.ownsRow base e size (.slice ao m cap) n xs) : ao = none → cap = 0 := by
  rintro rfl
  rcases h.2 with ⟨h', _⟩ | ⟨g, cap', cur, h', _⟩
  · cases h'; rfl
  · cases h'
theorem own_below {w w' : World} {base e size n B : Nat} {v : Value} {xs : List Value} (h : w.ownsRow base e size v n xs) (hb : Below B w w') (hB : w.heap.size ≤ B) : w'.ownsRow base e size v n xs := by
  refine ⟨h.1, ?_⟩
  rcases h.2 with hn | ⟨g, cap, cur, hv, h1, h2, h3⟩
  · exact Or.inl hn
  · have hg := (Array.getElem?_eq_some_iff.1 h2).1
    exact Or.inr ⟨g, cap, cur, hv, h1, by rw [hb.block g (by omega)]; exact h2, h3⟩
theorem own_apart {w : World} {b1 e1 s1 n1 b2 e2 s2 n2 : Nat} {v1 v2 : Value} {xs1 xs2 : List Value} (h1 : w.ownsRow b1 e1 s1 v1 n1 xs1) (h2 : w.ownsRow b2 e2 s2 v2 n2 xs2) (he : e1 ≠ e2) : v1.ownBlock = none ∨ v1.ownBlock ≠ v2.ownBlock := by
  rcases h1.2 with ⟨rfl, _⟩ | ⟨g, cap, cur, rfl, _, g1, _⟩
  · exact Or.inl rfl
  · right
    rcases h2.2 with ⟨rfl, _⟩ | ⟨g', cap', cur', rfl, _, g2, _⟩
    · simp [Value.ownBlock]
    · intro hh
      simp [Value.ownBlock] at hh
      subst hh
      rw [g1] at g2
      simp only [Option.some.injEq, Obj.cells.injEq] at g2
      exact he g2.2.1
theorem own_capG {w : World} {base e size n m cap : Nat} {ao : Option Addr} {xs : List Value} (h : w.ownsRow base e size (.slice ao m cap) n xs) : m ≤ cap := by
  rcases h.2 with ⟨h', _⟩ | ⟨g, cap', cur, h', _, _, h3, _⟩
  · injection h' with _ h1 _; omega
  · injection h' with _ h1 h2; subst h1 h2; exact h3
end Go.Proofs.YthiijbjhgkeikaaDoor
/- The writer of wire: what was written, told; Number, Text, Value. Conditions: what is written is not too long. -/
namespace Go.Proofs.YthiijbjhgkeikaaDoor
open Go.RowKit
set_option maxRecDepth 20000
def ClonePost (xs : List Int) (w : World) (e : Ending) (w' : World) : Prop :=
  ∃ v, e = .returned v ∧ w'.ownsRow w.heap.size 5 1 v xs.length (xs.map bv) ∧ Below w.heap.size w w'
theorem clone_any (ao : Option Addr) (cap : Nat) (xs : List Int) (w : World) (B : Nat) (hx : BytesIn w B ao xs) (hB : B ≤ w.heap.size) (hao : ao = none → cap = 0) (hl : xs.length ≤ 140737488351232) :
    Calls Tryd.prog 48 #[.slice ao xs.length cap] w (ClonePost xs w) := by
  cases ao with
  | none =>
    have hnil : xs = [] := by
      rcases hx with h | ⟨b, off, h1, _⟩
      · exact h
      · cases h1
    subst hnil
    obtain rfl := hao rfl
    have he : ∀ w, (binOp .eql 23 (.slice none 0 0) (.slice none 0 0)).run Tryd.prog w = .ok (.bool true) w := fun _ => by kernel_rfl
    go_enter Tryd.func48, Tryd.ntmps48
    go_wp2_with fail
    go_ret
    exact ⟨_, rfl, World.ownsRow_nil _ _ _ _, Below.refl _ _⟩
  | some ad =>
    have he : ∀ w, (binOp .eql 23 (.slice (some ad) xs.length cap) (.slice none 0 0)).run Tryd.prog w = .ok (.bool false) w := fun _ => by kernel_rfl
    go_enter Tryd.func48, Tryd.ntmps48
    go_wp2_with (at_builtin; refine wpList_append_bytes rfl (.tmp 5) (.tmp 6) rfl w.heap.size _ [] rfl (World.ownsRow_lit w #[] 0 (Nat.le_refl _) (by unfold maxLen; omega) rfl) (some ad) cap xs rfl B (hx.below ((Below.refl B w).alloc hB _) (Nat.le_refl _)) (by simp) (by simp; omega) (by simp) ?_)
    intro v' w' hown hg
    have hb := ((Below.refl w.heap.size w).alloc (Nat.le_refl _) (.cells #[] 5)).grown hg (by simp) (fun k hk => by cases hk; exact Nat.le_refl _)
    clear hg he
    go_wp2_with fail
    go_ret
    exact ⟨_, rfl, by simpa using hown, hb⟩
/-- What the writer holds, told. -/
theorem bytes_of (B b : Nat) (bs : List Int) (w : World) (h : BufIs w B b bs) :
    Calls Tryd.prog 59 #[.pointer (some ⟨b, 0, none⟩)] w fun e w' => ∃ v, e = .returned v ∧ w'.ownsRow B 5 1 v bs.length (bs.map bv) ∧ Below w.heap.size w w' := by
  obtain ⟨hBb, v, lr, h3, hown, hvb⟩ := h
  rw [List.length_map] at hown
  have HO := Lib.hid hown
  have hfm : ∃ g c, v = .slice g bs.length c ∧ bs.length ≤ c ∧ (g = none → c = 0) := by
    rcases hown.2 with ⟨rfl, h⟩ | ⟨g, cap, cur, rfl, _, _, h1, h2, _⟩
    · exact ⟨none, 0, by rw [h], by omega, fun _ => rfl⟩
    · exact ⟨some ⟨g, 0, none⟩, cap, rfl, h1, by simp⟩
  obtain ⟨g, c, rfl, hlc, hg⟩ := hfm
  have c0 := h3.c0
  have c1 := h3.c1
  clear h3 hown
  go_enter Tryd.func59, Tryd.ntmps59
  go_wp2_with fail
  go_quiet (fail)
  go_wp2_with fail
  go_ret
  exact ⟨_, rfl, HO.out, below_drewN (Below.refl _ _) _⟩
theorem own_bytes' {w : World} {base c : Nat} {a : Option Addr} {l : List Int} (h : w.ownsRow base 5 1 (.slice a l.length c) l.length (l.map bv)) : BytesIn w w.heap.size a l := by
  obtain ⟨ao, cap, hv, hin⟩ := own_bytes h
  cases hv
  exact hin
/-- Bytes of a call's own. -/
def BytesNew (bs : List Int) (B : Nat) (w : World) (e : Ending) (w' : World) : Prop :=
  ∃ a c, e = .returned (.slice a bs.length c) ∧ w'.ownsRow B 5 1 (.slice a bs.length c) bs.length (bs.map bv) ∧ Below B w w'
theorem told_any (B b : Nat) (bs : List Int) (w : World) (h : BufIs w B b bs) (hBw : B ≤ w.heap.size) (hl : bs.length ≤ 140737488351232) :
    Calls Tryd.prog 72 #[.pointer (some ⟨b, 0, none⟩)] w (BytesNew bs w.heap.size w) := by
  have H := Lib.hid h
  clear h
  go_enter Tryd.func72, Tryd.ntmps72
  go_wp2_with fail
  refine (bytes_of B b bs w H.out).mono ?_
  rintro e w1 ⟨v, rfl, ho, hb⟩
  obtain ⟨a, c, hv⟩ := row_slice ho
  subst hv
  have HO := Lib.hid ho
  clear ho
  go_wp2_with fail
  refine (clone_any a c bs w1 w1.heap.size (own_bytes' HO.out) (Nat.le_refl _) (own_none HO.out) hl).mono ?_
  rintro e w2 ⟨v2, rfl, ho2, hb2⟩
  obtain ⟨a2, c2, hv2⟩ := row_slice ho2
  subst hv2
  have HO2 := Lib.hid (Go.Joins.ownsRow_le ho2 hb.size)
  have hb3 := hb.trans (hb2.mono hb.size)
  clear ho2 hb hb2
  go_wp2_with fail
  go_ret
  exact ⟨a2, c2, rfl, HO2.out, hb3⟩
end Go.Proofs.YthiijbjhgkeikaaDoor
/- Number, Text, Value, Values of wire: the bytes of a form. Conditions: what is written is not too long. -/
namespace Go.Proofs.YthiijbjhgkeikaaDoor
open Go.RowKit
set_option maxRecDepth 20000
theorem buf_new (w : World) : BufIs (w.alloc (.cells #[.slice none 0 0, .int .i64 0, .int .i8 0] 119)) w.heap.size w.heap.size [] :=
  LibA.zero_isBuffer (Nat.le_refl _) (lr := 0) ⟨_, heap_alloc_new w _, rfl, rfl, rfl, fun i hi => by rcases hi with hi | hi; omega; exact Array.getElem?_eq_none (by simpa using hi)⟩
theorem number_any (n : Int) (w : World) :
    Calls Tryd.prog 61 #[.int .i64 n] w (BytesNew (numB 8 n) w.heap.size w) := by
  have H := Lib.hid (buf_new w)
  have hb := (Below.refl w.heap.size w).alloc (Nat.le_refl _) (.cells #[.slice none 0 0, .int .i64 0, .int .i8 0] 119)
  have HB := Lib.hid hb
  clear hb
  go_enter Tryd.func61, Tryd.ntmps61
  go_wp2_with fail
  refine (put1_any w.heap.size w.heap.size 8 (w.heap.size + 1) [] n _ (by simp) (by omega) (by omega) H.out (by simp) (by simp)).mono ?_
  rintro e w1 ⟨rfl, hw⟩
  rw [List.nil_append] at hw
  have HW := Lib.hid hw
  have hb1 := HB.out.trans hw.2.1
  clear hw
  go_wp2_with fail
  refine (told_any w.heap.size w.heap.size _ w1 HW.out.1 hb1.size (by rw [numB_len]; omega)).mono ?_
  rintro e w2 ⟨a, c, rfl, ho, hb2⟩
  have HO := Lib.hid (Go.Joins.ownsRow_le ho hb1.size)
  have hb3 := hb1.trans (hb2.mono hb1.size)
  clear ho hb1 hb2
  go_wp2_with fail
  go_ret
  exact ⟨a, c, rfl, HO.out, hb3⟩
end Go.Proofs.YthiijbjhgkeikaaDoor
/- The writer's row of values; Values of wire. Conditions: what is written is not too long. -/
namespace Go.Proofs.YthiijbjhgkeikaaDoor
open Go.RowKit
set_option maxRecDepth 20000
end Go.Proofs.YthiijbjhgkeikaaDoor
/- Values of wire: the bytes of a row of values. Conditions: what is written is not too long. -/
namespace Go.Proofs.YthiijbjhgkeikaaDoor
open Go.RowKit
set_option maxRecDepth 20000
end Go.Proofs.YthiijbjhgkeikaaDoor
/- Join of wire: parts, one behind the other. Conditions: the parts' cells lie as their readings say. -/
namespace Go.Proofs.YthiijbjhgkeikaaDoor
open Go.RowKit
set_option maxRecDepth 20000
/-- A part: its slice, its bytes. -/
structure Pt where
  ao : Option Addr
  cap : Nat
  data : List Int
def ptCells (p : Pt) : List Value := [.slice p.ao p.data.length p.cap]
def ptSub (w : World) (B : Nat) (p : Pt) : Prop := BytesIn w B p.ao p.data
def bytesU (l : List Int) : List UInt8 := l.map fun x => UInt8.ofNat x.toNat
theorem bytesU_len (l : List Int) : (bytesU l).length = l.length := by simp [bytesU]
theorem bytesU_back {l : List Int} (h : BytesWf l) : (bytesU l).map (fun x => (x.toNat : Int)) = l := by
  unfold bytesU
  rw [List.map_map]
  conv => rhs; rw [← List.map_id l]
  apply List.map_congr_left
  intro x hx
  have := h x hx
  simp
  omega
theorem holds_bytes {w : World} {B : Nat} {p : Pt} (h : ptSub w B p) (hw : BytesWf p.data) : Lib.HoldsBytes w (.slice p.ao p.data.length p.cap) (bytesU p.data) := by
  refine ⟨p.ao, p.cap, by rw [bytesU_len], fun e => ?_, fun a ha i x hx => ?_⟩
  · rcases h with h | ⟨b, off, h1, _⟩
    · rw [h]; rfl
    · rw [e] at h1; cases h1
  · have hx2 : (p.data.map bv)[i]? = some (.int .u8 (x.toNat : Int)) := by
      have : ((bytesU p.data).map fun x => (x.toNat : Int))[i]? = some (x.toNat : Int) := by rw [List.getElem?_map, hx]; rfl
      rw [bytesU_back hw] at this
      rw [List.getElem?_map, this]; rfl
    exact cells_of_bytes h (Below.refl B w) ha hx2
/-- What Join tells. -/
def JoinedAt (L : List Int) (w : World) (e : Ending) (w' : World) : Prop :=
  ∃ a c, e = .returned (.slice a L.length c) ∧ BytesIn w' w'.heap.size a L ∧ (a = none → c = 0) ∧ L.length ≤ c ∧ (∀ ad, a = some ad → w.heap.size ≤ ad.block) ∧ Below w.heap.size w w'
/-- .. whose block's first cells, as many as there is room for, may be written. -/
def FreeRow (w : World) (B : Nat) (a : Option Addr) (n c : Nat) (xs : List Int) : Prop :=
  (a = none ∧ n = 0 ∧ c = 0) ∨ ∃ g, a = some ⟨g, 0, none⟩ ∧ B ≤ g ∧ n ≤ c ∧ c ≤ maxLen ∧ (∀ i, i < c → (w.cell? ⟨g, i, none⟩).isSome = true ∧ w.frozen? ⟨g, i, none⟩ = false) ∧ ∀ i, i < n → w.cell? ⟨g, i, none⟩ = (xs.map bv)[i]?
def JoinedX (L : List Int) (w : World) (e : Ending) (w' : World) : Prop :=
  ∃ a c, e = .returned (.slice a L.length c) ∧ BytesIn w' w'.heap.size a L ∧ (a = none → c = 0) ∧ L.length ≤ c ∧ (∀ ad, a = some ad → w.heap.size ≤ ad.block) ∧ FreeRow w' w.heap.size a L.length c L ∧ Below w.heap.size w w'
theorem JoinedX.drop {L : List Int} {w w' : World} {e : Ending} (h : JoinedX L w e w') : JoinedAt L w e w' := by
  obtain ⟨a, c, h1, h2, h3, h4, h5, _, h7⟩ := h
  exact ⟨a, c, h1, h2, h3, h4, h5, h7⟩
theorem FreeRow.nil {w : World} {B : Nat} : FreeRow w B none 0 0 [] := Or.inl ⟨rfl, rfl, rfl⟩
theorem FreeRow.none {w : World} {B g : Nat} (h : B ≤ g) : FreeRow w B (some ⟨g, 0, none⟩) 0 0 [] := Or.inr ⟨g, rfl, h, Nat.le_refl _, Nat.zero_le _, fun i hi => by omega, fun i hi => by omega⟩
theorem fresh_bytes {B : Nat} {w' : World} {v : Value} {L : List Int} (hw : BytesWf L) (h : Lib.FreshBytes B w' v (bytesU L)) : ∃ a c, v = .slice a L.length c ∧ BytesIn w' w'.heap.size a L ∧ (a = none → c = 0) ∧ L.length ≤ c ∧ (∀ ad, a = some ad → B ≤ ad.block) ∧ FreeRow w' B a L.length c L := by
  obtain ⟨g, cap, zs, rfl, h1, h2, h3, h4, h5, h6, h7, h8⟩ := h
  rw [bytesU_len] at h2 h6 ⊢
  have hz : zs.take L.length = L := by
    have e1 : (Lib.bytesOf (zs.take L.length)).map (fun x => (x.toNat : Int)) = zs.take L.length := bytesU_back (fun x hx => h5 x (List.mem_of_mem_take hx))
    have e2 := bytesU_back hw
    rw [h6] at e1
    rw [← e1, e2]
  refine ⟨_, cap, rfl, ?_, by simp, h2, (fun ad e => by cases e; exact h1), Or.inr ⟨g, rfl, h1, h2, h3, fun i hi => ⟨by rw [h7 i hi]; rfl, h8 i hi⟩, fun i hi => ?_⟩⟩
  rotate_left
  · rw [h7 i (by omega)]
    have e : (L.map bv)[i]? = some (bv (L[i]'hi)) := by rw [List.getElem?_map, List.getElem?_eq_getElem hi]; rfl
    rw [e]
    have e3 : zs.getD i 0 = L[i]'hi := by
      have : L[i]'hi = (zs.take L.length)[i]'(by rw [hz]; exact hi) := by simp only [hz]
      rw [this]
      simp [List.getD, List.getElem?_eq_getElem (show i < zs.length by omega)]
    rw [e3]; rfl
  by_cases h0 : L = []
  · exact Or.inl h0
  · have hlen : 0 < L.length := by cases L with | nil => exact absurd rfl h0 | cons _ _ => simp
    refine Or.inr ⟨g, 0, rfl, ?_, fun i hi => ?_⟩
    · have := h7 0 (by omega)
      simp only [World.cell?] at this
      rcases Nat.lt_or_ge g w'.heap.size with h | h
      · exact h
      · simp [Array.getElem?_eq_none h] at this
    · rw [Nat.zero_add, h7 i (by omega)]
      conv => rhs; rw [← hz]
      simp [List.getD, List.getElem?_take, hi]
theorem join_nil (xs : List (List UInt8)) : Lib.join xs [] = xs.flatten := by
  unfold Lib.join
  induction xs with
  | nil => rfl
  | cons x xs ih =>
    cases xs with
    | nil => simp [List.intercalate]
    | cons y ys => simp [List.intercalate] at ih ⊢; exact ih
theorem flat_bytesU (ps : List Pt) : (ps.map fun p => bytesU p.data).flatten = bytesU (ps.flatMap Pt.data) := by
  induction ps with
  | nil => rfl
  | cons p ps ih => rw [List.map_cons, List.flatten_cons, ih, List.flatMap_cons]; simp [bytesU]
theorem lens_eq (xs : List (List UInt8)) : Lib.lens xs = xs.flatten.length := by
  unfold Lib.lens; rw [List.length_flatten]
theorem join_x (ao : Option Addr) (n cap : Nat) (ps : List Pt) (w : World) (B : Nat) (hn : ps.length = n) (hx : RowsIn 1 ptCells ptSub w B ao ps) (hB : B ≤ w.heap.size) (hw : ∀ p ∈ ps, BytesWf p.data) (hc : n ≤ cap) (hl : (ps.flatMap Pt.data).length ≤ 140737488351232) (hnl : n ≤ 1099511627776) :
    Calls Tryd.prog 60 #[.slice ao n cap, .slice none 0 0] w (JoinedX (ps.flatMap Pt.data) w) := by
  subst hn
  have hwf : BytesWf (ps.flatMap Pt.data) := fun x hx => by
    obtain ⟨p, hp, hx⟩ := List.mem_flatMap.1 hx
    exact hw p hp x hx
  rcases hx with rfl | ⟨b, off, rfl, hb, hc2⟩
  · refine (Tryd.bytes_Join_none ao cap (.slice none 0 0) w).mono ?_
    rintro e w' ⟨rfl, rfl⟩
    exact ⟨_, 0, rfl, Or.inl rfl, by simp, by simp, (fun ad e => by cases e; exact Nat.le_refl _), FreeRow.none (Nat.le_refl _), (Below.refl _ _).alloc (Nat.le_refl _) _⟩
  · have hs : Lib.HoldsBytes w (.slice none 0 0) [] := ⟨none, 0, rfl, fun _ => rfl, fun a h => by cases h⟩
    have hcell : ∀ (i : Nat) (p : Pt), ps[i]? = some p → w.cell? ⟨b, off + i, none⟩ = some (.slice p.ao p.data.length p.cap) := fun i p hp => by
      have := (hc2 i p hp).1 0 (by decide)
      simpa [ptCells] using this
    match ps, hcell, hc2, hw, hc, hl, hnl, hwf with
    | [], _, _, _, _, _, _, _ =>
      refine (Tryd.bytes_Join_none (some ⟨b, off, none⟩) cap (.slice none 0 0) w).mono ?_
      rintro e w' ⟨rfl, rfl⟩
      exact ⟨_, 0, rfl, Or.inl rfl, by simp, by simp, (fun ad e => by cases e; exact Nat.le_refl _), FreeRow.none (Nat.le_refl _), (Below.refl _ _).alloc (Nat.le_refl _) _⟩
    | [p], hcell, hc2, hw, hc, hl, hnl, hwf =>
      have e : [p].flatMap Pt.data = p.data := by simp
      rw [e] at hl hwf ⊢
      by_cases h0 : p.data = []
      · have h1 := hcell 0 p rfl
        rw [h0] at h1
        refine (Tryd.bytes_Join_one_empty b off cap p.ao p.cap (.slice none 0 0) w h1).mono ?_
        rintro e w' ⟨rfl, rfl⟩
        rw [h0]
        exact ⟨none, 0, rfl, Or.inl rfl, fun _ => rfl, by simp, (fun ad e => by cases e), FreeRow.nil, Below.refl _ _⟩
      · have hsub := (hc2 0 p rfl).2
        rcases hsub with h | ⟨b2, off2, ha, hb2, hcc⟩
        · exact absurd h h0
        have h1 := hcell 0 p rfl
        rw [ha, ← bytesU_len] at h1
        obtain ⟨q, c, e1, hq, hqq⟩ := holds_bytes (p := p) (B := B) (Or.inr ⟨b2, off2, ha, hb2, hcc⟩) (hw p (by simp))
        injection e1 with e2 _ _
        refine (Tryd.bytes_Join_one b off cap ⟨b2, off2, none⟩ p.cap (bytesU p.data) (.slice none 0 0) w h1 (hqq _ (by rw [← e2, ha])) (by rw [bytesU_len]; cases hd : p.data with | nil => exact absurd hd h0 | cons _ _ => simp) (by rw [bytesU_len]; omega)).mono ?_
        rintro e w' ⟨v', rfl, hf, hbl⟩
        obtain ⟨a, c, rfl, g1, g2, g3, g4, g5⟩ := fresh_bytes hwf hf
        exact ⟨a, c, rfl, g1, g2, g3, g4, g5, hbl⟩
    | p :: q :: r, hcell, hc2, hw, hc, hl, hnl, hwf =>
      have hP : Lib.PartsAt w ⟨b, off, none⟩ ((p :: q :: r).map fun x => .slice x.ao x.data.length x.cap) ((p :: q :: r).map fun x => bytesU x.data) := by
        refine ⟨by simp, fun i v hv => ?_, fun i v l hv hl => ?_⟩
        · rw [List.getElem?_map] at hv
          obtain ⟨x, hx, rfl⟩ := Option.map_eq_some_iff.1 hv
          rw [Go.WideShapes.add_plain]
          exact hcell i x hx
        · rw [List.getElem?_map] at hv hl
          obtain ⟨x, hx, rfl⟩ := Option.map_eq_some_iff.1 hv
          rw [hx] at hl
          obtain rfl := Option.some.inj hl
          exact holds_bytes (hc2 i x hx).2 (hw x (List.mem_of_getElem? hx))
      have hlen : Lib.lens ((p :: q :: r).map fun x => bytesU x.data) = ((p :: q :: r).flatMap Pt.data).length := by rw [lens_eq, flat_bytesU, bytesU_len]
      refine (Tryd.bytes_Join_many b off (p :: q :: r).length cap _ _ (.slice none 0 0) [] w (by simp) (by simp) hP hc hs (by omega) (by rw [hlen]; simp only [List.length_nil, Nat.zero_mul]; omega)).mono ?_
      rintro e w' ⟨v', rfl, hf, hbl⟩
      rw [join_nil, flat_bytesU] at hf
      obtain ⟨a, c, rfl, g1, g2, g3, g4, g5⟩ := fresh_bytes hwf hf
      exact ⟨a, c, rfl, g1, g2, g3, g4, g5, hbl⟩
end Go.Proofs.YthiijbjhgkeikaaDoor
/- A slice of a slice: one equation, its address under one name. Conditions: the bounds fit. -/
namespace Go.Proofs.YthiijbjhgkeikaaDoor
open Go.RowKit
/-- The address of a slice from its l-th element on. -/
def subA (ao : Option Addr) (cap l k : Nat) : Option Addr := if cap = l then ao else ao.map (·.add (l * k))
theorem subA_eq_none {ao : Option Addr} {cap l k : Nat} (h : subA ao cap l k = none) : ao = none := by
  unfold subA at h
  split at h
  · exact h
  · cases ao with
    | none => rfl
    | some a => cases h
theorem run_sub_lh {P : Program} {t : TypeId} {k : Nat} (ht : P.underlying t = some (.slice (P.elem t))) (hk : ∀ w, (sizeOf (P.elem t)).run P w = .ok k w) (ao : Option Addr) (n cap l h : Nat) (hl : l ≤ h) (hh : h ≤ cap) (kl kh : IntKind) (lo hi : Int) (el : lo = l) (eh : hi = h) (w : World) :
    (Instr.sliceAt t (.slice ao n cap) (some (.int kl lo)) (some (.int kh hi)) none).run P w = .ok (.slice (subA ao cap l k) (h - l) (cap - l)) w := by
  subst el eh
  rw [run_sliceAt_slice _ _ _ _ _ _ ht, run_slice_lh _ _ _ _ _ ht _ _ _ _ (by omega) (by omega) (by omega), hk]
  simp [Result.andThen, sliced, subA]
theorem run_sub_l {P : Program} {t : TypeId} {k : Nat} (ht : P.underlying t = some (.slice (P.elem t))) (hk : ∀ w, (sizeOf (P.elem t)).run P w = .ok k w) (ao : Option Addr) (n cap l : Nat) (hl : l ≤ n) (kl : IntKind) (lo : Int) (el : lo = l) (w : World) :
    (Instr.sliceAt t (.slice ao n cap) (some (.int kl lo)) none none).run P w = .ok (.slice (subA ao cap l k) (n - l) (cap - l)) w := by
  subst el
  rw [run_sliceAt_slice _ _ _ _ _ _ ht, run_slice_l _ _ _ _ _ ht _ _ (by omega) (by omega), hk]
  simp [Result.andThen, sliced, subA]
theorem run_sub_h {P : Program} {t : TypeId} {k : Nat} (ht : P.underlying t = some (.slice (P.elem t))) (hk : ∀ w, (sizeOf (P.elem t)).run P w = .ok k w) (ao : Option Addr) (n cap h : Nat) (hh : h ≤ cap) (kh : IntKind) (hi : Int) (eh : hi = h) (w : World) :
    (Instr.sliceAt t (.slice ao n cap) none (some (.int kh hi)) none).run P w = .ok (.slice (subA ao cap 0 k) h cap) w := by
  subst eh
  rw [run_sliceAt_slice _ _ _ _ _ _ ht, run_slice_h _ _ _ _ _ ht _ _ (by omega) (by omega), hk]
  simp [Result.andThen, sliced, subA]
theorem subA_zero (ao : Option Addr) (cap k : Nat) (h : ∀ a, ao = some a → a.spot = none) : subA ao cap 0 k = ao := by
  unfold subA
  split
  · rfl
  · cases ao with
    | none => rfl
    | some a =>
      obtain ⟨b, o, s⟩ := a
      have := h _ rfl
      simp only at this
      subst this
      simp [Addr.add]
theorem sizeByte : ∀ w, (sizeOf (Tryd.prog.elem 23)).run Tryd.prog w = .ok 1 w := fun _ => by kernel_rfl
theorem sliceByte : Tryd.prog.underlying 23 = some (.slice (Tryd.prog.elem 23)) := by kernel_rfl
theorem BytesIn.sub {w : World} {B : Nat} {ao : Option Addr} {xs : List Int} {cap : Nat} (l h : Nat) (hx : BytesIn w B ao xs) (hc : xs.length ≤ cap) : BytesIn w B (subA ao cap l 1) ((xs.drop l).take h) := by
  by_cases hz : xs.length ≤ l
  · exact Or.inl (by rw [List.drop_of_length_le hz, List.take_nil])
  · rcases hx with rfl | ⟨b, off, rfl, h1, h2⟩
    · simp at hz
    · unfold subA
      rw [if_neg (by omega), Option.map_some, Go.WideShapes.add_plain, Nat.mul_one]
      refine Or.inr ⟨b, off + l, rfl, h1, fun i hi => ?_⟩
      have hi1 : i < h ∧ l + i < xs.length := by simp at hi; omega
      rw [Nat.add_assoc, h2 _ hi1.2]
      simp [List.getD, hi1.1, List.getElem?_drop]
theorem BytesIn.drop {w : World} {B : Nat} {ao : Option Addr} {xs : List Int} {cap : Nat} (l : Nat) (hx : BytesIn w B ao xs) (hc : xs.length ≤ cap) : BytesIn w B (subA ao cap l 1) (xs.drop l) := by
  have := hx.sub l (xs.length) hc
  rwa [List.take_of_length_le (by simp)] at this
theorem BytesIn.take {w : World} {B : Nat} {ao : Option Addr} {xs : List Int} (h : Nat) (hx : BytesIn w B ao xs) : BytesIn w B ao (xs.take h) := by
  rcases hx with rfl | ⟨b, off, rfl, h1, h2⟩
  · exact Or.inl (by simp)
  · refine Or.inr ⟨b, off, rfl, h1, fun i hi => ?_⟩
    have hi1 : i < h ∧ i < xs.length := by simp at hi; omega
    rw [h2 _ hi1.2]
    simp [List.getD, hi1.1]
theorem BytesWf.drop {xs : List Int} (h : BytesWf xs) (n : Nat) : BytesWf (xs.drop n) := fun x hx => h x (List.mem_of_mem_drop hx)
theorem BytesWf.take {xs : List Int} (h : BytesWf xs) (n : Nat) : BytesWf (xs.take n) := fun x hx => h x (List.mem_of_mem_take hx)
end Go.Proofs.YthiijbjhgkeikaaDoor
/- The reader of wire: take, said, kind, count. Conditions: the reader is one that was made. -/
namespace Go.Proofs.YthiijbjhgkeikaaDoor
open Go.RowKit
set_option maxRecDepth 20000
/-- Nothing but block rb is written. -/
structure Only (rb : Nat) (w w' : World) : Prop where
  size : w.heap.size ≤ w'.heap.size
  block : ∀ b, b < w.heap.size → b ≠ rb → w'.heap[b]? = w.heap[b]?
  rest : w'.os = w.os ∧ w'.tape = w.tape ∧ w'.output = w.output
theorem Only.trans {rb : Nat} {w w' w'' : World} (h : Only rb w w') (h2 : Only rb w' w'') : Only rb w w'' := ⟨Nat.le_trans h.1 h2.1, fun b hb hn => (h2.2 b (Nat.lt_of_lt_of_le hb h.1) hn).trans (h.2 b hb hn), h2.3.1.trans h.3.1, h2.3.2.1.trans h.3.2.1, h2.3.2.2.trans h.3.2.2⟩
theorem Only.set (rb : Nat) (w : World) (i : Nat) (v : Value) : Only rb w (w.setCell ⟨rb, i, none⟩ v) := ⟨by simp, fun b _ hn => heap_setCell_other _ _ _ _ hn, rfl, rfl, rfl⟩
theorem Only.of_below {rb : Nat} {w w' : World} (h : Below w.heap.size w w') : Only rb w w' := ⟨h.size, fun b hb _ => h.block b hb, h.os, h.tape, h.output⟩
/-- What writes a block of its own alone, changes nothing that was there. -/
theorem Only.toBelow {rb B : Nat} {w w' : World} (h : Only rb w w') (hB : B ≤ w.heap.size) (hr : B ≤ rb) : Below B w w' := ⟨h.3.1, h.3.2.1, h.3.2.2, h.1, fun k hk => h.2 k (by omega) (by omega)⟩
theorem cell_block {w w' : World} {b o : Nat} (h : w'.heap[b]? = w.heap[b]?) : w'.cell? ⟨b, o, none⟩ = w.cell? ⟨b, o, none⟩ := by simp [World.cell?, h]
/-- Bytes that lie in a block that is not rb. -/
def BytesOff (w : World) (M rb : Nat) (ao : Option Addr) (xs : List Int) : Prop :=
  xs = [] ∨ ∃ b off, ao = some ⟨b, off, none⟩ ∧ b < M ∧ b ≠ rb ∧ ∀ i, i < xs.length → w.cell? ⟨b, off + i, none⟩ = some (.int .u8 (xs.getD i 0))
theorem BytesOff.only {w w' : World} {M rb : Nat} {ao : Option Addr} {xs : List Int} (h : BytesOff w M rb ao xs) (hM : M ≤ w.heap.size) (ho : Only rb w w') : BytesOff w' M rb ao xs := by
  rcases h with h | ⟨b, off, h1, h2, h4, h3⟩
  · exact Or.inl h
  · exact Or.inr ⟨b, off, h1, h2, h4, fun i hi => (cell_block (ho.2 b (by omega) h4)).trans (h3 i hi)⟩
theorem BytesOff.take {w : World} {M rb : Nat} {ao : Option Addr} {xs : List Int} (n : Nat) (h : BytesOff w M rb ao xs) : BytesOff w M rb ao (xs.take n) := by
  rcases h with h | ⟨b, off, h1, h2, h4, h3⟩
  · exact Or.inl (by rw [h]; simp)
  · refine Or.inr ⟨b, off, h1, h2, h4, fun i hi => ?_⟩
    rw [List.length_take] at hi
    rw [h3 i (by omega)]
    simp [List.getD, List.getElem?_take, show i < n by omega]
theorem BytesOff.drop {w : World} {M rb cap : Nat} {ao : Option Addr} {xs : List Int} (n : Nat) (hc : xs.length ≤ cap) (h : BytesOff w M rb ao xs) : BytesOff w M rb (subA ao cap n 1) (xs.drop n) := by
  by_cases hn : xs.length ≤ n
  · exact Or.inl (List.drop_of_length_le hn)
  · rcases h with h | ⟨b, off, h1, h2, h4, h3⟩
    · exact Or.inl (by rw [h]; simp)
    · subst h1
      have e : subA (some ⟨b, off, none⟩) cap n 1 = some ⟨b, off + n, none⟩ := by
        unfold subA; rw [if_neg (by omega)]; show some (Addr.add ⟨b, off, none⟩ (n * 1)) = _; rw [Go.WideShapes.add_plain, Nat.mul_one]
      rw [e]
      refine Or.inr ⟨b, off + n, rfl, h2, h4, fun i hi => ?_⟩
      rw [List.length_drop] at hi
      rw [Nat.add_assoc, h3 _ (by omega)]
      simp [List.getD]
/-- Block rb is a reader: whether something was not there, and what is left. -/
structure RdrIs (w : World) (M rb : Nat) (bad : Bool) (left : List Int) (a : Option Addr) (c : Nat) : Prop where
  blk : w.heap[rb]? = some (.cells #[.bool true, .bool bad, .slice a left.length c] 107 (0, 0))
  off : BytesOff w M rb a left
  cap : left.length ≤ c
  nil : a = none → c = 0
  le : M ≤ w.heap.size
theorem RdrIs.lt {w : World} {M rb : Nat} {bad : Bool} {left : List Int} {a : Option Addr} {c : Nat} (h : RdrIs w M rb bad left a c) : rb < w.heap.size := (Array.getElem?_eq_some_iff.1 h.blk).1
def Rdr (w : World) (M rb : Nat) (bad : Bool) (left : List Int) : Prop := ∃ a c, RdrIs w M rb bad left a c
theorem Rdr.below {w w' : World} {M rb : Nat} {bad : Bool} {left : List Int} (h : Rdr w M rb bad left) (hb : Below w.heap.size w w') : Rdr w' M rb bad left := by
  obtain ⟨a, c, h⟩ := h
  exact ⟨a, c, (hb.block rb h.lt).trans h.blk, h.off.only h.le (Only.of_below hb), h.cap, h.nil, Nat.le_trans h.le hb.size⟩
theorem RdrIs.setBad {w : World} {M rb : Nat} {bad : Bool} {left : List Int} {a : Option Addr} {c : Nat} (h : RdrIs w M rb bad left a c) (x : Bool) : RdrIs (w.setCell ⟨rb, 1, none⟩ (.bool x)) M rb x left a c :=
  ⟨Go.Joins.block_setCell (i := 1) h.blk (.bool x), h.off.only h.le (Only.set _ _ _ _), h.cap, h.nil, by simpa using h.le⟩
/-- A store into a block that is not the reader's, nor its bytes'. -/
theorem Rdr.other {w : World} {M rb g i : Nat} {bad : Bool} {left : List Int} (h : Rdr w M rb bad left) (hg : M ≤ g) (hr : g ≠ rb) (v : Value) : Rdr (w.setCell ⟨g, i, none⟩ v) M rb bad left := by
  obtain ⟨a, c, h⟩ := h
  refine ⟨a, c, (heap_setCell_other _ _ _ _ (Ne.symm hr)).trans h.blk, ?_, h.cap, h.nil, by simpa using h.le⟩
  rcases h.off with h0 | ⟨b, off, h1, h2, h4, h3⟩
  · exact Or.inl h0
  · exact Or.inr ⟨b, off, h1, h2, h4, fun j hj => (cell_block (heap_setCell_other _ _ _ _ (show b ≠ g by omega))).trans (h3 j hj)⟩
/-- What take does. -/
def takeS (n : Nat) (bad : Bool) (left : List Int) : List Int × Bool × List Int := if bad = true ∨ left.length < n then ([], true, left) else (left.take n, false, left.drop n)
def TookAt (M rb : Nat) (r : List Int × Bool × List Int) (w : World) (e : Ending) (w' : World) : Prop :=
  ∃ a c, e = .returned (.slice a r.1.length c) ∧ BytesOff w' M rb a r.1 ∧ (a = none → c = 0) ∧ r.1.length ≤ c ∧ Rdr w' M rb r.2.1 r.2.2 ∧ Only rb w w'
set_option maxHeartbeats 1000000 in
theorem take_any (M rb n : Nat) (bad : Bool) (left : List Int) (w : World) (h : Rdr w M rb bad left) (hl : left.length ≤ 140737488351232) (hn : n ≤ 1099511627776) :
    Calls Tryd.prog 77 #[.pointer (some ⟨rb, 0, none⟩), .int .i64 n] w (TookAt M rb (takeS n bad left) w) := by
  obtain ⟨a, c, h⟩ := h
  obtain ⟨m, hm⟩ : ∃ m, left.length = m := ⟨_, rfl⟩
  have hblk := h.blk
  rw [hm] at hblk hl
  have d1 : w.cell? ⟨rb, 1, none⟩ = some (.bool bad) := Go.Joins.cell_of_block hblk 1
  have d2 : w.cell? ⟨rb, 2, none⟩ = some (.slice a m c) := Go.Joins.cell_of_block hblk 2
  have f1 : w.frozen? ⟨rb, 1, none⟩ = false := Go.Joins.unfrozen_of_block hblk 1
  have f2 : w.frozen? ⟨rb, 2, none⟩ = false := Go.Joins.unfrozen_of_block hblk 2
  have H := Lib.hid h
  have HM := Lib.hid hm
  cases bad with
  | true =>
    have hs : takeS n true left = ([], true, left) := if_pos (Or.inl rfl)
    rw [hs]
    clear h hm hblk hs
    go_enter Tryd.func77, Tryd.ntmps77
    go_wp2_with fail
    go_ret
    exact ⟨none, 0, rfl, Or.inl rfl, fun _ => rfl, by simp, ⟨a, c, H.out.setBad true⟩, Only.set _ _ _ _⟩
  | false =>
    by_cases hlt : m < n
    · have hs : takeS n false left = ([], true, left) := if_pos (Or.inr (by rw [hm]; exact hlt))
      rw [hs]
      have i1 : (m : Int) < n := by omega
      clear h hm hblk hs
      go_enter Tryd.func77, Tryd.ntmps77
      go_wp2_with fail
      go_ret
      exact ⟨none, 0, rfl, Or.inl rfl, fun _ => rfl, by simp, ⟨a, c, H.out.setBad true⟩, Only.set _ _ _ _⟩
    · have hs : takeS n false left = (left.take n, false, left.drop n) := if_neg (by rw [hm]; simp; omega)
      rw [hs]
      have i1 : ¬ (m : Int) < n := by omega
      have i2 : (n : Int) ≤ m := by omega
      have hcap := H.out.cap
      rw [HM.out] at hcap
      have hsl1 : ∀ w', (Instr.sliceAt 23 (.slice a m c) none (some (.int .i64 (n : Int))) none).run Tryd.prog w' = .ok (.slice (subA a c 0 1) n c) w' := fun w' => run_sub_h sliceByte sizeByte a m c n (by omega) .i64 n rfl w'
      have hsl2 : ∀ w', (Instr.sliceAt 23 (.slice a m c) (some (.int .i64 (n : Int))) none none).run Tryd.prog w' = .ok (.slice (subA a c n 1) (m - n) (c - n)) w' := fun w' => run_sub_l sliceByte sizeByte a m c n (by omega) .i64 n rfl w'
      clear h hm hblk hs
      go_enter Tryd.func77, Tryd.ntmps77
      go_wp2_with fail
      go_ret
      have hlt1 : (left.take n).length = n := by rw [List.length_take, HM.out]; omega
      have hld : (left.drop n).length = m - n := by rw [List.length_drop, HM.out]
      have h1 := H.out.setBad false
      have ho : Only rb w ((w.setCell ⟨rb, 1, none⟩ (.bool false)).setCell ⟨rb, 2, none⟩ (.slice (subA a c n 1) (m - n) (c - n))) := (Only.set _ _ _ _).trans (Only.set _ _ _ _)
      have hoff := H.out.off.only H.out.le ho
      have hc2 : left.length ≤ c := H.out.cap
      refine ⟨subA a c 0 1, c, by rw [hlt1]; rfl, ?_, fun e => H.out.nil (subA_eq_none e), by rw [hlt1]; omega, ⟨subA a c n 1, c - n, ?_, ?_, ?_, ?_, ?_⟩, ho⟩
      · have := (hoff.drop 0 hc2).take n
        rwa [List.drop_zero] at this
      · rw [hld]
        exact Go.Joins.block_setCell (i := 2) h1.blk (.slice (subA a c n 1) (m - n) (c - n))
      · exact hoff.drop n hc2
      · rw [hld]; omega
      · intro e
        have := H.out.nil (subA_eq_none e)
        omega
      · have := H.out.le
        simpa using this
end Go.Proofs.YthiijbjhgkeikaaDoor
