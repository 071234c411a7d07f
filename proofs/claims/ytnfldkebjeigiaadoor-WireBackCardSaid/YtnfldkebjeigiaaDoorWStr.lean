/- The writer's facts, commands; Fact, Command, Reply, Entry of wire. Conditions: what is written is not too long. -/
import Derived.Test.YtnfldkebjeigiaaDoorWForms2
import Derived.Test.YtnfldkebjeigiaaDoorFa
namespace Go.Proofs.YtnfldkebjeigiaaDoor
open Go.RowKit
set_option maxRecDepth 20000

def factB (f : FaP) : List Int := numB 8 f.id ++ (numB 8 f.ty ++ valuesB f.args)
def replyB (r : RpP) : List Int := numB 8 r.err ++ (numB 8 r.num ++ (numB 4 r.facts.length ++ (r.facts.flatMap factB ++ valuesB r.said)))
/-- A block that is no row of bytes stays where the writer writes. -/
theorem Wrote.sits {B b g : Nat} {bs : List Int} {w w' : World} {cs : Array Value} {T : TypeId} (h : Wrote B b bs w w') (hs : w.heap[g]? = some (.cells cs T (0, 0))) (hn : g ≠ b) (hT : T ≠ 5) : w'.heap[g]? = some (.cells cs T (0, 0)) :=
  h.2.2 g _ hs (by simpa using hn) (by intro c fz hh; injection hh with _ h2 _; exact hT h2)
set_option maxHeartbeats 1000000 in
theorem fact_any (B b : Nat) (bs : List Int) (id ty : Int) (ao : Option Addr) (n cap : Nat) (args : List Va) (w : World) (hn : args.length = n) (hx : ValsIn w B ao args) (htx : ∀ v ∈ args, v.text.size ≤ 1099511627776) (h : BufIs w B b bs) (hBw : B ≤ w.heap.size) (hnl : n ≤ 1099511627776) (hlim : bs.length + (valuesB args).length + 20 ≤ 100000000000) :
    Calls Tryd.prog 44 #[.pointer (some ⟨b, 0, none⟩), .agg #[.int .i64 id, .int .i64 ty, .slice ao n cap]] w fun e w' => e = .returned (.tuple #[]) ∧ Wrote B b (bs ++ factB ⟨id, ty, args⟩) w w' := by
  have h1 := (Wrote.start h).alloc hBw (.cells #[.int .i64 id, .int .i64 ty, .slice ao n cap] 27)
  have hblk := heap_alloc_new w (.cells #[.int .i64 id, .int .i64 ty, .slice ao n cap] 27)
  have hbl := h.lt
  have hs0 : (w.alloc (.cells #[.int .i64 id, .int .i64 ty, .slice ao n cap] 27)).heap.size = w.heap.size + 1 := by simp
  have HS0 := Lib.hid hs0
  have H1 := Lib.hid h1
  have HBLK := Lib.hid hblk
  have HX := Lib.hid hx
  have HN := Lib.hid hn
  have HTX := Lib.hid htx
  clear h h1 hblk hx hn htx hs0
  go_enter Tryd.func44, Tryd.ntmps44
  go_wp2_with fail
  have h1 := H1.out
  have hd := HBLK.out
  have hs0 := HS0.out
  generalize (w.alloc (.cells #[.int .i64 id, .int .i64 ty, .slice ao n cap] 27)) = w0 at h1 hd hs0 ⊢
  have H1 := Lib.hid h1
  have HD := Lib.hid hd
  clear h1 hd
  refine (put2_any B b 8 _ bs id ty w0 hs0 (by omega) (by omega) H1.out.1 (Nat.le_trans hBw H1.out.2.1.size) (by omega)).mono ?_
  rintro e w2 ⟨rfl, hw2⟩
  have hd := hw2.sits HD.out (by omega) (by decide)
  have d2 : w2.cell? ⟨w.heap.size, 2, none⟩ = some (.slice ao n cap) := Go.Joins.cell_of_block hd 2
  have H2 := Lib.hid (H1.out.trans hw2)
  clear hw2 hd H1 HD HBLK HS0 hs0
  go_wp2_with fail
  refine (values_any B b _ ao n cap args w2 HN.out (HX.out.below noSub_kept H2.out.2.1 (Nat.le_refl _)) HTX.out H2.out.1 (Nat.le_trans hBw H2.out.2.1.size) (by simp only [List.length_append, numB_len]; omega) hnl (by simp only [List.length_append, numB_len]; omega)).mono ?_
  rintro e w3 ⟨rfl, hw3⟩
  have hw4 := H2.out.trans hw3
  rw [List.append_assoc, List.append_assoc] at hw4
  have H4 := Lib.hid hw4
  clear hw3 hw4 d2
  go_wp2_with fail
  go_end0
  exact ⟨rfl, H4.out⟩
set_option maxHeartbeats 1000000 in
theorem command_any (B b : Nat) (bs : List Int) (ck : Int) (text : ByteArray) (ao : Option Addr) (n cap : Nat) (num : Int) (args : List Va) (w : World) (hn : args.length = n) (hx : ValsIn w B ao args) (htx : ∀ v ∈ args, v.text.size ≤ 1099511627776) (h : BufIs w B b bs) (hBw : B ≤ w.heap.size) (hnl : n ≤ 1099511627776) (hlim : bs.length + text.size + (valuesB args).length + 40 ≤ 100000000000) :
    Calls Tryd.prog 40 #[.pointer (some ⟨b, 0, none⟩), .agg #[.int .u8 ck, .string text, .slice ao n cap, .int .i64 num]] w fun e w' => e = .returned (.tuple #[]) ∧ Wrote B b (bs ++ commandB ck text num args) w w' := by
  have h1 := (Wrote.start h).alloc hBw (.cells #[.int .u8 ck, .string text, .slice ao n cap, .int .i64 num] 30)
  have hblk := heap_alloc_new w (.cells #[.int .u8 ck, .string text, .slice ao n cap, .int .i64 num] 30)
  have hbl := h.lt
  have H1 := Lib.hid h1
  have HBLK := Lib.hid hblk
  have HX := Lib.hid hx
  have HN := Lib.hid hn
  have HTX := Lib.hid htx
  clear h h1 hblk hx hn htx
  go_enter Tryd.func40, Tryd.ntmps40
  go_wp2_with fail
  have h1 := H1.out
  have hd := HBLK.out
  generalize (w.alloc (.cells #[.int .u8 ck, .string text, .slice ao n cap, .int .i64 num] 30)) = w0 at h1 hd ⊢
  have d0 : w0.cell? ⟨w.heap.size, 0, none⟩ = some (.int .u8 ck) := Go.Joins.cell_of_block hd 0
  have H1' := Lib.hid h1.drew
  have HD := Lib.hid (show w0.drew.heap[w.heap.size]? = some (.cells #[.int .u8 ck, .string text, .slice ao n cap, .int .i64 num] 30 (0, 0)) from hd)
  clear h1 hd H1 HBLK
  go_still_tail 5, (by kernel_rfl)
  change wpList _ _ _ _ _ w0.drew
  generalize w0.drew = w1 at H1' HD ⊢
  clear d0
  go_wp2_with fail
  refine (writeByte_any B b bs ck w1 H1'.out.1 (Nat.le_trans hBw H1'.out.2.1.size) (by omega)).mono ?_
  rintro e w2 ⟨rfl, hw2⟩
  have hd := hw2.sits HD.out (by omega) (by decide)
  have d1 : w2.cell? ⟨w.heap.size, 1, none⟩ = some (.string text) := Go.Joins.cell_of_block hd 1
  have H2 := Lib.hid (H1'.out.trans hw2)
  have HD2 := Lib.hid hd
  clear hw2 hd H1' HD
  go_wp2_with fail
  refine (text_any B b _ text w2 H2.out.1 (Nat.le_trans hBw H2.out.2.1.size) (by simp only [List.length_append, List.length_singleton]; omega)).mono ?_
  rintro e w3 ⟨rfl, hw3⟩
  have hd := hw3.sits HD2.out (by omega) (by decide)
  have d3 : w3.cell? ⟨w.heap.size, 3, none⟩ = some (.int .i64 num) := Go.Joins.cell_of_block hd 3
  have H3 := Lib.hid (H2.out.trans hw3)
  have HD3 := Lib.hid hd
  clear hw3 hd H2 HD2 d1
  go_wp2_with fail
  refine (put1_any B b 8 _ _ num w3 rfl (by omega) (by omega) H3.out.1 (Nat.le_trans hBw H3.out.2.1.size) (by simp only [List.length_append, List.length_singleton, textB_len]; omega)).mono ?_
  rintro e w4 ⟨rfl, hw4⟩
  have hd := hw4.sits HD3.out (by omega) (by decide)
  have d2 : w4.cell? ⟨w.heap.size, 2, none⟩ = some (.slice ao n cap) := Go.Joins.cell_of_block hd 2
  have H4 := Lib.hid (H3.out.trans hw4)
  clear hw4 hd H3 HD3 d3
  go_wp2_with fail
  refine (values_any B b _ ao n cap args w4 HN.out (HX.out.below noSub_kept H4.out.2.1 (Nat.le_refl _)) HTX.out H4.out.1 (Nat.le_trans hBw H4.out.2.1.size) (by simp only [List.length_append, List.length_singleton, textB_len, numB_len]; omega) hnl (by simp only [List.length_append, List.length_singleton, textB_len, numB_len]; omega)).mono ?_
  rintro e w5 ⟨rfl, hw5⟩
  have hw6 := H4.out.trans hw5
  have hbs : bs ++ [ck] ++ textB text ++ numB 8 num ++ valuesB args = bs ++ commandB ck text num args := by simp [commandB]
  rw [hbs] at hw6
  have H6 := Lib.hid hw6
  clear hw5 hw6 d2 hbs
  go_wp2_with fail
  go_end0
  exact ⟨rfl, H6.out⟩
end Go.Proofs.YtnfldkebjeigiaaDoor
