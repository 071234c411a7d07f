/- Reply of wire: the bytes of a form. Conditions: what is written is not too long. -/
import Derived.Test.YtnfldkebjeigiaaDoorWStr2
namespace Go.Proofs.YtnfldkebjeigiaaDoor
open Go.RowKit
set_option maxRecDepth 20000

set_option maxHeartbeats 2000000 in
theorem wreply_any (er num : Int) (fo : Option Addr) (n fcap : Nat) (facts : List Fa) (so : Option Addr) (m scap : Nat) (said : List Va) (w : World) (hn : facts.length = n) (hm : said.length = m) (hx : FasIn w w.heap.size fo facts) (hs : ValsIn w w.heap.size so said)
    (htf : ∀ f ∈ facts, f.args.length ≤ 1099511627776 ∧ ∀ v ∈ f.args, v.text.size ≤ 1099511627776) (hts : ∀ v ∈ said, v.text.size ≤ 1099511627776) (hnl : n ≤ 1099511627776) (hml : m ≤ 1099511627776) (L : List Int) (hL : (facts.flatMap fun f => factB f.plain) = L) (hlim : L.length + (valuesB said).length + 100 ≤ 100000000000) :
    Calls Tryd.prog 13 #[.agg #[.int .i64 er, .int .i64 num, .slice fo n fcap, .slice so m scap]] w (BytesNew (numB 8 er ++ (numB 8 num ++ (numB 4 n ++ (L ++ valuesB said)))) w.heap.size w) := by
  have hst := Wrote.start (buf_new (w.alloc (.cells #[.int .i64 er, .int .i64 num, .slice fo n fcap, .slice so m scap] 34)))
  have hb := ((Below.refl w.heap.size w).alloc (Nat.le_refl _) (.cells #[.int .i64 er, .int .i64 num, .slice fo n fcap, .slice so m scap] 34)).alloc (by simp) (.cells #[.slice none 0 0, .int .i64 0, .int .i8 0] 85)
  have hk := heap_alloc_keep (heap_alloc_new w (.cells #[.int .i64 er, .int .i64 num, .slice fo n fcap, .slice so m scap] 34)) (.cells #[.slice none 0 0, .int .i64 0, .int .i8 0] 85)
  have hsz : (w.alloc (.cells #[.int .i64 er, .int .i64 num, .slice fo n fcap, .slice so m scap] 34)).heap.size = w.heap.size + 1 := by simp
  have hs0 : ((w.alloc (.cells #[.int .i64 er, .int .i64 num, .slice fo n fcap, .slice so m scap] 34)).alloc (.cells #[.slice none 0 0, .int .i64 0, .int .i8 0] 85)).heap.size = w.heap.size + 2 := by simp
  rw [hsz] at hst
  have HX := Lib.hid hx
  have HS := Lib.hid hs
  have HN := Lib.hid hn
  have HM := Lib.hid hm
  have HTF := Lib.hid htf
  have HTS := Lib.hid hts
  have HL := Lib.hid hL
  have HST := Lib.hid hst
  have HB := Lib.hid hb
  have HK := Lib.hid hk
  have HS0 := Lib.hid hs0
  clear hst hb hk hsz hs0 hx hs hn hm htf hts hL
  go_enter Tryd.func13, Tryd.ntmps13
  go_wp2_with fail
  have hst := HST.out
  have hb := HB.out
  have hk := HK.out
  have hs0 := HS0.out
  generalize ((w.alloc (.cells #[.int .i64 er, .int .i64 num, .slice fo n fcap, .slice so m scap] 34)).alloc (.cells #[.slice none 0 0, .int .i64 0, .int .i8 0] 85)) = w0 at hst hb hk hs0 ⊢
  clear HST HB HK HS0
  have HX := Lib.hid ((HX.out.below faSub_kept hb (Nat.le_refl _)).mono faSub_rising (Nat.le_succ _))
  have HS := Lib.hid ((HS.out.below noSub_kept hb (Nat.le_refl _)).mono noSub_rising (Nat.le_succ _))
  have HK := Lib.hid hk
  refine (put2_any (w.heap.size + 1) (w.heap.size + 1) 8 _ [] er num w0 (by simp [hs0]) (by omega) (by omega) hst.1 (by omega) (by simp)).mono ?_
  rintro e w1 ⟨rfl, hw⟩
  rw [List.nil_append] at hw
  have hk1 := hw.sits hk (by omega) (by decide)
  have d2 : w1.cell? ⟨w.heap.size, 2, none⟩ = some (.slice fo n fcap) := Go.Joins.cell_of_block hk1 2
  have H1 := Lib.hid hw
  have HK1 := Lib.hid hk1
  have hB0 : w.heap.size + 1 ≤ w0.heap.size := by omega
  clear hw hk1 hk hst
  go_wp2_with fail
  refine (count_any (w.heap.size + 1) (w.heap.size + 1) _ n w1 H1.out.1 (Nat.le_trans hB0 H1.out.2.1.size) (by simp only [List.length_append, numB_len]; omega)).mono ?_
  rintro e w2 ⟨rfl, hw⟩
  have hk2 := hw.sits HK1.out (by omega) (by decide)
  have d2 : w2.cell? ⟨w.heap.size, 2, none⟩ = some (.slice fo n fcap) := Go.Joins.cell_of_block hk2 2
  have H2 := Lib.hid (H1.out.trans hw)
  clear hw hk2 HK1 H1
  go_wp2_with fail
  go_loopw [19] (fun i wr => ∃ k : Nat, k ≤ n ∧ i = .int .i64 k ∧ Wrote (w.heap.size + 1) (w.heap.size + 1) (numB 8 er ++ numB 8 num ++ numB 4 n ++ (facts.take k).flatMap fun f => factB f.plain) w0 wr) (fun i _ => n - (intOf i).toNat)
  case atStart => exact ⟨0, by omega, rfl, by simpa using H2.out⟩
  case round =>
    clear H2 d2
    obtain ⟨k, hk, rfl, hw⟩ := hrel
    have HW := Lib.hid hw
    clear hw
    by_cases hlt : k < n
    · have hkx : facts[k]? = some (facts[k]'(by rw [HN.out]; exact hlt)) := List.getElem?_eq_getElem _
      obtain ⟨rb, off, hao, hbb, hc, hsub⟩ := HX.out.at hkx
      have htk : ((facts.take (k + 1)).flatMap fun f => factB f.plain) = ((facts.take k).flatMap fun f => factB f.plain) ++ factB (facts[k]'(by rw [HN.out]; exact hlt)).plain := by
        rw [List.take_succ_eq_append_getElem (by rw [HN.out]; exact hlt), List.flatMap_append]; simp
      have hle := flatMap_at_le (fun f : Fa => factB f.plain) facts k _ hkx
      rw [HL.out] at hle
      have htx := HTF.out _ (List.getElem_mem (l := facts) (n := k) (by rw [HN.out]; exact hlt))
      generalize facts[k]'(by rw [HN.out]; exact hlt) = x at hc htk hle htx hkx hsub
      have hfl : (factB x.plain).length = 16 + (valuesB x.args).length := by simp only [Fa.plain, factB, List.length_append, numB_len]; omega
      have hcall : ∀ w', Wrote (w.heap.size + 1) (w.heap.size + 1) (numB 8 er ++ numB 8 num ++ numB 4 n ++ (facts.take k).flatMap fun f => factB f.plain) w0 w' → Calls Tryd.prog 44 #[.pointer (some ⟨w.heap.size + 1, 0, none⟩), faVal x] w' fun e w'' => e = .returned (.tuple #[]) ∧ Wrote (w.heap.size + 1) (w.heap.size + 1) ((numB 8 er ++ numB 8 num ++ numB 4 n ++ (facts.take k).flatMap fun f => factB f.plain) ++ factB x.plain) w' w'' := fun w' hw' =>
        fact_any (w.heap.size + 1) (w.heap.size + 1) _ x.id x.ty x.ao _ x.cap x.args w' rfl (hsub.below noSub_kept hw'.2.1 (Nat.le_refl _)) htx.2 hw'.1 (Nat.le_trans hB0 hw'.2.1.size) htx.1 (by simp only [List.length_append, numB_len]; omega)
      obtain ⟨id, ty, ao, args, cap⟩ := x
      unfold faVal at hcall
      dsimp only at hcall
      obtain ⟨an, han⟩ : ∃ an, args.length = an := ⟨_, rfl⟩
      rw [han] at hcall
      have hbel := HW.out.2.1
      have c0 : wr.cell? ⟨rb, off + k * 3, none⟩ = some (.int .i64 id) := (hbel.cell (p := ⟨rb, _, none⟩) hbb).trans (hc 0 (by decide))
      have c1 : wr.cell? ⟨rb, off + k * 3 + 1, none⟩ = some (.int .i64 ty) := (hbel.cell (p := ⟨rb, _, none⟩) hbb).trans (hc 1 (by decide))
      have c2 : wr.cell? ⟨rb, off + k * 3 + 1 + 1, none⟩ = some (.slice ao an cap) := (hbel.cell (p := ⟨rb, _, none⟩) hbb).trans (han ▸ hc 2 (by decide))
      have c3 : wr.cell? ⟨rb, off + k * 3 + 2, none⟩ = some (.slice ao an cap) := c2
      have HT := Lib.hid htk
      have HC := Lib.hid hcall
      have i1 : (k : Int) < n := by omega
      subst hao
      clear hc htk hle htx hkx hcall hbel hsub hfl han
      go_wp2_with fail
      refine (HC.out _ (HW.out.alloc hB0 _)).mono ?_
      rintro e w3 ⟨rfl, hw3⟩
      have hw4 := (HW.out.alloc hB0 _).trans hw3
      rw [List.append_assoc, ← HT.out] at hw4
      have HW4 := Lib.hid hw4
      clear hw3 hw4 c0 c1 c2 c3
      go_wp2_with fail
      go_roundw
      case rel => exact ⟨k + 1, by omega, by go_num, HW4.out⟩
      case measure => simp [intOf]; omega
    · obtain rfl : k = n := by omega
      have hw5 := HW.out
      rw [List.take_of_length_le (l := facts) (by rw [HN.out]; exact Nat.le_refl _), HL.out] at hw5
      have hk5 := hw5.sits HK.out (by omega) (by decide)
      have d3 : wr.cell? ⟨w.heap.size, 3, none⟩ = some (.slice so m scap) := Go.Joins.cell_of_block hk5 3
      have HW5 := Lib.hid hw5
      clear hw5 hk5 HW
      go_wp2_with fail
      refine (values_any (w.heap.size + 1) (w.heap.size + 1) _ so m scap said wr HM.out (HS.out.below noSub_kept HW5.out.2.1 (Nat.le_refl _)) HTS.out HW5.out.1 (Nat.le_trans hB0 HW5.out.2.1.size) (by simp only [List.length_append, numB_len]; omega) hml (by simp only [List.length_append, numB_len]; omega)).mono ?_
      rintro e w6 ⟨rfl, hw6⟩
      have hw7 := HW5.out.trans hw6
      have hbs : numB 8 er ++ numB 8 num ++ numB 4 k ++ L ++ valuesB said = numB 8 er ++ (numB 8 num ++ (numB 4 k ++ (L ++ valuesB said))) := by simp
      rw [hbs] at hw7
      have HW7 := Lib.hid hw7
      have hb6 := hb.trans (hw7.2.1.mono (Nat.le_succ _))
      have hs6 : w.heap.size + 1 ≤ w6.heap.size := by have := hw7.2.1.size; omega
      clear hw6 hw7 hbs d3
      go_wp2_with fail
      refine (told_any (w.heap.size + 1) (w.heap.size + 1) _ w6 HW7.out.1 hs6 (by simp only [List.length_append, numB_len]; omega)).mono ?_
      rintro e w8 ⟨a, c, rfl, ho, hb2⟩
      have HO := Lib.hid (Go.Joins.ownsRow_le ho hb6.size)
      have hb9 := hb6.trans (hb2.mono hb6.size)
      clear ho hb2
      go_wp2_with fail
      go_ret
      exact ⟨a, c, by simp [List.length_append], HO.out, hb9⟩
end Go.Proofs.YtnfldkebjeigiaaDoor
