/- The example of chapter 18, walked. Conditions: none. -/
import Derived.Test.YtnhnabcpkaeaaaaGreatDoorGWalReads25
import Derived.Test.YtnhnabcpkaeaaaaGreatDoorGWalReads23
set_option linter.unusedVariables false
set_option linter.unusedSimpArgs false
namespace Go.Proofs.YtnhnabcpkaeaaaaGreatDoor
open Go.RowKit
set_option maxRecDepth 20000
theorem info_en9W : (Tryz.prog.info? 60).map (·.size) = some 9 := by kernel_rfl
theorem cmdE_one (k : Int) : (#[.int .i64 2, .int .u8 2, .int .i64 1, .int .i64 k, .int .u8 0, .string ⟨#[]⟩, .slice none 0 0, .int .i64 0, .slice none 0 0] : Array Value).all (·.oneCell') = true := by simp [Value.oneCell']
theorem cmd18_any (k : Int) (w : World) : Calls Tryz.prog 21 #[.int .i64 k] w fun e w' => e = .returned (.agg #[.int .i64 2, .int .u8 2, .int .i64 1, .int .i64 k, .int .u8 0, .string ⟨#[]⟩, .slice none 0 0, .int .i64 0, .slice none 0 0]) ∧ Below w.heap.size w w' := by
  have hb0 := (Below.refl w.heap.size w).alloc (Nat.le_refl _) (.cells #[.int .i64 0, .int .u8 0, .int .i64 0, .int .i64 0, .int .u8 0, .string ⟨#[]⟩, .slice none 0 0, .int .i64 0, .slice none 0 0] 60)
  have hk0 := heap_alloc_new w (.cells #[.int .i64 0, .int .u8 0, .int .i64 0, .int .i64 0, .int .u8 0, .string ⟨#[]⟩, .slice none 0 0, .int .i64 0, .slice none 0 0] 60)
  go_enter Tryz.func21, Tryz.ntmps21
  go_upto_region 1 with fail
  generalize w.alloc (.cells #[.int .i64 0, .int .u8 0, .int .i64 0, .int .i64 0, .int .u8 0, .string ⟨#[]⟩, .slice none 0 0, .int .i64 0, .slice none 0 0] 60) = w0 at hb0 hk0 ⊢
  go_wp2_with (refine wpList_store_row rfl 60 (.tmp 2) (.tmp 4) rfl w.heap.size #[.int .i64 2, .int .u8 2, .int .i64 1, .int .i64 k, .int .u8 0, .string ⟨#[]⟩, .slice none 0 0, .int .i64 0, .slice none 0 0] rfl rfl 60 _ hk0 info_en9W rfl (cmdE_one k) ?_)
  have hk1 := setRow_heap w0 w.heap.size _ #[.int .i64 2, .int .u8 2, .int .i64 1, .int .i64 k, .int .u8 0, .string ⟨#[]⟩, .slice none 0 0, .int .i64 0, .slice none 0 0] _ _ hk0
  exact bodyPost_ret (results_cell_row rfl _ _ w.heap.size 60 _ _ _ rfl hk1 Tryz.underlying60 rfl info_en9W) rfl ⟨rfl, hb0.grown (grown_rowW w0 w.heap.size _) hb0.size (fun q hq => by cases hq; exact Nat.le_refl _)⟩
theorem own_seq2 {w : World} {base c : Nat} {a : Option Addr} {es : List En} {p q : EnP} (h : EnsOwn w base (.slice a 2 c) es) (hp : es.map En.plain = [p, q]) : ∃ g, a = some ⟨g, 0, none⟩ ∧ base ≤ g ∧ g < w.heap.size ∧ w.cell? ⟨g, 12, none⟩ = some (.int .i64 q.seq) := by
  have hl : es.length = 2 := by have := congrArg List.length hp; simpa using this
  have h0 := h.row
  rw [hl] at h0
  rcases Go.Joins.ownsRow_forms h0 with ⟨h1, hz⟩ | ⟨g, c', hv⟩
  · omega
  · injection hv with h1 h2 h3
    subst h1
    have hg := World.ownsRow.lt h0 g rfl
    obtain ⟨x, y, rfl⟩ : ∃ x y, es = [x, y] := by
      match es, hl with
      | [x, y], _ => exact ⟨x, y, rfl⟩
    simp only [List.map_cons, List.map_nil, List.cons.injEq, and_true] at hp
    refine ⟨g, rfl, hg.1, hg.2, ?_⟩
    rw [World.ownsRow.cellAt h0 _ (by omega)]
    have := flat_get enCells_len [x, y] 1 y rfl 3 (by decide)
    rw [show 1 * 9 + 3 = 12 from rfl] at this
    rw [this, ← hp.2]
    rfl
theorem cmds_in {w : World} {g : Nat} {T : TypeId} {fz : Nat × Nat} (ks : List Int) (cs : Array Value) (hk : w.heap[g]? = some (.cells cs T fz)) (hcs : cs.toList = (ks.map cmdEn).flatMap enCells) : EnsIn w w.heap.size (some ⟨g, 0, none⟩) (ks.map cmdEn) :=
  rowsIn_block enCells_len _ cs hk hcs (Array.getElem?_eq_some_iff.1 hk).1 fun x hx => by
    obtain ⟨k, _, rfl⟩ := List.mem_map.1 hx
    exact ⟨Or.inl rfl, Or.inl rfl⟩
def EntsAt (l : List EnP) (n : Nat) (w : World) (e : Ending) (w' : World) : Prop :=
  ∃ a c es, e = .returned (.slice a n c) ∧ EnsOwn w' w.heap.size (.slice a n c) es ∧ es.map En.plain = l ∧ Below w.heap.size w w'
theorem wents_any {w : World} {B wb sb db n : Nat} {s : WP} (h : WalIs w B wb sb db s) (hn : s.L.length = n) (hl : n ≤ 1099511627776) (hsm : ∀ e ∈ s.L, SmallP e) :
    Calls Tryz.prog 16 #[.pointer (some ⟨wb, 0, none⟩)] w (EntsAt s.L n w) := by
  obtain ⟨v, es, hs, hm⟩ := h.say
  refine (wentries_any B wb sb db _ _ _ _ v es n w ⟨h.blk, hs⟩ (by rw [← hn, ← hm, List.length_map]) hl (fun x hx => hsm x.plain (by rw [← hm]; exact List.mem_map.2 ⟨x, hx, rfl⟩))).mono ?_
  rintro e w' ⟨a, c, es', rfl, h1, h2, h3⟩
  exact ⟨a, c, es', rfl, h1, h2.trans hm, h3⟩
theorem wvoted_any {w : World} {B wb sb db : Nat} {s : WP} (h : WalIs w B wb sb db s) :
    Calls Tryz.prog 14 #[.pointer (some ⟨wb, 0, none⟩)] w fun e w' => e = .returned (.tuple #[.int .i64 s.term, .int .i64 s.vote]) ∧ Below w.heap.size w w' := by
  obtain ⟨v, es, hs, hm⟩ := h.say
  exact voted_any B wb sb db _ _ _ _ v es w ⟨h.blk, hs⟩
theorem wbased_any {w : World} {B wb sb db : Nat} {s : WP} (h : WalIs w B wb sb db s) :
    Calls Tryz.prog 15 #[.pointer (some ⟨wb, 0, none⟩)] w fun e w' => e = .returned (.tuple #[.int .i64 s.base, .int .i64 s.before]) ∧ Below w.heap.size w w' := by
  obtain ⟨v, es, hs, hm⟩ := h.say
  exact wbase_any B wb sb db _ _ _ _ v es w ⟨h.blk, hs⟩
theorem cmd_small (k : Int) : SmallP (cmdP k) := ⟨by show (0 : Nat) ≤ _; omega, by show (0 : Nat) ≤ _; omega⟩
theorem s2_ok : s2.Ok 10 := ⟨by decide, by decide, fun e he => by
  simp only [s2, List.mem_cons, List.not_mem_nil, or_false] at he
  rcases he with rfl | rfl <;> exact cmd_small _⟩
theorem s3_ok : s3.Ok 10 := ⟨by decide, by decide, fun e he => by
  simp only [s3, List.mem_cons, List.not_mem_nil, or_false] at he
  rcases he with rfl | rfl <;> exact cmd_small _⟩
theorem s1_ok : s1.Ok 10 := ⟨by decide, by decide, fun e he => by cases he⟩
theorem n64_1 (k : Int) (h : 0 ≤ k ∧ k ≤ 10) : N64 k := by unfold N64; omega
theorem dread_nil : dRead [] walS.data.toList = ([], 6) := rfl
theorem dread_s : dRead lS walS.data.toList = (putP fsA ++ putP fsB, 0) := by
  have hg : dGet lS walS.data.toList = some ⟨putP fsA ++ putP fsB, []⟩ := by unfold lS dGet; rw [if_pos rfl]
  unfold dRead
  rw [hg]
  show ((putP fsA ++ putP fsB) ++ [], _) = _
  rw [List.append_nil]
theorem openL_nil : openL [] [] 6 = [] := by
  unfold openL openL1
  rw [if_neg (by omega)]
  rfl
theorem bytesAB : (putP fsA ++ putP fsB).length = 151 := by rw [List.length_append, bytesA_len, bytesB_len]
theorem wfAB : BytesWf (putP fsA ++ putP fsB) := by
  rw [putP_app]
  intro x hx
  unfold putP at hx
  obtain ⟨p, hp, hx⟩ := List.mem_flatMap.1 hx
  have h := okA p hp
  exact frameB_wf ⟨h.1, h.2.1⟩ h.2.2.2 (by have := h.2.2.1; omega) x hx
set_option maxHeartbeats 8000000 in
theorem awake18_any (w : World) : Calls Tryz.prog 5 #[] w fun e w' => e = .returned (.bool true) ∧ Below w.heap.size w w' := by
  go_enter Tryz.func5, Tryz.ntmps5
  go_wp2_with fail
  refine (dnew_any 1048576 w 1048576 (by decide) (by decide)).mono ?_
  rintro e w1 ⟨rfl, hd1, hb1⟩
  have hz1 := hb1.size
  generalize hdb : w.heap.size + 1 = db at hd1 ⊢
  generalize hmb : w.heap.size = mb at hd1
  have hmbl : mb < w1.heap.size := Nat.lt_of_lt_of_le hd1.mlt hd1.le
  have HD1 := Lib.hid hd1
  have HB1 := Lib.hid (show Below mb w w1 from hmb ▸ hb1)
  clear hd1 hb1
  go_wp2_with fail
  refine (wopen_any HD1.out (by omega) [] 6 dread_nil (fun x hx => by cases hx) (by simp)).mono ?_
  intro e w2 ho
  unfold OpenAt at ho
  rw [open_nil, openL_nil] at ho
  obtain ⟨wb, sb, rfl, hw2, hg2⟩ := ho
  have hmbs : mb < sb := Nat.lt_of_lt_of_le hmbl hw2.wal.say.lo
  have HW2 := Lib.hid hw2
  have HB2 := Lib.hid (HB1.out.trans (grown_atW hg2 (Nat.le_of_lt hmbl)))
  clear hw2 hg2
  go_wp2_with fail
  refine (wvote_any HW2.out (by omega) (WP.Ok.zero 10) hmbs (by omega) 3 2 (by omega) (by omega) _ put_a).mono ?_
  rintro e w3 ⟨rfl, hw3, hb3⟩
  have HW3 := Lib.hid hw3
  have HB3 := Lib.hid (HB2.out.trans hb3)
  clear hw3 hb3
  dsimp only at HW3 ⊢
  go_wp2_with fail
  refine (cmd18_any 1 w3).mono ?_
  rintro e w4 ⟨rfl, hb4⟩
  have HW4 := Lib.hid (HW3.out.below hb4)
  have HB4 := Lib.hid (HB3.out.trans (hb4.mono (Nat.le_trans (Nat.le_of_lt (Nat.lt_of_lt_of_le HW3.out.dk.mlt HW3.out.dk.le)) (Nat.le_refl _))))
  clear hb4
  go_wp2_with fail
  refine (cmd18_any 2 w4).mono ?_
  rintro e w5 ⟨rfl, hb5⟩
  have hba := (Below.refl w5.heap.size w5).alloc (Nat.le_refl _) (.cells #[.int .i64 2, .int .u8 2, .int .i64 1, .int .i64 1, .int .u8 0, .string ⟨#[]⟩, .slice none 0 0, .int .i64 0, .slice none 0 0, .int .i64 2, .int .u8 2, .int .i64 1, .int .i64 2, .int .u8 0, .string ⟨#[]⟩, .slice none 0 0, .int .i64 0, .slice none 0 0] 60)
  have hka := heap_alloc_new w5 (.cells #[.int .i64 2, .int .u8 2, .int .i64 1, .int .i64 1, .int .u8 0, .string ⟨#[]⟩, .slice none 0 0, .int .i64 0, .slice none 0 0, .int .i64 2, .int .u8 2, .int .i64 1, .int .i64 2, .int .u8 0, .string ⟨#[]⟩, .slice none 0 0, .int .i64 0, .slice none 0 0] 60)
  have hb56 := hb5.trans (hba.mono hb5.size)
  go_wp2_with fail
  generalize w5.alloc (.cells #[.int .i64 2, .int .u8 2, .int .i64 1, .int .i64 1, .int .u8 0, .string ⟨#[]⟩, .slice none 0 0, .int .i64 0, .slice none 0 0, .int .i64 2, .int .u8 2, .int .i64 1, .int .i64 2, .int .u8 0, .string ⟨#[]⟩, .slice none 0 0, .int .i64 0, .slice none 0 0] 60) = w6 at hba hka hb56 ⊢
  have hw6 := HW4.out.below hb56
  have HB6 := Lib.hid (HB4.out.trans (hb56.mono (Nat.le_of_lt (Nat.lt_of_lt_of_le HW4.out.dk.mlt HW4.out.dk.le))))
  refine (wappend_any (m := 2) hw6 (by omega) s1_ok 1 (some ⟨w5.heap.size, 0, none⟩) 2 [1, 2] rfl (by omega) (cmds_in [1, 2] _ hka rfl) (fun k hk => n64_1 k (by simp at hk; omega)) hmbs (by omega) (by decide) _ put_b).mono ?_
  rintro e w7 ⟨rfl, hw7, hb7⟩
  dsimp only at hw7 ⊢
  have HW7 := Lib.hid hw7
  have HB7 := Lib.hid (HB6.out.trans hb7)
  clear hw6 hw7 hb7 hba hka hb5 hb56
  have c0 := Go.Joins.cell_of_block HW7.out.wal.blk 0
  have c1 := Go.Joins.cell_of_block HW7.out.wal.blk 1
  go_wp2_with fail
  refine (wsync_dk ⟨sb, c0⟩ c1 HW7.out.dk (by omega)).mono ?_
  rintro e w8 ⟨rfl, hd8, hg8⟩
  dsimp only at hd8 ⊢
  rw [sync_b] at hd8
  have HW8 := Lib.hid (HW7.out.disked hg8 hd8)
  have HB8 := Lib.hid (HB7.out.trans (grown_atW hg8 (Nat.le_of_lt (Nat.lt_of_lt_of_le HW7.out.dk.mlt HW7.out.dk.le))))
  clear hd8 hg8 c0 c1
  go_wp2_with fail
  refine (cmd18_any 3 w8).mono ?_
  rintro e w9 ⟨rfl, hb9⟩
  have hba := (Below.refl w9.heap.size w9).alloc (Nat.le_refl _) (.cells #[.int .i64 2, .int .u8 2, .int .i64 1, .int .i64 3, .int .u8 0, .string ⟨#[]⟩, .slice none 0 0, .int .i64 0, .slice none 0 0] 60)
  have hka := heap_alloc_new w9 (.cells #[.int .i64 2, .int .u8 2, .int .i64 1, .int .i64 3, .int .u8 0, .string ⟨#[]⟩, .slice none 0 0, .int .i64 0, .slice none 0 0] 60)
  have hb9a := hb9.trans (hba.mono hb9.size)
  go_wp2_with fail
  generalize w9.alloc (.cells #[.int .i64 2, .int .u8 2, .int .i64 1, .int .i64 3, .int .u8 0, .string ⟨#[]⟩, .slice none 0 0, .int .i64 0, .slice none 0 0] 60) = w10 at hba hka hb9a ⊢
  have hw10 := HW8.out.below hb9a
  have HB10 := Lib.hid (HB8.out.trans (hb9a.mono (Nat.le_of_lt (Nat.lt_of_lt_of_le HW8.out.dk.mlt HW8.out.dk.le))))
  refine (wappend_any (m := 1) hw10 (by omega) s2_ok 2 (some ⟨w9.heap.size, 0, none⟩) 1 [3] rfl (by omega) (cmds_in [3] _ hka rfl) (fun k hk => n64_1 k (by simp at hk; omega)) hmbs (by omega) (by decide) _ put_c).mono ?_
  rintro e w11 ⟨rfl, hw11, hb11⟩
  dsimp only at hw11 ⊢
  have HW11 := Lib.hid hw11
  have HB11 := Lib.hid (HB10.out.trans hb11)
  clear hw10 hw11 hb11 hba hka hb9 hb9a
  go_wp2_with fail
  refine (wents_any HW11.out.wal (n := 2) rfl (by omega) s3_ok.small).mono ?_
  rintro e w12 ⟨a12, c12, es12, rfl, ho12, hm12, hb12⟩
  obtain ⟨g12, rfl, hg12a, hg12b, hs12⟩ := own_seq2 (p := cmdP 1) (q := cmdP 3) ho12 hm12
  have hmg : mb < g12 := Nat.lt_of_lt_of_le (Nat.lt_of_lt_of_le HW11.out.dk.mlt HW11.out.dk.le) hg12a
  have HW12 := Lib.hid (HW11.out.below hb12)
  have HB12 := Lib.hid (HB11.out.trans (hb12.mono (Nat.le_of_lt (Nat.lt_of_lt_of_le HW11.out.dk.mlt HW11.out.dk.le))))
  have HS12 := Lib.hid (And.intro hg12b hs12)
  clear ho12 hm12 hb12 hg12a hg12b hs12
  go_wp2_with fail
  refine (crash_any HW12.out.dk (by omega) 0 (by omega)).mono ?_
  rintro e w13 ⟨rfl, hd13, hg13⟩
  rw [crash_c] at hd13
  have HD13 := Lib.hid hd13
  have HS13 := Lib.hid (And.intro (Nat.lt_of_lt_of_le HS12.out.1 hg13.size) ((cell_block (hg13.block g12 HS12.out.1 (fun e => by injection e; omega))).trans HS12.out.2))
  have HB13 := Lib.hid (HB12.out.trans (grown_atW hg13 (Nat.le_of_lt (Nat.lt_of_lt_of_le HW12.out.dk.mlt HW12.out.dk.le))))
  clear hd13 hg13
  go_wp2_with fail
  refine (wopen_any HD13.out (by omega) _ 0 dread_s wfAB (by rw [bytesAB]; omega)).mono ?_
  intro e w14 ho
  unfold OpenAt at ho
  rw [open_ab] at ho
  obtain ⟨xb, tb, rfl, hw14, hg14⟩ := ho
  have HW14 := Lib.hid hw14
  have hs14 := (cell_block (hg14.block g12 HS13.out.1 (fun e => by injection e; omega))).trans HS13.out.2
  have HS14 := Lib.hid (And.intro (Nat.lt_of_lt_of_le HS13.out.1 hg14.size) hs14)
  have HB14 := Lib.hid (HB13.out.trans (grown_atW hg14 (Nat.le_of_lt (Nat.lt_of_lt_of_le HD13.out.mlt HD13.out.le))))
  clear hw14 hg14 hs14
  go_wp2_with fail
  refine (wents_any HW14.out.wal (n := 2) rfl (by omega) s2_ok.small).mono ?_
  rintro e w15 ⟨a15, c15, es15, rfl, ho15, hm15, hb15⟩
  obtain ⟨g15, rfl, hg15a, hg15b, hs15⟩ := own_seq2 (p := cmdP 1) (q := cmdP 2) ho15 hm15
  have HW15 := Lib.hid (HW14.out.below hb15)
  have HS15 := Lib.hid (And.intro (Nat.lt_of_lt_of_le HS14.out.1 hb15.size) ((hb15.cell (p := ⟨g12, 12, none⟩) HS14.out.1).trans HS14.out.2))
  have HT15 := Lib.hid (And.intro hg15b hs15)
  have HB15 := Lib.hid (HB14.out.trans (hb15.mono (Nat.le_of_lt (Nat.lt_of_lt_of_le HW14.out.dk.mlt HW14.out.dk.le))))
  clear ho15 hm15 hb15 hg15a hg15b hs15
  go_wp2_with fail
  refine (wvoted_any HW15.out.wal).mono ?_
  rintro e w16 ⟨rfl, hb16⟩
  have u12 : w16.cell? ⟨g12, 12, none⟩ = some (.int .i64 3) := (hb16.cell (p := ⟨g12, 12, none⟩) HS15.out.1).trans HS15.out.2
  have u15 : w16.cell? ⟨g15, 12, none⟩ = some (.int .i64 2) := (hb16.cell (p := ⟨g15, 12, none⟩) HT15.out.1).trans HT15.out.2
  have HB16 := Lib.hid (HB15.out.trans (hb16.mono (Nat.le_of_lt (Nat.lt_of_lt_of_le HW15.out.dk.mlt HW15.out.dk.le))))
  clear hb16
  unfold s2
  dsimp only
  go_wp2_with fail
  go_ret
  exact ⟨rfl, hmb ▸ HB16.out⟩
end Go.Proofs.YtnhnabcpkaeaaaaGreatDoor
/- Is a wal as the document's? Conditions: they lie so and say the same. -/
namespace Go.Proofs.YtnhnabcpkaeaaaaGreatDoor
open Go.RowKit
set_option maxRecDepth 20000
set_option maxHeartbeats 4000000 in
theorem like18_any {w : World} {B wb sb db B' rb n : Nat} {s : WP} (h : WalIs w B wb sb db s) (hr : RSayIs w B' rb s) (hok : s.Ok n) (hn : n ≤ 1048576) :
    Calls Tryz.prog 12 #[.pointer (some ⟨wb, 0, none⟩), .pointer (some ⟨rb, 0, none⟩)] w fun e w' => e = .returned (.bool true) ∧ Below w.heap.size w w' := by
  have H := Lib.hid h
  have HOK := Lib.hid hok
  obtain ⟨v, es, hs, hm⟩ := hr
  have HS := Lib.hid hs
  have HM := Lib.hid hm
  obtain ⟨term, hterm⟩ : ∃ x, s.term = x := ⟨_, rfl⟩
  obtain ⟨vote, hvote⟩ : ∃ x, s.vote = x := ⟨_, rfl⟩
  obtain ⟨base, hbase⟩ : ∃ x, s.base = x := ⟨_, rfl⟩
  obtain ⟨before, hbefore⟩ : ∃ x, s.before = x := ⟨_, rfl⟩
  obtain ⟨m, hlen⟩ : ∃ m, s.L.length = m := ⟨_, rfl⟩
  have hmn : m ≤ n := by rw [← hlen]; exact hok.len
  have hblk : w.heap[rb]? = some (.cells #[.int .i64 term, .int .i64 vote, .int .i64 base, .int .i64 before, v] 63 (0, 0)) := by rw [← hterm, ← hvote, ← hbase, ← hbefore]; exact hs.blk
  obtain ⟨a, c, hv, hcap, hnil, hin⟩ := hs.ens.lie
  have hel : es.length = m := by rw [← hlen, ← hm, List.length_map]
  rw [hv, hel] at hblk
  have HBLK := Lib.hid hblk
  have HIN := Lib.hid hin
  have HEL := Lib.hid hel
  have hlt := hs.lt
  have hvo : Calls Tryz.prog 14 #[.pointer (some ⟨wb, 0, none⟩)] w fun e w' => e = .returned (.tuple #[.int .i64 term, .int .i64 vote]) ∧ Below w.heap.size w w' := by
    rw [← hterm, ← hvote]; exact wvoted_any h
  have hba : ∀ w', Below w.heap.size w w' → Calls Tryz.prog 15 #[.pointer (some ⟨wb, 0, none⟩)] w' fun e w'' => e = .returned (.tuple #[.int .i64 base, .int .i64 before]) ∧ Below w'.heap.size w' w'' := fun w' hb => by
    rw [← hbase, ← hbefore]
    exact wbased_any ⟨(hb.block wb h.lt).trans h.blk, h.say.below hb (Nat.le_refl _), h.low⟩
  have hen : ∀ w', Below w.heap.size w w' → Calls Tryz.prog 16 #[.pointer (some ⟨wb, 0, none⟩)] w' (EntsAt s.L m w') := fun w' hb =>
    wents_any ⟨(hb.block wb h.lt).trans h.blk, h.say.below hb (Nat.le_refl _), h.low⟩ hlen (by omega) hok.small
  have HVO := Lib.hid hvo
  have HBA := Lib.hid hba
  have HEN := Lib.hid hen
  clear h hok hs hm hterm hvote hbase hbefore hlen hblk hv hcap hnil hin hel hvo hba hen
  go_enter Tryz.func12, Tryz.ntmps12
  go_wp2_with fail
  refine HVO.out.mono ?_
  rintro e w1 ⟨rfl, hb1⟩
  go_wp2_with fail
  refine (HBA.out w1 hb1).mono ?_
  rintro e w2 ⟨rfl, hb2⟩
  have HB2 := Lib.hid (hb1.trans (hb2.mono hb1.size))
  have hk2 := (HB2.out.block rb hlt).trans HBLK.out
  have hrl2 : rb < w2.heap.size := Nat.lt_of_lt_of_le hlt HB2.out.size
  have HC := Lib.hid (fun (wS : World) (hb : Below w2.heap.size w2 wS) => (show wS.cell? ⟨rb, 0, none⟩ = some (.int .i64 term) ∧ wS.cell? ⟨rb, 1, none⟩ = some (.int .i64 vote) ∧ wS.cell? ⟨rb, 2, none⟩ = some (.int .i64 base) ∧ wS.cell? ⟨rb, 3, none⟩ = some (.int .i64 before) ∧ wS.cell? ⟨rb, 4, none⟩ = some (.slice a m c) from
    have hk := (hb.block rb hrl2).trans hk2
    ⟨Go.Joins.cell_of_block hk 0, Go.Joins.cell_of_block hk 1, Go.Joins.cell_of_block hk 2, Go.Joins.cell_of_block hk 3, Go.Joins.cell_of_block hk 4⟩))
  clear hb1 hb2 hk2
  go_upto_region 3 with fail
  refine heldS_begin (fun w' => Below w2.heap.size w2 w') (by kernel_rfl) ((Below.refl _ _).drew) ?_
  intro hS0
  (first | (refine takeS_no 0 rfl (by kernel_rfl) (by kernel_rfl) (by kernel_rfl) (fun _ _ _ h => h) (by rfl) (by assumption) ?_) | (refine takeS_yes (v := ?_) 0 rfl (by kernel_rfl) (by kernel_rfl) (by kernel_rfl) (fun _ _ _ h => h) (by rfl) (by assumption) ?_ ?_; rotate_left; focus (intro wS hSw; obtain ⟨q0, q1, q2, q3, q4⟩ := HC.out wS hSw; go_simp; first | done | with_reducible rfl)))
  (try simp only [Act.put, List.setIfInBounds_toArray, List.set_cons_zero, List.set_cons_succ])
  (first | (refine takeS_no 1 rfl (by kernel_rfl) (by kernel_rfl) (by kernel_rfl) (fun _ _ _ h => h) (by rfl) (by assumption) ?_) | (refine takeS_yes (v := ?_) 1 rfl (by kernel_rfl) (by kernel_rfl) (by kernel_rfl) (fun _ _ _ h => h) (by rfl) (by assumption) ?_ ?_; rotate_left; focus (intro wS hSw; obtain ⟨q0, q1, q2, q3, q4⟩ := HC.out wS hSw; go_simp; first | done | with_reducible rfl)))
  (try simp only [Act.put, List.setIfInBounds_toArray, List.set_cons_zero, List.set_cons_succ])
  (first | (refine takeS_no 2 rfl (by kernel_rfl) (by kernel_rfl) (by kernel_rfl) (fun _ _ _ h => h) (by rfl) (by assumption) ?_) | (refine takeS_yes (v := ?_) 2 rfl (by kernel_rfl) (by kernel_rfl) (by kernel_rfl) (fun _ _ _ h => h) (by rfl) (by assumption) ?_ ?_; rotate_left; focus (intro wS hSw; obtain ⟨q0, q1, q2, q3, q4⟩ := HC.out wS hSw; go_simp; first | done | with_reducible rfl)))
  (try simp only [Act.put, List.setIfInBounds_toArray, List.set_cons_zero, List.set_cons_succ])
  (first | (refine takeS_no 3 rfl (by kernel_rfl) (by kernel_rfl) (by kernel_rfl) (fun _ _ _ h => h) (by rfl) (by assumption) ?_) | (refine takeS_yes (v := ?_) 3 rfl (by kernel_rfl) (by kernel_rfl) (by kernel_rfl) (fun _ _ _ h => h) (by rfl) (by assumption) ?_ ?_; rotate_left; focus (intro wS hSw; obtain ⟨q0, q1, q2, q3, q4⟩ := HC.out wS hSw; go_simp; first | done | with_reducible rfl)))
  (try simp only [Act.put, List.setIfInBounds_toArray, List.set_cons_zero, List.set_cons_succ])
  (first | (refine takeS_no 4 rfl (by kernel_rfl) (by kernel_rfl) (by kernel_rfl) (fun _ _ _ h => h) (by rfl) (by assumption) ?_) | (refine takeS_yes (v := ?_) 4 rfl (by kernel_rfl) (by kernel_rfl) (by kernel_rfl) (fun _ _ _ h => h) (by rfl) (by assumption) ?_ ?_; rotate_left; focus (intro wS hSw; obtain ⟨q0, q1, q2, q3, q4⟩ := HC.out wS hSw; go_simp; first | done | with_reducible rfl)))
  (try simp only [Act.put, List.setIfInBounds_toArray, List.set_cons_zero, List.set_cons_succ])
  (first | (refine takeS_no 5 rfl (by kernel_rfl) (by kernel_rfl) (by kernel_rfl) (fun _ _ _ h => h) (by rfl) (by assumption) ?_) | (refine takeS_yes (v := ?_) 5 rfl (by kernel_rfl) (by kernel_rfl) (by kernel_rfl) (fun _ _ _ h => h) (by rfl) (by assumption) ?_ ?_; rotate_left; focus (intro wS hSw; obtain ⟨q0, q1, q2, q3, q4⟩ := HC.out wS hSw; go_simp; first | done | with_reducible rfl)))
  (try simp only [Act.put, List.setIfInBounds_toArray, List.set_cons_zero, List.set_cons_succ])
  (first | (refine takeS_no 6 rfl (by kernel_rfl) (by kernel_rfl) (by kernel_rfl) (fun _ _ _ h => h) (by rfl) (by assumption) ?_) | (refine takeS_yes (v := ?_) 6 rfl (by kernel_rfl) (by kernel_rfl) (by kernel_rfl) (fun _ _ _ h => h) (by rfl) (by assumption) ?_ ?_; rotate_left; focus (intro wS hSw; obtain ⟨q0, q1, q2, q3, q4⟩ := HC.out wS hSw; go_simp; first | done | with_reducible rfl)))
  (try simp only [Act.put, List.setIfInBounds_toArray, List.set_cons_zero, List.set_cons_succ])
  (first | (refine takeS_no 7 rfl (by kernel_rfl) (by kernel_rfl) (by kernel_rfl) (fun _ _ _ h => h) (by rfl) (by assumption) ?_) | (refine takeS_yes (v := ?_) 7 rfl (by kernel_rfl) (by kernel_rfl) (by kernel_rfl) (fun _ _ _ h => h) (by rfl) (by assumption) ?_ ?_; rotate_left; focus (intro wS hSw; obtain ⟨q0, q1, q2, q3, q4⟩ := HC.out wS hSw; go_simp; first | done | with_reducible rfl)))
  (try simp only [Act.put, List.setIfInBounds_toArray, List.set_cons_zero, List.set_cons_succ])
  (first | (refine takeS_no 8 rfl (by kernel_rfl) (by kernel_rfl) (by kernel_rfl) (fun _ _ _ h => h) (by rfl) (by assumption) ?_) | (refine takeS_yes (v := ?_) 8 rfl (by kernel_rfl) (by kernel_rfl) (by kernel_rfl) (fun _ _ _ h => h) (by rfl) (by assumption) ?_ ?_; rotate_left; focus (intro wS hSw; obtain ⟨q0, q1, q2, q3, q4⟩ := HC.out wS hSw; go_simp; first | done | with_reducible rfl)))
  (try simp only [Act.put, List.setIfInBounds_toArray, List.set_cons_zero, List.set_cons_succ])
  (first | (refine takeS_no 9 rfl (by kernel_rfl) (by kernel_rfl) (by kernel_rfl) (fun _ _ _ h => h) (by rfl) (by assumption) ?_) | (refine takeS_yes (v := ?_) 9 rfl (by kernel_rfl) (by kernel_rfl) (by kernel_rfl) (fun _ _ _ h => h) (by rfl) (by assumption) ?_ ?_; rotate_left; focus (intro wS hSw; obtain ⟨q0, q1, q2, q3, q4⟩ := HC.out wS hSw; go_simp; first | done | with_reducible rfl)))
  (try simp only [Act.put, List.setIfInBounds_toArray, List.set_cons_zero, List.set_cons_succ])
  (first | (refine takeS_no 10 rfl (by kernel_rfl) (by kernel_rfl) (by kernel_rfl) (fun _ _ _ h => h) (by rfl) (by assumption) ?_) | (refine takeS_yes (v := ?_) 10 rfl (by kernel_rfl) (by kernel_rfl) (by kernel_rfl) (fun _ _ _ h => h) (by rfl) (by assumption) ?_ ?_; rotate_left; focus (intro wS hSw; obtain ⟨q0, q1, q2, q3, q4⟩ := HC.out wS hSw; go_simp; first | done | with_reducible rfl)))
  (try simp only [Act.put, List.setIfInBounds_toArray, List.set_cons_zero, List.set_cons_succ])
  (first | (refine takeS_no 11 rfl (by kernel_rfl) (by kernel_rfl) (by kernel_rfl) (fun _ _ _ h => h) (by rfl) (by assumption) ?_) | (refine takeS_yes (v := ?_) 11 rfl (by kernel_rfl) (by kernel_rfl) (by kernel_rfl) (fun _ _ _ h => h) (by rfl) (by assumption) ?_ ?_; rotate_left; focus (intro wS hSw; obtain ⟨q0, q1, q2, q3, q4⟩ := HC.out wS hSw; go_simp; first | done | with_reducible rfl)))
  (try simp only [Act.put, List.setIfInBounds_toArray, List.set_cons_zero, List.set_cons_succ])
  (first | (refine takeS_no 12 rfl (by kernel_rfl) (by kernel_rfl) (by kernel_rfl) (fun _ _ _ h => h) (by rfl) (by assumption) ?_) | (refine takeS_yes (v := ?_) 12 rfl (by kernel_rfl) (by kernel_rfl) (by kernel_rfl) (fun _ _ _ h => h) (by rfl) (by assumption) ?_ ?_; rotate_left; focus (intro wS hSw; obtain ⟨q0, q1, q2, q3, q4⟩ := HC.out wS hSw; go_simp; first | done | with_reducible rfl)))
  (try simp only [Act.put, List.setIfInBounds_toArray, List.set_cons_zero, List.set_cons_succ])
  (first | (refine takeS_no 13 rfl (by kernel_rfl) (by kernel_rfl) (by kernel_rfl) (fun _ _ _ h => h) (by rfl) (by assumption) ?_) | (refine takeS_yes (v := ?_) 13 rfl (by kernel_rfl) (by kernel_rfl) (by kernel_rfl) (fun _ _ _ h => h) (by rfl) (by assumption) ?_ ?_; rotate_left; focus (intro wS hSw; obtain ⟨q0, q1, q2, q3, q4⟩ := HC.out wS hSw; go_simp; first | done | with_reducible rfl)))
  (try simp only [Act.put, List.setIfInBounds_toArray, List.set_cons_zero, List.set_cons_succ])
  (first | (refine takeS_no 14 rfl (by kernel_rfl) (by kernel_rfl) (by kernel_rfl) (fun _ _ _ h => h) (by rfl) (by assumption) ?_) | (refine takeS_yes (v := ?_) 14 rfl (by kernel_rfl) (by kernel_rfl) (by kernel_rfl) (fun _ _ _ h => h) (by rfl) (by assumption) ?_ ?_; rotate_left; focus (intro wS hSw; obtain ⟨q0, q1, q2, q3, q4⟩ := HC.out wS hSw; go_simp; first | done | with_reducible rfl)))
  (try simp only [Act.put, List.setIfInBounds_toArray, List.set_cons_zero, List.set_cons_succ])
  (first | (refine takeS_no 15 rfl (by kernel_rfl) (by kernel_rfl) (by kernel_rfl) (fun _ _ _ h => h) (by rfl) (by assumption) ?_) | (refine takeS_yes (v := ?_) 15 rfl (by kernel_rfl) (by kernel_rfl) (by kernel_rfl) (fun _ _ _ h => h) (by rfl) (by assumption) ?_ ?_; rotate_left; focus (intro wS hSw; obtain ⟨q0, q1, q2, q3, q4⟩ := HC.out wS hSw; go_simp; first | done | with_reducible rfl)))
  (try simp only [Act.put, List.setIfInBounds_toArray, List.set_cons_zero, List.set_cons_succ])
  (first | (refine takeS_no 16 rfl (by kernel_rfl) (by kernel_rfl) (by kernel_rfl) (fun _ _ _ h => h) (by rfl) (by assumption) ?_) | (refine takeS_yes (v := ?_) 16 rfl (by kernel_rfl) (by kernel_rfl) (by kernel_rfl) (fun _ _ _ h => h) (by rfl) (by assumption) ?_ ?_; rotate_left; focus (intro wS hSw; obtain ⟨q0, q1, q2, q3, q4⟩ := HC.out wS hSw; go_simp; first | done | with_reducible rfl)))
  (try simp only [Act.put, List.setIfInBounds_toArray, List.set_cons_zero, List.set_cons_succ])
  (first | (refine takeS_no 17 rfl (by kernel_rfl) (by kernel_rfl) (by kernel_rfl) (fun _ _ _ h => h) (by rfl) (by assumption) ?_) | (refine takeS_yes (v := ?_) 17 rfl (by kernel_rfl) (by kernel_rfl) (by kernel_rfl) (fun _ _ _ h => h) (by rfl) (by assumption) ?_ ?_; rotate_left; focus (intro wS hSw; obtain ⟨q0, q1, q2, q3, q4⟩ := HC.out wS hSw; go_simp; first | done | with_reducible rfl)))
  (try simp only [Act.put, List.setIfInBounds_toArray, List.set_cons_zero, List.set_cons_succ])
  (first | (refine takeS_no 18 rfl (by kernel_rfl) (by kernel_rfl) (by kernel_rfl) (fun _ _ _ h => h) (by rfl) (by assumption) ?_) | (refine takeS_yes (v := ?_) 18 rfl (by kernel_rfl) (by kernel_rfl) (by kernel_rfl) (fun _ _ _ h => h) (by rfl) (by assumption) ?_ ?_; rotate_left; focus (intro wS hSw; obtain ⟨q0, q1, q2, q3, q4⟩ := HC.out wS hSw; go_simp; first | done | with_reducible rfl)))
  (try simp only [Act.put, List.setIfInBounds_toArray, List.set_cons_zero, List.set_cons_succ])
  (first | (refine takeS_no 19 rfl (by kernel_rfl) (by kernel_rfl) (by kernel_rfl) (fun _ _ _ h => h) (by rfl) (by assumption) ?_) | (refine takeS_yes (v := ?_) 19 rfl (by kernel_rfl) (by kernel_rfl) (by kernel_rfl) (fun _ _ _ h => h) (by rfl) (by assumption) ?_ ?_; rotate_left; focus (intro wS hSw; obtain ⟨q0, q1, q2, q3, q4⟩ := HC.out wS hSw; go_simp; first | done | with_reducible rfl)))
  (try simp only [Act.put, List.setIfInBounds_toArray, List.set_cons_zero, List.set_cons_succ])
  (first | (refine takeS_no 20 rfl (by kernel_rfl) (by kernel_rfl) (by kernel_rfl) (fun _ _ _ h => h) (by rfl) (by assumption) ?_) | (refine takeS_yes (v := ?_) 20 rfl (by kernel_rfl) (by kernel_rfl) (by kernel_rfl) (fun _ _ _ h => h) (by rfl) (by assumption) ?_ ?_; rotate_left; focus (intro wS hSw; obtain ⟨q0, q1, q2, q3, q4⟩ := HC.out wS hSw; go_simp; first | done | with_reducible rfl)))
  (try simp only [Act.put, List.setIfInBounds_toArray, List.set_cons_zero, List.set_cons_succ])
  (first | (refine takeS_no 21 rfl (by kernel_rfl) (by kernel_rfl) (by kernel_rfl) (fun _ _ _ h => h) (by rfl) (by assumption) ?_) | (refine takeS_yes (v := ?_) 21 rfl (by kernel_rfl) (by kernel_rfl) (by kernel_rfl) (fun _ _ _ h => h) (by rfl) (by assumption) ?_ ?_; rotate_left; focus (intro wS hSw; obtain ⟨q0, q1, q2, q3, q4⟩ := HC.out wS hSw; go_simp; first | done | with_reducible rfl)))
  (try simp only [Act.put, List.setIfInBounds_toArray, List.set_cons_zero, List.set_cons_succ])
  (first | (refine takeS_no 22 rfl (by kernel_rfl) (by kernel_rfl) (by kernel_rfl) (fun _ _ _ h => h) (by rfl) (by assumption) ?_) | (refine takeS_yes (v := ?_) 22 rfl (by kernel_rfl) (by kernel_rfl) (by kernel_rfl) (fun _ _ _ h => h) (by rfl) (by assumption) ?_ ?_; rotate_left; focus (intro wS hSw; obtain ⟨q0, q1, q2, q3, q4⟩ := HC.out wS hSw; go_simp; first | done | with_reducible rfl)))
  (try simp only [Act.put, List.setIfInBounds_toArray, List.set_cons_zero, List.set_cons_succ])
  (first | (refine takeS_no 23 rfl (by kernel_rfl) (by kernel_rfl) (by kernel_rfl) (fun _ _ _ h => h) (by rfl) (by assumption) ?_) | (refine takeS_yes (v := ?_) 23 rfl (by kernel_rfl) (by kernel_rfl) (by kernel_rfl) (fun _ _ _ h => h) (by rfl) (by assumption) ?_ ?_; rotate_left; focus (intro wS hSw; obtain ⟨q0, q1, q2, q3, q4⟩ := HC.out wS hSw; go_simp; first | done | with_reducible rfl)))
  (try simp only [Act.put, List.setIfInBounds_toArray, List.set_cons_zero, List.set_cons_succ])
  (first | (refine takeS_no 24 rfl (by kernel_rfl) (by kernel_rfl) (by kernel_rfl) (fun _ _ _ h => h) (by rfl) (by assumption) ?_) | (refine takeS_yes (v := ?_) 24 rfl (by kernel_rfl) (by kernel_rfl) (by kernel_rfl) (fun _ _ _ h => h) (by rfl) (by assumption) ?_ ?_; rotate_left; focus (intro wS hSw; obtain ⟨q0, q1, q2, q3, q4⟩ := HC.out wS hSw; go_simp; first | done | with_reducible rfl)))
  (try simp only [Act.put, List.setIfInBounds_toArray, List.set_cons_zero, List.set_cons_succ])
  (first | (refine takeS_no 25 rfl (by kernel_rfl) (by kernel_rfl) (by kernel_rfl) (fun _ _ _ h => h) (by rfl) (by assumption) ?_) | (refine takeS_yes (v := ?_) 25 rfl (by kernel_rfl) (by kernel_rfl) (by kernel_rfl) (fun _ _ _ h => h) (by rfl) (by assumption) ?_ ?_; rotate_left; focus (intro wS hSw; obtain ⟨q0, q1, q2, q3, q4⟩ := HC.out wS hSw; go_simp; first | done | with_reducible rfl)))
  (try simp only [Act.put, List.setIfInBounds_toArray, List.set_cons_zero, List.set_cons_succ])
  (first | (refine takeS_no 26 rfl (by kernel_rfl) (by kernel_rfl) (by kernel_rfl) (fun _ _ _ h => h) (by rfl) (by assumption) ?_) | (refine takeS_yes (v := ?_) 26 rfl (by kernel_rfl) (by kernel_rfl) (by kernel_rfl) (fun _ _ _ h => h) (by rfl) (by assumption) ?_ ?_; rotate_left; focus (intro wS hSw; obtain ⟨q0, q1, q2, q3, q4⟩ := HC.out wS hSw; go_simp; first | done | with_reducible rfl)))
  (try simp only [Act.put, List.setIfInBounds_toArray, List.set_cons_zero, List.set_cons_succ])
  (first | (refine takeS_no 27 rfl (by kernel_rfl) (by kernel_rfl) (by kernel_rfl) (fun _ _ _ h => h) (by rfl) (by assumption) ?_) | (refine takeS_yes (v := ?_) 27 rfl (by kernel_rfl) (by kernel_rfl) (by kernel_rfl) (fun _ _ _ h => h) (by rfl) (by assumption) ?_ ?_; rotate_left; focus (intro wS hSw; obtain ⟨q0, q1, q2, q3, q4⟩ := HC.out wS hSw; go_simp; first | done | with_reducible rfl)))
  (try simp only [Act.put, List.setIfInBounds_toArray, List.set_cons_zero, List.set_cons_succ])
  (first | (refine takeS_no 28 rfl (by kernel_rfl) (by kernel_rfl) (by kernel_rfl) (fun _ _ _ h => h) (by rfl) (by assumption) ?_) | (refine takeS_yes (v := ?_) 28 rfl (by kernel_rfl) (by kernel_rfl) (by kernel_rfl) (fun _ _ _ h => h) (by rfl) (by assumption) ?_ ?_; rotate_left; focus (intro wS hSw; obtain ⟨q0, q1, q2, q3, q4⟩ := HC.out wS hSw; go_simp; first | done | with_reducible rfl)))
  (try simp only [Act.put, List.setIfInBounds_toArray, List.set_cons_zero, List.set_cons_succ])
  (first | (refine takeS_no 29 rfl (by kernel_rfl) (by kernel_rfl) (by kernel_rfl) (fun _ _ _ h => h) (by rfl) (by assumption) ?_) | (refine takeS_yes (v := ?_) 29 rfl (by kernel_rfl) (by kernel_rfl) (by kernel_rfl) (fun _ _ _ h => h) (by rfl) (by assumption) ?_ ?_; rotate_left; focus (intro wS hSw; obtain ⟨q0, q1, q2, q3, q4⟩ := HC.out wS hSw; go_simp; first | done | with_reducible rfl)))
  (try simp only [Act.put, List.setIfInBounds_toArray, List.set_cons_zero, List.set_cons_succ])
  (first | (refine takeS_no 30 rfl (by kernel_rfl) (by kernel_rfl) (by kernel_rfl) (fun _ _ _ h => h) (by rfl) (by assumption) ?_) | (refine takeS_yes (v := ?_) 30 rfl (by kernel_rfl) (by kernel_rfl) (by kernel_rfl) (fun _ _ _ h => h) (by rfl) (by assumption) ?_ ?_; rotate_left; focus (intro wS hSw; obtain ⟨q0, q1, q2, q3, q4⟩ := HC.out wS hSw; go_simp; first | done | with_reducible rfl)))
  (try simp only [Act.put, List.setIfInBounds_toArray, List.set_cons_zero, List.set_cons_succ])
  (first | (refine takeS_no 31 rfl (by kernel_rfl) (by kernel_rfl) (by kernel_rfl) (fun _ _ _ h => h) (by rfl) (by assumption) ?_) | (refine takeS_yes (v := ?_) 31 rfl (by kernel_rfl) (by kernel_rfl) (by kernel_rfl) (fun _ _ _ h => h) (by rfl) (by assumption) ?_ ?_; rotate_left; focus (intro wS hSw; obtain ⟨q0, q1, q2, q3, q4⟩ := HC.out wS hSw; go_simp; first | done | with_reducible rfl)))
  (try simp only [Act.put, List.setIfInBounds_toArray, List.set_cons_zero, List.set_cons_succ])
  (first | (refine takeS_no 33 rfl (by kernel_rfl) (by kernel_rfl) (by kernel_rfl) (fun _ _ _ h => h) (by rfl) (by assumption) ?_) | (refine takeS_yes (v := ?_) 33 rfl (by kernel_rfl) (by kernel_rfl) (by kernel_rfl) (fun _ _ _ h => h) (by rfl) (by assumption) ?_ ?_; rotate_left; focus (intro wS hSw; obtain ⟨q0, q1, q2, q3, q4⟩ := HC.out wS hSw; go_simp; first | done | with_reducible rfl)))
  (try simp only [Act.put, List.setIfInBounds_toArray, List.set_cons_zero, List.set_cons_succ])
  (first | (refine takeS_no 34 rfl (by kernel_rfl) (by kernel_rfl) (by kernel_rfl) (fun _ _ _ h => h) (by rfl) (by assumption) ?_) | (refine takeS_yes (v := ?_) 34 rfl (by kernel_rfl) (by kernel_rfl) (by kernel_rfl) (fun _ _ _ h => h) (by rfl) (by assumption) ?_ ?_; rotate_left; focus (intro wS hSw; obtain ⟨q0, q1, q2, q3, q4⟩ := HC.out wS hSw; go_simp; first | done | with_reducible rfl)))
  (try simp only [Act.put, List.setIfInBounds_toArray, List.set_cons_zero, List.set_cons_succ])
  (first | (refine takeS_no 35 rfl (by kernel_rfl) (by kernel_rfl) (by kernel_rfl) (fun _ _ _ h => h) (by rfl) (by assumption) ?_) | (refine takeS_yes (v := ?_) 35 rfl (by kernel_rfl) (by kernel_rfl) (by kernel_rfl) (fun _ _ _ h => h) (by rfl) (by assumption) ?_ ?_; rotate_left; focus (intro wS hSw; obtain ⟨q0, q1, q2, q3, q4⟩ := HC.out wS hSw; go_simp; first | done | with_reducible rfl)))
  (try simp only [Act.put, List.setIfInBounds_toArray, List.set_cons_zero, List.set_cons_succ])
  (first | (refine takeS_no 36 rfl (by kernel_rfl) (by kernel_rfl) (by kernel_rfl) (fun _ _ _ h => h) (by rfl) (by assumption) ?_) | (refine takeS_yes (v := ?_) 36 rfl (by kernel_rfl) (by kernel_rfl) (by kernel_rfl) (fun _ _ _ h => h) (by rfl) (by assumption) ?_ ?_; rotate_left; focus (intro wS hSw; obtain ⟨q0, q1, q2, q3, q4⟩ := HC.out wS hSw; go_simp; first | done | with_reducible rfl)))
  (try simp only [Act.put, List.setIfInBounds_toArray, List.set_cons_zero, List.set_cons_succ])
  refine takeS_alone 32 rfl (by kernel_rfl) (by rfl) (fun K hK => ?_)
  go_simp
  (refine (HEN.out w2.drew (HB2.out.drew)).mono ?_; rintro e w4 ⟨a4, c4, es4, rfl, ho4, hm4, hb4⟩; have hS4 : Below w2.heap.size w2 w4 := (Below.refl _ _).drew.trans hb4; have HO4 := Lib.hid (And.intro ho4 (And.intro hm4 hb4)); clear ho4 hm4 hb4)
  refine hK.out _ _ (by assumption) ?_
  clear hK K
  (try simp only [Act.put, List.setIfInBounds_toArray, List.set_cons_zero, List.set_cons_succ])
  refine takeS_alone 37 rfl (by kernel_rfl) (by rfl) (fun K hK => ?_)
  go_simp
  (obtain ⟨a5, c5, hv5, hcap5, hnil5, hin5⟩ := HO4.out.1.lie; have hl4 : es4.length = m := by { have h1 := congrArg List.length HO4.out.2.1; rw [List.length_map, ← HM.out, List.length_map, HEL.out] at h1; exact h1 }; injection hv5 with hv5 hv6 hv7; subst hv5; refine (sameEs_any a4 m c4 a m c es4 es w4 w4.heap.size hl4 HEL.out (HO4.out.2.1.trans HM.out.symm) hin5 ((HIN.out.below enSub_kept (HB2.out.trans (hS4.mono HB2.out.size)) (Nat.le_refl _)).mono enSub_rising (Nat.le_trans HB2.out.size hS4.size)) (Nat.le_refl _) (by omega) (fun x hx => by { have h1 : x.plain ∈ s.L := (by { rw [← HO4.out.2.1]; exact List.mem_map.2 ⟨x, hx, rfl⟩ }); exact HOK.out.small _ h1 })).mono ?_; rintro e w5 ⟨rfl, hb5⟩; have hS5 : Below w2.heap.size w2 w5 := hS4.trans (hb5.mono hS4.size); clear hb5 hin5 hv6 hv7 hl4 hcap5 hnil5)
  refine hK.out _ _ (by assumption) ?_
  clear hK K
  (try simp only [Act.put, List.setIfInBounds_toArray, List.set_cons_zero, List.set_cons_succ])
  (first | (refine takeS_no 38 rfl (by kernel_rfl) (by kernel_rfl) (by kernel_rfl) (fun _ _ _ h => h) (by rfl) (by assumption) ?_) | (refine takeS_yes (v := ?_) 38 rfl (by kernel_rfl) (by kernel_rfl) (by kernel_rfl) (fun _ _ _ h => h) (by rfl) (by assumption) ?_ ?_; rotate_left; focus (intro wS hSw; obtain ⟨q0, q1, q2, q3, q4⟩ := HC.out wS hSw; go_simp; first | done | with_reducible rfl)))
  (try simp only [Act.put, List.setIfInBounds_toArray, List.set_cons_zero, List.set_cons_succ])
  (first | (refine takeS_no 39 rfl (by kernel_rfl) (by kernel_rfl) (by kernel_rfl) (fun _ _ _ h => h) (by rfl) (by assumption) ?_) | (refine takeS_yes (v := ?_) 39 rfl (by kernel_rfl) (by kernel_rfl) (by kernel_rfl) (fun _ _ _ h => h) (by rfl) (by assumption) ?_ ?_; rotate_left; focus (intro wS hSw; obtain ⟨q0, q1, q2, q3, q4⟩ := HC.out wS hSw; go_simp; first | done | with_reducible rfl)))
  (try simp only [Act.put, List.setIfInBounds_toArray, List.set_cons_zero, List.set_cons_succ])
  refine wpAnyH_done (by kernel_rfl) ?_ _
  (try simp only [Exit.then])
  (try (rename (∀ (_ : Act) (_ : World), _ → _) => hK0; refine hK0 _ _ ?_; clear hK0))
  have HS5 := Lib.hid hS5
  clear hS5 hS4 hS0
  go_wp2_with fail
  go_ret
  exact ⟨rfl, HB2.out.trans (HS5.out.mono HB2.out.size)⟩
end Go.Proofs.YtnhnabcpkaeaaaaGreatDoor
