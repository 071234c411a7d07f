/- Rows of facts that the reader of wire reads. Conditions: the reader is one that was made. -/
import Derived.Test.YtnfldkebjeigiaaDoorRdFact
namespace Go.Proofs.YtnfldkebjeigiaaDoor
open Go.RowKit
set_option maxRecDepth 20000

theorem sureRF_rd (M rb : Nat) (bad : Bool) (left : List Int) (a : Option Addr) (n c : Nat) (w : World) (h : Rdr w M rb bad left) :
    Calls Tryd.prog 69 #[.pointer (some ⟨rb, 0, none⟩), .slice a n c] w fun e w' => e = .returned (if bad = true then .slice none 0 0 else .slice a n c) ∧ w = w' := by
  obtain ⟨_, _, _, d1, _, _⟩ := h.cells
  clear h
  cases bad with
  | true =>
    go_enter Tryd.func69, Tryd.ntmps69
    go_wp2_with fail
    go_ret
    exact ⟨rfl, rfl⟩
  | false =>
    go_enter Tryd.func69, Tryd.ntmps69
    go_wp2_with fail
    go_ret
    exact ⟨rfl, rfl⟩
/-- What a row of facts that is read is. -/
def GotF (M rb : Nat) (r : List FaP × Bool × List Int) (w : World) (e : Ending) (w' : World) : Prop :=
  ∃ a n c y, y.map Fa.plain = r.1 ∧ e = .returned (.slice a n c) ∧ FasOwn w' w.heap.size a n c y ∧ Rdr w' M rb r.2.1 r.2.2 ∧ Only rb w w'
theorem sepF_old {w : World} {b1 b2 : Nat} {f g : Fa} (h1 : faOwn w b1 f) (hlt : ∀ k, (Value.slice f.ao f.args.length f.cap).ownBlock = some k → k < b2) (h2 : ∀ k, (Value.slice g.ao g.args.length g.cap).ownBlock = some k → b2 ≤ k) : sepF f g := by
  unfold sepF
  cases hf : (Value.slice f.ao f.args.length f.cap).ownBlock with
  | none => exact Or.inl rfl
  | some k =>
    right
    intro e
    have := hlt k hf
    have := h2 k e.symm
    omega
theorem infoFa : (Tryd.prog.info? 27).map (fun i => (i.zero, i.size, i.bytes)) = some (some (.agg #[.int .i64 0, .int .i64 0, .slice none 0 0]), 3, 40) := by kernel_rfl
set_option maxHeartbeats 4000000 in
theorem rowF_rd (M rb : Nat) (bad : Bool) (left : List Int) (w : World) (h : Rdr w M rb bad left) (hw : BytesWf left) (hl : left.length ≤ 140737488351232) :
    Calls Tryd.prog 55 #[.pointer (some ⟨rb, 0, none⟩), .func (.func 24) #[.pointer (some ⟨rb, 0, none⟩)] #[]] w (GotF M rb (rowsS factS bad left) w) := by
  have hM : M ≤ w.heap.size := by obtain ⟨a, c, h⟩ := h; exact h.le
  have hrb := h.lt
  have hcw := countS_wf (bad := bad) hw
  have HC := Lib.hid (count_rd M rb bad left w h hw hl)
  unfold rowsS
  dsimp only
  obtain ⟨⟨n0, b0, l0⟩, hc⟩ : ∃ r, countS bad left = r := ⟨_, rfl⟩
  rw [hc] at HC hcw ⊢
  dsimp only at HC hcw ⊢
  obtain ⟨N, rfl⟩ : ∃ N : Nat, n0 = N := ⟨n0.toNat, by omega⟩
  have hN : N ≤ 65536 := by omega
  rw [Int.toNat_natCast]
  obtain ⟨⟨tot, b9, l9⟩, hr⟩ : ∃ r, rowS factS N b0 l0 = r := ⟨_, rfl⟩
  rw [hr]
  have HRW := Lib.hid hr
  have HCW := Lib.hid hcw
  have hll0 : l0.length ≤ 140737488351232 := by have := hcw.2.2.2; omega
  clear h hc hr hcw
  obtain ⟨R, hQ⟩ : ∃ R, ((if b9 = true then [] else tot, b9, l9) : List FaP × Bool × List Int) = R := ⟨_, rfl⟩
  rw [hQ]
  have HQP := Lib.hid hQ
  clear hQ
  go_enter Tryd.func55, Tryd.ntmps55
  go_wp2_with fail
  refine HC.out.mono ?_
  rintro e w0 ⟨rfl, hr0, ho0⟩
  have R0 := Lib.hid hr0
  have O0 := Lib.hid ho0
  clear hr0 ho0 HC
  go_wp2_with fail
  go_loopw [5, 6] (fun v i wr => ∃ (m : Nat) (acc : List Fa) (b : Bool) (l : List Int), i = .int .i64 m ∧ (acc.map Fa.plain ++ (rowS factS m b l).1, (rowS factS m b l).2) = (tot, b9, l9) ∧ acc.length + m ≤ 65536 ∧ wr.ownsRow w.heap.size 27 3 v acc.length (acc.flatMap faCells) ∧ (∀ f ∈ acc, faOwn wr w.heap.size f) ∧ acc.Pairwise sepF ∧ Rdr wr M rb b l ∧ Only rb w wr ∧ BytesWf l ∧ l.length ≤ 140737488351232) (fun _ i _ => (intOf i).toNat)
  case atStart => exact ⟨N, [], b0, l0, rfl, by rw [HRW.out]; rfl, by simpa using hN, World.ownsRow_nil _ _ _ _, (by intro f hf; cases hf), List.Pairwise.nil, R0.out, O0.out, HCW.out.2.2.1, hll0⟩
  case round =>
    clear R0 O0 HCW HRW
    obtain ⟨m, acc, b, l, rfl, heq, hlen, hown, hfo, hsep, hR, hO, hwf, hll⟩ := hrel
    have HFO := Lib.hid hfo
    have HSEP := Lib.hid hsep
    have HE := Lib.hid heq
    have HOW := Lib.hid hown
    have HR := Lib.hid hR
    have HO := Lib.hid hO
    have HWF := Lib.hid hwf
    obtain ⟨_, _, _, d1, _, _⟩ := hR.cells
    clear heq hown hfo hsep hR hO hwf
    by_cases hend : b = true ∨ m = 0
    · obtain ⟨a, c, hv⟩ := row_slice HOW.out
      subst hv
      have hfin : acc.map Fa.plain = tot ∧ b = b9 ∧ l = l9 := by
        have h1 := HE.out
        rcases hend with h0 | h0
        · subst h0
          rw [rowS_bad] at h1
          simpa using h1
        · subst h0
          simpa [rowS] using h1
      obtain ⟨rfl, rfl, rfl⟩ := hfin
      obtain ⟨q, hq⟩ : ∃ q, acc.length = q := ⟨_, rfl⟩
      rw [hq] at hlen HOW ⊢
      have HQ := Lib.hid hq
      have hend2 : b = true ∨ (b = false ∧ m = 0) := by
        cases b with
        | true => exact Or.inl rfl
        | false => exact Or.inr ⟨rfl, hend.resolve_left (by simp)⟩
      clear hend hq HE
      rcases hend2 with rfl | ⟨rfl, rfl⟩
      · by_cases hm0 : m = 0
        · subst hm0
          go_wp2_with fail
          refine (sureRF_rd M rb true l a q c wr HR.out).mono ?_
          rintro e w' ⟨he, rfl⟩
          rw [if_pos rfl] at he
          subst he
          go_wp2_with fail
          go_ret
          rw [← HQP.out]
          exact ⟨none, 0, 0, [], rfl, rfl, FasOwn.nil _ _, HR.out, HO.out⟩
        · obtain ⟨m2, rfl⟩ : ∃ m2, m = m2 + 1 := ⟨m - 1, by omega⟩
          have j1 : (0 : Int) < (m2 : Int) + 1 := by omega
          clear hm0
          go_wp2_with fail
          refine (sureRF_rd M rb true l a q c wr HR.out).mono ?_
          rintro e w' ⟨he, rfl⟩
          rw [if_pos rfl] at he
          subst he
          go_wp2_with fail
          go_ret
          rw [← HQP.out]
          exact ⟨none, 0, 0, [], rfl, rfl, FasOwn.nil _ _, HR.out, HO.out⟩
      · go_wp2_with fail
        refine (sureRF_rd M rb false l a q c wr HR.out).mono ?_
        rintro e w' ⟨he, rfl⟩
        rw [if_neg (by simp)] at he
        subst he
        go_wp2_with fail
        go_ret
        rw [← HQP.out]
        exact ⟨a, q, c, acc, rfl, rfl, ⟨HQ.out, HOW.out, HFO.out, HSEP.out⟩, HR.out, HO.out⟩
    · obtain ⟨rfl, m', rfl⟩ : b = false ∧ ∃ m', m = m' + 1 := by
        refine ⟨by cases b with
          | true => exact absurd (Or.inl rfl) hend
          | false => rfl, m - 1, by omega⟩
      have j1 : (0 : Int) < (m' : Int) + 1 := by omega
      clear hend
      have hsh := factS_shrinks false l HWF.out
      have HE2 := HE.out
      rw [rowS, if_neg (by simp)] at HE2
      obtain ⟨⟨x, b1, l1⟩, hx⟩ : ∃ r, factS false l = r := ⟨_, rfl⟩
      have hone := rdFact_any M rb false l (x, b1, l1) wr hx HR.out HWF.out hll
      rw [hx] at hsh HE2
      dsimp only at hsh HE2
      have H2 := Lib.hid HE2
      have HSH := Lib.hid hsh
      have HONE := Lib.hid hone
      have hsz := HO.out.1
      have hrbw := HR.out.lt
      clear HE2 hsh hone HE hx
      go_wp2_with fail
      refine HONE.out.mono ?_
      rintro e w1 ⟨⟨id, ty, ao, args, cap⟩, hp, he, hav, hr1, ho1⟩
      unfold faVal at he
      dsimp only at he hav hr1
      obtain ⟨n, hn⟩ : ∃ n, args.length = n := ⟨_, rfl⟩
      rw [hn] at he hav
      subst he
      have hne : ∀ g, (Value.ownBlock _) = some g → w.heap.size ≤ g := fun g hg => (HOW.out.lt g hg).1
      have HOW1 := Lib.hid (own_only HOW.out ho1 (fun e => by have := hne _ e; omega))
      have HFO1 := Lib.hid (show ∀ f ∈ acc, faOwn w1 w.heap.size f from fun f hf => (HFO.out f hf).only ho1 hrb)
      have HLT := Lib.hid (show ∀ f ∈ acc, ∀ k, (Value.slice f.ao f.args.length f.cap).ownBlock = some k → k < wr.heap.size from fun f hf k hk => ((HFO.out f hf).lt k hk).2)
      have HAV := Lib.hid hav
      have HAL := Lib.hid (show ∀ k, (Value.slice ao n cap).ownBlock = some k → wr.heap.size ≤ k from fun k hk => (hav.lt k hk).1)
      have HP := Lib.hid hp
      have HNN := Lib.hid hn
      have R1 := Lib.hid hr1
      have O1 := Lib.hid (HO.out.trans ho1)
      have hsz1 := (HO.out.trans ho1).1
      clear hr1 ho1 HONE d1 HR HO HOW hav hp hn
      go_wp2_with (at_builtin; refine wpList_append_rows (sub := noSub) Tryd.underlying32 infoFa rfl (by decide) faCells_len faCells_one rfl (.tmp 23) (.tmp 26) rfl w.heap.size _ acc.length (acc.flatMap faCells) rfl (HOW1.out.alloc _) (some ⟨w1.heap.size, 0, none⟩) 1 1 [⟨id, ty, ao, args, cap⟩] rfl rfl (w1.heap.size + 1) (rowsIn_block faCells_len _ _ (heap_alloc_new w1 _) (by simp [faCells, HNN.out]) (by omega) (fun _ _ => trivial)) (by simp) (by unfold maxLen; omega) (by omega) (by simp; omega) ?_)
      intro v2 w2 h2 hg2 _
      have hA := (Below.refl w1.heap.size w1).alloc (Nat.le_refl _) (.cells #[.int .i64 id, .int .i64 ty, .slice ao n cap] 27)
      have R2 := Lib.hid ((R1.out.below hA).grown hg2 (fun g hg => by have := hne g hg; omega))
      have O2 := Lib.hid ((O1.out.alloc (.cells #[.int .i64 id, .int .i64 ty, .slice ao n cap] 27)).grown hg2 hne)
      have hrowA := HOW1.out.alloc (.cells #[.int .i64 id, .int .i64 ty, .slice ao n cap] 27)
      have HF2 := Lib.hid (show ∀ f ∈ acc, faOwn w2 w.heap.size f from fun f hf => by
        have h := World.ownsRow.alloc (HFO1.out f hf) (.cells #[.int .i64 id, .int .i64 ty, .slice ao n cap] 27)
        exact World.ownsRow.kept h hg2 (own_apart h hrowA (by decide)))
      have HA2 := Lib.hid (show VasOwn w2 w.heap.size ao n cap args from by
        have h := World.ownsRow.alloc (VasOwn.le HAV.out hsz) (.cells #[.int .i64 id, .int .i64 ty, .slice ao n cap] 27)
        exact World.ownsRow.kept h hg2 (own_apart h hrowA (by decide)))
      have H3 := Lib.hid h2
      clear hA h2 hg2 HOW1 R1 O1 hne hrowA HFO1 HAV
      go_wp2_with fail
      go_roundw
      case rel =>
        refine ⟨m', acc ++ [⟨id, ty, ao, args, cap⟩], b1, l1, by go_num, ?_, by simp; omega, by rw [List.length_append, List.flatMap_append]; exact H3.out, ?_, ?_, R2.out, O2.out, HSH.out.1, Nat.le_trans HSH.out.2 hll⟩
        · rw [List.map_append, List.append_assoc, ← H2.out, ← HP.out]; rfl
        · intro f hf
          rcases List.mem_append.1 hf with hf | hf
          · exact HF2.out f hf
          · rw [List.mem_singleton.1 hf]
            unfold faOwn
            dsimp only
            rw [HNN.out]
            exact HA2.out
        · rw [List.pairwise_append]
          refine ⟨HSEP.out, List.pairwise_singleton _ _, fun f hf g hg => ?_⟩
          rw [List.mem_singleton.1 hg]
          refine sepF_old (HF2.out f hf) (HLT.out f hf) ?_
          dsimp only
          rw [HNN.out]
          exact HAL.out
      case measure => simp [intOf]
theorem rowF_at (M rb : Nat) (bad : Bool) (left : List Int) (v : List FaP) (b2 : Bool) (l2 : List Int) (w : World) (hs : factsS bad left = (v, b2, l2)) (h : Rdr w M rb bad left) (hw : BytesWf left) (hl : left.length ≤ 140737488351232) :
    Calls Tryd.prog 55 #[.pointer (some ⟨rb, 0, none⟩), .func (.func 24) #[.pointer (some ⟨rb, 0, none⟩)] #[]] w fun e w' => ∃ a n c y, y.map Fa.plain = v ∧ e = .returned (.slice a n c) ∧ FasOwn w' w.heap.size a n c y ∧ Rdr w' M rb b2 l2 ∧ Only rb w w' := by
  have := rowF_rd M rb bad left w h hw hl
  unfold factsS at hs
  rw [hs] at this
  exact this
end Go.Proofs.YtnfldkebjeigiaaDoor
