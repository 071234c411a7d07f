/- How much a letter is: the law's helper great, walked. Conditions: the letter lies in memory as it is read. -/
import Derived.Test.YthdpfchbomaigaaDoorGLetterBack15
import Derived.Deep.QuietTactic
import Derived.BigQuiet
import Derived.Test.YthdpfchbomaigaaDoorGLetterBack1
import Derived.Test.YthdpfchbomaigaaDoorGLetterBack0
import Derived.ArgAppend
import Derived.Deep.OwnRows
import Derived.StillTailTactics
import Derived.Test.YthdpfchbomaigaaDoorGLetterBack3
set_option linter.unusedVariables false
set_option linter.unusedSimpArgs false
namespace Go.Proofs.YthdpfchbomaigaaDoor
open Go.RowKit
set_option maxRecDepth 20000
/-- What the helper lets through of an entry. -/
structure EnBnd (e : En) : Prop where
  text : e.text.size ≤ 60019
  args : e.args.length ≤ 3000
  vn : e.vs.length ≤ 3000
  argt : ∀ v ∈ e.args, v.text.size ≤ 60019
theorem flat_bnd : ∀ (l : List Va), (∀ v ∈ l, v.text.size ≤ 60019) → (l.flatMap valueB).length ≤ l.length * 60028 := by
  intro l
  induction l with
  | nil => intro _; simp
  | cons x r ih =>
    intro h
    have h1 := ih fun v hv => h v (List.mem_cons_of_mem _ hv)
    have h2 := valueB_len x
    have h3 := h x (List.mem_cons_self ..)
    rw [List.flatMap_cons, List.length_append, List.length_cons]
    omega
theorem enFine_of {e : En} (h : EnWf e) (b : EnBnd e) : EnFine e := by
  have h1 := flat_bnd e.args b.argt
  have h2 := b.args
  refine ⟨h, Nat.le_trans b.text (by decide), Nat.le_trans b.args (by decide), Nat.le_trans b.vn (by decide), fun v hv => Nat.le_trans (b.argt v hv) (by decide), ?_⟩
  unfold valuesB
  rw [List.length_append, numB_len]
  omega
theorem ltFine_of {l : Lt} (h : LtArg l) (he : ∀ e ∈ l.es, EnBnd e) (h1 : l.es.length ≤ 3000) (h2 : l.vs.length ≤ 3000) (h3 : l.im.length ≤ 30009) : LtFine l :=
  ⟨u8_of h.kind, of_lit h.fr, of_lit h.tov, of_lit h.term, of_lit h.index, of_lit h.was, of_lit h.commit, of_lit h.round, fun e hx => enFine_of (h.es e hx) (he e hx), Nat.le_trans h1 (by decide), fun v hv => of_lit (h.vs v hv), Nat.le_trans h2 (by decide), h.im, Nat.le_trans h3 (by decide), h.enil, h.vnil, h.inil, h.icap⟩
def EnsBnd (c : Int) (l : List En) : Prop := c ≤ 3000 → ∀ e ∈ l, EnBnd e
theorem below_drewN {B : Nat} {a w : World} (h : Below B a w) (n : Nat) : Below B a (w.drewN n) := ⟨h.os, h.tape, h.output, h.size, h.block⟩
def VasBnd (c : Int) (l : List Va) : Prop := c ≤ 3000 → ∀ v ∈ l, v.text.size ≤ 60019
def GreatAt (l : Lt) (w : World) (e : Ending) (w' : World) : Prop := ∃ g : Bool, e = .returned (.bool g) ∧ (g = false → LtFine l) ∧ Below w.heap.size w w'
set_option maxHeartbeats 8000000 in
theorem great21_any (l : Lt) (w : World) (hx : ltSub w w.heap.size l) (hq : LtArg l) : Calls Tryd.prog 6 #[ltVal l] w (GreatAt l w) := by
  have hb0 := (Below.refl w.heap.size w).alloc (Nat.le_refl _) (.cells (ltArr l) 27)
  have hk := heap_alloc_new w (.cells (ltArr l) 27)
  have hs0 : (w.alloc (.cells (ltArr l) 27)).heap.size = w.heap.size + 1 := by simp
  have HB0 := Lib.hid hb0
  have HK := Lib.hid hk
  have HS0 := Lib.hid (Nat.le_of_eq hs0.symm)
  have HX := Lib.hid hx
  have HQ := Lib.hid hq
  have HFO := Lib.hid (fun a b c d => ltFine_of hq a b c d)
  obtain ⟨n, hn⟩ : ∃ n, l.es.length = n := ⟨_, rfl⟩
  obtain ⟨m, hm⟩ : ∃ m, l.vs.length = m := ⟨_, rfl⟩
  obtain ⟨q, hqq⟩ : ∃ q, l.im.length = q := ⟨_, rfl⟩
  have l1 := hq.en
  have l2 := hq.vn
  have l3 := hq.ln
  rw [hn] at l1
  rw [hm] at l2
  rw [hqq] at l3
  have HN := Lib.hid hn
  have HM := Lib.hid hm
  have HQQ := Lib.hid hqq
  unfold ltVal
  rw [hn, hm, hqq]
  clear hb0 hk hs0 hx hq hn hm hqq
  go_enter Tryd.func6, Tryd.ntmps6
  go_upto_region 1 with fail
  have hb0 := HB0.out
  have hk := HK.out
  have hs0 := HS0.out
  clear HB0 HK HS0
  unfold ltArr at hb0 hk hs0
  rw [HN.out, HM.out, HQQ.out] at hb0 hk hs0
  generalize w.alloc (.cells #[.int .u8 l.kind, .int .i64 l.fr, .int .i64 l.tov, .int .i64 l.term, .int .i64 l.index, .int .i64 l.was, .bool l.ok, .int .i64 l.commit, .int .i64 l.round, .slice l.eo n l.ecap, .slice l.vo m l.vcap, .slice l.io q l.icap] 27) = w0 at hb0 hk hs0 ⊢
  have hcA : ∀ w', Below (w.heap.size + 1) w0 w' → w'.cell? ⟨w.heap.size, 9, none⟩ = some (.slice l.eo n l.ecap) := fun w' hb => (Go.Joins.cell_of_block ((hb.block _ (by omega)).trans hk) 9)
  have c9 := hcA w0 (Below.refl _ _)
  have c10 : w0.cell? ⟨w.heap.size, 10, none⟩ = some (.slice l.vo m l.vcap) := Go.Joins.cell_of_block hk 10
  have c11 : w0.cell? ⟨w.heap.size, 11, none⟩ = some (.slice l.io q l.icap) := Go.Joins.cell_of_block hk 11
  have HCA := Lib.hid hcA
  have HB0 := Lib.hid hb0
  have HS0 := Lib.hid hs0
  clear hb0 hk hs0 hcA
  go_upto_region 2 with fail
  clear c9 c10 c11
  go_wp2_with fail
  obtain ⟨n0, hn0⟩ : ∃ n0 : Int, (n : Int) + m + q / 10 = n0 := ⟨_, rfl⟩
  have hn0a : (n : Int) + m + q / 10 ≤ n0 := by omega
  have hn0b : n0 ≤ 1000000000000000 := by omega
  rw [hn0]
  clear hn0
  go_loopw [3, 4] (fun m i wr => ∃ (k : Nat) (c : Int), k ≤ n ∧ i = .int .i64 k ∧ m = .int .i64 c ∧ n0 ≤ c ∧ c ≤ 1000000000000000 ∧ EnsBnd c (l.es.take k) ∧ Below (w.heap.size + 1) w0 wr) (fun _ i _ => n - (intOf i).toNat)
  case atStart => exact ⟨0, n0, by omega, rfl, rfl, by omega, hn0b, (by intro _ e he; simp at he), Below.refl _ _⟩
  case round =>
    obtain ⟨k, c, hk, rfl, rfl, hc0, hc1, hcs, hbel⟩ := hrel
    have HCS := Lib.hid hcs
    clear hcs
    have c9 := HCA.out wr hbel
    by_cases hlt : k < n
    · have i1 : (k : Int) < n := by omega
      by_cases hc2 : c ≤ 3000
      · have i2 : decide (c ≤ 3000) = true := by simpa using hc2
        have hkx : l.es[k]? = some (l.es[k]'(by rw [HN.out]; exact hlt)) := List.getElem?_eq_getElem _
        have htk : l.es.take (k + 1) = l.es.take k ++ [l.es[k]'(by rw [HN.out]; exact hlt)] := List.take_succ_eq_append_getElem _
        have hew := HQ.out.es _ (List.getElem_mem (l := l.es) (n := k) (by rw [HN.out]; exact hlt))
        obtain ⟨b, off, hao, hb, hc, hsub⟩ := (HX.out.1.below enSub_kept HB0.out (Nat.le_refl _)).at hkx
        generalize l.es[k]'(by rw [HN.out]; exact hlt) = x at hc hkx hew hsub htk
        have z1 := hew.text
        have z2 := hew.argn
        have z3 := hew.vn
        have HEW := Lib.hid hew
        have HTK := Lib.hid htk
        have HSUB := Lib.hid hsub
        obtain ⟨an, han⟩ : ∃ an, x.args.length = an := ⟨_, rfl⟩
        obtain ⟨vn, hvn⟩ : ∃ vn, x.vs.length = vn := ⟨_, rfl⟩
        obtain ⟨ts, hts⟩ : ∃ ts, x.text.size = ts := ⟨_, rfl⟩
        rw [hts] at z1
        rw [han] at z2
        rw [hvn] at z3
        have hcl : ∀ w', Below (w.heap.size + 1) w0 w' → ∀ j, j < 9 → w'.cell? ⟨b, off + k * 9 + j, none⟩ = (enCells x)[j]? := fun w' hb' j hj => (hb'.cell (p := ⟨b, _, none⟩) (show b < w.heap.size + 1 by omega)).trans (hc j hj)
        have e4 : wr.cell? ⟨b, off + k * 9 + 4, none⟩ = some (.int .u8 x.ck) := hcl wr hbel 4 (by decide)
        have e5 : wr.cell? ⟨b, off + k * 9 + 4 + 1, none⟩ = some (.string x.text) := hcl wr hbel 5 (by decide)
        have e6 : wr.cell? ⟨b, off + k * 9 + 4 + 1 + 1, none⟩ = some (.slice x.aao an x.acap) := (hcl wr hbel 6 (by decide)).trans (by rw [← han]; rfl)
        have e7 : wr.cell? ⟨b, off + k * 9 + 4 + 1 + 1 + 1, none⟩ = some (.int .i64 x.num) := hcl wr hbel 7 (by decide)
        have HCL := Lib.hid hcl
        have HTS := Lib.hid hts
        have HAN := Lib.hid han
        have HVN := Lib.hid hvn
        have HAO := Lib.hid hao
        rw [hao] at c9
        clear hkx hew hsub htk hc hcl hts han hvn hao
        go_upto_region 6 with fail
        have hba := hbel.alloc (by have := hbel.size; have := HS0.out; omega) (.cells #[.int .u8 x.ck, .string x.text, .slice x.aao an x.acap, .int .i64 x.num] 45)
        have hka := heap_alloc_new wr (.cells #[.int .u8 x.ck, .string x.text, .slice x.aao an x.acap, .int .i64 x.num] 45)
        obtain ⟨vb, hvb⟩ : ∃ vb, wr.heap.size = vb := ⟨_, rfl⟩
        have hvl : vb < (wr.alloc (.cells #[.int .u8 x.ck, .string x.text, .slice x.aao an x.acap, .int .i64 x.num] 45)).heap.size := by rw [← hvb]; simp
        have hbv : w.heap.size < vb := by have := hbel.size; have := HS0.out; omega
        clear c9 e4 e5 e6 e7
        rw [hvb] at hka ⊢
        generalize wr.alloc (.cells #[.int .u8 x.ck, .string x.text, .slice x.aao an x.acap, .int .i64 x.num] 45) = w7 at hba hka hvl ⊢
        have HKA := Lib.hid hka
        have d1 : w7.cell? ⟨vb, 1, none⟩ = some (.string x.text) := Go.Joins.cell_of_block hka 1
        have d2 : w7.cell? ⟨vb, 2, none⟩ = some (.slice x.aao an x.acap) := Go.Joins.cell_of_block hka 2
        have c9 : w7.cell? ⟨w.heap.size, 9, none⟩ = some (.slice (some ⟨b, off, none⟩) n l.ecap) := (HCA.out w7 hba).trans (by rw [HAO.out])
        have e8 : w7.cell? ⟨b, off + k * 9 + 8, none⟩ = some (.slice x.vao vn x.vcap) := (HCL.out w7 hba 8 (by decide)).trans (by rw [← HVN.out]; rfl)
        have s1 : IntKind.i64.wrap (c + (ts : Int) / 20) = c + (ts : Int) / 20 := IntWalk.i64_in _ (by omega)
        have s2 : IntKind.i64.wrap (c + (ts : Int) / 20 + an) = c + (ts : Int) / 20 + an := IntWalk.i64_in _ (by omega)
        have s3 : IntKind.i64.wrap (c + (ts : Int) / 20 + an + vn) = c + (ts : Int) / 20 + an + vn := IntWalk.i64_in _ (by omega)
        have hts := HTS.out
        have hkn : ¬ n ≤ k := by omega
        clear hka hvb hbel
        go_quiet (fail)
        clear s1 s2 s3 c9 e8 d1
        obtain ⟨c1, hc1e⟩ : ∃ c1 : Int, c + (ts : Int) / 20 + an + vn = c1 := ⟨_, rfl⟩
        have q1 : c + (ts : Int) / 20 + an + vn ≤ c1 := by omega
        have q2 : c1 ≤ 100000000000000 := by omega
        rw [hc1e]
        clear hc1e
        go_wp2_with fail
        have hb8 : Below (w.heap.size + 1) w0 (w7.drewN nq) := below_drewN hba nq
        have hk8 : (w7.drewN nq).cell? ⟨vb, 2, none⟩ = some (.slice x.aao an x.acap) := d2
        clear hba d2 HKA hvl
        generalize w7.drewN nq = w8 at hb8 hk8 ⊢
        have HV := Lib.hid (HSUB.out.1.below noSub_kept hb8 (by omega))
        go_loop [3, 6] (fun m i => ∃ (j : Nat) (d : Int), j ≤ an ∧ i = .int .i64 j ∧ m = .int .i64 d ∧ c1 ≤ d ∧ d ≤ 1000000000000000 ∧ VasBnd d (x.args.take j)) (fun _ i => an - (intOf i).toNat)
        case atStart => exact ⟨0, c1, by omega, rfl, rfl, by omega, by omega, (by intro _ e he; simp at he)⟩
        case round =>
          obtain ⟨j, d, hj, rfl, rfl, hd0, hd1, hds⟩ := hrel
          have HDS := Lib.hid hds
          clear hds
          by_cases hjn : j < an
          · have i3 : (j : Int) < an := by omega
            by_cases hd2 : d ≤ 3000
            · have i4 : decide (d ≤ 3000) = true := by simpa using hd2
              have hjx : x.args[j]? = some (x.args[j]'(by rw [HAN.out]; exact hjn)) := List.getElem?_eq_getElem _
              have hjt : x.args.take (j + 1) = x.args.take j ++ [x.args[j]'(by rw [HAN.out]; exact hjn)] := List.take_succ_eq_append_getElem _
              have hvw := HEW.out.args _ (List.getElem_mem (l := x.args) (n := j) (by rw [HAN.out]; exact hjn))
              obtain ⟨b2, off2, hao2, hb2, hcv, _⟩ := HV.out.at hjx
              generalize x.args[j]'(by rw [HAN.out]; exact hjn) = v at hcv hjx hvw hjt
              obtain ⟨us, hus⟩ : ∃ us, v.text.size = us := ⟨_, rfl⟩
              have z5 : us ≤ 140737488351232 := by rw [← hus]; exact hvw.2.2
              have e2 : w8.cell? ⟨b2, off2 + j * 3 + 2, none⟩ = some (.string v.text) := hcv 2 (by decide)
              have HJT := Lib.hid hjt
              have HUS := Lib.hid hus
              have s1 : IntKind.i64.wrap (d + (us : Int) / 20) = d + (us : Int) / 20 := IntWalk.i64_in _ (by omega)
              rw [hao2] at hk8
              clear hjt hjx hcv hvw hao2
              go_wp2_with fail
              go_round
              case rel =>
                refine ⟨j + 1, d + (us : Int) / 20, by omega, by go_num, rfl, by omega, by omega, fun h3 e he => ?_⟩
                rw [HJT.out] at he
                rcases List.mem_append.1 he with he | he
                · exact HDS.out hd2 e he
                · obtain rfl : e = v := by simpa using he
                  have := HUS.out
                  omega
              case measure => simp [intOf]; omega
            · have i4 : decide (d ≤ 3000) = false := by simpa using hd2
              go_wp2_with fail
              go_roundw
              case rel => exact ⟨k + 1, d, by omega, by go_num, rfl, by omega, hd1, fun h3 => absurd h3 hd2, hb8⟩
              case measure => simp [intOf]; omega
          · have i3 : ¬ (j : Int) < an := by omega
            have hend : EnsBnd d (l.es.take (k + 1)) := fun h3 e he => by
              rw [HTK.out] at he
              rcases List.mem_append.1 he with he | he
              · exact HCS.out hc2 e he
              · obtain rfl : e = x := by simpa using he
                have h1 := HTS.out
                have h2 := HAN.out
                have h4 := HVN.out
                refine ⟨by omega, by omega, by omega, ?_⟩
                have h5 := HDS.out h3
                rwa [List.take_of_length_le (by omega)] at h5
            have HEND := Lib.hid hend
            clear hend
            go_wp2_with fail
            go_roundw
            case rel => exact ⟨k + 1, d, by omega, by go_num, rfl, by omega, hd1, HEND.out, hb8⟩
            case measure => simp [intOf]; omega
      · have i2 : decide (c ≤ 3000) = false := by simpa using hc2
        have g1 : (3000 : Int) < c := by omega
        go_wp2_with fail
        go_ret
        exact ⟨true, rfl, (fun h => by cases h), HB0.out.trans (hbel.mono (by omega))⟩
    · have i1 : ¬ (k : Int) < n := by omega
      obtain rfl : k = n := by omega
      by_cases hc2 : c ≤ 3000
      · have g1 : decide ((3000 : Int) < c) = false := by simpa using hc2
        have hfin := HFO.out (fun e he => HCS.out hc2 e (by rw [List.take_of_length_le (by have := HN.out; omega)]; exact he)) (by have := HN.out; omega) (by have := HM.out; omega) (by have := HQQ.out; omega)
        have HFI := Lib.hid hfin
        clear hfin
        go_wp2_with fail
        go_ret
        exact ⟨false, rfl, fun _ => HFI.out, HB0.out.trans (hbel.mono (by omega))⟩
      · have g1 : decide ((3000 : Int) < c) = true := by simpa using hc2
        go_wp2_with fail
        go_ret
        exact ⟨true, rfl, (fun h => by cases h), HB0.out.trans (hbel.mono (by omega))⟩
end Go.Proofs.YthdpfchbomaigaaDoor
/- Rows of a call's own: what one of them is where another one grows or is written. No program. Conditions: as each says. -/
namespace Go.Proofs.YthdpfchbomaigaaDoor
open Go.RowKit
end Go.Proofs.YthdpfchbomaigaaDoor
/- What is written between two marks of the heap, and nothing else. No program. Conditions: as each says. -/
namespace Go.Proofs.YthdpfchbomaigaaDoor
open Go.RowKit
set_option maxRecDepth 20000
/-- Appending bytes; where the longer row lies. -/
theorem wpList_append_bytes_at {w : World} {ops : Array Oper} {rest : List Oper} {o : Oper} {a : Act} {Q : Exit → Act → World → Prop} (hgd : o.guard = none) (s x : Operand)
    (ho : o.op = .call { callee := .builtin .append, args := #[s, x], argTypes := #[25, 25] })
    (base : Nat) (v : Value) (l : List Int) (m : Nat) (hm : l.length = m) (hs : a.eval s = v) (hown : w.ownsRow base 5 1 v m (l.map bv))
    (ao : Option Addr) (n cap : Nat) (xs : List Int) (hn : xs.length = n) (hx : a.eval x = .slice ao n cap) (B : Nat) (hin : BytesIn w B ao xs) (hao : ao = none → cap = 0) (hlim : m + n ≤ 140737488351232) (hbase : base ≤ w.heap.size)
    (h : ∀ v' w', w'.ownsRow base 5 1 v' (m + n) ((l ++ xs).map bv) → w.grownBy w' v.ownBlock → (v'.ownBlock = v.ownBlock ∨ v'.ownBlock = some w.heap.size) → wpList Tryd.prog ops Q rest (a.put o.dst v') w') : wpList Tryd.prog ops Q (o :: rest) a w := by
  obtain ⟨i0, hi, hz0, hz1, hz2⟩ := info_parts infoByte
  subst hm hn
  cases ao with
  | none =>
    have hnil : xs = [] := by
      rcases hin with h | ⟨b, off, h1, _⟩
      · exact h
      · cases h1
    subst hnil
    rw [hao rfl] at hx
    refine wpList_append_own_none hgd s x _ ho base 5 i0 1 Tryd.underlying25 hi v l.length _ hs hown hx ?_
    refine h v w (by simpa using hown) ?_ (Or.inl rfl)
    exact World.grownBy.refl _ _
  | some ad =>
    refine wpList_append_own_at _ hgd s x _ ho base 5 i0 (.int .u8 0) 1 1 Tryd.underlying25 hi hz0 hz1 hz2 rfl (by decide) v l.length _ hs hown ad xs.length cap (xs.map bv) hx (by simp) ?_ (bytes_oneCell _) (by unfold maxLen; omega) (by omega) hbase ?_
    · intro j u hu
      exact cells_of_bytes hin (Below.refl _ _) rfl hu
    · intro v' w' h1 h2 _ h3
      refine h v' w' ?_ h2 h3
      rw [List.map_append]
      exact h1
end Go.Proofs.YthdpfchbomaigaaDoor
/- Rows of bytes that lie apart are found to do so. Conditions: each row is the call's own, in a block of its own. -/
namespace Go.Proofs.YthdpfchbomaigaaDoor
open Go.RowKit
set_option maxRecDepth 20000
end Go.Proofs.YthdpfchbomaigaaDoor
/- CopyBytes: bytes of a call's own, and stores among them. Conditions: as each says. -/
namespace Go.Proofs.YthdpfchbomaigaaDoor
open Go.RowKit
set_option maxRecDepth 20000
theorem copyB_any (ao : Option Addr) (n cap : Nat) (xs : List Int) (w : World) (B : Nat) (hn : xs.length = n) (hx : BytesIn w B ao xs) (hB : B ≤ w.heap.size) (hao : ao = none → cap = 0) (hl : n ≤ 1099511627776) :
    Calls Tryd.prog 11 #[.slice ao n cap] w fun e w' => ∃ a c, e = .returned (.slice a n c) ∧ w'.ownsRow w.heap.size 5 1 (.slice a n c) n (xs.map bv) ∧ Below w.heap.size w w' := by
  subst hn
  have HX := Lib.hid hx
  have HA := Lib.hid hao
  clear hx hao
  go_enter Tryd.func11, Tryd.ntmps11
  go_wp2_with (at_builtin; refine wpList_append_bytes_at rfl (.tmp 4) (.tmp 5) rfl w.heap.size (.slice none 0 0) [] 0 rfl rfl (World.ownsRow_nil _ _ _ _) ao xs.length cap xs rfl rfl B HX.out HA.out (by omega) (Nat.le_refl _) ?_)
  intro v2 w2 hown hg _
  have hb : Below w.heap.size w w2 := (Below.refl w.heap.size w).grown hg (Nat.le_refl _) (fun k hk => by cases hk)
  obtain ⟨a, c, hv, _⟩ := own_bytes hown
  subst hv
  have HO := Lib.hid hown
  clear hown hg
  go_wp2_with fail
  go_ret
  exact ⟨a, c, rfl, HO.out, hb⟩
end Go.Proofs.YthdpfchbomaigaaDoor
/- Pick: any number is brought into 0 to n - 1. Condition: n is at least 1. -/
namespace Go.Proofs.YthdpfchbomaigaaDoor
open Go.RowKit
set_option maxRecDepth 20000
theorem pick_eq (a k : Int) (hk : 1 ≤ k) : a.tmod k = a % k ∨ (a.tmod k < 0 ∧ a.tmod k + k = a % k) := by
  have h4 := Int.emod_lt_of_pos a (show 0 < k by omega)
  rw [Int.tmod_eq_emod]
  split
  · left; omega
  · right; omega
theorem pick_any (a k : Int) (hk : 1 ≤ k) (hk2 : k ≤ 2000000) (w : World) :
    Calls Tryd.prog 12 #[.int .i64 a, .int .i64 k] w fun e w' => e = .returned (.int .i64 (a % k)) ∧ w = w' := by
  have he := pick_eq a k hk
  have hlo : -k < a.tmod k := Int.lt_tmod_of_pos a (by omega)
  have hhi : a.tmod k < k := Int.tmod_lt_of_pos a (by omega)
  have h1 := Int.emod_nonneg a (show k ≠ 0 by omega)
  have HE := Lib.hid he
  clear he
  by_cases hn : a.tmod k < 0
  · go_enter Tryd.func12, Tryd.ntmps12
    go_wp2
    go_ret
    exact ⟨ret_int (by have := HE.out; omega), rfl⟩
  · go_enter Tryd.func12, Tryd.ntmps12
    go_wp2
    go_ret
    exact ⟨ret_int (by have := HE.out; omega), rfl⟩
end Go.Proofs.YthdpfchbomaigaaDoor
/- The law LetterBack, walked. Conditions: the letter and the bytes lie in memory as they are read. -/
namespace Go.Proofs.YthdpfchbomaigaaDoor
open Go.RowKit
set_option maxRecDepth 20000
theorem load_want {P : Program} {ops : Array Oper} {rest : List Oper} {op : Oper} {a : Act} {w : World} {Q : Exit → Act → World → Prop} (hw : Region.wanted op (yielded ops a.tmps) = true) (ty : TypeId) (x : Operand) (ho : op.op = .load ty x)
    (b o : Nat) (hx : a.eval x = .pointer (some ⟨b, o, none⟩)) (cs : List Value) (d : TypeDesc) (hc : w.rangeAt b o cs)
    (hu : P.underlying ty = some d) (hd : d.isRow = true) (hi : (P.info? ty).map (·.size) = some cs.length)
    (h : wpList P ops Q rest (a.put op.dst (.agg cs.toArray)) w) : wpList P ops Q (op :: rest) a w :=
  Go.BigFrame.wpList_want hw fun _ hK => wp_load_mid ty x ho b o hx cs d hc hu hd hi (hK _ _ h)
theorem rng_block {w : World} {g : Nat} {A : Array Value} {T : TypeId} {fz : Nat × Nat} (h : w.heap[g]? = some (.cells A T fz)) : w.rangeAt g 0 A.toList := fun j v hv => by
  rw [Nat.zero_add, Go.Joins.cell_of_block h, ← Array.getElem?_toList]
  exact hv
set_option maxHeartbeats 8000000 in
theorem walk_back21 (W : World) (l : Lt) (hx : ltSub W W.heap.size l) (hq : LtArg l) (ao : Option Addr) (n cap : Nat) (xs : List Int) (hn : xs.length = n) (hxs : BytesIn W W.heap.size ao xs) (hw : BytesWf xs) (hao : ao = none → cap = 0) (hcap : n ≤ cap) (hz : n ≤ 140737488351232) (cut : Int) :
    Calls Tryd.prog 3 #[ltVal l, .slice ao n cap, .int .i64 cut] W fun e w' => e = .returned (.bool true) ∧ Below W.heap.size W w' := by
  have hb0 := (Below.refl W.heap.size W).alloc (Nat.le_refl _) (.cells (ltArr l) 27)
  have hk := heap_alloc_new W (.cells (ltArr l) 27)
  have hs0 : (W.alloc (.cells (ltArr l) 27)).heap.size = W.heap.size + 1 := by simp
  have HB0 := Lib.hid hb0
  have HK := Lib.hid hk
  have HS0 := Lib.hid (Nat.le_of_eq hs0.symm)
  have HX := Lib.hid hx
  have HXS := Lib.hid hxs
  have HQ := Lib.hid hq
  have HN := Lib.hid hn
  have HW := Lib.hid hw
  clear hb0 hk hs0 hx hq hn hw hxs
  unfold ltVal
  go_enter Tryd.func3, Tryd.ntmps3
  go_upto_region 1 with fail
  have hb0 := HB0.out
  have hk := HK.out
  have hs0 := HS0.out
  clear HB0 HK HS0
  unfold ltArr at hb0 hk hs0
  generalize W.alloc (.cells #[.int .u8 l.kind, .int .i64 l.fr, .int .i64 l.tov, .int .i64 l.term, .int .i64 l.index, .int .i64 l.was, .bool l.ok, .int .i64 l.commit, .int .i64 l.round, .slice l.eo l.es.length l.ecap, .slice l.vo l.vs.length l.vcap, .slice l.io l.im.length l.icap] 27) = w0 at hb0 hk hs0 ⊢
  have HK := Lib.hid hk
  clear hk
  go_wp2_with fail
  refine (awake21_any w0).mono ?_
  rintro e w1 ⟨rfl, b1⟩
  have hs1 := b1.size
  have B1 := Lib.hid (hb0.trans (b1.mono (by omega)))
  have hk1 := (b1.block W.heap.size (by omega)).trans HK.out
  have hrg := rng_block hk1
  have K1 := Lib.hid hk1
  clear b1 hb0 hk1 HK
  go_wp2_with (refine wpList_load_mid rfl 27 (.tmp 3) rfl W.heap.size 0 rfl (ltArr l).toList _ hrg Tryd.underlying27 rfl (info_lt3 l) ?_)
  refine (great21_any l w1 (ltSub_mono (ltSub_below HX.out B1.out (Nat.le_refl _)) (by omega)) HQ.out).mono ?_
  rintro e w2 ⟨g, rfl, hg, b2⟩
  have hs2 := b2.size
  have B2 := Lib.hid (B1.out.trans (b2.mono (by omega)))
  have hk2 := (b2.block W.heap.size (by omega)).trans K1.out
  have K2 := Lib.hid hk2
  have HG := Lib.hid hg
  clear b2 hk2 hg hrg K1 B1
  cases g with
  | true =>
    go_wp2_with fail
    go_ret
    exact ⟨rfl, B2.out⟩
  | false =>
  have HF := Lib.hid (HG.out rfl)
  clear HG
  by_cases hbig : (3000 : Int) < n
  · have h1 : decide ((3000 : Int) < n) = true := by simpa using hbig
    go_wp2_with fail
    go_ret
    exact ⟨rfl, B2.out⟩
  have h1 : decide ((3000 : Int) < n) = false := by simpa using hbig
  have hrg := rng_block K2.out
  obtain ⟨⟨bs, er⟩, hp⟩ : ∃ z, putL2 l.plain = z := ⟨_, rfl⟩
  have HP := Lib.hid hp
  clear hp
  go_wp2_with (refine wpList_load_mid rfl 27 (.tmp 3) rfl W.heap.size 0 rfl (ltArr l).toList _ hrg Tryd.underlying27 rfl (info_lt3 l) ?_)
  refine (lput_any l w2 (ltSub_mono (ltSub_below HX.out B2.out (Nat.le_refl _)) (by omega)) HF.out bs er HP.out).mono ?_
  rintro e w3 ⟨a3, c3, rfl, hi3, hn3, hc3, _, b3⟩
  have hs3 := b3.size
  have B3 := Lib.hid (B2.out.trans (b3.mono (by omega)))
  have hk3 := (b3.block W.heap.size (by omega)).trans K2.out
  have hrg3 := rng_block hk3
  have K3 := Lib.hid hk3
  have I3 := Lib.hid hi3
  obtain ⟨rb, hrb⟩ : ∃ z, rightL l.plain = z := ⟨_, rfl⟩
  have HRB := Lib.hid hrb
  obtain ⟨bn, hbn⟩ : ∃ z, bs.length = z := ⟨_, rfl⟩
  rw [hbn] at hc3 ⊢
  have HBN := Lib.hid hbn
  clear b3 hk3 hi3 hrb hrg K2 B2 hbn
  go_wp2_with (refine wpList_load_mid rfl 27 (.tmp 3) rfl W.heap.size 0 rfl (ltArr l).toList _ hrg3 Tryd.underlying27 rfl (info_lt3 l) ?_)
  refine (lright_any l w3 (ltSub_mono (ltSub_below HX.out B3.out (Nat.le_refl _)) (by omega)) HF.out rb HRB.out).mono ?_
  rintro e w4 ⟨rfl, b4⟩
  have hs4 := b4.size
  have B4 := Lib.hid (B3.out.trans (b4.mono (by omega)))
  have hk4 := (b4.block W.heap.size (by omega)).trans K3.out
  have K4 := Lib.hid hk4
  have I4 := Lib.hid ((I3.out.below b4 (Nat.le_refl _)).mono hs4)
  clear b4 hk4 hrg3 K3 B3 I3
  cases rb with
  | false =>
    have hp := HP.out
    unfold putL2 at hp
    rw [if_pos HRB.out] at hp
    simp only [Prod.mk.injEq] at hp
    obtain ⟨rfl, rfl⟩ := hp
    obtain rfl : 0 = bn := HBN.out
    go_wp2_with fail
    go_ret
    exact ⟨rfl, B4.out⟩
  | true =>
  by_cases hlong : 1048576 < (bytesL l.plain).length
  · have hp := HP.out
    unfold putL2 at hp
    rw [if_neg (by rw [HRB.out]; decide), if_pos hlong] at hp
    simp only [Prod.mk.injEq] at hp
    obtain ⟨rfl, rfl⟩ := hp
    obtain rfl : 0 = bn := HBN.out
    go_wp2_with fail
    go_ret
    exact ⟨rfl, B4.out⟩
  have hp := HP.out
  unfold putL2 at hp
  rw [if_neg (by rw [HRB.out]; decide), if_neg hlong] at hp
  simp only [Prod.mk.injEq] at hp
  obtain ⟨rfl, rfl⟩ := hp
  have hbl := Nat.le_of_not_lt hlong
  have hpos : 44 ≤ bn := by rw [← HBN.out, bytesL_head, List.length_append, headL_len]; omega
  have HBL := Lib.hid hbl
  have hwf := HF.out.bytes HRB.out
  have HWF := Lib.hid hwf
  have hbn2 : bn ≤ 1048576 := by have := HBN.out; omega
  clear hbl hlong hwf
  go_wp2_with fail
  refine (lget_any a3 bn c3 (bytesL l.plain) w4 (l.plain, 0) (getL_back HRB.out HF.out.ok HBL.out) HBN.out I4.out HWF.out hn3 hc3 (by omega)).mono ?_
  rintro e w5 ⟨x, rfl, hpl, _, how, b5⟩
  have hs5 := b5.size
  have hal := (Below.refl w5.heap.size w5).alloc (Nat.le_refl _) (.cells (ltArr x) 27)
  have hk3 := heap_alloc_new w5 (.cells (ltArr x) 27)
  have how6 : OwnLt (w5.alloc (.cells (ltArr x) 27)) w4.heap.size x := ⟨how.1.below hal (Nat.le_refl _), how.2.1.below hal (Nat.le_refl _), own_below how.2.2 hal (Nat.le_refl _)⟩
  have B6 := Lib.hid ((B4.out.trans (b5.mono (by omega))).trans (hal.mono (by omega)))
  have hk6 := (hal.block W.heap.size (by omega)).trans ((b5.block W.heap.size (by omega)).trans K4.out)
  have hI6 := I4.out.below (b5.trans (hal.mono hs5)) (Nat.le_refl _)
  have HPL := Lib.hid hpl
  have HO := Lib.hid how6
  have HK := Lib.hid hk3
  have K6 := Lib.hid hk6
  have I6 := Lib.hid hI6
  have hk2 := heap_alloc_new w5 (.cells (ltArr zeroT) 27)
  rw [zeroT_arr] at hk2
  clear b5 hal hk3 how how6 hpl hk6 hI6 I4 K4 B4
  go_upto_region 11 with (refine wpList_store_row rfl 27 (.tmp 9) (.tmp 47) rfl w5.heap.size (ltArr x) rfl (by first | rfl | simp) 27 _ hk2 (info_lt2 x) rfl (ltArr_one x) ?_; rw [World.setRow_alloc_new])
  have hs6 : w5.heap.size < (w5.alloc (.cells (ltArr x) 27)).heap.size := (Array.getElem?_eq_some_iff.1 HK.out).1
  clear hk2
  generalize w5.alloc (.cells (ltArr x) 27) = w6 at B6 HO HK K6 I6 hs6 ⊢
  have hrg := rng_block K6.out
  have hrgx := rng_block HK.out
  have hbn0 : decide (0 < bn) = true := decide_eq_true (by omega)
  go_wp2_with (first | (refine load_want (by rfl) 27 (.tmp 3) rfl W.heap.size 0 rfl (ltArr l).toList _ hrg Tryd.underlying27 rfl (info_lt3 l) ?_) | (refine load_want (by rfl) 27 (.tmp 9) rfl w5.heap.size 0 rfl (ltArr x).toList _ hrgx Tryd.underlying27 rfl (info_lt3 x) ?_))
  have hs6b := B6.out.size
  refine (sameL_any l x w6 w6.heap.size HPL.out.symm (ltSub_mono (ltSub_below HX.out B6.out (Nat.le_refl _)) hs6b) (own_ltSub HO.out) (Nat.le_refl _) (Nat.le_trans HF.out.en (by decide)) (Nat.le_trans HF.out.vn (by decide)) (Nat.le_trans HF.out.ln (by decide)) (fun e he => enSmall_fine (HF.out.es e he))).mono ?_
  rintro e w7 ⟨rfl, b7⟩
  have hs7 := b7.size
  have hI7 := ((I6.out.below b7 (by omega)).mono (show w4.heap.size ≤ w7.heap.size by omega))
  have hB7 := B6.out.trans (b7.mono hs6b)
  clear hrg hrgx b7 HO HK K6 I6 B6
  have I7 := Lib.hid hI7
  have B7 := Lib.hid hB7
  clear hI7 hB7
  have hs7b := B7.out.size
  go_upto_region 13 with fail
  by_cases hn0 : n = 0
  · have i5 : ¬ (0 : Int) < n := by omega
    have i6 : ¬ 0 < n := by omega
    go_wp2_with fail
    have hp1 := Int.emod_nonneg cut (show (bn : Int) ≠ 0 by omega)
    have hp2 := Int.emod_lt_of_pos cut (show 0 < (bn : Int) by omega)
    refine (pick_any cut bn (by omega) (by omega) w7).mono ?_
    rintro e wp ⟨rfl, rfl⟩
    obtain ⟨k, hk⟩ : ∃ k : Nat, cut % (bn : Int) = k := ⟨(cut % bn).toNat, by omega⟩
    rw [hk] at hp1 hp2 ⊢
    have hkl : k < bn := by omega
    have HTK := Lib.hid (show ((bytesL l.plain).take k).length = k by rw [List.length_take]; have := HBN.out; omega)
    have HTW := Lib.hid (show BytesWf ((bytesL l.plain).take k) from fun v hv => HWF.out v (List.mem_of_mem_take hv))
    obtain ⟨r2, hr2⟩ : ∃ r, getL ((bytesL l.plain).take k) = r := ⟨_, rfl⟩
    have hr24 : r2.2 = 4 := by rw [← hr2]; exact getL_cut HRB.out HF.out.ok HBL.out HWF.out (by rw [HBN.out]; exact hkl)
    have HR2 := Lib.hid hr2
    obtain ⟨rl2, rn2⟩ := r2
    obtain rfl : rn2 = 4 := hr24
    clear hk hp1 hp2 hr2
    have hws := B7.out.size
    go_wp2_with fail
    refine (lget_any a3 k c3 ((bytesL l.plain).take k) w7 (rl2, 4) HR2.out HTK.out (I7.out.take k) HTW.out hn3 (by omega) (by omega)).mono ?_
    rintro e wy ⟨y, rfl, _, _, _, by2⟩
    have BY := Lib.hid (B7.out.trans (by2.mono hws))
    have hsy := BY.out.size
    have hk2 := heap_alloc_new wy (.cells (ltArr zeroT) 27)
    rw [zeroT_arr] at hk2
    clear by2
    go_wp2_with (refine wpList_store_row rfl 27 (.tmp 13) (.tmp 87) rfl wy.heap.size (ltArr y) rfl (by first | rfl | simp) 27 _ hk2 (info_lt2 y) rfl (ltArr_one y) ?_; rw [World.setRow_alloc_new])
    go_ret
    exact ⟨rfl, BY.out.alloc hsy _⟩
  · have i5 : (0 : Int) < n := by omega
    have i6 : 0 < n := by omega
    have hxn : xs ≠ [] := fun h => hn0 (by rw [← HN.out, h]; rfl)
    go_wp2_with fail
    refine (copyB_any a3 bn c3 (bytesL l.plain) w7 w7.heap.size HBN.out I7.out (Nat.le_refl _) hn3 (by omega)).mono ?_
    rintro e w8 ⟨a8, c8, rfl, ho8, b8⟩
    have hs8 := b8.size
    have hI8 := (I7.out.below b8 (Nat.le_refl _)).mono hs8
    have hB8 := B7.out.trans (b8.mono hs7b)
    have O8 := Lib.hid ho8
    have B8 := Lib.hid hB8
    have C8 := Lib.hid b8
    clear ho8 hI8 hB8 b8 B7
    go_wp2_with (at_builtin; refine wpList_append_bytes_at rfl (.tmp 71) (.tmp 72) rfl w7.heap.size _ (bytesL l.plain) bn HBN.out rfl O8.out ao n cap xs HN.out rfl W.heap.size (HXS.out.below B8.out (Nat.le_refl _)) hao (by omega) hs8 ?_)
    intro v9 w9 ho9 hg9 hbl9
    have hb9 : Below W.heap.size W w9 := B8.out.grown hg9 (by omega) (fun g hg => Nat.le_trans hs7b (World.ownsRow.lt O8.out g hg).1)
    obtain ⟨m, hm⟩ : ∃ m, bn + n = m := ⟨_, rfl⟩
    have hL : (bytesL l.plain ++ xs).length = m := by rw [List.length_append, HBN.out, HN.out]; exact hm
    have hs9 : w8.heap.size ≤ w9.heap.size := hg9.size
    have hown : w9.ownsRow w7.heap.size 5 1 v9 (bytesL l.plain ++ xs).length ((bytesL l.plain ++ xs).map bv) := by rw [hL, ← hm, List.map_append]; simpa using ho9
    obtain ⟨a9, c9, hv9, hi9⟩ := own_bytes hown
    rw [hL] at hv9 hown
    subst hv9
    have hn9 := own_none hown
    have hc9 := own_capG hown
    have HL := Lib.hid hL
    have I9 := Lib.hid hi9
    have B9 := Lib.hid hb9
    have I7b := Lib.hid ((I7.out.below (C8.out.grown hg9 hs8 (fun g hg => (World.ownsRow.lt O8.out g hg).1)) (Nat.le_refl _)).mono (Nat.le_trans hs8 hs9))
    have HLW := Lib.hid (show BytesWf (bytesL l.plain ++ xs) from fun v hv => (List.mem_append.1 hv).elim (HWF.out v) (HW.out v))
    obtain ⟨r3, hr3⟩ : ∃ r, getL (bytesL l.plain ++ xs) = r := ⟨_, rfl⟩
    have hr34 : r3.2 = 4 := by rw [← hr3]; exact getL_more HRB.out HF.out.ok hxn (by have := HN.out; omega)
    have HR3 := Lib.hid hr3
    obtain ⟨rl3, rn3⟩ := r3
    obtain rfl : rn3 = 4 := hr34
    have hm2 : m ≤ 140737488351232 := by omega
    clear hr3 hown hL hi9 hb9 hg9 hbl9 ho9 O8 C8 I7 B8 hm
    go_wp2_with fail
    refine (lget_any a9 m c9 (bytesL l.plain ++ xs) w9 (rl3, 4) HR3.out HL.out I9.out HLW.out hn9 hc9 hm2).mono ?_
    rintro e wx ⟨y, rfl, _, _, _, by2⟩
    have hs10 := by2.size
    have hal := (Below.refl wx.heap.size wx).alloc (Nat.le_refl _) (.cells (ltArr y) 27)
    have BX := Lib.hid (B9.out.trans ((by2.trans (hal.mono hs10)).mono B9.out.size))
    have IX := Lib.hid ((I7b.out.below (by2.trans (hal.mono hs10)) (Nat.le_refl _)).mono (Nat.le_trans hs10 hal.size))
    have hk2 := heap_alloc_new wx (.cells (ltArr zeroT) 27)
    rw [zeroT_arr] at hk2
    clear by2 hal
    go_upto_region 17 with (refine wpList_store_row rfl 27 (.tmp 11) (.tmp 75) rfl wx.heap.size (ltArr y) rfl (by first | rfl | simp) 27 _ hk2 (info_lt2 y) rfl (ltArr_one y) ?_; rw [World.setRow_alloc_new])
    clear hk2
    generalize wx.alloc (.cells (ltArr y) 27) = wv at BX IX ⊢
    go_wp2_with fail
    have hp1 := Int.emod_nonneg cut (show (bn : Int) ≠ 0 by omega)
    have hp2 := Int.emod_lt_of_pos cut (show 0 < (bn : Int) by omega)
    refine (pick_any cut bn (by omega) (by omega) wv).mono ?_
    rintro e wp ⟨rfl, rfl⟩
    obtain ⟨k, hk⟩ : ∃ k : Nat, cut % (bn : Int) = k := ⟨(cut % bn).toNat, by omega⟩
    rw [hk] at hp1 hp2 ⊢
    have hkl : k < bn := by omega
    have HTK := Lib.hid (show ((bytesL l.plain).take k).length = k by rw [List.length_take]; have := HBN.out; omega)
    have HTW := Lib.hid (show BytesWf ((bytesL l.plain).take k) from fun v hv => HWF.out v (List.mem_of_mem_take hv))
    obtain ⟨r2, hr2⟩ : ∃ r, getL ((bytesL l.plain).take k) = r := ⟨_, rfl⟩
    have hr24 : r2.2 = 4 := by rw [← hr2]; exact getL_cut HRB.out HF.out.ok HBL.out HWF.out (by rw [HBN.out]; exact hkl)
    have HR2 := Lib.hid hr2
    obtain ⟨rl2, rn2⟩ := r2
    obtain rfl : rn2 = 4 := hr24
    clear hk hp1 hp2 hr2
    have hws := BX.out.size
    go_wp2_with fail
    refine (lget_any a3 k c3 ((bytesL l.plain).take k) wv (rl2, 4) HR2.out HTK.out (IX.out.take k) HTW.out hn3 (by omega) (by omega)).mono ?_
    rintro e wy ⟨y, rfl, _, _, _, by2⟩
    have BY := Lib.hid (BX.out.trans (by2.mono hws))
    have hsy := BY.out.size
    have hk2 := heap_alloc_new wy (.cells (ltArr zeroT) 27)
    rw [zeroT_arr] at hk2
    clear by2
    go_wp2_with (refine wpList_store_row rfl 27 (.tmp 13) (.tmp 87) rfl wy.heap.size (ltArr y) rfl (by first | rfl | simp) 27 _ hk2 (info_lt2 y) rfl (ltArr_one y) ?_; rw [World.setRow_alloc_new])
    go_ret
    exact ⟨rfl, BY.out.alloc hsy _⟩
theorem walk_LetterBack {H : Type} {enc : TypeId × Value → H} {d : DataW H} {p : List MemPlace} (W : World) (cs : Array Value) (hc : cs.size = Tryd.prog.cellsOf 27) (h : DataW.Trod enc Tryd.prog W 0 (fun _ => true) true 27 (.agg cs) d p) (hz : DSized Tryd.prog 27 d)
    (ao : Option Addr) (n cap : Nat) (xs : List Int) (hn : xs.length = n) (hx : BytesIn W W.heap.size ao xs) (hw : BytesWf xs) (hao : ao = none → cap = 0) (hcap : n ≤ cap) (hz0 : cap ≤ maxLen) (hz1 : n * Tryd.prog.bytesOf 5 ≤ 140737488351232) (cut : Int) (hcut : (Lit.int .i64 cut).wf = true) :
    Calls Tryd.prog 3 #[.agg cs, .slice ao n cap, .int .i64 cut] W fun e w' => e = .returned (.bool true) ∧ Below W.heap.size W w' := by
  rw [bytes_b, Nat.mul_one] at hz1
  obtain ⟨l, hl, hxl, hql⟩ := open_letter hc h hz
  rw [hl]
  exact walk_back21 W l hxl hql ao n cap xs hn hx hw hao hcap hz1 cut
end Go.Proofs.YthdpfchbomaigaaDoor
