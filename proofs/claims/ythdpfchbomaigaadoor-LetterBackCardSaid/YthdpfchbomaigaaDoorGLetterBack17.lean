/- How much a letter is: the law's helper great, walked. Conditions: the letter lies in memory as it is read. -/
import Derived.Test.YthdpfchbomaigaaDoorGLetterBack16
import Derived.Deep.QuietTactic
import Derived.BigQuiet
import Derived.Test.YthdpfchbomaigaaDoorGLetterBack1
import Derived.Test.YthdpfchbomaigaaDoorGLetterBack0
import Derived.ArgAppend
import Derived.Deep.OwnRows
import Derived.StillTailTactics
import Derived.Test.YthdpfchbomaigaaDoorGLetterBack3
set_option linter.unusedVariables false
namespace Go.Proofs.YthdpfchbomaigaaDoor
open Go.RowKit
set_option maxRecDepth 20000
/-- What the helper lets through of an entry. -/
structure EnBnd (e : En) : Prop where
  text : e.text.size ≤ 60019
  args : e.args.length ≤ 3000
  vn : e.vs.length ≤ 3000
  argt : ∀ v ∈ e.args, v.text.size ≤ 60019
theorem flat_bnd : ∀ (l : List Va), (∀ v ∈ l, v.text.size ≤ 60019) → (l.flatMap valueB).length ≤ l.length * 60028 := by
  intro l
  induction l with
  | nil => intro _; simp
  | cons x r ih =>
    intro h
    have h1 := ih fun v hv => h v (List.mem_cons_of_mem _ hv)
    have h2 := valueB_len x
    have h3 := h x (List.mem_cons_self ..)
    rw [List.flatMap_cons, List.length_append, List.length_cons]
    omega
theorem enFine_of {e : En} (h : EnWf e) (b : EnBnd e) : EnFine e := by
  have h1 := flat_bnd e.args b.argt
  have h2 := b.args
  refine ⟨h, Nat.le_trans b.text (by decide), Nat.le_trans b.args (by decide), Nat.le_trans b.vn (by decide), fun v hv => Nat.le_trans (b.argt v hv) (by decide), ?_⟩
  unfold valuesB
  rw [List.length_append, numB_len]
  omega
theorem ltFine_of {l : Lt} (h : LtArg l) (he : ∀ e ∈ l.es, EnBnd e) (h1 : l.es.length ≤ 3000) (h2 : l.vs.length ≤ 3000) (h3 : l.im.length ≤ 30009) : LtFine l :=
  ⟨u8_of h.kind, of_lit h.fr, of_lit h.to, of_lit h.term, of_lit h.index, of_lit h.was, of_lit h.commit, of_lit h.round, fun e hx => enFine_of (h.es e hx) (he e hx), Nat.le_trans h1 (by decide), fun v hv => of_lit (h.vs v hv), Nat.le_trans h2 (by decide), h.im, Nat.le_trans h3 (by decide), h.enil, h.vnil, h.inil, h.icap⟩
def EnsBnd (c : Int) (l : List En) : Prop := c ≤ 3000 → ∀ e ∈ l, EnBnd e
theorem below_drewN {B : Nat} {a w : World} (h : Below B a w) (n : Nat) : Below B a (w.drewN n) := ⟨h.os, h.tape, h.output, h.size, h.block⟩
def VasBnd (c : Int) (l : List Va) : Prop := c ≤ 3000 → ∀ v ∈ l, v.text.size ≤ 60019
def GreatAt (l : Lt) (w : World) (e : Ending) (w' : World) : Prop := ∃ g : Bool, e = .returned (.bool g) ∧ (g = false → LtFine l) ∧ Below w.heap.size w w'
set_option maxHeartbeats 8000000 in
theorem great21_any (l : Lt) (w : World) (hx : ltSub w w.heap.size l) (hq : LtArg l) : Calls Tryd.prog 6 #[ltVal l] w (GreatAt l w) := by
  have hb0 := (Below.refl w.heap.size w).alloc (Nat.le_refl _) (.cells (ltArr l) 27)
  have hk := heap_alloc_new w (.cells (ltArr l) 27)
  have hs0 : (w.alloc (.cells (ltArr l) 27)).heap.size = w.heap.size + 1 := by simp
  have HB0 := Lib.hid hb0
  have HK := Lib.hid hk
  have HS0 := Lib.hid (Nat.le_of_eq hs0.symm)
  have HX := Lib.hid hx
  have HQ := Lib.hid hq
  have HFO := Lib.hid (fun a b c d => ltFine_of hq a b c d)
  obtain ⟨n, hn⟩ : ∃ n, l.es.length = n := ⟨_, rfl⟩
  obtain ⟨m, hm⟩ : ∃ m, l.vs.length = m := ⟨_, rfl⟩
  obtain ⟨q, hqq⟩ : ∃ q, l.im.length = q := ⟨_, rfl⟩
  have l1 := hq.en
  have l2 := hq.vn
  have l3 := hq.ln
  rw [hn] at l1
  rw [hm] at l2
  rw [hqq] at l3
  have HN := Lib.hid hn
  have HM := Lib.hid hm
  have HQQ := Lib.hid hqq
  unfold ltVal
  rw [hn, hm, hqq]
  clear hb0 hk hs0 hx hq hn hm hqq
  go_enter Tryd.func6, Tryd.ntmps6
  go_upto_region 1 with fail
  have hb0 := HB0.out
  have hk := HK.out
  have hs0 := HS0.out
  clear HB0 HK HS0
  unfold ltArr at hb0 hk hs0
  rw [HN.out, HM.out, HQQ.out] at hb0 hk hs0
  generalize w.alloc (.cells #[.int .u8 l.kind, .int .i64 l.fr, .int .i64 l.to, .int .i64 l.term, .int .i64 l.index, .int .i64 l.was, .bool l.ok, .int .i64 l.commit, .int .i64 l.round, .slice l.eo n l.ecap, .slice l.vo m l.vcap, .slice l.io q l.icap] 27) = w0 at hb0 hk hs0 ⊢
  have hcA : ∀ w', Below (w.heap.size + 1) w0 w' → w'.cell? ⟨w.heap.size, 9, none⟩ = some (.slice l.eo n l.ecap) := fun w' hb => (Go.Joins.cell_of_block ((hb.block _ (by omega)).trans hk) 9)
  have c9 := hcA w0 (Below.refl _ _)
  have c10 : w0.cell? ⟨w.heap.size, 10, none⟩ = some (.slice l.vo m l.vcap) := Go.Joins.cell_of_block hk 10
  have c11 : w0.cell? ⟨w.heap.size, 11, none⟩ = some (.slice l.io q l.icap) := Go.Joins.cell_of_block hk 11
  have HCA := Lib.hid hcA
  have HB0 := Lib.hid hb0
  have HS0 := Lib.hid hs0
  clear hb0 hk hs0 hcA
  go_upto_region 2 with fail
  clear c9 c10 c11
  go_wp2_with fail
  obtain ⟨n0, hn0⟩ : ∃ n0 : Int, (n : Int) + m + q / 10 = n0 := ⟨_, rfl⟩
  have hn0a : (n : Int) + m + q / 10 ≤ n0 := by omega
  have hn0b : n0 ≤ 1000000000000000 := by omega
  rw [hn0]
  clear hn0
  go_loopw [3, 4] (fun m i wr => ∃ (k : Nat) (c : Int), k ≤ n ∧ i = .int .i64 k ∧ m = .int .i64 c ∧ n0 ≤ c ∧ c ≤ 1000000000000000 ∧ EnsBnd c (l.es.take k) ∧ Below (w.heap.size + 1) w0 wr) (fun _ i _ => n - (intOf i).toNat)
  case atStart => exact ⟨0, n0, by omega, rfl, rfl, by omega, hn0b, (by intro _ e he; simp at he), Below.refl _ _⟩
  case round =>
    obtain ⟨k, c, hk, rfl, rfl, hc0, hc1, hcs, hbel⟩ := hrel
    have HCS := Lib.hid hcs
    clear hcs
    have c9 := HCA.out wr hbel
    by_cases hlt : k < n
    · have i1 : (k : Int) < n := by omega
      by_cases hc2 : c ≤ 3000
      · have i2 : decide (c ≤ 3000) = true := by simpa using hc2
        have hkx : l.es[k]? = some (l.es[k]'(by rw [HN.out]; exact hlt)) := List.getElem?_eq_getElem _
        have htk : l.es.take (k + 1) = l.es.take k ++ [l.es[k]'(by rw [HN.out]; exact hlt)] := List.take_succ_eq_append_getElem _
        have hew := HQ.out.es _ (List.getElem_mem (l := l.es) (n := k) (by rw [HN.out]; exact hlt))
        obtain ⟨b, off, hao, hb, hc, hsub⟩ := (HX.out.1.below enSub_kept HB0.out (Nat.le_refl _)).at hkx
        generalize l.es[k]'(by rw [HN.out]; exact hlt) = x at hc hkx hew hsub htk
        have z1 := hew.text
        have z2 := hew.argn
        have z3 := hew.vn
        have HEW := Lib.hid hew
        have HTK := Lib.hid htk
        have HSUB := Lib.hid hsub
        obtain ⟨an, han⟩ : ∃ an, x.args.length = an := ⟨_, rfl⟩
        obtain ⟨vn, hvn⟩ : ∃ vn, x.vs.length = vn := ⟨_, rfl⟩
        obtain ⟨ts, hts⟩ : ∃ ts, x.text.size = ts := ⟨_, rfl⟩
        rw [hts] at z1
        rw [han] at z2
        rw [hvn] at z3
        have hcl : ∀ w', Below (w.heap.size + 1) w0 w' → ∀ j, j < 9 → w'.cell? ⟨b, off + k * 9 + j, none⟩ = (enCells x)[j]? := fun w' hb' j hj => (hb'.cell (p := ⟨b, _, none⟩) (show b < w.heap.size + 1 by omega)).trans (hc j hj)
        have e4 : wr.cell? ⟨b, off + k * 9 + 4, none⟩ = some (.int .u8 x.ck) := hcl wr hbel 4 (by decide)
        have e5 : wr.cell? ⟨b, off + k * 9 + 4 + 1, none⟩ = some (.string x.text) := hcl wr hbel 5 (by decide)
        have e6 : wr.cell? ⟨b, off + k * 9 + 4 + 1 + 1, none⟩ = some (.slice x.aao an x.acap) := (hcl wr hbel 6 (by decide)).trans (by rw [← han]; rfl)
        have e7 : wr.cell? ⟨b, off + k * 9 + 4 + 1 + 1 + 1, none⟩ = some (.int .i64 x.num) := hcl wr hbel 7 (by decide)
        have HCL := Lib.hid hcl
        have HTS := Lib.hid hts
        have HAN := Lib.hid han
        have HVN := Lib.hid hvn
        have HAO := Lib.hid hao
        rw [hao] at c9
        clear hkx hew hsub htk hc hcl hts han hvn hao
        go_upto_region 6 with fail
        have hba := hbel.alloc (by have := hbel.size; have := HS0.out; omega) (.cells #[.int .u8 x.ck, .string x.text, .slice x.aao an x.acap, .int .i64 x.num] 45)
        have hka := heap_alloc_new wr (.cells #[.int .u8 x.ck, .string x.text, .slice x.aao an x.acap, .int .i64 x.num] 45)
        obtain ⟨vb, hvb⟩ : ∃ vb, wr.heap.size = vb := ⟨_, rfl⟩
        have hvl : vb < (wr.alloc (.cells #[.int .u8 x.ck, .string x.text, .slice x.aao an x.acap, .int .i64 x.num] 45)).heap.size := by rw [← hvb]; simp
        have hbv : w.heap.size < vb := by have := hbel.size; have := HS0.out; omega
        clear c9 e4 e5 e6 e7
        rw [hvb] at hka ⊢
        generalize wr.alloc (.cells #[.int .u8 x.ck, .string x.text, .slice x.aao an x.acap, .int .i64 x.num] 45) = w7 at hba hka hvl ⊢
        have HKA := Lib.hid hka
        have d1 : w7.cell? ⟨vb, 1, none⟩ = some (.string x.text) := Go.Joins.cell_of_block hka 1
        have d2 : w7.cell? ⟨vb, 2, none⟩ = some (.slice x.aao an x.acap) := Go.Joins.cell_of_block hka 2
        have c9 : w7.cell? ⟨w.heap.size, 9, none⟩ = some (.slice (some ⟨b, off, none⟩) n l.ecap) := (HCA.out w7 hba).trans (by rw [HAO.out])
        have e8 : w7.cell? ⟨b, off + k * 9 + 8, none⟩ = some (.slice x.vao vn x.vcap) := (HCL.out w7 hba 8 (by decide)).trans (by rw [← HVN.out]; rfl)
        have s1 : IntKind.i64.wrap (c + (ts : Int) / 20) = c + (ts : Int) / 20 := IntWalk.i64_in _ (by omega)
        have s2 : IntKind.i64.wrap (c + (ts : Int) / 20 + an) = c + (ts : Int) / 20 + an := IntWalk.i64_in _ (by omega)
        have s3 : IntKind.i64.wrap (c + (ts : Int) / 20 + an + vn) = c + (ts : Int) / 20 + an + vn := IntWalk.i64_in _ (by omega)
        have hts := HTS.out
        have hkn : ¬ n ≤ k := by omega
        clear hka hvb hbel
        go_quiet (fail)
        clear s1 s2 s3 c9 e8 d1
        obtain ⟨c1, hc1e⟩ : ∃ c1 : Int, c + (ts : Int) / 20 + an + vn = c1 := ⟨_, rfl⟩
        have q1 : c + (ts : Int) / 20 + an + vn ≤ c1 := by omega
        have q2 : c1 ≤ 100000000000000 := by omega
        rw [hc1e]
        clear hc1e
        go_wp2_with fail
        have hb8 : Below (w.heap.size + 1) w0 (w7.drewN nq) := below_drewN hba nq
        have hk8 : (w7.drewN nq).cell? ⟨vb, 2, none⟩ = some (.slice x.aao an x.acap) := d2
        clear hba d2 HKA hvl
        generalize w7.drewN nq = w8 at hb8 hk8 ⊢
        have HV := Lib.hid (HSUB.out.1.below noSub_kept hb8 (by omega))
        go_loop [3, 6] (fun m i => ∃ (j : Nat) (d : Int), j ≤ an ∧ i = .int .i64 j ∧ m = .int .i64 d ∧ c1 ≤ d ∧ d ≤ 1000000000000000 ∧ VasBnd d (x.args.take j)) (fun _ i => an - (intOf i).toNat)
        case atStart => exact ⟨0, c1, by omega, rfl, rfl, by omega, by omega, (by intro _ e he; simp at he)⟩
        case round =>
          obtain ⟨j, d, hj, rfl, rfl, hd0, hd1, hds⟩ := hrel
          have HDS := Lib.hid hds
          clear hds
          by_cases hjn : j < an
          · have i3 : (j : Int) < an := by omega
            by_cases hd2 : d ≤ 3000
            · have i4 : decide (d ≤ 3000) = true := by simpa using hd2
              have hjx : x.args[j]? = some (x.args[j]'(by rw [HAN.out]; exact hjn)) := List.getElem?_eq_getElem _
              have hjt : x.args.take (j + 1) = x.args.take j ++ [x.args[j]'(by rw [HAN.out]; exact hjn)] := List.take_succ_eq_append_getElem _
              have hvw := HEW.out.args _ (List.getElem_mem (l := x.args) (n := j) (by rw [HAN.out]; exact hjn))
              obtain ⟨b2, off2, hao2, hb2, hcv, _⟩ := HV.out.at hjx
              generalize x.args[j]'(by rw [HAN.out]; exact hjn) = v at hcv hjx hvw hjt
              obtain ⟨us, hus⟩ : ∃ us, v.text.size = us := ⟨_, rfl⟩
              have z5 : us ≤ 140737488351232 := by rw [← hus]; exact hvw.2.2
              have e2 : w8.cell? ⟨b2, off2 + j * 3 + 2, none⟩ = some (.string v.text) := hcv 2 (by decide)
              have HJT := Lib.hid hjt
              have HUS := Lib.hid hus
              have s1 : IntKind.i64.wrap (d + (us : Int) / 20) = d + (us : Int) / 20 := IntWalk.i64_in _ (by omega)
              rw [hao2] at hk8
              clear hjt hjx hcv hvw hao2
              go_wp2_with fail
              go_round
              case rel =>
                refine ⟨j + 1, d + (us : Int) / 20, by omega, by go_num, rfl, by omega, by omega, fun h3 e he => ?_⟩
                rw [HJT.out] at he
                rcases List.mem_append.1 he with he | he
                · exact HDS.out hd2 e he
                · obtain rfl : e = v := by simpa using he
                  have := HUS.out
                  omega
              case measure => simp [intOf]; omega
            · have i4 : decide (d ≤ 3000) = false := by simpa using hd2
              go_wp2_with fail
              go_roundw
              case rel => exact ⟨k + 1, d, by omega, by go_num, rfl, by omega, hd1, fun h3 => absurd h3 hd2, hb8⟩
              case measure => simp [intOf]; omega
          · have i3 : ¬ (j : Int) < an := by omega
            have hend : EnsBnd d (l.es.take (k + 1)) := fun h3 e he => by
              rw [HTK.out] at he
              rcases List.mem_append.1 he with he | he
              · exact HCS.out hc2 e he
              · obtain rfl : e = x := by simpa using he
                have h1 := HTS.out
                have h2 := HAN.out
                have h4 := HVN.out
                refine ⟨by omega, by omega, by omega, ?_⟩
                have h5 := HDS.out h3
                rwa [List.take_of_length_le (by omega)] at h5
            have HEND := Lib.hid hend
            clear hend
            go_wp2_with fail
            go_roundw
            case rel => exact ⟨k + 1, d, by omega, by go_num, rfl, by omega, hd1, HEND.out, hb8⟩
            case measure => simp [intOf]; omega
      · have i2 : decide (c ≤ 3000) = false := by simpa using hc2
        have g1 : (3000 : Int) < c := by omega
        go_wp2_with fail
        go_ret
        exact ⟨true, rfl, (fun h => by cases h), HB0.out.trans (hbel.mono (by omega))⟩
    · have i1 : ¬ (k : Int) < n := by omega
      obtain rfl : k = n := by omega
      by_cases hc2 : c ≤ 3000
      · have g1 : decide ((3000 : Int) < c) = false := by simpa using hc2
        have hfin := HFO.out (fun e he => HCS.out hc2 e (by rw [List.take_of_length_le (by have := HN.out; omega)]; exact he)) (by have := HN.out; omega) (by have := HM.out; omega) (by have := HQQ.out; omega)
        have HFI := Lib.hid hfin
        clear hfin
        go_wp2_with fail
        go_ret
        exact ⟨false, rfl, fun _ => HFI.out, HB0.out.trans (hbel.mono (by omega))⟩
      · have g1 : decide ((3000 : Int) < c) = true := by simpa using hc2
        go_wp2_with fail
        go_ret
        exact ⟨true, rfl, (fun h => by cases h), HB0.out.trans (hbel.mono (by omega))⟩
end Go.Proofs.YthdpfchbomaigaaDoor
/- Rows of a call's own: what one of them is where another one grows or is written. No program. Conditions: as each says. -/
namespace Go.Proofs.YthdpfchbomaigaaDoor
open Go.RowKit
/-- Two slices lie in blocks of their own. -/
def Sep (u v : Value) : Prop := ∀ b, u.ownBlock = some b → v.ownBlock ≠ some b
theorem Sep.symm {u v : Value} (h : Sep u v) : Sep v u := fun b hv hu => h b hu hv
theorem Sep.ne {u v : Value} (h : Sep u v) : u.ownBlock = none ∨ u.ownBlock ≠ v.ownBlock := by
  cases hu : u.ownBlock with
  | none => exact Or.inl rfl
  | some b => exact Or.inr fun he => h b hu he.symm
theorem own_prefix {w : World} {B E SZ g c n m : Nat} {xs : List Value} (h : w.ownsRow B E SZ (.slice (some ⟨g, 0, none⟩) m c) m xs) (hn : n ≤ m) : w.ownsRow B E SZ (.slice (some ⟨g, 0, none⟩) n c) n (xs.take (n * SZ)) := by
  have hm := Nat.mul_le_mul_right SZ hn
  rcases h.2 with ⟨h', _⟩ | ⟨g', c', cur, h', h1, h2, h3, h4, h5, h6⟩
  · cases h'
  · cases h'
    refine ⟨?_, Or.inr ⟨g, c, cur, rfl, h1, h2, by omega, h4, h5, ?_⟩⟩
    · rw [List.length_take, h.1]; omega
    · rw [← h6, List.take_take]; congr 1; omega
theorem own_same {w : World} {B E SZ g c c2 n m : Nat} {xs ys : List Value} (h : w.ownsRow B E SZ (.slice (some ⟨g, 0, none⟩) m c) m xs) (h2 : w.ownsRow B E SZ (.slice (some ⟨g, 0, none⟩) n c2) n ys) (hz : 0 < SZ) : c = c2 := by
  rcases h.2 with ⟨h', _⟩ | ⟨_, _, cur, h', _, k2, _, _, k5, _⟩
  · cases h'
  · cases h'
    rcases h2.2 with ⟨h', _⟩ | ⟨_, _, cur', h', _, l2, _, _, l5, _⟩
    · cases h'
    · cases h'
      rw [k2] at l2
      simp only [Option.some.injEq, Obj.cells.injEq] at l2
      rw [l2.1, l5] at k5
      exact Nat.eq_of_mul_eq_mul_right hz k5.symm
/-- The marks of a row's first places. -/
def mks (mk : Nat → Nat → List Value) (k n : Nat) : List Value := (List.range n).flatMap (mk k)
theorem mks_succ (mk : Nat → Nat → List Value) (k n : Nat) : mks mk k (n + 1) = mks mk k n ++ mk k n := by
  unfold mks; rw [List.range_succ, List.flatMap_append]; simp
theorem mks_len {mk : Nat → Nat → List Value} {SZ : Nat} (h : ∀ k i, (mk k i).length = SZ) (k n : Nat) : (mks mk k n).length = n * SZ := by
  unfold mks; rw [flat_len (h k), List.length_range]
theorem mks_take {mk : Nat → Nat → List Value} {SZ : Nat} (h : ∀ k i, (mk k i).length = SZ) (k n d : Nat) : (mks mk k (n + d)).take (n * SZ) = mks mk k n := by
  induction d with
  | zero => rw [Nat.add_zero, List.take_of_length_le (by rw [mks_len h]; exact Nat.le_refl _)]
  | succ d ih => rw [← Nat.add_assoc, mks_succ, List.take_append_of_le_length (by rw [mks_len h]; exact Nat.mul_le_mul_right _ (by omega)), ih]
theorem mks_get {mk : Nat → Nat → List Value} {SZ : Nat} (h : ∀ k i, (mk k i).length = SZ) (k n i j : Nat) (hi : i < n) (hj : j < SZ) : (mks mk k n)[i * SZ + j]? = (mk k i)[j]? := by
  unfold mks
  exact flat_get (h k) (List.range n) i i (by simp [hi]) j hj
/-- While a row is grown one by one: what has been appended, and the row itself as it was. -/
def GrowAt (B E SZ : Nat) (mk : Nat → Nat → List Value) (k hs : Nat) (r : Value) (n q : Nat) (v : Value) (w : World) : Prop :=
  w.ownsRow B E SZ v (n + q) (mks mk k (n + q)) ∧ w.ownsRow B E SZ r n (mks mk k n) ∧ (v.ownBlock = r.ownBlock ∨ ∀ b, v.ownBlock = some b → hs ≤ b)
theorem grow_start {B E SZ : Nat} {mk : Nat → Nat → List Value} {k hs : Nat} {r : Value} {n : Nat} {w : World} (h : w.ownsRow B E SZ r n (mks mk k n)) : GrowAt B E SZ mk k hs r n 0 r w := ⟨h, h, Or.inl rfl⟩
theorem grow_alloc {B E SZ : Nat} {mk : Nat → Nat → List Value} {k hs : Nat} {r : Value} {n q : Nat} {v : Value} {w : World} (h : GrowAt B E SZ mk k hs r n q v w) (o : Obj) : GrowAt B E SZ mk k hs r n q v (w.alloc o) := ⟨h.1.alloc o, h.2.1.alloc o, h.2.2⟩
theorem grow_fits {B E SZ : Nat} {mk : Nat → Nat → List Value} (hmk : ∀ k i, (mk k i).length = SZ) (hz : 0 < SZ) {k hs : Nat} {r : Value} {n q g c : Nat} {w w' : World} (h : GrowAt B E SZ mk k hs r n q (.slice (some ⟨g, 0, none⟩) (n + q) c) w) (hr : ∀ b, r.ownBlock = some b → b < hs)
    (hown : w'.ownsRow B E SZ (.slice (some ⟨g, 0, none⟩) (n + q + 1) c) (n + q + 1) (mks mk k (n + q) ++ mk k (n + q))) (hg : w.grownBy w' (some g)) : GrowAt B E SZ mk k hs r n (q + 1) (.slice (some ⟨g, 0, none⟩) (n + q + 1) c) w' := by
  have hown' : w'.ownsRow B E SZ (.slice (some ⟨g, 0, none⟩) (n + q + 1) c) (n + q + 1) (mks mk k (n + q + 1)) := by rw [mks_succ]; exact hown
  refine ⟨hown', ?_, ?_⟩
  · rcases h.2.2 with hb | hb
    · have hb' : r.ownBlock = some g := hb.symm
      rcases Go.Joins.ownsRow_forms h.2.1 with ⟨hr0, _⟩ | ⟨g2, c2, hr2⟩
      · rw [hr0] at hb'; simp [Value.ownBlock] at hb'
      · rw [hr2] at hb'
        simp [Value.ownBlock] at hb'
        subst hb'
        have h2 := h.2.1
        rw [hr2] at h2 ⊢
        have hc := own_same h.1 h2 hz
        subst hc
        have h3 := own_prefix hown' (show n ≤ n + q + 1 by omega)
        rwa [show n + q + 1 = n + (q + 1) by omega, mks_take hmk] at h3
    · have hge := hb g rfl
      refine World.ownsRow.kept h.2.1 hg ?_
      cases hrb : r.ownBlock with
      | none => exact Or.inl rfl
      | some b => exact Or.inr fun he => by have := hr b hrb; cases he; omega
  · exact h.2.2
theorem grow_new {B E SZ : Nat} {mk : Nat → Nat → List Value} {k hs : Nat} {r : Value} {n q : Nat} {v v' : Value} {w w' : World} (h : GrowAt B E SZ mk k hs r n q v w) (hw : hs ≤ w.heap.size) (hB : B ≤ w.heap.size)
    (hown : w'.ownsRow w.heap.size E SZ v' (n + q + 1) (mks mk k (n + q) ++ mk k (n + q))) (hg : w.grownBy w' none) : GrowAt B E SZ mk k hs r n (q + 1) v' w' := by
  refine ⟨?_, World.ownsRow.kept h.2.1 hg (by cases r.ownBlock <;> simp), Or.inr fun b hb => ?_⟩
  · show w'.ownsRow B E SZ v' (n + (q + 1)) (mks mk k (n + (q + 1)))
    rw [← Nat.add_assoc, mks_succ]
    exact Go.Joins.ownsRow_le hown hB
  · have := (hown.lt b hb).1; omega
/-- Rows, by their numbers. -/
def RowsAt (B E SZ K : Nat) (R : Nat → Value) (n : Nat → Nat) (C : Nat → List Value) (w : World) : Prop := ∀ j, j < K → w.ownsRow B E SZ (R j) (n j) (C j)
def SepAll (K : Nat) (R : Nat → Value) : Prop := ∀ i j, i < K → j < K → i ≠ j → Sep (R i) (R j)
theorem RowsAt.kept {B E SZ K : Nat} {R : Nat → Value} {n : Nat → Nat} {C : Nat → List Value} {w w' : World} {row : Option Nat} (h : RowsAt B E SZ K R n C w) (hg : w.grownBy w' row) (hne : ∀ j, j < K → (R j).ownBlock = none ∨ (R j).ownBlock ≠ row) : RowsAt B E SZ K R n C w' := fun j hj => World.ownsRow.kept (h j hj) hg (hne j hj)
theorem RowsAt.upd {B E SZ K : Nat} {R : Nat → Value} {n : Nat → Nat} {C : Nat → List Value} {w w' : World} {k : Nat} {x : List Value} (h : RowsAt B E SZ K R n C w) (hs : SepAll K R) (hk : k < K) (hg : w.grownBy w' (R k).ownBlock) (hx : w'.ownsRow B E SZ (R k) (n k) x) : RowsAt B E SZ K R n (fun j => if j = k then x else C j) w' := by
  intro j hj
  by_cases e : j = k
  · subst e; simpa using hx
  · simp only [e, if_false]
    exact World.ownsRow.kept (h j hj) hg (hs j k hj hk e).ne
theorem RowsAt.congr {B E SZ K : Nat} {R : Nat → Value} {n : Nat → Nat} {C C' : Nat → List Value} {w : World} (h : RowsAt B E SZ K R n C w) (e : ∀ j, j < K → C j = C' j) : RowsAt B E SZ K R n C' w := fun j hj => e j hj ▸ h j hj
/-- A list by its places, one of them set. -/
theorem range_set {α : Type} (f : Nat → α) (K k : Nat) (u : α) : ((List.range K).map f).set k u = (List.range K).map fun j => if j = k then u else f j := by
  apply List.ext_getElem?
  intro i
  rw [List.getElem?_set, List.getElem?_map, List.getElem?_map]
  by_cases hi : i < K
  · rw [List.getElem?_range hi]
    by_cases e : k = i
    · subst e; simp [hi]
    · have e' : ¬ i = k := fun h => e h.symm
      simp [e, e']
  · rw [List.getElem?_eq_none (by simpa using hi)]
    simp
    omega
theorem range_get {α : Type} (f : Nat → α) (K k : Nat) (h : k < K) : ((List.range K).map f)[k]? = some (f k) := by
  rw [List.getElem?_map, List.getElem?_range h]; rfl
/-- The blocks of rows. -/
def ofRows (K : Nat) (R : Nat → Value) : Nat → Prop := fun b => ∃ j, j < K ∧ (R j).ownBlock = some b
/-- Below B nothing is changed, and of what was there no block of another type than U, nor one that is not in S. -/
structure Kb (S : Nat → Prop) (B U : Nat) (w w' : World) : Prop where
  below : Below B w w'
  other : ∀ (b : Nat) (cs : Array Value) (e : TypeId) (fz : Nat × Nat), w.heap[b]? = some (Obj.cells cs e fz) → e ≠ U → w'.heap[b]? = some (Obj.cells cs e fz)
  apart : ∀ b, b < w.heap.size → ¬ S b → w'.heap[b]? = w.heap[b]?
theorem Kb.refl (S : Nat → Prop) (B U : Nat) (w : World) : Kb S B U w w := ⟨Below.refl _ _, fun _ _ _ _ h _ => h, fun _ _ _ => rfl⟩
theorem Kb.size {S : Nat → Prop} {B U : Nat} {w w' : World} (h : Kb S B U w w') : w.heap.size ≤ w'.heap.size := h.below.size
theorem Kb.drew {S : Nat → Prop} {B U : Nat} {w w' : World} (h : Kb S B U w w') : Kb S B U w w'.drew := ⟨h.below.drew, h.other, h.apart⟩
theorem Kb.alloc {S : Nat → Prop} {B U : Nat} {w w' : World} (h : Kb S B U w w') (hB : B ≤ w'.heap.size) (o : Obj) : Kb S B U w (w'.alloc o) :=
  ⟨h.below.alloc hB o, fun b cs e fz hb he => by
    have h1 := h.other b cs e fz hb he
    rw [(World.grownBy_alloc w' o none).block b (Array.getElem?_eq_some_iff.1 h1).1 (by simp)]
    exact h1, fun b hb hs => ((World.grownBy_alloc w' o none).block b (Nat.lt_of_lt_of_le hb h.size) (by simp)).trans (h.apart b hb hs)⟩
theorem Kb.grownRow {S : Nat → Prop} {B U B2 SZ m n c g : Nat} {xs : List Value} {w w' w'' : World} (h : Kb S B U w w') (hg : w'.grownBy w'' (some g)) (hB : B ≤ w'.heap.size) (hown : w'.ownsRow B2 U SZ (.slice (some ⟨g, 0, none⟩) m c) n xs) (hB2 : B ≤ g) (hS : S g ∨ w.heap.size ≤ g) : Kb S B U w w'' :=
  ⟨h.below.grown hg hB (fun k hk => by cases hk; exact hB2), fun b cs e fz hb he => by
    have h1 := h.other b cs e fz hb he
    have hlt := (Array.getElem?_eq_some_iff.1 h1).1
    rw [hg.block b hlt ?_]
    · exact h1
    · intro hbg
      cases hbg
      rcases hown.2 with ⟨h', _⟩ | ⟨g', c', cur, h', _, h2, _⟩
      · cases h'
      · cases h'
        rw [h2] at h1
        simp only [Option.some.injEq, Obj.cells.injEq] at h1
        exact he h1.2.1.symm, fun b hb hs => (hg.block b (Nat.lt_of_lt_of_le hb h.size) (by intro e; cases e; rcases hS with h2 | h2; exact hs h2; omega)).trans (h.apart b hb hs)⟩
theorem Kb.grownNone {S : Nat → Prop} {B U : Nat} {w w' w'' : World} (h : Kb S B U w w') (hg : w'.grownBy w'' none) (hB : B ≤ w'.heap.size) : Kb S B U w w'' :=
  ⟨h.below.grown hg hB (fun k hk => by cases hk), fun b cs e fz hb he => by
    have h1 := h.other b cs e fz hb he
    rw [hg.block b (Array.getElem?_eq_some_iff.1 h1).1 (by simp)]
    exact h1, fun b hb hs => (hg.block b (Nat.lt_of_lt_of_le hb h.size) (by simp)).trans (h.apart b hb hs)⟩
theorem Kb.grownNew {S : Nat → Prop} {B U g : Nat} {w w' w'' : World} (h : Kb S B U w w') (hg : w'.grownBy w'' (some g)) (hB : B ≤ w'.heap.size) (hw : w.heap.size ≤ g) (hB2 : B ≤ g) : Kb S B U w w'' :=
  ⟨h.below.grown hg hB (fun k hk => by cases hk; exact hB2), fun b cs e fz hb he => by
    have h1 := h.other b cs e fz hb he
    have hlt := (Array.getElem?_eq_some_iff.1 hb).1
    rw [hg.block b (Array.getElem?_eq_some_iff.1 h1).1 (by intro hbg; cases hbg; omega)]
    exact h1, fun b hb hs => (hg.block b (Nat.lt_of_lt_of_le hb h.size) (by intro e; cases e; omega)).trans (h.apart b hb hs)⟩
theorem Kb.trans_below {S : Nat → Prop} {B U : Nat} {w w' w'' : World} (h : Kb S B U w w') (hb : Below w'.heap.size w' w'') (hB : B ≤ w'.heap.size) : Kb S B U w w'' :=
  ⟨h.below.trans (hb.mono hB), fun b cs e fz hb1 he => by
    have h1 := h.other b cs e fz hb1 he
    rw [hb.block b (Array.getElem?_eq_some_iff.1 h1).1]
    exact h1, fun b hb1 hs => (hb.block b (Nat.lt_of_lt_of_le hb1 h.size)).trans (h.apart b hb1 hs)⟩
end Go.Proofs.YthdpfchbomaigaaDoor
/- What is written between two marks of the heap, and nothing else. No program. Conditions: as each says. -/
namespace Go.Proofs.YthdpfchbomaigaaDoor
open Go.RowKit
set_option maxRecDepth 20000
/-- Neither below B anything is changed, nor of what is from T on. -/
structure Mid (B T : Nat) (w w' : World) : Prop where
  below : Below B w w'
  far : ∀ b, T ≤ b → b < w.heap.size → w'.heap[b]? = w.heap[b]?
theorem Mid.refl (B T : Nat) (w : World) : Mid B T w w := ⟨Below.refl _ _, fun _ _ _ => rfl⟩
theorem Mid.trans_below {B T : Nat} {w w' w'' : World} (h : Mid B T w w') (hb : Below w'.heap.size w' w'') (hB : B ≤ w'.heap.size) : Mid B T w w'' :=
  ⟨h.below.trans (hb.mono hB), fun b h1 h2 => (hb.block b (Nat.lt_of_lt_of_le h2 h.below.size)).trans (h.far b h1 h2)⟩
theorem Mid.grown {B T g : Nat} {w w' w'' : World} (h : Mid B T w w') (hg : w'.grownBy w'' (some g)) (hB : B ≤ w'.heap.size) (h1 : B ≤ g) (h2 : g < T) : Mid B T w w'' :=
  ⟨h.below.grown hg hB (fun b hb => by cases hb; exact h1), fun b h3 h4 => (hg.block b (Nat.lt_of_lt_of_le h4 h.below.size) (by intro he; cases he; omega)).trans (h.far b h3 h4)⟩
theorem Mid.bytes {B T C : Nat} {w w' : World} {a : Option Addr} {L : List Int} (h : Mid B T w w') (hx : BytesIn w C a L) (hC : C ≤ w.heap.size) (ha : ∀ ad, a = some ad → T ≤ ad.block) : BytesIn w' C a L := by
  rcases hx with h0 | ⟨b, off, h1, h2, h3⟩
  · exact Or.inl h0
  · refine Or.inr ⟨b, off, h1, h2, fun i hi => ?_⟩
    have hT : T ≤ b := ha _ h1
    rw [← h3 i hi]
    simp [World.cell?, h.far b hT (by omega)]
/-- Appending bytes; where the longer row lies. -/
theorem wpList_append_bytes_at {w : World} {ops : Array Oper} {rest : List Oper} {o : Oper} {a : Act} {Q : Exit → Act → World → Prop} (hgd : o.guard = none) (s x : Operand)
    (ho : o.op = .call { callee := .builtin .append, args := #[s, x], argTypes := #[25, 25] })
    (base : Nat) (v : Value) (l : List Int) (m : Nat) (hm : l.length = m) (hs : a.eval s = v) (hown : w.ownsRow base 5 1 v m (l.map bv))
    (ao : Option Addr) (n cap : Nat) (xs : List Int) (hn : xs.length = n) (hx : a.eval x = .slice ao n cap) (B : Nat) (hin : BytesIn w B ao xs) (hao : ao = none → cap = 0) (hlim : m + n ≤ 140737488351232) (hbase : base ≤ w.heap.size)
    (h : ∀ v' w', w'.ownsRow base 5 1 v' (m + n) ((l ++ xs).map bv) → w.grownBy w' v.ownBlock → (v'.ownBlock = v.ownBlock ∨ v'.ownBlock = some w.heap.size) → wpList Tryd.prog ops Q rest (a.put o.dst v') w') : wpList Tryd.prog ops Q (o :: rest) a w := by
  obtain ⟨i0, hi, hz0, hz1, hz2⟩ := info_parts infoByte
  subst hm hn
  cases ao with
  | none =>
    have hnil : xs = [] := by
      rcases hin with h | ⟨b, off, h1, _⟩
      · exact h
      · cases h1
    subst hnil
    rw [hao rfl] at hx
    refine wpList_append_own_none hgd s x _ ho base 5 i0 1 Tryd.underlying25 hi v l.length _ hs hown hx ?_
    refine h v w (by simpa using hown) ?_ (Or.inl rfl)
    exact World.grownBy.refl _ _
  | some ad =>
    refine wpList_append_own_at _ hgd s x _ ho base 5 i0 (.int .u8 0) 1 1 Tryd.underlying25 hi hz0 hz1 hz2 rfl (by decide) v l.length _ hs hown ad xs.length cap (xs.map bv) hx (by simp) ?_ (bytes_oneCell _) (by unfold maxLen; omega) (by omega) hbase ?_
    · intro j u hu
      exact cells_of_bytes hin (Below.refl _ _) rfl hu
    · intro v' w' h1 h2 _ h3
      refine h v' w' ?_ h2 h3
      rw [List.map_append]
      exact h1
end Go.Proofs.YthdpfchbomaigaaDoor
/- Rows of bytes that lie apart are found to do so. Conditions: each row is the call's own, in a block of its own. -/
namespace Go.Proofs.YthdpfchbomaigaaDoor
open Go.RowKit
set_option maxRecDepth 20000
def markN (k i : Nat) : Int := 1000003 * ((k : Int) + 7) + i
def markBK (k i : Nat) : Int := IntKind.u64.wrap (markN k i * 11400714819323198485) / 72057594037927936 % 256
def mkB (k i : Nat) : List Value := [.int .u8 (markBK k i)]
theorem mkB_len (k i : Nat) : (mkB k i).length = 1 := rfl
theorem take_set_succ {l : List Value} {q : Nat} {u : Value} (h : q < l.length) : (l.set q u).take (q + 1) = l.take q ++ [u] := by
  rw [List.take_succ_eq_append_getElem (by simpa using h)]
  congr 1
  · exact List.take_set_of_le (Nat.le_refl _)
  · simp
theorem own_cap' {w : World} {base e size n m cap : Nat} {ao : Option Addr} {xs : List Value} (h : w.ownsRow base e size (.slice ao m cap) n xs) : m ≤ cap := by
  rcases h.2 with ⟨h', _⟩ | ⟨g, cap', cur, h', _, _, h3, _⟩
  · cases h'; omega
  · cases h'; exact h3
theorem infoRowB : (Tryd.prog.info? 25).map (fun i => (i.zero, i.size, i.bytes)) = some (some (.slice none 0 0), 1, 24) := by kernel_rfl
theorem made_list (z : Value) (n : Nat) : (madeCells #[z] n).toList = (List.range n).map fun _ => z := by
  apply List.ext_getElem?
  intro i
  rw [List.getElem?_map, Array.getElem?_toList]
  by_cases hi : i < n
  · rw [List.getElem?_range hi]; simp [madeCells, hi, Nat.mod_one]
  · rw [List.getElem?_eq_none (by simpa using hi), Array.getElem?_eq_none (by simp [size_madeCells]; omega)]; rfl
/-- A row that lies apart from the one that is grown. -/
theorem grow_other {w : World} {B E SZ B2 E2 S2 k hs n n2 q g c : Nat} {mk : Nat → Nat → List Value} {r u : Value} {xs : List Value} (h : GrowAt B E SZ mk k hs r n q (.slice (some ⟨g, 0, none⟩) (n + q) c) w) (hu : w.ownsRow B2 E2 S2 u n2 xs) (hs2 : ∀ b, u.ownBlock = some b → b < hs) (hsep : Sep u r) : u.ownBlock = none ∨ u.ownBlock ≠ some g := by
  cases hub : u.ownBlock with
  | none => exact Or.inl rfl
  | some b =>
    right
    intro he
    cases he
    rcases h.2.2 with h1 | h1
    · exact hsep g hub h1.symm
    · have := h1 g rfl
      have := hs2 g hub
      omega
/-- A row's slice, as it looks. -/
theorem row_form {w : World} {B E SZ n : Nat} {v : Value} {xs : List Value} (h : w.ownsRow B E SZ v n xs) : ∃ a c, v = .slice a n c ∧ (a = none → n = 0 ∧ c = 0) ∧ (0 < c → ∃ g, a = some ⟨g, 0, none⟩) ∧ n ≤ c := by
  have h0 := h
  rcases Go.Joins.ownsRow_forms h with ⟨rfl, hz⟩ | ⟨g, c, rfl⟩
  · exact ⟨none, 0, by rw [hz], fun _ => ⟨hz, rfl⟩, fun h => by omega, by omega⟩
  · exact ⟨_, c, rfl, by simp, fun _ => ⟨g, rfl⟩, own_cap' h0⟩
theorem sizeRowB : ∀ w, (sizeOf (Tryd.prog.elem 53)).run Tryd.prog w = .ok 1 w := fun _ => by kernel_rfl
end Go.Proofs.YthdpfchbomaigaaDoor
/- CopyBytes: bytes of a call's own, and stores among them. Conditions: as each says. -/
namespace Go.Proofs.YthdpfchbomaigaaDoor
open Go.RowKit
set_option maxRecDepth 20000
theorem own_at {w : World} {base n c : Nat} {ao : Option Addr} {l : List Int} (hn : l.length = n) (h : w.ownsRow base 5 1 (.slice ao n c) n (l.map bv)) : BytesIn w w.heap.size ao l := by
  subst hn
  obtain ⟨a', c', hv, hB⟩ := own_bytes h
  cases hv
  exact hB
theorem own_pos {w : World} {base e size n : Nat} {v : Value} {xs : List Value} (h : w.ownsRow base e size v n xs) (hn : 0 < n) : ∃ g c, v = .slice (some ⟨g, 0, none⟩) n c := by
  rcases Go.Joins.ownsRow_forms h with ⟨_, hz⟩ | ⟨g, cap', rfl⟩
  · omega
  · exact ⟨g, cap', rfl⟩
theorem copyB_any (ao : Option Addr) (n cap : Nat) (xs : List Int) (w : World) (B : Nat) (hn : xs.length = n) (hx : BytesIn w B ao xs) (hB : B ≤ w.heap.size) (hao : ao = none → cap = 0) (hl : n ≤ 1099511627776) :
    Calls Tryd.prog 11 #[.slice ao n cap] w fun e w' => ∃ a c, e = .returned (.slice a n c) ∧ w'.ownsRow w.heap.size 5 1 (.slice a n c) n (xs.map bv) ∧ Below w.heap.size w w' := by
  subst hn
  have HX := Lib.hid hx
  have HA := Lib.hid hao
  clear hx hao
  go_enter Tryd.func11, Tryd.ntmps11
  go_wp2_with (at_builtin; refine wpList_append_bytes_at rfl (.tmp 4) (.tmp 5) rfl w.heap.size (.slice none 0 0) [] 0 rfl rfl (World.ownsRow_nil _ _ _ _) ao xs.length cap xs rfl rfl B HX.out HA.out (by omega) (Nat.le_refl _) ?_)
  intro v2 w2 hown hg _
  have hb : Below w.heap.size w w2 := (Below.refl w.heap.size w).grown hg (Nat.le_refl _) (fun k hk => by cases hk)
  obtain ⟨a, c, hv, _⟩ := own_bytes hown
  subst hv
  have HO := Lib.hid hown
  clear hown hg
  go_wp2_with fail
  go_ret
  exact ⟨a, c, rfl, HO.out, hb⟩
/-- The same, at an operation that is guarded, and wanted. -/
theorem wpList_append_bytes_g {w : World} {ops : Array Oper} {rest : List Oper} {o : Oper} {a : Act} {Q : Exit → Act → World → Prop} (hgd : Region.wanted o (yielded ops a.tmps) = true) (s x : Operand)
    (ho : o.op = .call { callee := .builtin .append, args := #[s, x], argTypes := #[25, 25] })
    (base : Nat) (v : Value) (l : List Int) (hs : a.eval s = v) (hown : w.ownsRow base 5 1 v l.length (l.map bv))
    (ad : Addr) (cap : Nat) (xs : List Int) (hx : a.eval x = .slice (some ad) xs.length cap) (B : Nat) (hin : BytesIn w B (some ad) xs) (hlim : l.length + xs.length ≤ 140737488351232) (hbase : base ≤ w.heap.size)
    (h : ∀ v' w' l', Hid (l' = l ++ xs) → w'.ownsRow base 5 1 v' l'.length (l'.map bv) → w.grownBy w' v.ownBlock → wpList Tryd.prog ops Q rest (a.put o.dst v') w') : wpList Tryd.prog ops Q (o :: rest) a w := by
  obtain ⟨i0, hi, hz0, hz1, hz2⟩ := info_parts infoByte
  unfold wpList
  rw [if_pos hgd]
  left
  obtain ⟨v', w', hrun, r1, r2, _⟩ := run_append_own (P := Tryd.prog) w base 25 o.type 5 i0 (.int .u8 0) 1 1 Tryd.underlying25 hi hz0 hz1 hz2 rfl (by decide) v l.length _ hown ad xs.length cap (xs.map bv) (by simp) (fun j u hu => cells_of_bytes hin (Below.refl _ _) rfl hu) (bytes_oneCell _) (by unfold maxLen; omega) (by omega) hbase
  unfold Oper.wp
  simp [execOp, ho, resolve, invoke, builtin, hs, hx, hrun, Result.andThen]
  refine h v' w' (l ++ xs) (Lib.hid rfl) ?_ r2
  rw [List.length_append, List.map_append]
  exact r1
theorem wf_append {l m : List Int} (h : BytesWf l) (h2 : BytesWf m) : BytesWf (l ++ m) := fun x hx => (List.mem_append.1 hx).elim (h x) (h2 x)
theorem made_in (w : World) (n B : Nat) (g : Nat) (hg : g = w.heap.size) (hB : g < B) : BytesIn (w.alloc (.cells (madeCells #[.int .u8 0] n) 5)) B (some ⟨g, 0, none⟩) (List.replicate n 0) := by
  subst hg
  refine Or.inr ⟨_, 0, rfl, hB, fun i hi => ?_⟩
  have hi' : i < n := by simpa using hi
  rw [Nat.zero_add, Go.Joins.cell_of_block (heap_alloc_new w _) i, ← Array.getElem?_toList, made_list, List.getElem?_map, List.getElem?_range hi']
  simp [List.getD, hi']
theorem rep_wf (n : Nat) : BytesWf (List.replicate n 0) := by
  intro x hx
  rw [List.eq_of_mem_replicate hx]; omega
theorem u8_xor {x : Int} (hx : 0 ≤ x ∧ x < 256) : 0 ≤ bits .xor .u8 x 128 ∧ bits .xor .u8 x 128 < 256 := by
  show 0 ≤ IntKind.u8.wrap _ ∧ IntKind.u8.wrap _ < 256
  unfold IntKind.wrap
  simp [IntKind.signed, IntKind.bits]
  omega
theorem wf_set {l : List Int} {k : Nat} {y : Int} (h : BytesWf l) (hy : 0 ≤ y ∧ y < 256) : BytesWf (l.set k y) := by
  intro x hx
  rcases List.mem_or_eq_of_mem_set hx with hx | hx
  · exact h x hx
  · rw [hx]; exact hy
end Go.Proofs.YthdpfchbomaigaaDoor
/- Pick: any number is brought into 0 to n - 1. Condition: n is at least 1. -/
namespace Go.Proofs.YthdpfchbomaigaaDoor
open Go.RowKit
set_option maxRecDepth 20000
theorem pick_eq (a k : Int) (hk : 1 ≤ k) : a.tmod k = a % k ∨ (a.tmod k < 0 ∧ a.tmod k + k = a % k) := by
  have h4 := Int.emod_lt_of_pos a (show 0 < k by omega)
  rw [Int.tmod_eq_emod]
  split
  · left; omega
  · right; omega
theorem pick_any (a k : Int) (hk : 1 ≤ k) (hk2 : k ≤ 2000000) (w : World) :
    Calls Tryd.prog 12 #[.int .i64 a, .int .i64 k] w fun e w' => e = .returned (.int .i64 (a % k)) ∧ w = w' := by
  have he := pick_eq a k hk
  have hlo : -k < a.tmod k := Int.lt_tmod_of_pos a (by omega)
  have hhi : a.tmod k < k := Int.tmod_lt_of_pos a (by omega)
  have h1 := Int.emod_nonneg a (show k ≠ 0 by omega)
  have HE := Lib.hid he
  clear he
  by_cases hn : a.tmod k < 0
  · go_enter Tryd.func12, Tryd.ntmps12
    go_wp2
    go_ret
    exact ⟨ret_int (by have := HE.out; omega), rfl⟩
  · go_enter Tryd.func12, Tryd.ntmps12
    go_wp2
    go_ret
    exact ⟨ret_int (by have := HE.out; omega), rfl⟩
end Go.Proofs.YthdpfchbomaigaaDoor
