/- Facts and replies as they lie in memory; SameFact, SameFacts, SameReply tell that what reads alike is the same. Conditions: the cells lie as their readings say. -/
import Derived.Test.YtnfldkebjeigiaaDoorEnSame
namespace Go.Proofs.YtnfldkebjeigiaaDoor
open Go.RowKit
set_option maxRecDepth 20000

/-- A fact: its number, its type, its arguments. -/
structure Fa where
  id : Int
  ty : Int
  ao : Option Addr
  args : List Va
  cap : Nat
def faCells (f : Fa) : List Value := [.int .i64 f.id, .int .i64 f.ty, .slice f.ao f.args.length f.cap]
theorem faCells_len (f : Fa) : (faCells f).length = 3 := rfl
theorem faCells_one (x : Fa) : ∀ u ∈ faCells x, u.oneCell' = true := by intro u hu; simp [faCells] at hu; rcases hu with rfl | rfl | rfl <;> rfl
def faSub (w : World) (B : Nat) (f : Fa) : Prop := ValsIn w B f.ao f.args
theorem faSub_kept : Kept faSub := fun _ _ _ _ _ h hb hB => h.below noSub_kept hb hB
theorem faSub_rising : Rising faSub := fun _ _ _ _ h hB => h.mono noSub_rising hB
def FasIn (w : World) (B : Nat) (ao : Option Addr) (xs : List Fa) : Prop := RowsIn 3 faCells faSub w B ao xs
/-- What a fact says, wherever it lies. -/
structure FaP where
  id : Int
  ty : Int
  args : List Va
def Fa.plain (f : Fa) : FaP := ⟨f.id, f.ty, f.args⟩
def faVal (f : Fa) : Value := .agg #[.int .i64 f.id, .int .i64 f.ty, .slice f.ao f.args.length f.cap]
/-- A reply: its error, its number, its facts, its values. -/
structure Rp where
  err : Int
  num : Int
  fo : Option Addr
  facts : List Fa
  fcap : Nat
  so : Option Addr
  said : List Va
  scap : Nat
def rpSub (w : World) (B : Nat) (r : Rp) : Prop := FasIn w B r.fo r.facts ∧ ValsIn w B r.so r.said
theorem rpSub_kept : Kept rpSub := fun _ _ _ _ _ h hb hB => ⟨h.1.below faSub_kept hb hB, h.2.below noSub_kept hb hB⟩
theorem rpSub_rising : Rising rpSub := fun _ _ _ _ h hB => ⟨h.1.mono faSub_rising hB, h.2.mono noSub_rising hB⟩
structure RpP where
  err : Int
  num : Int
  facts : List FaP
  said : List Va
def Rp.plain (r : Rp) : RpP := ⟨r.err, r.num, r.facts.map Fa.plain, r.said⟩
def rpVal (r : Rp) : Value := .agg #[.int .i64 r.err, .int .i64 r.num, .slice r.fo r.facts.length r.fcap, .slice r.so r.said.length r.scap]

theorem sameFa_any (x y : Fa) (w : World) (B : Nat) (hp : x.plain = y.plain) (hx : faSub w B x) (hy : faSub w B y) (hB : B ≤ w.heap.size) (hl : x.args.length ≤ 4611686018427387904) :
    Calls Tryd.prog 31 #[faVal x, faVal y] w fun e w' => e = .returned (.bool true) ∧ Below w.heap.size w w' := by
  obtain ⟨id, ty, ao, args, cap⟩ := x
  obtain ⟨id2, ty2, ao2, args2, cap2⟩ := y
  simp only [Fa.plain, FaP.mk.injEq] at hp
  obtain ⟨rfl, rfl, rfl⟩ := hp
  unfold faVal
  dsimp only at hl ⊢
  have HX := Lib.hid hx
  have HY := Lib.hid hy
  clear hx hy
  obtain ⟨n, hn⟩ : ∃ n, args.length = n := ⟨_, rfl⟩
  rw [hn] at hl ⊢
  have HN := Lib.hid hn
  clear hn
  have hb := ((Below.refl w.heap.size w).alloc (Nat.le_refl _) (.cells #[.int .i64 id, .int .i64 ty, .slice ao n cap] 27)).alloc (by simp) (.cells #[.int .i64 id, .int .i64 ty, .slice ao2 n cap2] 27)
  have hs1 := hb.size
  go_enter Tryd.func31, Tryd.ntmps31
  go_wp2_with fail
  refine (sameV_any ao n cap ao2 n cap2 args _ B HN.out HN.out (HX.out.below noSub_kept (hb.mono hB) (Nat.le_refl _)) (HY.out.below noSub_kept (hb.mono hB) (Nat.le_refl _)) (Nat.le_trans hB hs1) hl).mono ?_
  rintro e w' ⟨rfl, hb2⟩
  have hb3 := hb.trans (hb2.mono hs1)
  go_wp2_with fail
  go_ret
  exact ⟨rfl, hb3⟩
theorem sameFas_any (ao : Option Addr) (n cap : Nat) (co : Option Addr) (m cap2 : Nat) (xs ys : List Fa) (w : World) (B : Nat) (hn : xs.length = n) (hm : ys.length = m) (he : xs.map Fa.plain = ys.map Fa.plain) (hx : FasIn w B ao xs) (hy : FasIn w B co ys) (hB : B ≤ w.heap.size) (hl : n ≤ 1099511627776) (hsm : ∀ x ∈ xs, x.args.length ≤ 1099511627776) :
    Calls Tryd.prog 62 #[.slice ao n cap, .slice co m cap2] w fun e w' => e = .returned (.bool true) ∧ Below w.heap.size w w' := by
  have hnm : xs.length = ys.length := by have := congrArg List.length he; simpa using this
  obtain rfl : n = m := by omega
  have HX := Lib.hid (hx.mono faSub_rising hB)
  have HY := Lib.hid (hy.mono faSub_rising hB)
  have HN := Lib.hid hn
  have HM := Lib.hid hm
  have HE := Lib.hid he
  have HS := Lib.hid hsm
  clear hx hy hn hm he hnm hsm
  go_enter Tryd.func62, Tryd.ntmps62
  go_wp2_with fail
  go_loopw [5] (fun i wr => ∃ k : Nat, k ≤ n ∧ i = .int .i64 k ∧ Below w.heap.size w wr) (fun i _ => n - (intOf i).toNat)
  case atStart => exact ⟨0, by omega, rfl, Below.refl _ _⟩
  case round =>
    obtain ⟨k, hk, rfl, hbel⟩ := hrel
    by_cases hlt : k < n
    · have hkx : xs[k]? = some (xs[k]'(by rw [HN.out]; exact hlt)) := List.getElem?_eq_getElem _
      have hky : ys[k]? = some (ys[k]'(by rw [HM.out]; exact hlt)) := List.getElem?_eq_getElem _
      have hsx := HS.out _ (List.getElem_mem (l := xs) (n := k) (by rw [HN.out]; exact hlt))
      have hp : (xs[k]'(by rw [HN.out]; exact hlt)).plain = (ys[k]'(by rw [HM.out]; exact hlt)).plain := by
        have := congrArg (fun l => l[k]?) HE.out
        simp only [List.getElem?_map, hkx, hky] at this
        simpa using this
      obtain ⟨b, off, hao, hb, hc, hcs⟩ := HX.out.at hkx
      obtain ⟨b2, off2, hco, hb2, hc2, hcs2⟩ := HY.out.at hky
      generalize xs[k]'(by rw [HN.out]; exact hlt) = x at hc hcs hp hsx
      generalize ys[k]'(by rw [HM.out]; exact hlt) = y at hc2 hcs2 hp
      have hcall : ∀ x' : Calm w.heap.size w, Calls Tryd.prog 31 #[faVal x, faVal y] x'.1 fun e w' => e = .returned (.bool true) ∧ Below x'.1.heap.size x'.1 w' := fun x' =>
        sameFa_any x y x'.1 w.heap.size hp (faSub_kept _ _ _ _ _ hcs x'.2 (Nat.le_refl _)) (faSub_kept _ _ _ _ _ hcs2 x'.2 (Nat.le_refl _)) x'.2.size (by omega)
      obtain ⟨id, ty, aao, args, acap⟩ := x
      obtain ⟨id2, ty2, aao2, args2, acap2⟩ := y
      simp only [Fa.plain, FaP.mk.injEq] at hp
      obtain ⟨rfl, rfl, rfl⟩ := hp
      unfold faVal at hcall
      dsimp only at hcall
      obtain ⟨an, han⟩ : ∃ an, args.length = an := ⟨_, rfl⟩
      rw [han] at hcall
      have HC := Lib.hid hcall
      subst hao hco
      have c0 : ∀ x' : Calm w.heap.size w, x'.1.cell? ⟨b, off + k * 3, none⟩ = some (.int .i64 id) := fun x' => x'.cell (hc 0 (by decide)) hb
      have c1 : ∀ x' : Calm w.heap.size w, x'.1.cell? ⟨b, off + k * 3 + 1, none⟩ = some (.int .i64 ty) := fun x' => x'.cell (hc 1 (by decide)) hb
      have c2 : ∀ x' : Calm w.heap.size w, x'.1.cell? ⟨b, off + k * 3 + 2, none⟩ = some (.slice aao an acap) := fun x' => x'.cell (han ▸ hc 2 (by decide)) hb
      have e0 : ∀ x' : Calm w.heap.size w, x'.1.cell? ⟨b2, off2 + k * 3, none⟩ = some (.int .i64 id) := fun x' => x'.cell (hc2 0 (by decide)) hb2
      have e1 : ∀ x' : Calm w.heap.size w, x'.1.cell? ⟨b2, off2 + k * 3 + 1, none⟩ = some (.int .i64 ty) := fun x' => x'.cell (hc2 1 (by decide)) hb2
      have e2 : ∀ x' : Calm w.heap.size w, x'.1.cell? ⟨b2, off2 + k * 3 + 2, none⟩ = some (.slice aao2 an acap2) := fun x' => x'.cell (han ▸ hc2 2 (by decide)) hb2
      have c2' : ∀ x' : Calm w.heap.size w, x'.1.cell? ⟨b, off + k * 3 + 1 + 1, none⟩ = some (.slice aao an acap) := c2
      have e2' : ∀ x' : Calm w.heap.size w, x'.1.cell? ⟨b2, off2 + k * 3 + 1 + 1, none⟩ = some (.slice aao2 an acap2) := e2
      have i1 : (k : Int) < n := by omega
      clear hc hc2 hkx hky hcall hcs hcs2 han
      go_wp2_with fail
      refine wp_region_calm (B := w.heap.size) (W0 := w) hbel (by kernel_rfl) (by kernel_rfl) ?_
      repeat (go_big_quiet_step ((go_at_call 31; exact Calm.call (Nat.le_refl _) (HC.out _))))
      refine wpQuiet_nil ?_
      intro w5 hb5
      clear c0 c1 c2 e0 e1 e2 c2' e2'
      go_wp2_with fail
      go_roundw
      case rel => exact ⟨k + 1, by omega, by go_num, hb5⟩
      case measure => simp [intOf]; omega
    · obtain rfl : k = n := by omega
      go_wp2_with fail
      go_ret
      exact ⟨rfl, hbel⟩
theorem sameRp_any (x y : Rp) (w : World) (B : Nat) (hp : x.plain = y.plain) (hx : rpSub w B x) (hy : rpSub w B y) (hB : B ≤ w.heap.size) (hl : x.facts.length ≤ 1099511627776) (hsm : ∀ f ∈ x.facts, f.args.length ≤ 1099511627776) (hl2 : x.said.length ≤ 4611686018427387904) :
    Calls Tryd.prog 29 #[rpVal x, rpVal y] w fun e w' => e = .returned (.bool true) ∧ Below w.heap.size w w' := by
  obtain ⟨er, num, fo, facts, fcap, so, said, scap⟩ := x
  obtain ⟨er2, num2, fo2, facts2, fcap2, so2, said2, scap2⟩ := y
  simp only [Rp.plain, RpP.mk.injEq] at hp
  obtain ⟨rfl, rfl, hf, rfl⟩ := hp
  unfold rpVal
  dsimp only at hl hl2 hsm ⊢
  have HX := Lib.hid hx
  have HY := Lib.hid hy
  have HF := Lib.hid hf
  have HS := Lib.hid hsm
  clear hx hy hsm
  obtain ⟨n, hn⟩ : ∃ n, facts.length = n := ⟨_, rfl⟩
  obtain ⟨m, hm⟩ : ∃ m, said.length = m := ⟨_, rfl⟩
  have hn2 : facts2.length = n := by have := congrArg List.length hf; simp at this; omega
  rw [hn] at hl ⊢
  rw [hm] at hl2 ⊢
  rw [hn2]
  have HN := Lib.hid hn
  have HN2 := Lib.hid hn2
  have HM := Lib.hid hm
  clear hn hn2 hm hf
  have hb := ((Below.refl w.heap.size w).alloc (Nat.le_refl _) (.cells #[.int .i64 er, .int .i64 num, .slice fo n fcap, .slice so m scap] 34)).alloc (by simp) (.cells #[.int .i64 er, .int .i64 num, .slice fo2 n fcap2, .slice so2 m scap2] 34)
  have hs1 := hb.size
  have k1 : ((w.alloc (.cells #[.int .i64 er, .int .i64 num, .slice fo n fcap, .slice so m scap] 34)).alloc (.cells #[.int .i64 er, .int .i64 num, .slice fo2 n fcap2, .slice so2 m scap2] 34)).heap[w.heap.size]? = some (.cells #[.int .i64 er, .int .i64 num, .slice fo n fcap, .slice so m scap] 34 (0, 0)) :=
    ((World.grownBy_alloc _ _ none).block _ (by simp) (by simp)).trans (heap_alloc_new w _)
  have k2 : ((w.alloc (.cells #[.int .i64 er, .int .i64 num, .slice fo n fcap, .slice so m scap] 34)).alloc (.cells #[.int .i64 er, .int .i64 num, .slice fo2 n fcap2, .slice so2 m scap2] 34)).heap[w.heap.size + 1]? = some (.cells #[.int .i64 er, .int .i64 num, .slice fo2 n fcap2, .slice so2 m scap2] 34 (0, 0)) := by
    have := heap_alloc_new (w.alloc (.cells #[.int .i64 er, .int .i64 num, .slice fo n fcap, .slice so m scap] 34)) (.cells #[.int .i64 er, .int .i64 num, .slice fo2 n fcap2, .slice so2 m scap2] 34)
    simpa using this
  have K1 := Lib.hid k1
  have K2 := Lib.hid k2
  clear k1 k2
  go_enter Tryd.func29, Tryd.ntmps29
  go_wp2_with fail
  refine (sameFas_any fo n fcap fo2 n fcap2 facts facts2 _ B HN.out HN2.out HF.out (HX.out.1.below faSub_kept (hb.mono hB) (Nat.le_refl _)) (HY.out.1.below faSub_kept (hb.mono hB) (Nat.le_refl _)) (Nat.le_trans hB hs1) hl HS.out).mono ?_
  rintro e w' ⟨rfl, hb2⟩
  have hlt1 := (Array.getElem?_eq_some_iff.1 K1.out).1
  have hlt2 := (Array.getElem?_eq_some_iff.1 K2.out).1
  have c1 : w'.cell? ⟨w.heap.size, 3, none⟩ = some (.slice so m scap) := Go.Joins.cell_of_block ((hb2.block _ hlt1).trans K1.out) 3
  have c2 : w'.cell? ⟨w.heap.size + 1, 3, none⟩ = some (.slice so2 m scap2) := Go.Joins.cell_of_block ((hb2.block _ hlt2).trans K2.out) 3
  have hb3 := hb.trans (hb2.mono hs1)
  have hs3 := hb3.size
  go_wp2_with fail
  refine (sameV_any so m scap so2 m scap2 said _ B HM.out HM.out (HX.out.2.below noSub_kept (hb3.mono hB) (Nat.le_refl _)) (HY.out.2.below noSub_kept (hb3.mono hB) (Nat.le_refl _)) (Nat.le_trans hB hs3) hl2).mono ?_
  rintro e w' ⟨rfl, hb4⟩
  clear c1 c2
  go_wp2_with fail
  go_ret
  exact ⟨rfl, hb3.trans (hb4.mono hs3)⟩
end Go.Proofs.YtnfldkebjeigiaaDoor
