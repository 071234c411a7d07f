/- A disk's files, in plain Lean. No program. Conditions: as each says. -/
import Derived.Maps.Ext
import Derived.Test.YtnhnabcpkaeaaaaGreatDoorGWalNone0
import Derived.Maps.RangeWalk
import Derived.Test.YtnhnabcpkaeaaaaGreatDoorGWalNone10
import Derived.Test.YtnhnabcpkaeaaaaGreatDoorGWalNone2
import Derived.Lib.AppendZerosOnto
import Derived.Test.YtnhnabcpkaeaaaaGreatDoorGWalNone9
import Derived.Test.YtnhnabcpkaeaaaaGreatDoorGWalNone11
import Derived.Lib.OthersKept
import Derived.Lib.TrimU
set_option linter.unusedVariables false
set_option linter.unusedSimpArgs false
namespace Go.Proofs.YtnhnabcpkaeaaaaGreatDoor
open Go
/-- A file: what is synced of it, and what is not. -/
structure Fi where
  firm : List Int
  loose : List Int
def Fi.all (f : Fi) : List Int := f.firm ++ f.loose
def Fi.none : Fi := ⟨[], []⟩
/-- Files by their names. -/
abbrev Dk := List (List UInt8 × Fi)
def dGet : Dk → List UInt8 → Option Fi
  | [], _ => Option.none
  | p :: r, k => if p.1 = k then some p.2 else dGet r k
def dDel (L : Dk) (k : List UInt8) : Dk := L.filter fun p => !decide (p.1 = k)
def dPut (L : Dk) (k : List UInt8) (f : Fi) : Dk := (k, f) :: dDel L k
def dNames (L : Dk) : List (List UInt8) := L.map (·.1)
/-- No name twice. -/
def dOk (L : Dk) : Prop := (dNames L).Nodup
def dUsed (L : Dk) : Nat := (L.map fun p => p.2.all.length).sum
theorem dGet_del (L : Dk) (k k' : List UInt8) : dGet (dDel L k) k' = if k' = k then Option.none else dGet L k' := by
  induction L with
  | nil => simp [dDel, dGet]
  | cons p r ih =>
    unfold dDel at ih ⊢
    by_cases h : p.1 = k
    · rw [List.filter_cons_of_neg (by simp [h]), ih]
      split
      · rfl
      · rename_i h2
        rw [dGet, if_neg (fun e => h2 (by rw [← e, h]))]
    · rw [List.filter_cons_of_pos (by simp [h])]
      unfold dGet
      rw [ih]
      by_cases h3 : p.1 = k'
      · rw [if_pos h3, if_pos h3, if_neg (fun e => h (h3.trans e))]
      · rw [if_neg h3, if_neg h3]
theorem dGet_cons (p : List UInt8 × Fi) (r : Dk) (k : List UInt8) : dGet (p :: r) k = if p.1 = k then some p.2 else dGet r k := rfl
theorem dGet_put (L : Dk) (k k' : List UInt8) (f : Fi) : dGet (dPut L k f) k' = if k' = k then some f else dGet L k' := by
  unfold dPut
  rw [dGet_cons]
  dsimp only
  by_cases h : k' = k
  · rw [if_pos h.symm, if_pos h]
  · rw [if_neg (fun e => h e.symm), if_neg h, dGet_del, if_neg h]
theorem dDel_ok {L : Dk} (h : dOk L) (k : List UInt8) : dOk (dDel L k) := h.sublist (List.filter_sublist.map _)
theorem dDel_names (L : Dk) (k : List UInt8) : k ∉ dNames (dDel L k) := by
  intro h
  obtain ⟨p, hp, rfl⟩ := List.mem_map.1 h
  have := (List.mem_filter.1 hp).2
  simp at this
theorem dPut_ok {L : Dk} (h : dOk L) (k : List UInt8) (f : Fi) : dOk (dPut L k f) := List.nodup_cons.2 ⟨dDel_names L k, dDel_ok h k⟩
theorem dGet_none {L : Dk} {k : List UInt8} : dGet L k = Option.none ↔ k ∉ dNames L := by
  induction L with
  | nil => simp [dGet, dNames]
  | cons p r ih =>
    unfold dNames at *
    rw [dGet_cons]
    by_cases h : p.1 = k
    · rw [if_pos h]; simp [h]
    · rw [if_neg h, ih, List.map_cons, List.mem_cons, not_or]
      exact ⟨fun h2 => ⟨fun e => h e.symm, h2⟩, fun h2 => h2.2⟩
theorem dGet_mem {L : Dk} {k : List UInt8} {f : Fi} (h : dGet L k = some f) : (k, f) ∈ L := by
  induction L with
  | nil => cases h
  | cons p r ih =>
    unfold dGet at h
    by_cases h2 : p.1 = k
    · rw [if_pos h2] at h
      cases h
      rw [← h2]
      exact List.mem_cons_self
    · rw [if_neg h2] at h
      exact List.mem_cons_of_mem _ (ih h)
theorem dUsed_le {L : Dk} {k : List UInt8} {f : Fi} (h : dGet L k = some f) : f.all.length ≤ dUsed L := by
  have hm := dGet_mem h
  induction L with
  | nil => cases hm
  | cons p r ih =>
    unfold dUsed at ih ⊢
    rw [List.map_cons, List.sum_cons]
    rw [dGet_cons] at h
    by_cases h2 : p.1 = k
    · rw [if_pos h2] at h
      cases h
      omega
    · rw [if_neg h2] at h
      have := ih h (dGet_mem h)
      omega
theorem dDel_of_none {L : Dk} {k : List UInt8} (h : dGet L k = Option.none) : dDel L k = L := by
  unfold dDel
  rw [List.filter_eq_self]
  intro p hp
  have := dGet_none.1 h
  simp only [Bool.not_eq_true', decide_eq_false_iff_not]
  rintro rfl
  exact this (List.mem_map.2 ⟨_, hp, rfl⟩)
theorem dUsed_del {L : Dk} (hL : dOk L) {k : List UInt8} {f : Fi} (h : dGet L k = some f) : dUsed (dDel L k) + f.all.length = dUsed L := by
  induction L with
  | nil => cases h
  | cons p r ih =>
    have hL2 := hL
    unfold dOk dNames at hL
    rw [List.map_cons, List.nodup_cons] at hL
    unfold dGet at h
    by_cases h2 : p.1 = k
    · rw [if_pos h2] at h
      cases h
      have hr : dGet r k = Option.none := dGet_none.2 (h2 ▸ hL.1)
      have e := dDel_of_none hr
      unfold dDel at e ⊢
      rw [List.filter_cons_of_neg (by simp [h2]), e]
      unfold dUsed
      rw [List.map_cons, List.sum_cons]
      omega
    · rw [if_neg h2] at h
      have e := ih hL.2 h
      unfold dDel at e ⊢
      rw [List.filter_cons_of_pos (by simp [h2])]
      unfold dUsed at e ⊢
      rw [List.map_cons, List.sum_cons, List.map_cons, List.sum_cons]
      omega
theorem dUsed_put (L : Dk) (k : List UInt8) (f : Fi) : dUsed (dPut L k f) = f.all.length + dUsed (dDel L k) := by
  unfold dUsed dPut
  rw [List.map_cons, List.sum_cons]
theorem dUsed_del_le {L : Dk} (hL : dOk L) (k : List UInt8) : dUsed (dDel L k) ≤ dUsed L := by
  cases h : dGet L k with
  | none => rw [dDel_of_none h]; exact Nat.le_refl _
  | some f => have := dUsed_del hL h; omega
/-- How many bytes have been counted. -/
def usedBut (left : List UInt8 → Bool) (L : Dk) : Nat := (L.map fun p => if left p.1 = true then 0 else p.2.all.length).sum
theorem usedBut_cons (left : List UInt8 → Bool) (p : List UInt8 × Fi) (r : Dk) : usedBut left (p :: r) = (if left p.1 = true then 0 else p.2.all.length) + usedBut left r := by
  unfold usedBut; rw [List.map_cons, List.sum_cons]
theorem usedBut_congr {left left' : List UInt8 → Bool} {L : Dk} (h : ∀ k ∈ dNames L, left k = left' k) : usedBut left L = usedBut left' L := by
  induction L with
  | nil => rfl
  | cons p r ih =>
    rw [usedBut_cons, usedBut_cons, ih (fun k hk => h k (List.mem_cons_of_mem _ hk)), h p.1 List.mem_cons_self]
theorem usedBut_all {left : List UInt8 → Bool} {L : Dk} (h : ∀ k ∈ dNames L, left k = true) : usedBut left L = 0 := by
  induction L with
  | nil => rfl
  | cons p r ih =>
    rw [usedBut_cons, ih (fun k hk => h k (List.mem_cons_of_mem _ hk)), if_pos (h p.1 List.mem_cons_self)]
theorem usedBut_none {left : List UInt8 → Bool} {L : Dk} (h : ∀ k, left k = false) : usedBut left L = dUsed L := by
  unfold usedBut dUsed
  congr 1
  refine List.map_congr_left fun p _ => ?_
  rw [h p.1, if_neg (by simp)]
theorem usedBut_le (left : List UInt8 → Bool) (L : Dk) : usedBut left L ≤ dUsed L := by
  induction L with
  | nil => exact Nat.le_refl _
  | cons p r ih =>
    rw [usedBut_cons]
    unfold dUsed at ih ⊢
    rw [List.map_cons, List.sum_cons]
    split <;> omega
theorem usedBut_step {left : List UInt8 → Bool} {L : Dk} (hL : dOk L) {k : List UInt8} {f : Fi} (h : dGet L k = some f) (hl : left k = true) : usedBut (fun x => left x && !decide (x = k)) L = usedBut left L + f.all.length := by
  induction L with
  | nil => cases h
  | cons p r ih =>
    unfold dOk dNames at hL ih
    rw [List.map_cons, List.nodup_cons] at hL
    rw [usedBut_cons, usedBut_cons]
    unfold dGet at h
    by_cases h2 : p.1 = k
    · rw [if_pos h2] at h
      cases h
      have e : usedBut (fun x => left x && !decide (x = k)) r = usedBut left r := usedBut_congr fun x hx => by
        have : x ≠ k := fun e => hL.1 (by rw [h2, ← e]; exact hx)
        simp [this]
      rw [e, h2, if_neg (by simp), if_pos hl]
      omega
    · rw [if_neg h2] at h
      rw [ih hL.2 h]
      have e : (left p.1 && !decide (p.1 = k)) = left p.1 := by simp [h2]
      rw [e]
      omega
/-- What a crash leaves of a file. -/
def Fi.crash (keep : Int) (f : Fi) : Fi := ⟨f.firm ++ f.loose.take keep.toNat, []⟩
def crashBut (left : List UInt8 → Bool) (keep : Int) (L : Dk) : Dk := L.map fun p => if left p.1 = true then p else (p.1, p.2.crash keep)
def dCrash (keep : Int) (L : Dk) : Dk := crashBut (fun _ => false) keep L
theorem crash_names (left : List UInt8 → Bool) (keep : Int) (L : Dk) : dNames (crashBut left keep L) = dNames L := by
  unfold dNames crashBut
  rw [List.map_map]
  refine List.map_congr_left fun p _ => ?_
  dsimp only [Function.comp]
  split <;> rfl
theorem dGet_crash (left : List UInt8 → Bool) (keep : Int) (L : Dk) (k : List UInt8) : dGet (crashBut left keep L) k = (dGet L k).map fun f => if left k = true then f else f.crash keep := by
  induction L with
  | nil => rfl
  | cons p r ih =>
    unfold crashBut at ih ⊢
    rw [List.map_cons]
    by_cases h2 : p.1 = k
    · rw [dGet, dGet, if_pos h2, h2]
      by_cases hk : left k = true
      · rw [if_pos hk, if_pos h2]; simp [hk]
      · rw [if_neg hk, if_pos rfl]; simp [hk]
    · rw [dGet, dGet, if_neg h2, ← ih, if_neg]
      split
      · exact h2
      · exact h2
theorem crash_all (keep : Int) (f : Fi) : (f.crash keep).all.length ≤ f.all.length := by
  unfold Fi.crash Fi.all
  simp
  omega
theorem dUsed_crash (left : List UInt8 → Bool) (keep : Int) (L : Dk) : dUsed (crashBut left keep L) ≤ dUsed L := by
  induction L with
  | nil => exact Nat.le_refl _
  | cons p r ih =>
    unfold crashBut dUsed at ih ⊢
    rw [List.map_cons, List.map_cons, List.sum_cons, List.map_cons, List.sum_cons]
    have := crash_all keep p.2
    split
    · omega
    · dsimp only; omega
/-- May it be a name? -/
def okC (c : UInt8) : Bool := (decide (97 ≤ c.toNat) && decide (c.toNat ≤ 122)) || ((decide (48 ≤ c.toNat) && decide (c.toNat ≤ 57)) || (decide (c.toNat = 46) || decide (c.toNat = 45)))
def goodName (k : List UInt8) : Bool := (!k.isEmpty && decide (k.length ≤ 30)) && k.all okC
def dAppend (room : Nat) (L : Dk) (k : List UInt8) (b : List Int) : Dk × Int :=
  let f := (dGet L k).getD Fi.none
  if goodName k = false then (L, 2) else if 4194304 < f.all.length + b.length then (L, 3) else if room < dUsed L + b.length then (L, 5) else (dPut L k ⟨f.firm, f.loose ++ b⟩, 0)
def dTurn (L : Dk) (k : List UInt8) (g : Fi → Fi × Int) : Dk × Int :=
  match dGet L k with
  | Option.none => (L, 6)
  | some f => if (g f).2 = 0 then (dPut L k (g f).1, 0) else (L, (g f).2)
def dSync (L : Dk) (k : List UInt8) : Dk × Int := dTurn L k fun f => (⟨f.all, []⟩, 0)
def dRead (L : Dk) (k : List UInt8) : List Int × Int := match dGet L k with
  | Option.none => ([], 6)
  | some f => (f.all, 0)
def dCut (L : Dk) (k : List UInt8) (n : Int) : Dk × Int := dTurn L k fun f => if n < 0 ∨ (f.all.length : Int) < n then (f, 2) else (⟨f.all.take n.toNat, []⟩, 0)
def dRemove (L : Dk) (k : List UInt8) : Dk × Int := match dGet L k with
  | Option.none => (L, 6)
  | some _ => (dDel L k, 0)
end Go.Proofs.YtnhnabcpkaeaaaaGreatDoor
/- A disk's files as they lie in a map: look-ups, stores, deletions. Conditions: the map's block reads as the files. -/
namespace Go.Proofs.YtnhnabcpkaeaaaaGreatDoor
open Go.RowKit Go.ChangeMaps
set_option maxRecDepth 20000
/-- The two slices of a file. -/
structure Rv where
  a1 : Option Addr
  n1 : Nat
  c1 : Nat
  a2 : Option Addr
  n2 : Nat
  c2 : Nat
def rvVal (r : Rv) : Value := .agg #[.slice r.a1 r.n1 r.c1, .slice r.a2 r.n2 r.c2]
def rvZero : Rv := ⟨none, 0, 0, none, 0, 0⟩
def rvElem (v : Value) : Option (DataW Rv × List MemPlace) := match v with
  | .agg cs => match cs.toList with
    | [.slice a n c, .slice a' n' c'] => some (.held ⟨a, n, c, a', n', c'⟩, [])
    | _ => none
  | _ => none
theorem rvElem_mk (r : Rv) : rvElem (rvVal r) = some (.held r, []) := rfl
theorem rvElem_inv {v : Value} {y : DataW Rv × List MemPlace} (h : rvElem v = some y) : ∃ r, v = rvVal r ∧ y = (.held r, []) := by
  unfold rvElem at h
  split at h
  · rename_i cs
    split at h
    · rename_i a n c a' n' c' he
      cases h
      refine ⟨⟨a, n, c, a', n', c'⟩, ?_, rfl⟩
      unfold rvVal
      congr 1
      exact Array.toList_inj.1 he
    · cases h
  · cases h
structure RvIs (w : World) (B : Nat) (r : Rv) (f : Fi) : Prop where
  n1 : r.n1 = f.firm.length
  n2 : r.n2 = f.loose.length
  in1 : BytesIn w B r.a1 f.firm
  in2 : BytesIn w B r.a2 f.loose
  w1 : BytesWf f.firm
  w2 : BytesWf f.loose
  z1 : r.a1 = none → r.c1 = 0
  z2 : r.a2 = none → r.c2 = 0
  k1 : r.n1 ≤ r.c1
  k2 : r.n2 ≤ r.c2
theorem RvIs.zero (w : World) (B : Nat) : RvIs w B rvZero Fi.none :=
  ⟨rfl, rfl, Or.inl rfl, Or.inl rfl, fun _ h => (by cases h), fun _ h => (by cases h), fun _ => rfl, fun _ => rfl, Nat.le_refl _, Nat.le_refl _⟩
theorem RvIs.below {w w' : World} {B B' : Nat} {r : Rv} {f : Fi} (h : RvIs w B r f) (hb : Below B' w w') (hB : B ≤ B') : RvIs w' B r f :=
  ⟨h.n1, h.n2, h.in1.below hb hB, h.in2.below hb hB, h.w1, h.w2, h.z1, h.z2, h.k1, h.k2⟩
theorem RvIs.mono {w : World} {B B' : Nat} {r : Rv} {f : Fi} (h : RvIs w B r f) (hB : B ≤ B') : RvIs w B' r f :=
  ⟨h.n1, h.n2, h.in1.mono hB, h.in2.mono hB, h.w1, h.w2, h.z1, h.z2, h.k1, h.k2⟩
/-- Bytes stay where a map alone is written. -/
theorem bytes_map {w w' : World} {B mb : Nat} {a : Option Addr} {xs : List Int} {es : Array MapEntry} {ck : Nat} (h : BytesIn w B a xs) (hB : B ≤ w.heap.size) (hg : w.grownBy w' (some mb)) (hm : w.heap[mb]? = some (.map es ck)) : BytesIn w' B a xs := by
  rcases h with h | ⟨b, off, h1, h2, h3⟩
  · exact Or.inl h
  · refine Or.inr ⟨b, off, h1, h2, fun i hi => ?_⟩
    have hc := h3 i hi
    have hne : b ≠ mb := by
      rintro rfl
      simp [World.cell?, hm] at hc
    have hbk := hg.block b (by omega) (by simpa using hne)
    unfold World.cell? at hc ⊢
    rw [hbk]
    exact hc
theorem RvIs.map {w w' : World} {B mb : Nat} {r : Rv} {f : Fi} {es : Array MapEntry} {ck : Nat} (h : RvIs w B r f) (hB : B ≤ w.heap.size) (hg : w.grownBy w' (some mb)) (hm : w.heap[mb]? = some (.map es ck)) : RvIs w' B r f :=
  ⟨h.n1, h.n2, bytes_map h.in1 hB hg hm, bytes_map h.in2 hB hg hm, h.w1, h.w2, h.z1, h.z2, h.k1, h.k2⟩
/-- The datum D holds the files L. -/
structure DkHas (w : World) (B : Nat) (D : DataW Rv) (L : Dk) : Prop where
  no : ∀ k, dGet L k = none → Maps.has D (.string k) = false
  yes : ∀ k f, dGet L k = some f → ∃ r, (∀ zd, D.atKey (.string k) zd = .held r) ∧ RvIs w B r f
theorem DkHas.congr {w : World} {B : Nat} {D : DataW Rv} {L L' : Dk} (h : DkHas w B D L) (he : ∀ k, dGet L' k = dGet L k) : DkHas w B D L' :=
  ⟨fun k hk => h.no k (by rw [← he]; exact hk), fun k f hk => h.yes k f (by rw [← he]; exact hk)⟩
theorem DkHas.nil (w : World) (B : Nat) : DkHas w B (.map []) [] := ⟨fun _ _ => rfl, fun _ _ h => (by cases h)⟩
theorem DkHas.below {w w' : World} {B B' : Nat} {D : DataW Rv} {L : Dk} (h : DkHas w B D L) (hb : Below B' w w') (hB : B ≤ B') : DkHas w' B D L :=
  ⟨h.no, fun k f hk => let ⟨r, h1, h2⟩ := h.yes k f hk; ⟨r, h1, h2.below hb hB⟩⟩
theorem DkHas.mono {w : World} {B B' : Nat} {D : DataW Rv} {L : Dk} (h : DkHas w B D L) (hB : B ≤ B') : DkHas w B' D L :=
  ⟨h.no, fun k f hk => let ⟨r, h1, h2⟩ := h.yes k f hk; ⟨r, h1, h2.mono hB⟩⟩
theorem DkHas.map {w w' : World} {B mb : Nat} {D : DataW Rv} {L : Dk} {es : Array MapEntry} {ck : Nat} (h : DkHas w B D L) (hB : B ≤ w.heap.size) (hg : w.grownBy w' (some mb)) (hm : w.heap[mb]? = some (.map es ck)) : DkHas w' B D L :=
  ⟨h.no, fun k f hk => let ⟨r, h1, h2⟩ := h.yes k f hk; ⟨r, h1, h2.map hB hg hm⟩⟩
theorem str_ne {k k' : List UInt8} (h : k' ≠ k) : Lit.string k' ≠ Lit.string k := fun e => h (by injection e)
theorem str_key (k : List UInt8) : WideAt.IsKeyLit (.string k) := by simp [WideAt.IsKeyLit]
theorem DkHas.put {w : World} {B : Nat} {D : DataW Rv} {L : Dk} (h : DkHas w B D L) (hD : Maps.IsMap D) (k : List UInt8) {r : Rv} {f : Fi} (hr : RvIs w B r f) : DkHas w B (D.put (.string k) (.held r)) (dPut L k f) := by
  constructor
  · intro k' hk'
    rw [dGet_put] at hk'
    split at hk'
    · cases hk'
    · rename_i hne
      rw [Maps.has_put_other (str_ne hne)]
      exact h.no k' hk'
  · intro k' f' hk'
    rw [dGet_put] at hk'
    split at hk'
    · rename_i he
      cases hk'
      subst he
      exact ⟨r, fun zd => Maps.atKey_put_same hD (str_key _) _ zd, hr⟩
    · rename_i hne
      obtain ⟨r', h1, h2⟩ := h.yes k' f' hk'
      exact ⟨r', fun zd => by rw [Maps.atKey_put_other (str_ne hne)]; exact h1 zd, h2⟩
theorem DkHas.del {w : World} {B : Nat} {D : DataW Rv} {L : Dk} (h : DkHas w B D L) (k : List UInt8) : DkHas w B (D.del (.string k)) (dDel L k) := by
  constructor
  · intro k' hk'
    rw [dGet_del] at hk'
    by_cases he : k' = k
    · subst he
      exact Maps.has_del_same
    · rw [if_neg he] at hk'
      rw [Maps.has_del_other (str_ne he)]
      exact h.no k' hk'
  · intro k' f' hk'
    rw [dGet_del] at hk'
    by_cases he : k' = k
    · rw [if_pos he] at hk'; cases hk'
    · rw [if_neg he] at hk'
      obtain ⟨r', h1, h2⟩ := h.yes k' f' hk'
      exact ⟨r', fun zd => by rw [Maps.atKey_del_other (str_ne he)]; exact h1 zd, h2⟩
/-- Block mb is a map that holds the files L, their bytes below B. -/
def DkMap (w : World) (B mb n : Nat) (L : Dk) : Prop := ∃ D, w.ownsMap Tryz.prog 9 rvElem mb n D ∧ DkHas w B D L
theorem dk_law : Maps.Keyed Tryz.prog 9 := Maps.string_keyed Tryz.underlying9
theorem rv_zero (w : World) : (zeroValue 70).run Tryz.prog w = .ok (rvVal rvZero) w := by kernel_rfl
theorem DkMap.made (w : World) (B : Nat) : DkMap (w.alloc (.map #[] 0)) B w.heap.size 0 [] := ⟨_, World.ownsMap_made _ _ _ _, DkHas.nil _ _⟩
theorem DkMap.block {w : World} {B mb n : Nat} {L : Dk} (h : DkMap w B mb n L) : ∃ es ck, w.heap[mb]? = some (.map es ck) := by
  obtain ⟨D, ⟨es, ck, hb, _⟩, _⟩ := h
  exact ⟨es, ck, hb⟩
theorem DkMap.lt {w : World} {B mb n : Nat} {L : Dk} (h : DkMap w B mb n L) : mb < w.heap.size := let ⟨_, h1, _⟩ := h; h1.lt
theorem DkMap.congr {w : World} {B mb n : Nat} {L L' : Dk} (h : DkMap w B mb n L) (he : ∀ k, dGet L' k = dGet L k) : DkMap w B mb n L' := let ⟨D, h1, h2⟩ := h; ⟨D, h1, h2.congr he⟩
theorem DkMap.mono {w : World} {B B' mb n n' : Nat} {L : Dk} (h : DkMap w B mb n L) (hB : B ≤ B') (hn : n ≤ n') : DkMap w B' mb n' L := let ⟨D, h1, h2⟩ := h; ⟨D, h1.mono hn, h2.mono hB⟩
theorem DkMap.below {w w' : World} {B B' mb n : Nat} {L : Dk} (h : DkMap w B mb n L) (hb : Below B' w w') (hB : B ≤ B') (hm : mb < B') : DkMap w' B mb n L := by
  obtain ⟨D, ⟨es, ck, hbk, h3⟩, h4⟩ := h
  exact ⟨D, ⟨es, ck, (hb.block mb hm).trans hbk, h3⟩, h4.below hb hB⟩
/-- 'm[name]', 'm[name]' with ok. -/
theorem DkMap.look {w : World} {B mb n : Nat} {L : Dk} (h : DkMap w B mb n L) (s : ByteArray) (hs : s.size ≤ maxLen) :
    (dGet L s.data.toList = none → (Instr.lookup 66 (.map (some mb)) (.string s) true).run Tryz.prog w = .ok (.tuple #[rvVal rvZero, .bool false]) w ∧ (Instr.lookup 66 (.map (some mb)) (.string s) false).run Tryz.prog w = .ok (rvVal rvZero) w) ∧
    (∀ f, dGet L s.data.toList = some f → ∃ r, (Instr.lookup 66 (.map (some mb)) (.string s) true).run Tryz.prog w = .ok (.tuple #[rvVal r, .bool true]) w ∧ (Instr.lookup 66 (.map (some mb)) (.string s) false).run Tryz.prog w = .ok (rvVal r) w ∧ RvIs w B r f) := by
  obtain ⟨D, hown, hh⟩ := h
  have hkey := WideMaps.keyOf_string_mk Tryz.underlying9 hs
  obtain ⟨v, ps, h1, h2⟩ := hown.look_ok (t := 66) dk_law Tryz.underlying66 (rv_zero w) (rvElem_mk rvZero) hkey
  obtain ⟨v', ps', h3, h4⟩ := hown.lookup (t := 66) dk_law Tryz.underlying66 (rv_zero w) (rvElem_mk rvZero) hkey
  constructor
  · intro hg
    have hn := hh.no _ hg
    have ha := Maps.atKey_of_not_has hn (DataW.held rvZero)
    rw [ha] at h2 h4
    obtain ⟨r, rfl, hr⟩ := rvElem_inv h2
    obtain ⟨r', rfl, hr'⟩ := rvElem_inv h4
    simp only [Prod.mk.injEq, DataW.held.injEq] at hr hr'
    rw [hn, ← hr.1] at h1
    rw [← hr'.1] at h3
    exact ⟨h1, h3⟩
  · intro f hg
    obtain ⟨r0, ha, hrv⟩ := hh.yes _ f hg
    rw [ha] at h2 h4
    obtain ⟨r, rfl, hr⟩ := rvElem_inv h2
    obtain ⟨r', rfl, hr'⟩ := rvElem_inv h4
    simp only [Prod.mk.injEq, DataW.held.injEq] at hr hr'
    rw [Maps.has_true_of_atKey ha, ← hr.1] at h1
    rw [← hr'.1] at h3
    exact ⟨r0, h1, h3, hrv⟩
theorem DkMap.look1 {w : World} {B mb n : Nat} {L : Dk} (h : DkMap w B mb n L) (s : ByteArray) (hs : s.size ≤ maxLen) :
    ∃ r, (Instr.lookup 66 (.map (some mb)) (.string s) false).run Tryz.prog w = .ok (rvVal r) w ∧ RvIs w B r ((dGet L s.data.toList).getD Fi.none) := by
  cases hg : dGet L s.data.toList with
  | none => exact ⟨rvZero, ((h.look s hs).1 hg).2, RvIs.zero _ _⟩
  | some f =>
    obtain ⟨r, _, h2, h3⟩ := (h.look s hs).2 f hg
    exact ⟨r, h2, h3⟩
section
variable {w : World} {ops : Array Oper} {rest : List Oper} {o : Oper} {a : Act} {Q : Exit → Act → World → Prop}
/-- 'm[name] = row'. -/
theorem wpList_store_dk (hg : o.guard = none) (m x v : Operand) (hop : o.op = Op.mapUpdate 66 m x v) {B mb n : Nat} {L : Dk} (h : DkMap w B mb n L) (hB : B ≤ w.heap.size) (hn : n ≤ 1000000)
    (hm : a.eval m = .map (some mb)) (s : ByteArray) (hx : a.eval x = .string s) (hs : s.size ≤ maxLen) (r : Rv) (hv : a.eval v = rvVal r) (f : Fi) (hr : RvIs w B r f)
    (hK : ∀ w', DkMap w' B mb (n + 1) (dPut L s.data.toList f) → w.grownBy w' (some mb) → wpList Tryz.prog ops Q rest (a.put o.dst undef) w') : wpList Tryz.prog ops Q (o :: rest) a w := by
  obtain ⟨es, ck, hbk⟩ := h.block
  obtain ⟨D, hown, hh⟩ := h
  refine wpList_mapUpdate_own w hg m x v _ hop 9 70 dk_law Tryz.underlying66 rvElem mb n D hm hown (by unfold maxLen; omega) _ _ _ hx hv (WideMaps.keyOf_string_mk Tryz.underlying9 hs) (.held r) [] (rvElem_mk r) fun w' h1 h2 => ?_
  exact hK w' ⟨_, h1, (hh.put hown.isMap _ hr).map hB h2 hbk⟩ h2
end
end Go.Proofs.YtnhnabcpkaeaaaaGreatDoor
/- slices.Grow of none, slices.Concat of two rows of bytes, the size and all bytes of a file. Conditions: the bytes lie as they read. -/
namespace Go.Proofs.YtnhnabcpkaeaaaaGreatDoor
open Go.RowKit
set_option maxRecDepth 20000
theorem grown_set (w : World) (a : Addr) (u : Value) : w.grownBy (w.setCell a u) (some a.block) := ⟨rfl, rfl, rfl, by simp, fun k _ hk => heap_setCell_other _ _ _ _ (fun e => hk (by rw [e]))⟩
theorem grow_any (n : Nat) (w : World) (hn : n ≤ 2199023255552) :
    Calls Tryz.prog 59 #[.slice none 0 0, .int .i64 n] w fun e w' => ∃ a c, e = .returned (.slice a 0 c) ∧ BOwn w' w.heap.size a 0 c [] ∧ Below w.heap.size w w' := by
  obtain ⟨i0, hi, hz0, hz1, hz2⟩ := info_parts infoByte
  by_cases h0 : n = 0
  · subst h0
    go_enter Tryz.func59, Tryz.ntmps59
    go_wp2_with fail
    go_ret
    exact ⟨none, 0, rfl, ⟨rfl, World.ownsRow_nil _ _ _ _⟩, Below.refl _ _⟩
  · have hpos : 0 < n := by omega
    have i1 : (0 : Int) < n := by omega
    have happ := fun ty => Lib.run_append_grow_zeros (P := Tryz.prog) w 22 3 ty 5 i0 (.int .u8 0) .i64 .i64 Tryz.underlying22 Tryz.underlying3 hi hz0 none 0 0 [] (by rw [hz1]; rfl) n hpos (by rw [hz1]; decide) (by omega) (by omega) (by rw [hz2]; omega) (by
      rw [hz2]
      unfold Builtin.nextslicecap
      rw [if_pos (by omega)]
      omega)
    have hcap := grownCap_ge w (0 + n) 0 5
    have hcm := grownCap_le_maxLen w (0 + n) 0 5 (by unfold maxLen; omega)
    generalize grownCap w (0 + n) 0 5 = C at happ hcap hcm
    have hsl := fun w' => run_sub_h (P := Tryz.prog) (t := 22) sliceByte sizeByte (some ⟨w.heap.size, 0, none⟩) (0 + n) C 0 (Nat.zero_le _) .i64 0 rfl w'
    rw [subA_zero _ _ _ (by rintro a h; cases h; rfl)] at hsl
    obtain ⟨Z, hZ⟩ : ∃ Z, ([] : List Value).toArray ++ Builtin.zeroCells (Value.int .u8 0).cells n ++ Builtin.zeroCells (Value.int .u8 0).cells (C - (0 + n)) = Z := ⟨_, rfl⟩
    have hzl : Z.size = C * 1 := by rw [← hZ]; simp [Builtin.zeroCells, Value.cells]; omega
    rw [hZ] at happ
    have hmade := World.ownsRow_made w.drew (e := 5) (size := 1) (base := w.heap.size) Z C (Nat.le_refl _) hcm hzl
    have HM := Lib.hid hmade
    clear hmade
    go_enter Tryz.func59, Tryz.ntmps59
    go_wp2_with (at_builtin; refine Lib.wpList_append_run _ rfl _ _ _ _ rfl _ _ rfl rfl _ _ (happ _) ?_)
    go_ret
    refine ⟨some ⟨w.heap.size, 0, none⟩, C, rfl, ⟨rfl, HM.out⟩, (Below.refl _ _).drew.alloc (Nat.le_refl _) _⟩
theorem grow_at (z : Int) (n : Nat) (w : World) (hz : z = n) (hn : n ≤ 2199023255552) :
    Calls Tryz.prog 59 #[.slice none 0 0, .int .i64 z] w fun e w' => ∃ a c, e = .returned (.slice a 0 c) ∧ BOwn w' w.heap.size a 0 c [] ∧ Below w.heap.size w w' := hz ▸ grow_any n w hn
/-- slices.Concat of two rows of bytes. -/
theorem concat_any (b : Nat) (a1 a2 : Option Addr) (n1 c1 n2 c2 : Nat) (xs ys L : List Int) (w : World) (k0 : w.cell? ⟨b, 0, none⟩ = some (.slice a1 n1 c1)) (k1 : w.cell? ⟨b, 1, none⟩ = some (.slice a2 n2 c2)) (hb : b < w.heap.size)
    (h1 : BytesIn w w.heap.size a1 xs) (h2 : BytesIn w w.heap.size a2 ys) (z1 : a1 = none → c1 = 0) (z2 : a2 = none → c2 = 0) (e1 : xs.length = n1) (e2 : ys.length = n2) (hL : xs ++ ys = L) (hl : n1 + n2 ≤ 2199023255552) :
    Calls Tryz.prog 24 #[.slice (some ⟨b, 0, none⟩) 2 2] w (RNew L w) := by
  have H1 := Lib.hid h1
  have H2 := Lib.hid h2
  have Z1 := Lib.hid z1
  have Z2 := Lib.hid z2
  have E1 := Lib.hid e1
  have E2 := Lib.hid e2
  have HL := Lib.hid hL
  have K0 := Lib.hid k0
  have K1 := Lib.hid k1
  clear h1 h2 z1 z2 e1 e2 hL
  have i1 : ¬ ((n1 : Int) < 0) := by omega
  have i2 : ¬ ((n1 : Int) + n2 < 0) := by omega
  go_enter Tryz.func24, Tryz.ntmps24
  go_wp2_with fail
  refine wp_loop_rounds 3 ?_
  iterate 3 (rw [rounds_succ]; go_wp2_with fail)
  refine (grow_at _ (n1 + n2) w (by omega) hl).mono ?_
  rintro e w1 ⟨a0, c0, rfl, ho0, hb1⟩
  have HO0 := Lib.hid ho0
  have hz1 := hb1.size
  have q0 : w1.cell? ⟨b, 0, none⟩ = some (.slice a1 n1 c1) := (hb1.cell (p := ⟨b, 0, none⟩) hb).trans K0.out
  have q1 : w1.cell? ⟨b, 1, none⟩ = some (.slice a2 n2 c2) := (hb1.cell (p := ⟨b, 1, none⟩) hb).trans K1.out
  have HB1 := Lib.hid hb1
  clear ho0 hb1 k0 k1
  go_wp2_with fail
  refine wp_loop_rounds 3 ?_
  rw [rounds_succ]
  go_wp2_with (at_builtin; refine wpList_append_bo rfl (.tmp 31) (.tmp 32) rfl w.heap.size rfl HO0.out rfl E1.out w.heap.size (H1.out.below HB1.out (Nat.le_refl _)) Z1.out (by omega) hz1 ?_)
  intro a3 n3 c3 w2 ho2 hg2 hn3
  obtain rfl : n3 = n1 := by omega
  have hb2 := HB1.out.grown hg2 hz1 (fun k hk => (HO0.out.lt k hk).1)
  have hz2 := hb2.size
  have q1 : w2.cell? ⟨b, 1, none⟩ = some (.slice a2 n2 c2) := (hb2.cell (p := ⟨b, 1, none⟩) hb).trans K1.out
  have HO2 := Lib.hid ho2
  have HB2 := Lib.hid hb2
  clear ho2 hg2 hb2 q0
  go_wp2_with fail
  rw [rounds_succ]
  go_wp2_with (at_builtin; refine wpList_append_bo rfl (.tmp 31) (.tmp 32) rfl w.heap.size rfl HO2.out rfl E2.out w.heap.size (H2.out.below HB2.out (Nat.le_refl _)) Z2.out (by omega) hz2 ?_)
  intro a4 n4 c4 w3 ho3 hg3 hn4
  have hb3 := HB2.out.grown hg3 hz2 (fun k hk => (HO2.out.lt k hk).1)
  have HO3 := Lib.hid ho3
  have HB3 := Lib.hid hb3
  clear ho3 hg3 hb3 q1
  go_wp2_with fail
  rw [rounds_succ]
  go_wp2_with fail
  go_ret
  have ho := HO3.out
  rw [HL.out] at ho
  exact ⟨_, _, _, rfl, ho, HB3.out⟩
/-- All bytes of a file. -/
theorem whole_file (r : Rv) (f : Fi) (w : World) (B : Nat) (h : RvIs w B r f) (hB : B ≤ w.heap.size) (hl : f.all.length ≤ 1099511627776) :
    Calls Tryz.prog 40 #[rvVal r] w (RNew f.all w) := by
  obtain ⟨a1, n1, c1, a2, n2, c2⟩ := r
  obtain ⟨e1, e2, h1, h2, w1, w2, z1, z2, k1, k2⟩ := h
  dsimp only at e1 e2 h1 h2 z1 z2 k1 k2
  unfold Fi.all at hl ⊢
  rw [List.length_append] at hl
  have H1 := Lib.hid (h1.mono hB)
  have H2 := Lib.hid (h2.mono hB)
  have Z1 := Lib.hid z1
  have Z2 := Lib.hid z2
  have E1 := Lib.hid e1.symm
  have E2 := Lib.hid e2.symm
  have HLN := Lib.hid (show n1 + n2 ≤ 2199023255552 by omega)
  clear h1 h2 z1 z2 e1 e2 w1 w2 k1 k2 hl
  unfold rvVal
  have hb1 := (Below.refl w.heap.size w).alloc (Nat.le_refl _) (.cells #[.slice a1 n1 c1, .slice a2 n2 c2] 70)
  have hz1 := hb1.size
  have hb2 := hb1.alloc hz1 (.cells #[.slice a1 n1 c1, .slice a2 n2 c2] 22)
  have hkn := heap_alloc_new (w.alloc (.cells #[.slice a1 n1 c1, .slice a2 n2 c2] 70)) (.cells #[.slice a1 n1 c1, .slice a2 n2 c2] 22)
  have hsn : (w.alloc (.cells #[.slice a1 n1 c1, .slice a2 n2 c2] 70)).heap.size = w.heap.size + 1 := by simp
  rw [hsn] at hkn
  have HB2 := Lib.hid hb2
  have HKN := Lib.hid hkn
  clear hb1 hz1 hb2 hkn hsn
  go_enter Tryz.func40, Tryz.ntmps40
  go_wp2_with fail
  generalize (w.alloc (.cells #[.slice a1 n1 c1, .slice a2 n2 c2] 70)).alloc (.cells #[.slice a1 n1 c1, .slice a2 n2 c2] 22) = w2 at HB2 HKN ⊢
  refine (concat_any (w.heap.size + 1) a1 a2 n1 c1 n2 c2 f.firm f.loose _ w2 (Go.Joins.cell_of_block HKN.out 0) (Go.Joins.cell_of_block HKN.out 1) (Array.getElem?_eq_some_iff.1 HKN.out).1 ((H1.out.below HB2.out (Nat.le_refl _)).mono HB2.out.size) ((H2.out.below HB2.out (Nat.le_refl _)).mono HB2.out.size) Z1.out Z2.out E1.out E2.out rfl HLN.out).mono ?_
  rintro e w3 ⟨a, n, c, rfl, ho, hb⟩
  have HO := Lib.hid ho
  have HB := Lib.hid hb
  clear ho hb
  go_wp2_with fail
  go_ret
  exact ⟨a, n, c, rfl, HO.out.le HB2.out.size, HB2.out.trans (HB.out.mono HB2.out.size)⟩
theorem size_file (r : Rv) (f : Fi) (w : World) (B : Nat) (h : RvIs w B r f) (n : Nat) (hn : f.all.length = n) (hl : n ≤ 2199023255552) :
    Calls Tryz.prog 28 #[rvVal r] w fun e w' => e = .returned (.int .i64 n) ∧ Below w.heap.size w w' := by
  obtain ⟨a1, n1, c1, a2, n2, c2⟩ := r
  obtain ⟨e1, e2, _, _, _, _, _, _, _, _⟩ := h
  dsimp only at e1 e2
  unfold Fi.all at hn
  rw [List.length_append] at hn
  have hz : n1 + n2 = n := by omega
  have hlt : (n1 : Int) + n2 = n := by omega
  have HZ := Lib.hid hlt
  have hl2 : n1 + n2 ≤ 2199023255552 := by omega
  clear e1 e2 hn hz hlt hl
  unfold rvVal
  go_enter Tryz.func28, Tryz.ntmps28
  go_wp2_with fail
  go_ret
  exact ⟨ret_int HZ.out, (Below.refl _ _).alloc (Nat.le_refl _) _⟩
theorem when_any (so : Bool) (e : Int) (w : World) :
    Calls Tryz.prog 26 #[.bool so, .int .i64 e] w fun x w' => x = .returned (.int .i64 (if so = true then e else 0)) ∧ w = w' := by
  cases so
  · go_enter Tryz.func26, Tryz.ntmps26
    go_wp2_with fail
    go_ret
    exact ⟨rfl, by first | rfl | trivial⟩
  · go_enter Tryz.func26, Tryz.ntmps26
    go_wp2_with fail
    go_ret
    exact ⟨rfl, by first | rfl | trivial⟩
theorem when_at (so : Bool) (e r : Int) (w : World) (hr : (if so = true then e else 0) = r) :
    Calls Tryz.prog 26 #[.bool so, .int .i64 e] w fun x w' => x = .returned (.int .i64 r) ∧ w = w' := hr ▸ when_any so e w
/-- The first of three that is an error. -/
def firstE (x y z : Int) : Int := if x ≠ 0 then x else if y ≠ 0 then y else z
theorem or_any (b : Nat) (x y z r : Int) (w : World) (k0 : w.cell? ⟨b, 0, none⟩ = some (.int .i64 x)) (k1 : w.cell? ⟨b, 1, none⟩ = some (.int .i64 y)) (k2 : w.cell? ⟨b, 2, none⟩ = some (.int .i64 z)) (hr : firstE x y z = r) :
    Calls Tryz.prog 25 #[.slice (some ⟨b, 0, none⟩) 3 3] w fun e w' => e = .returned (.int .i64 r) ∧ w = w' := by
  have HR := Lib.hid hr
  clear hr
  by_cases hx : x = 0
  · by_cases hy : y = 0
    · by_cases hz : z = 0
      · go_enter Tryz.func25, Tryz.ntmps25
        go_wp2_with fail
        refine wp_loop_rounds 4 ?_
        iterate 4 (rw [rounds_succ]; go_wp2_with fail)
        go_ret
        exact ⟨by rw [← HR.out]; simp [firstE, hx, hy, hz], by first | rfl | trivial⟩
      · go_enter Tryz.func25, Tryz.ntmps25
        go_wp2_with fail
        refine wp_loop_rounds 3 ?_
        iterate 3 (rw [rounds_succ]; go_wp2_with fail)
        go_ret
        exact ⟨by rw [← HR.out]; simp [firstE, hx, hy], by first | rfl | trivial⟩
    · go_enter Tryz.func25, Tryz.ntmps25
      go_wp2_with fail
      refine wp_loop_rounds 2 ?_
      iterate 2 (rw [rounds_succ]; go_wp2_with fail)
      go_ret
      exact ⟨by rw [← HR.out]; simp [firstE, hx, hy], by first | rfl | trivial⟩
  · go_enter Tryz.func25, Tryz.ntmps25
    go_wp2_with fail
    refine wp_loop_rounds 1 ?_
    iterate 1 (rw [rounds_succ]; go_wp2_with fail)
    go_ret
    exact ⟨by rw [← HR.out]; simp [firstE, hx], by first | rfl | trivial⟩
end Go.Proofs.YtnhnabcpkaeaaaaGreatDoor
/- What snaps say, as bytes and back. No program. Conditions: as each says. -/
namespace Go.Proofs.YtnhnabcpkaeaaaaGreatDoor
open Go.RowKit
set_option maxRecDepth 20000
end Go.Proofs.YtnhnabcpkaeaaaaGreatDoor
/- A snap stored on a disk, and loaded, in plain Lean. No program. Conditions: as each says. -/
namespace Go.Proofs.YtnhnabcpkaeaaaaGreatDoor
open Go.RowKit
set_option maxRecDepth 20000
end Go.Proofs.YtnhnabcpkaeaaaaGreatDoor
/- Which names may be. Conditions: the names of snaps. -/
namespace Go.Proofs.YtnhnabcpkaeaaaaGreatDoor
open Go.RowKit
set_option maxRecDepth 20000
def okR (x : Nat) : Prop := (97 ≤ x ∧ x ≤ 122) ∨ (48 ≤ x ∧ x ≤ 57) ∨ x = 46 ∨ x = 45
instance okRDec (x : Nat) : Decidable (okR x) := inferInstanceAs (Decidable (_ ∨ _))
theorem strange_no (x : Nat) (w : World) (h : okR x) : Calls Tryz.prog 60 #[.int .i32 x] w fun e w' => e = .returned (.bool false) ∧ w = w' := by
  unfold okR at h
  have hx : ∀ y : Nat, ((x : Int) = y ↔ x = y) := fun y => by omega
  by_cases h1 : 97 ≤ x
  · by_cases h2 : x ≤ 122
    · go_enter Tryz.func60, Tryz.ntmps60
      go_wp2_with fail
      all_goals (go_ret; exact ⟨by first | rfl | simp, by first | rfl | trivial⟩)
    · omega
  · by_cases h2 : 48 ≤ x
    · have h3 : x ≤ 57 := by omega
      go_enter Tryz.func60, Tryz.ntmps60
      go_wp2_with fail
      all_goals (go_ret; exact ⟨by first | rfl | simp, by first | rfl | trivial⟩)
    · rcases (show x = 46 ∨ x = 45 by omega) with rfl | rfl
      · go_enter Tryz.func60, Tryz.ntmps60
        go_wp2_with fail
        all_goals (go_ret; exact ⟨by first | rfl | simp, by first | rfl | trivial⟩)
      · go_enter Tryz.func60, Tryz.ntmps60
        go_wp2_with fail
        all_goals (go_ret; exact ⟨by first | rfl | simp, by first | rfl | trivial⟩)
/-- Each rune of a name may be. -/
def okS (s : ByteArray) : Prop := ∀ pos, pos < s.size → okR (Utf8.decode s pos).1
theorem index_no (s : ByteArray) (w : World) (h : okS s) : Calls Tryz.prog 122 #[.string s, .func (.func 60) #[] #[], .bool true] w fun e w' => e = .returned (.int .i64 (-1)) ∧ Below w.heap.size w w' := by
  have HS := Lib.hid h
  clear h
  go_enter Tryz.func122, Tryz.ntmps122
  go_wp2_with fail
  go_loopg [] s.size (fun gf wx => ∃ pos : Nat, wx.heap[w.heap.size]? = some (.stringIter s pos) ∧ Below w.heap.size w wx ∧ s.size ≤ pos + gf)
  case atStart => exact ⟨0, World.iter_heap w s 0, (Below.refl _ w).alloc (Nat.le_refl _) _, by omega⟩
  case round =>
    obtain ⟨pos, hit, hbw, hfu⟩ := hrel
    by_cases hps : pos < s.size
    · obtain ⟨g', rfl⟩ : ∃ g', gk = g' + 1 := ⟨gk - 1, by omega⟩
      have hnx := fun ty => Lib.run_next_any_at (P := Tryz.prog) wr w.heap.size s pos ty hit hps
      have hwd := Lib.width_pos s pos
      have hok := HS.out pos hps
      generalize (Utf8.decode s pos).1 = R at hnx hok
      generalize (Utf8.decode s pos).2 = K at hnx hwd
      have hit2 := Lib.iterAt_heap wr w.heap.size s pos (pos + K) hit
      have hbw2 := Lib.below_iterAt hbw (k := w.heap.size) (Nat.le_refl _) s (pos + K)
      generalize wr.iterAt w.heap.size s (pos + K) = W at hnx hit2 hbw2
      go_wp2_with fail
      refine (strange_no R W hok).mono ?_
      rintro e W' ⟨rfl, rfl⟩
      go_wp2_with fail
      go_roundg g'
      case measure => omega
      case rel => exact ⟨pos + K, hit2, hbw2, by omega⟩
    · have hnx := fun ty => Lib.run_next_end_at (P := Tryz.prog) wr w.heap.size s pos ty hit hps
      go_wp2_with fail
      go_ret
      exact ⟨by first | rfl | simp, hbw⟩
theorem indexF_no (s : ByteArray) (w : World) (h : okS s) : Calls Tryz.prog 96 #[.string s, .func (.func 60) #[] #[]] w fun e w' => e = .returned (.int .i64 (-1)) ∧ Below w.heap.size w w' := by
  have HS := Lib.hid h
  clear h
  go_enter Tryz.func96, Tryz.ntmps96
  go_wp2_with fail
  refine (index_no s _ HS.out).mono ?_
  rintro e w1 ⟨rfl, hb⟩
  go_wp2_with fail
  go_ret
  exact ⟨by first | rfl | simp, hb⟩
theorem contains_no (s : ByteArray) (w : World) (h : okS s) : Calls Tryz.prog 61 #[.string s, .func (.func 60) #[] #[]] w fun e w' => e = .returned (.bool false) ∧ Below w.heap.size w w' := by
  have HS := Lib.hid h
  clear h
  go_enter Tryz.func61, Tryz.ntmps61
  go_wp2_with fail
  refine (indexF_no s _ HS.out).mono ?_
  rintro e w1 ⟨rfl, hb⟩
  go_wp2_with fail
  go_ret
  exact ⟨by first | rfl | simp, hb⟩
/-- A name that may be. -/
structure Named (s : ByteArray) : Prop where
  ok : okS s
  pos : 0 < s.size
  le : s.size ≤ 30
  good : goodName s.data.toList = true
  ne : s.toList.isEmpty = false
theorem fit_one (b : Nat) (s : ByteArray) (w : World) (k0 : w.cell? ⟨b, 0, none⟩ = some (.string s)) (h : Named s) : Calls Tryz.prog 27 #[.slice (some ⟨b, 0, none⟩) 1 1] w fun e w' => e = .returned (.bool true) ∧ Below w.heap.size w w' := by
  have h2 := h.pos
  have h3 := h.le
  have j0 := h.ne
  have j1 : ¬ ((30 : Int) < s.size) := by omega
  have HS := Lib.hid h.ok
  clear h
  go_enter Tryz.func27, Tryz.ntmps27
  go_wp2_with fail
  refine wp_loop_rounds 2 ?_
  rw [rounds_succ]
  go_wp2_with fail
  refine (contains_no s _ HS.out).mono ?_
  rintro e w1 ⟨rfl, hb⟩
  have HB := Lib.hid hb
  clear hb
  go_wp2_with fail
  rw [rounds_succ]
  go_wp2_with fail
  go_ret
  exact ⟨by first | rfl | simp, HB.out⟩
end Go.Proofs.YtnhnabcpkaeaaaaGreatDoor
