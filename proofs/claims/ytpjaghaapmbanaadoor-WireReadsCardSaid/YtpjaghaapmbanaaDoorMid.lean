/- What is written between two marks of the heap, and nothing else. No program. Conditions: as each says. -/
import Derived.Test.YtpjaghaapmbanaaDoorFlat
import Derived.Test.YtpjaghaapmbanaaDoorEn
import Derived.Test.YtpjaghaapmbanaaDoorBytes
namespace Go.Proofs.YtpjaghaapmbanaaDoor
open Go.RowKit
set_option maxRecDepth 20000

/-- Neither below B anything is changed, nor of what is from T on. -/
structure Mid (B T : Nat) (w w' : World) : Prop where
  below : Below B w w'
  far : ∀ b, T ≤ b → b < w.heap.size → w'.heap[b]? = w.heap[b]?
theorem Mid.refl (B T : Nat) (w : World) : Mid B T w w := ⟨Below.refl _ _, fun _ _ _ => rfl⟩
theorem Mid.trans_below {B T : Nat} {w w' w'' : World} (h : Mid B T w w') (hb : Below w'.heap.size w' w'') (hB : B ≤ w'.heap.size) : Mid B T w w'' :=
  ⟨h.below.trans (hb.mono hB), fun b h1 h2 => (hb.block b (Nat.lt_of_lt_of_le h2 h.below.size)).trans (h.far b h1 h2)⟩
theorem Mid.grown {B T g : Nat} {w w' w'' : World} (h : Mid B T w w') (hg : w'.grownBy w'' (some g)) (hB : B ≤ w'.heap.size) (h1 : B ≤ g) (h2 : g < T) : Mid B T w w'' :=
  ⟨h.below.grown hg hB (fun b hb => by cases hb; exact h1), fun b h3 h4 => (hg.block b (Nat.lt_of_lt_of_le h4 h.below.size) (by intro he; cases he; omega)).trans (h.far b h3 h4)⟩
theorem Mid.bytes {B T C : Nat} {w w' : World} {a : Option Addr} {L : List Int} (h : Mid B T w w') (hx : BytesIn w C a L) (hC : C ≤ w.heap.size) (ha : ∀ ad, a = some ad → T ≤ ad.block) : BytesIn w' C a L := by
  rcases hx with h0 | ⟨b, off, h1, h2, h3⟩
  · exact Or.inl h0
  · refine Or.inr ⟨b, off, h1, h2, fun i hi => ?_⟩
    have hT : T ≤ b := ha _ h1
    rw [← h3 i hi]
    simp [World.cell?, h.far b hT (by omega)]
/-- Appending bytes; where the longer row lies. -/
theorem wpList_append_bytes_at {w : World} {ops : Array Oper} {rest : List Oper} {o : Oper} {a : Act} {Q : Exit → Act → World → Prop} (hgd : o.guard = none) (s x : Operand)
    (ho : o.op = .call { callee := .builtin .append, args := #[s, x], argTypes := #[23, 23] })
    (base : Nat) (v : Value) (l : List Int) (m : Nat) (hm : l.length = m) (hs : a.eval s = v) (hown : w.ownsRow base 5 1 v m (l.map bv))
    (ao : Option Addr) (n cap : Nat) (xs : List Int) (hn : xs.length = n) (hx : a.eval x = .slice ao n cap) (B : Nat) (hin : BytesIn w B ao xs) (hao : ao = none → cap = 0) (hlim : m + n ≤ 140737488351232) (hbase : base ≤ w.heap.size)
    (h : ∀ v' w', w'.ownsRow base 5 1 v' (m + n) ((l ++ xs).map bv) → w.grownBy w' v.ownBlock → (v'.ownBlock = v.ownBlock ∨ v'.ownBlock = some w.heap.size) → wpList Tryd.prog ops Q rest (a.put o.dst v') w') : wpList Tryd.prog ops Q (o :: rest) a w := by
  obtain ⟨i0, hi, hz0, hz1, hz2⟩ := info_parts infoByte
  subst hm hn
  cases ao with
  | none =>
    have hnil : xs = [] := by
      rcases hin with h | ⟨b, off, h1, _⟩
      · exact h
      · cases h1
    subst hnil
    rw [hao rfl] at hx
    refine wpList_append_own_none hgd s x _ ho base 5 i0 1 Tryd.underlying23 hi v l.length _ hs hown hx ?_
    refine h v w (by simpa using hown) ?_ (Or.inl rfl)
    exact World.grownBy.refl _ _
  | some ad =>
    refine wpList_append_own_at _ hgd s x _ ho base 5 i0 (.int .u8 0) 1 1 Tryd.underlying23 hi hz0 hz1 hz2 rfl (by decide) v l.length _ hs hown ad xs.length cap (xs.map bv) hx (by simp) ?_ (bytes_oneCell _) (by unfold maxLen; omega) (by omega) hbase ?_
    · intro j u hu
      exact cells_of_bytes hin (Below.refl _ _) rfl hu
    · intro v' w' h1 h2 _ h3
      refine h v' w' ?_ h2 h3
      rw [List.map_append]
      exact h1
end Go.Proofs.YtpjaghaapmbanaaDoor
