/- The reader of wire: sure of a value; Value. Conditions: the reader is one that was made. -/
import Derived.Test.YtnfldkebjeigiaaDoorRdr5
namespace Go.Proofs.YtnfldkebjeigiaaDoor
open Go.RowKit
set_option maxRecDepth 20000

def Va.val (v : Va) : Value := .agg #[.int .u8 v.kind, .int .i64 v.num, .string v.text]
def Va.none : Va := ⟨0, 0, ByteArray.empty⟩
set_option maxHeartbeats 1000000 in
theorem sureV_rd (M rb : Nat) (bad : Bool) (left : List Int) (kd num : Int) (text : ByteArray) (w : World) (h : Rdr w M rb bad left) :
    Calls Tryd.prog 57 #[.pointer (some ⟨rb, 0, none⟩), .agg #[.int .u8 kd, .int .i64 num, .string text]] w fun e w' => e = .returned (if bad then Va.none.val else .agg #[.int .u8 kd, .int .i64 num, .string text]) ∧ Below w.heap.size w w' := by
  obtain ⟨a, c, _, d1, _, _⟩ := h.cells
  have hlt := h.lt
  have dA : ∀ o1 o2 o3, (((w.alloc o1).alloc o2).alloc o3).cell? ⟨rb, 1, none⟩ = some (.bool bad) := fun o1 o2 o3 => by
    have hb := (((Below.refl w.heap.size w).alloc (Nat.le_refl _) o1).alloc (by simp) o2).alloc (by simp; omega) o3
    rw [hb.cell (p := ⟨rb, 1, none⟩) hlt]; exact d1
  clear h d1
  cases bad with
  | true =>
    go_enter Tryd.func57, Tryd.ntmps57
    go_wp2_with fail
    exact bodyPost_ret (v := .agg #[.int .u8 0, .int .i64 0, .string ByteArray.empty]) (by simp [results, Tryd.results57, go_sem]; rfl) rfl ⟨rfl, (((Below.refl w.heap.size w).alloc (Nat.le_refl _) _).alloc (by simp) _).alloc (by simp; omega) _⟩
  | false =>
    go_enter Tryd.func57, Tryd.ntmps57
    go_wp2_with fail
    exact bodyPost_ret (v := .agg #[.int .u8 kd, .int .i64 num, .string text]) (by simp [results, Tryd.results57, go_sem]) rfl ⟨rfl, (((Below.refl w.heap.size w).alloc (Nat.le_refl _) _).alloc (by simp) _).alloc (by simp; omega) _⟩
end Go.Proofs.YtnfldkebjeigiaaDoor
