/- Frames in bytes, in plain Lean: what is put, what is scanned, and that the one undoes the other. No program. Conditions: bytes are below 256. -/
import Derived.Test.YtejgebpdipnhmaaGreatDoorGSnapNumbers2
import Derived.Test.YtejgebpdipnhmaaGreatDoorGSnapNumbers1
import Derived.Test.YtejgebpdipnhmaaGreatDoorGSnapNumbers0
set_option linter.unusedVariables false
set_option linter.unusedSimpArgs false
namespace Go.Proofs.YtejgebpdipnhmaaGreatDoor
open Go
/-- A number as four bytes. -/
def fourB (n : Nat) : List Int := [(n : Int) / 16777216, (n : Int) / 65536 % 256, (n : Int) / 256 % 256, (n : Int) % 256]
/-- What four bytes say. -/
def saidS (b : List Int) : Nat := (b.getD 0 0 * 16777216 + b.getD 1 0 * 65536 + b.getD 2 0 * 256 + b.getD 3 0).toNat
/-- A frame's bytes. -/
def frameB (kind : Int) (data : List Int) : List Int := fourB data.length ++ [kind] ++ fourB (sumS (kind :: data)) ++ data
theorem frameB_len (kind : Int) (data : List Int) : (frameB kind data).length = 9 + data.length := by simp [frameB, fourB]; omega
theorem said_four (n : Nat) (rest : List Int) : saidS (fourB n ++ rest) = n := by
  simp [saidS, fourB]; omega
theorem four_said {b : List Int} (hb : ∀ x ∈ b, 0 ≤ x ∧ x < 256) (hl : 4 ≤ b.length) : fourB (saidS b) = b.take 4 := by
  match b, hl with
  | x0 :: x1 :: x2 :: x3 :: r, _ =>
    have h0 := hb x0 (by simp)
    have h1 := hb x1 (by simp)
    have h2 := hb x2 (by simp)
    have h3 := hb x3 (by simp)
    simp [saidS, fourB]
    omega
inductive Stp where
  | stop (spoilt : Bool)
  | one (kind : Int) (data : List Int)
/-- The kind that stands behind the length; the data. -/
def kindF (b : List Int) : Int := b.getD 4 0
def dataS (b : List Int) : List Int := (b.drop 9).take (saidS b)
/-- What bytes begin with. -/
def stepS (b : List Int) : Stp :=
  if b.length < 4 then .stop false
  else if 1048576 < saidS b then .stop true
  else if b.length < 9 + saidS b then .stop false
  else if saidS (b.drop 5) ≠ sumS (kindF b :: dataS b) then .stop true
  else .one (kindF b) (dataS b)
def scanF : Nat → List Int → List (Int × List Int) × Nat × Bool
  | 0, _ => ([], 0, false)
  | f + 1, b => match stepS b with
    | .stop s => ([], 0, s)
    | .one k d => ((k, d) :: (scanF f (b.drop (9 + d.length))).1, 9 + d.length + (scanF f (b.drop (9 + d.length))).2.1, (scanF f (b.drop (9 + d.length))).2.2)
/-- The frames that bytes begin with, how many bytes they are, whether the next one is spoilt. -/
def scanS (b : List Int) : List (Int × List Int) × Nat × Bool := scanF (b.length + 1) b
theorem dataS_len {b : List Int} (h : 9 + saidS b ≤ b.length) : (dataS b).length = saidS b := by simp [dataS]; omega
theorem step_one {b : List Int} {k : Int} {d : List Int} (h : stepS b = .one k d) : 4 ≤ b.length ∧ saidS b ≤ 1048576 ∧ 9 + saidS b ≤ b.length ∧ saidS (b.drop 5) = sumS (kindF b :: dataS b) ∧ k = kindF b ∧ d = dataS b ∧ d.length = saidS b := by
  unfold stepS at h
  split at h
  · cases h
  · split at h
    · cases h
    · split at h
      · cases h
      · rename_i h1 h2 h3
        split at h
        · cases h
        · rename_i h4
          injection h with e1 e2
          refine ⟨by omega, by omega, by omega, by omega, e1.symm, e2.symm, ?_⟩
          rw [← e2]
          exact dataS_len (by omega)
theorem scanF_more : ∀ (f : Nat) (b : List Int), b.length < f → ∀ g, b.length < g → scanF f b = scanF g b := by
  intro f
  induction f with
  | zero => intro b h; omega
  | succ f ih =>
    intro b h g hg
    cases g with
    | zero => omega
    | succ g =>
      unfold scanF
      cases hs : stepS b with
      | stop s => rfl
      | one k d =>
        have h1 := step_one hs
        have h2 : (b.drop (9 + d.length)).length < f := by simp; omega
        have h3 : (b.drop (9 + d.length)).length < g := by simp; omega
        show (_, _) = _
        rw [ih _ h2 g h3]
theorem scanS_stop {b : List Int} {s : Bool} (h : stepS b = .stop s) : scanS b = ([], 0, s) := by
  unfold scanS scanF; rw [h]
theorem scanS_one {b : List Int} {k : Int} {d : List Int} (h : stepS b = .one k d) : scanS b = ((k, d) :: (scanS (b.drop (9 + d.length))).1, 9 + d.length + (scanS (b.drop (9 + d.length))).2.1, (scanS (b.drop (9 + d.length))).2.2) := by
  have h1 := step_one h
  have h2 : scanF b.length (b.drop (9 + d.length)) = scanS (b.drop (9 + d.length)) := scanF_more _ _ (by simp; omega) _ (by omega)
  conv => lhs; unfold scanS scanF
  rw [h]
  show (_, _) = _
  rw [h2]
/-- Frames that were found go ahead of what is found behind them. -/
def joinS (acc : List (Int × List Int)) (used : Nat) (r : List (Int × List Int) × Nat × Bool) : List (Int × List Int) × Nat × Bool := (acc ++ r.1, used + r.2.1, r.2.2)
theorem join_one {b : List Int} {acc : List (Int × List Int)} {used : Nat} {k : Int} {d : List Int} {r : List (Int × List Int) × Nat × Bool} (h : stepS (b.drop used) = .one k d) (hr : r = joinS acc used (scanS (b.drop used))) :
    r = joinS (acc ++ [(k, d)]) (used + 9 + d.length) (scanS (b.drop (used + 9 + d.length))) := by
  rw [hr, scanS_one h]
  unfold joinS
  rw [List.drop_drop, show used + (9 + d.length) = used + 9 + d.length by omega]
  simp
  omega
theorem join_stop {b : List Int} {acc : List (Int × List Int)} {used : Nat} {s : Bool} {r : List (Int × List Int) × Nat × Bool} (h : stepS (b.drop used) = .stop s) (hr : r = joinS acc used (scanS (b.drop used))) : r = (acc, used, s) := by
  rw [hr, scanS_stop h]; simp [joinS]
/-- Is it a frame that may be? -/
def okP (p : Int × List Int) : Prop := 0 ≤ p.1 ∧ p.1 ≤ 255 ∧ p.2.length ≤ 1048576 ∧ ∀ x ∈ p.2, 0 ≤ x ∧ x < 256
def putP (l : List (Int × List Int)) : List Int := l.flatMap fun p => frameB p.1 p.2
theorem putP_cons (p : Int × List Int) (l : List (Int × List Int)) : putP (p :: l) = frameB p.1 p.2 ++ putP l := by simp [putP]
theorem frame_drop5 (k : Int) (d rest : List Int) : (frameB k d ++ rest).drop 5 = fourB (sumS (k :: d)) ++ (d ++ rest) := by simp [frameB, fourB]
theorem frame_drop9 (k : Int) (d rest : List Int) : (frameB k d ++ rest).drop 9 = d ++ rest := by simp [frameB, fourB]
theorem frame_said (k : Int) (d rest : List Int) : saidS (frameB k d ++ rest) = d.length := by
  have := said_four d.length ([k] ++ fourB (sumS (k :: d)) ++ d ++ rest)
  simpa [frameB] using this
theorem frame_kind (k : Int) (d rest : List Int) : kindF (frameB k d ++ rest) = k := by simp [kindF, frameB, fourB]
theorem frame_data (k : Int) (d rest : List Int) : dataS (frameB k d ++ rest) = d := by
  unfold dataS
  rw [frame_drop9, frame_said, List.take_left]
theorem step_frame {k : Int} {d rest : List Int} (h : d.length ≤ 1048576) : stepS (frameB k d ++ rest) = .one k d := by
  have hl : (frameB k d ++ rest).length = 9 + d.length + rest.length := by rw [List.length_append, frameB_len]
  unfold stepS
  rw [frame_said, frame_kind, frame_data, frame_drop5, said_four, if_neg (by omega), if_neg (by omega), if_neg (by omega), if_neg (by simp)]
/-- What is put is scanned. -/
theorem scan_put : ∀ (l : List (Int × List Int)), (∀ p ∈ l, okP p) → ∀ rest, scanS (putP l ++ rest) = joinS l (putP l).length (scanS rest) := by
  intro l
  induction l with
  | nil => intro _ rest; simp [putP, joinS]
  | cons p l ih =>
    intro h rest
    have hp := h p List.mem_cons_self
    have hd : ((frameB p.1 p.2 ++ (putP l ++ rest)).drop (9 + p.2.length)) = putP l ++ rest := by
      rw [← frameB_len p.1 p.2, List.drop_left]
    rw [putP_cons, List.append_assoc, scanS_one (step_frame hp.2.2.1), hd, ih (fun q hq => h q (List.mem_cons_of_mem _ hq))]
    simp [joinS, frameB_len]
    omega
theorem scan_nil : scanS [] = ([], 0, false) := scanS_stop (by unfold stepS; rw [if_pos (by simp)])
theorem scan_all (l : List (Int × List Int)) (h : ∀ p ∈ l, okP p) : scanS (putP l) = (l, (putP l).length, false) := by
  have := scan_put l h []
  rw [List.append_nil, scan_nil] at this
  rw [this]; simp [joinS]
/-- What is scanned is put as just the bytes that were used. -/
theorem step_put {b : List Int} (hb : ∀ x ∈ b, 0 ≤ x ∧ x < 256) {k : Int} {d : List Int} (h : stepS b = .one k d) : b.take (9 + d.length) = frameB k d ∧ okP (k, d) := by
  obtain ⟨h1, h2, h3, h4, rfl, rfl, h5⟩ := step_one h
  have hk : kindF b ∈ b := by unfold kindF; rw [List.getD_eq_getElem?_getD, List.getElem?_eq_getElem (by omega)]; simp
  have hd : ∀ x ∈ dataS b, x ∈ b := fun x hx => List.mem_of_mem_drop (List.mem_of_mem_take hx)
  refine ⟨?_, (hb _ hk).1, by have := (hb _ hk).2; show kindF b ≤ 255; omega, by rw [h5]; exact h2, fun x hx => hb x (hd x hx)⟩
  unfold frameB
  rw [← h4, h5, four_said hb h1, four_said (fun x hx => hb x (List.mem_of_mem_drop hx)) (by simp; omega)]
  have e1 : [kindF b] = (b.drop 4).take 1 := by
    unfold kindF
    rw [List.getD_eq_getElem?_getD, List.getElem?_eq_getElem (by omega), List.drop_eq_getElem_cons (i := 4) (l := b) (by omega), List.take_succ_cons, List.take_zero]
    rfl
  rw [e1]
  unfold dataS
  have t : ∀ i j : Nat, b.take (i + j) = b.take i ++ (b.drop i).take j := fun i j => List.take_add
  rw [t 9, t 5 4, t 4 1]
theorem scanF_put : ∀ (f : Nat) (b : List Int), b.length < f → (∀ x ∈ b, 0 ≤ x ∧ x < 256) → (scanF f b).2.1 ≤ b.length ∧ putP (scanF f b).1 = b.take (scanF f b).2.1 ∧ ∀ p ∈ (scanF f b).1, okP p := by
  intro f
  induction f with
  | zero => intro b h; omega
  | succ f ih =>
    intro b h hb
    unfold scanF
    cases hs : stepS b with
    | stop s => exact ⟨by simp, by simp [putP], by simp⟩
    | one k d =>
      have h1 := step_one hs
      obtain ⟨h2, h3⟩ := step_put hb hs
      obtain ⟨i1, i2, i3⟩ := ih (b.drop (9 + d.length)) (by simp; omega) (fun x hx => hb x (List.mem_of_mem_drop hx))
      rw [List.length_drop] at i1
      refine ⟨by show 9 + d.length + _ ≤ _; omega, ?_, ?_⟩
      · show putP ((k, d) :: _) = b.take (9 + d.length + _)
        rw [putP_cons, i2, List.take_add, h2]
      · intro p hp
        rcases List.mem_cons.1 hp with rfl | hp
        · exact h3
        · exact i3 p hp
theorem scanS_put {b : List Int} (hb : ∀ x ∈ b, 0 ≤ x ∧ x < 256) : (scanS b).2.1 ≤ b.length ∧ putP (scanS b).1 = b.take (scanS b).2.1 ∧ ∀ p ∈ (scanS b).1, okP p := scanF_put _ _ (by omega) hb
end Go.Proofs.YtejgebpdipnhmaaGreatDoor
/- What snaps say, as bytes and back. No program. Conditions: as each says. -/
namespace Go.Proofs.YtejgebpdipnhmaaGreatDoor
open Go.RowKit
set_option maxRecDepth 20000
/-- A snap. -/
structure SnP where
  index : Int
  term : Int
  vs : List Int
  im : List Int
def zeroSn : SnP := ⟨0, 0, [], []⟩
def upGo : Int → List Int → Bool
  | _, [] => true
  | last, v :: r => (decide (last < v) && decide (v ≤ 9)) && upGo v r
theorem upGo_in : ∀ (l : List Int) (last : Int), upGo last l = true → ∀ v ∈ l, last < v ∧ v ≤ 9 := by
  intro l
  induction l with
  | nil => intro _ _ v hv; cases hv
  | cons x r ih =>
    intro last h v hv
    simp only [upGo, Bool.and_eq_true, decide_eq_true_eq] at h
    rcases List.mem_cons.1 hv with rfl | hv
    · exact h.1
    · have := ih x h.2 v hv
      omega
def snRight (s : SnP) : Bool := upGo 0 s.vs && ((decide (1 ≤ s.index) && decide (s.index ≤ 1099511627776)) && ((decide (0 ≤ s.term) && decide (s.term ≤ 1099511627776)) && decide (s.vs.length ≤ 7)))
theorem snRight_iff {s : SnP} : snRight s = true ↔ upGo 0 s.vs = true ∧ (1 ≤ s.index ∧ s.index ≤ 1099511627776) ∧ (0 ≤ s.term ∧ s.term ≤ 1099511627776) ∧ s.vs.length ≤ 7 := by
  simp [snRight]
def snHead (s : SnP) : List Int := [s.index, s.term, (s.vs.length : Int)] ++ s.vs
def snData (s : SnP) : List Int := (snHead s).flatMap (numB 8) ++ s.im
/-- A snap's bytes, and the error. -/
def snPut (s : SnP) : List Int × Int := if snRight s = false then ([], 4) else if 1048576 < (snData s).length then ([], 3) else (frameB 1 (snData s), 0)
/-- So many numbers, one behind the other. -/
def numsS : Nat → Bool → List Int → List Int × Bool × List Int
  | 0, b, l => ([], b, l)
  | n + 1, b, l => ((numS b l).1 :: (numsS n (numS b l).2.1 (numS b l).2.2).1, (numsS n (numS b l).2.1 (numS b l).2.2).2)
def sureS (b : List Int) (s : SnP) : SnP × Int := if (snPut s).2 = 0 ∧ (snPut s).1 = b then (s, 0) else (zeroSn, 4)
def snRead (b data : List Int) : SnP × Int :=
  let i := numS false data
  let t := numS i.2.1 i.2.2
  let n := numS t.2.1 t.2.2
  if n.1 < 0 ∨ 7 < n.1 then (zeroSn, 4) else
  let v := numsS n.1.toNat n.2.1 n.2.2
  if v.2.1 = true then (zeroSn, 4) else
  sureS b ⟨i.1, t.1, v.1, data.drop (24 + 8 * n.1.toNat)⟩
/-- The snap whose bytes these are, and the error. -/
def snGet (b : List Int) : SnP × Int :=
  match (scanS b).1 with
  | [p] => if (scanS b).2.1 ≠ b.length then (zeroSn, 4) else snRead b p.2
  | _ => (zeroSn, 4)
def rsnRead (b data : List Int) : SnP × Int :=
  let i := numS false data
  let t := numS i.2.1 i.2.2
  let n := numS t.2.1 t.2.2
  let v := if 0 < n.1 ∧ n.1 < 8 then numsS n.1.toNat n.2.1 n.2.2 else ([], n.2)
  if v.2.1 = true then (zeroSn, 4) else
  sureS b ⟨i.1, t.1, v.1, v.2.2⟩
def rsnGet (b : List Int) : SnP × Int :=
  match (scanS b).1 with
  | [p] => if (scanS b).2.1 ≠ b.length then (zeroSn, 4) else rsnRead b p.2
  | _ => (zeroSn, 4)
theorem sure_ok {b : List Int} {s : SnP} (h : (sureS b s).2 = 0) : (sureS b s).1 = s ∧ snPut s = (b, 0) := by
  unfold sureS at h ⊢
  split at h
  · rename_i h1
    rw [if_pos h1]
    exact ⟨rfl, Prod.ext h1.2 h1.1⟩
  · cases h
theorem sure_no {b : List Int} {s : SnP} (h : (sureS b s).2 ≠ 0) : sureS b s = (zeroSn, 4) := by
  unfold sureS at h ⊢
  split
  · rename_i h1
    rw [if_pos h1] at h
    exact absurd rfl h
  · rfl
theorem sure_two (b : List Int) (s : SnP) : ((sureS b s).2 = 0 ∧ snPut (sureS b s).1 = (b, 0)) ∨ sureS b s = (zeroSn, 4) := by
  by_cases h : (sureS b s).2 = 0
  · left
    have h1 := sure_ok h
    exact ⟨h, by rw [h1.1]; exact h1.2⟩
  · right
    exact sure_no h
theorem snPut_ok {s : SnP} {b : List Int} (h : snPut s = (b, 0)) : snRight s = true ∧ (snData s).length ≤ 1048576 ∧ b = frameB 1 (snData s) := by
  unfold snPut at h
  split at h
  · cases h
  · rename_i h1
    split at h
    · cases h
    · rename_i h2
      simp only [Prod.mk.injEq, and_true] at h
      exact ⟨by simpa using h1, by omega, h.symm⟩
/-- What is got is right, and put as just these bytes; else it is nothing. -/
theorem snGet_one (b : List Int) : ((snGet b).2 = 0 ∧ snPut (snGet b).1 = (b, 0)) ∨ snGet b = (zeroSn, 4) := by
  unfold snGet
  split
  · split
    · right; rfl
    · unfold snRead
      dsimp only
      split
      · right; rfl
      · split
        · right; rfl
        · exact sure_two _ _
  · right; rfl
theorem numsS_back : ∀ (l : List Int) (rest : List Int), (∀ n ∈ l, N64 n) → numsS l.length false (l.flatMap (numB 8) ++ rest) = (l, false, rest) := by
  intro l
  induction l with
  | nil => intro rest _; simp [numsS]
  | cons x r ih =>
    intro rest h
    have e : (x :: r).flatMap (numB 8) ++ rest = numB 8 x ++ (r.flatMap (numB 8) ++ rest) := by simp
    rw [e, List.length_cons]
    unfold numsS
    rw [numS_back _ _ (h x (by simp))]
    dsimp only
    rw [ih rest (fun n hn => h n (List.mem_cons_of_mem _ hn))]
theorem numS_rest {b : Bool} {l : List Int} (h : (numS b l).2.1 = false) : b = false ∧ (numS b l).2.2 = l.drop 8 ∧ 8 ≤ l.length := by
  unfold numS takeS at *
  dsimp only at *
  split at h
  · cases h
  · rename_i h1
    rw [if_neg h1]
    simp only [not_or, Bool.not_eq_true, Nat.not_lt] at h1
    exact ⟨h1.1, rfl, h1.2⟩
theorem numsS_rest : ∀ (n : Nat) (b : Bool) (l : List Int), (numsS n b l).2.1 = false → b = false ∧ (numsS n b l).2.2 = l.drop (8 * n) ∧ 8 * n ≤ l.length ∧ (numsS n b l).1.length = n := by
  intro n
  induction n with
  | zero => intro b l h; exact ⟨h, by simp [numsS], by omega, rfl⟩
  | succ n ih =>
    intro b l h
    unfold numsS at h ⊢
    dsimp only at h ⊢
    have h1 := ih _ _ h
    have h2 := numS_rest h1.1
    rw [h2.2.1] at h1
    rw [h2.2.1, h1.2.1]
    have h3 := h1.2.2.1
    rw [List.length_drop] at h3
    refine ⟨h2.1, by rw [List.drop_drop, show 8 + 8 * n = 8 * (n + 1) by omega], by omega, ?_⟩
    rw [List.length_cons, h1.2.2.2]
theorem snData_three (s : SnP) : snData s = numB 8 s.index ++ (numB 8 s.term ++ (numB 8 s.vs.length ++ (s.vs.flatMap (numB 8) ++ s.im))) := by
  simp [snData, snHead]
theorem flat_len8 (l : List Int) : (l.flatMap (numB 8)).length = 8 * l.length := by
  induction l with
  | nil => rfl
  | cons x r ih => rw [List.flatMap_cons, List.length_append, numB_len, ih, List.length_cons]; omega
theorem snData_len (s : SnP) : (snData s).length = 24 + 8 * s.vs.length + s.im.length := by
  rw [snData, List.length_append, flat_len8, snHead, List.length_append]
  simp
  omega
theorem snData_wf {s : SnP} (h : BytesWf s.im) : BytesWf (snData s) := by
  intro x hx
  rw [snData, List.mem_append] at hx
  rcases hx with hx | hx
  · obtain ⟨n, _, hn⟩ := List.mem_flatMap.1 hx
    exact numB_wf 8 n x hn
  · exact h x hx
theorem right_N64 {s : SnP} (h : snRight s = true) : N64 s.index ∧ N64 s.term ∧ (∀ v ∈ s.vs, N64 v) ∧ s.vs.length ≤ 7 := by
  obtain ⟨h1, h2, h3, h4⟩ := snRight_iff.1 h
  refine ⟨⟨by omega, by omega⟩, ⟨by omega, by omega⟩, fun v hv => ?_, h4⟩
  have := upGo_in _ _ h1 v hv
  exact ⟨by omega, by omega⟩
theorem four_bytes {n : Nat} (h : n < 4294967296) : BytesWf (fourB n) := by
  intro x hx
  simp only [fourB, List.mem_cons, List.not_mem_nil, or_false] at hx
  omega
theorem frame_wf {d : List Int} (hd : BytesWf d) (hl : d.length ≤ 1048576) : BytesWf (frameB 1 d) := by
  intro x hx
  unfold frameB at hx
  rcases List.mem_append.1 hx with hx | hx
  · rcases List.mem_append.1 hx with hx | hx
    · rcases List.mem_append.1 hx with hx | hx
      · exact four_bytes (by omega) x hx
      · rw [List.mem_singleton.1 hx]; omega
    · refine four_bytes (sumS_lt ?_) x hx
      intro y hy
      rcases List.mem_cons.1 hy with rfl | hy
      · omega
      · exact hd y hy
  · exact hd x hx
theorem snPut_wf {s : SnP} (hw : BytesWf s.im) : BytesWf (snPut s).1 := by
  unfold snPut
  split
  · exact fun x hx => (by cases hx)
  · split
    · exact fun x hx => (by cases hx)
    · exact frame_wf (snData_wf hw) (by omega)
theorem snPut_len (s : SnP) : (snPut s).1.length ≤ 1048585 := by
  unfold snPut
  split
  · exact Nat.zero_le _
  · split
    · exact Nat.zero_le _
    · dsimp only
      rw [frameB_len]
      omega
theorem scan_frame {d : List Int} (hw : BytesWf d) (hl : d.length ≤ 1048576) : scanS (frameB 1 d) = ([(1, d)], (frameB 1 d).length, false) := by
  have h := scan_all [(1, d)] (fun p hp => by
    rw [List.mem_singleton] at hp
    subst hp
    exact ⟨(by decide : (0 : Int) ≤ 1), (by decide : (1 : Int) ≤ 255), hl, hw⟩)
  simpa [putP] using h
theorem snRead_back {i t : Int} {vs im b : List Int} (hi : N64 i) (ht : N64 t) (hv : ∀ v ∈ vs, N64 v) (hl : vs.length ≤ 7) (h : snPut ⟨i, t, vs, im⟩ = (b, 0)) : snRead b (snData ⟨i, t, vs, im⟩) = (⟨i, t, vs, im⟩, 0) := by
  have e0 : snData ⟨i, t, vs, im⟩ = numB 8 i ++ (numB 8 t ++ (numB 8 vs.length ++ (vs.flatMap (numB 8) ++ im))) := snData_three ⟨i, t, vs, im⟩
  have e5 : (snData ⟨i, t, vs, im⟩).drop (24 + 8 * vs.length) = im := by
    rw [snData]
    exact List.drop_left' (by rw [flat_len8, snHead, List.length_append]; simp; omega)
  generalize snData ⟨i, t, vs, im⟩ = d at e0 e5 ⊢
  have e1 : numS false d = (i, false, numB 8 t ++ (numB 8 vs.length ++ (vs.flatMap (numB 8) ++ im))) := by
    rw [e0]; exact numS_back _ _ hi
  have e2 := numS_back t (numB 8 vs.length ++ (vs.flatMap (numB 8) ++ im)) ht
  have hN : N64 (vs.length : Int) := by unfold N64; omega
  have e3 := numS_back (vs.length : Int) (vs.flatMap (numB 8) ++ im) hN
  have e4 := numsS_back vs im hv
  unfold snRead
  rw [e1]
  dsimp only
  rw [e2]
  dsimp only
  rw [e3]
  dsimp only
  rw [if_neg (show ¬ ((vs.length : Int) < 0 ∨ 7 < (vs.length : Int)) by omega), Int.toNat_natCast, e4]
  dsimp only
  rw [if_neg (by simp), e5]
  unfold sureS
  rw [h, if_pos ⟨rfl, rfl⟩]
/-- What is put is got. -/
theorem snGet_back {s : SnP} {b : List Int} (hw : BytesWf s.im) (h : snPut s = (b, 0)) : snGet b = (s, 0) := by
  obtain ⟨h1, h2, h3⟩ := snPut_ok h
  have hn := right_N64 h1
  have hr := snRead_back hn.1 hn.2.1 hn.2.2.1 hn.2.2.2 h
  have hf := scan_frame (snData_wf hw) h2
  rw [← h3] at hf
  unfold snGet
  rw [hf]
  dsimp only
  rw [if_neg (by simp)]
  exact hr
theorem sure_ne {b : List Int} {s : SnP} (h : snPut s ≠ (b, 0)) : sureS b s = (zeroSn, 4) := by
  refine sure_no fun h2 => h (sure_ok h2).2
/-- The document's way to read comes to the same. -/
theorem rsnGet_eq {b : List Int} (hb : BytesWf b) : rsnGet b = snGet b := by
  unfold rsnGet snGet
  split
  · rename_i p hp
    split
    · rfl
    · rename_i hu
      obtain ⟨d, hd⟩ : ∃ d, p.2 = d := ⟨_, rfl⟩
      rw [hd]
      unfold rsnRead snRead
      obtain ⟨i, hi⟩ : ∃ i, numS false d = i := ⟨_, rfl⟩
      dsimp only
      rw [hi]
      obtain ⟨t, ht⟩ : ∃ t, numS i.2.1 i.2.2 = t := ⟨_, rfl⟩
      rw [ht]
      obtain ⟨n, hn⟩ : ∃ n, numS t.2.1 t.2.2 = n := ⟨_, rfl⟩
      rw [hn]
      have three : n.2.1 = false → n.2.2 = d.drop 24 := fun h => by
        rw [← hn] at h ⊢
        have h1 := numS_rest h
        have h2 : (numS i.2.1 i.2.2).2.1 = false := by rw [ht]; exact h1.1
        have h3 := numS_rest h2
        have h4 : (numS false d).2.1 = false := by rw [hi]; exact h3.1
        have h5 := numS_rest h4
        rw [h1.2.1, ← ht, h3.2.1, ← hi, h5.2.1, List.drop_drop, List.drop_drop]
      by_cases hr : 0 < n.1 ∧ n.1 < 8
      · rw [if_pos hr, if_neg (show ¬ (n.1 < 0 ∨ 7 < n.1) by omega)]
        split
        · rfl
        · rename_i hbad
          have h1 := numsS_rest n.1.toNat n.2.1 n.2.2 (by simpa using hbad)
          rw [h1.2.1, three h1.1, List.drop_drop]
      · rw [if_neg hr]
        by_cases h0 : n.1 = 0
        · rw [if_neg (show ¬ (n.1 < 0 ∨ 7 < n.1) by omega)]
          have e : numsS n.1.toNat n.2.1 n.2.2 = ([], n.2) := by rw [h0]; rfl
          rw [e]
          dsimp only
          split
          · rfl
          · rename_i hbad
            rw [three (by simpa using hbad), h0]
            rfl
        · rw [if_pos (show (n.1 < 0 ∨ 7 < n.1) by omega)]
          split
          · rfl
          · refine sure_ne fun h => h0 ?_
            obtain ⟨g1, g2, g3⟩ := snPut_ok h
            have gn := right_N64 g1
            have hsp := scanS_put hb
            have hwd : BytesWf d := fun x hx => by
              have := hsp.2.2 p (by rw [hp]; simp)
              rw [← hd] at hx
              exact this.2.2.2 x hx
            have hwi : BytesWf n.2.2 := by
              have := (numS_shrinks t.2.1 t.2.2)
              have w1 := (numS_shrinks false d hwd).1
              rw [hi] at w1
              have w2 := (numS_shrinks i.2.1 i.2.2 w1).1
              rw [ht] at w2
              have w3 := (this w2).1
              rw [hn] at w3
              exact w3
            have hs := scan_frame (snData_wf (s := ⟨i.1, t.1, [], n.2.2⟩) hwi) g2
            rw [← g3, Prod.ext_iff] at hs
            rw [hs.1] at hp
            simp only [List.cons.injEq, and_true] at hp
            have hdd : d = snData ⟨i.1, t.1, [], n.2.2⟩ := by rw [← hd, ← hp]
            have e1 : numS false d = (i.1, false, numB 8 t.1 ++ (numB 8 (0 : Int) ++ n.2.2)) := by
              rw [hdd, snData_three]; exact numS_back _ _ gn.1
            have e2 := numS_back t.1 (numB 8 (0 : Int) ++ n.2.2) gn.2.1
            have e3 := numS_back 0 n.2.2 ⟨by decide, by decide⟩
            rw [hi] at e1
            rw [e1] at ht
            dsimp only at ht
            rw [e2] at ht
            rw [← ht] at hn
            dsimp only at hn
            rw [e3] at hn
            rw [← hn]
  · rfl
theorem snGet_fine {b : List Int} (hb : BytesWf b) : BytesWf (snGet b).1.im ∧ (snGet b).1.im.length ≤ b.length := by
  unfold snGet
  split
  · rename_i p hp
    split
    · exact ⟨fun x hx => (by cases hx), Nat.zero_le _⟩
    · unfold snRead
      dsimp only
      split
      · exact ⟨fun x hx => (by cases hx), Nat.zero_le _⟩
      · split
        · exact ⟨fun x hx => (by cases hx), Nat.zero_le _⟩
        · have hsp := scanS_put hb
          have hwd : BytesWf p.2 := (hsp.2.2 p (by rw [hp]; simp)).2.2.2
          have hle : p.2.length ≤ b.length := by
            have e := hsp.2.1
            rw [hp] at e
            have := congrArg List.length e
            rw [List.length_take] at this
            simp only [putP, List.flatMap_cons, List.flatMap_nil, List.append_nil, frameB_len] at this
            omega
          unfold sureS
          split
          · refine ⟨fun x hx => hwd x (List.mem_of_mem_drop hx), ?_⟩
            dsimp only
            rw [List.length_drop]
            omega
          · exact ⟨fun x hx => (by cases hx), Nat.zero_le _⟩
  · exact ⟨fun x hx => (by cases hx), Nat.zero_le _⟩
end Go.Proofs.YtejgebpdipnhmaaGreatDoor
/- Bytes of a call's own, and an append to them. Conditions: as each says. -/
namespace Go.Proofs.YtejgebpdipnhmaaGreatDoor
open Go.RowKit
set_option maxRecDepth 20000
/-- Bytes of a call's own. -/
structure BOwn (w : World) (base : Nat) (a : Option Addr) (n c : Nat) (L : List Int) : Prop where
  len : L.length = n
  row : w.ownsRow base 5 1 (.slice a n c) n (L.map bv)
theorem BOwn.below {w w' : World} {base n c B : Nat} {a : Option Addr} {L : List Int} (h : BOwn w base a n c L) (hb : Below B w w') (hB : w.heap.size ≤ B) : BOwn w' base a n c L := ⟨h.len, own_below h.row hb hB⟩
theorem BOwn.le {w : World} {base base' n c : Nat} {a : Option Addr} {L : List Int} (h : BOwn w base a n c L) (hB : base' ≤ base) : BOwn w base' a n c L := ⟨h.len, Go.Joins.ownsRow_le h.row hB⟩
theorem BOwn.in {w : World} {base n c : Nat} {a : Option Addr} {L : List Int} (h : BOwn w base a n c L) : BytesIn w w.heap.size a L := own_in h.len h.row
theorem BOwn.nil {w : World} {base n c : Nat} {a : Option Addr} {L : List Int} (h : BOwn w base a n c L) : a = none → c = 0 := by
  intro ha
  rcases Go.Joins.ownsRow_forms h.row with ⟨h1, _⟩ | ⟨g, c', h1⟩
  · cases h1; rfl
  · rw [ha] at h1; cases h1
theorem BOwn.lt {w : World} {base n c : Nat} {a : Option Addr} {L : List Int} (h : BOwn w base a n c L) : ∀ g, (Value.slice a n c).ownBlock = some g → base ≤ g ∧ g < w.heap.size := fun g hg => World.ownsRow.lt h.row g hg
theorem BOwn.kept {w w' : World} {base n c : Nat} {a : Option Addr} {L : List Int} {row : Option Nat} (h : BOwn w base a n c L) (hg : w.grownBy w' row) (hr : (Value.slice a n c).ownBlock = none ∨ (Value.slice a n c).ownBlock ≠ row) : BOwn w' base a n c L := ⟨h.len, h.row.kept hg hr⟩
theorem BOwn.lit (w : World) (xs : List Int) (h : xs.length ≤ 1000) : BOwn (w.alloc (.cells (xs.map bv).toArray 5)) w.heap.size (some ⟨w.heap.size, 0, none⟩) xs.length xs.length xs :=
  ⟨rfl, by have h2 : xs.length ≤ maxLen := by (unfold maxLen; omega)
           exact World.ownsRow_lit w (base := w.heap.size) (e := 5) (size := 1) (xs.map bv).toArray xs.length (Nat.le_refl _) h2 (by simp)⟩
def RNew (L : List Int) (w : World) (e : Ending) (w' : World) : Prop := ∃ a n c, e = .returned (.slice a n c) ∧ BOwn w' w.heap.size a n c L ∧ Below w.heap.size w w'
theorem wpList_append_bo {w : World} {ops : Array Oper} {rest : List Oper} {o : Oper} {a : Act} {Q : Exit → Act → World → Prop} (hgd : o.guard = none) (s x : Operand)
    (ho : o.op = .call { callee := .builtin .append, args := #[s, x], argTypes := #[24, 24] })
    (base : Nat) {a1 : Option Addr} {n1 c1 : Nat} {L1 : List Int} (hs : a.eval s = .slice a1 n1 c1) (hown : BOwn w base a1 n1 c1 L1)
    {ao : Option Addr} {n cap : Nat} {xs : List Int} (hx : a.eval x = .slice ao n cap) (hn : xs.length = n) (B : Nat) (hin : BytesIn w B ao xs) (hao : ao = none → cap = 0) (hlim : n1 + n ≤ 140737488351232) (hbase : base ≤ w.heap.size)
    (h : ∀ a2 n2 c2 w', BOwn w' base a2 n2 c2 (L1 ++ xs) → w.grownBy w' (Value.slice a1 n1 c1).ownBlock → n2 = n1 + n → wpList Tryz.prog ops Q rest (a.put o.dst (.slice a2 n2 c2)) w') : wpList Tryz.prog ops Q (o :: rest) a w := by
  obtain ⟨rfl, hrow⟩ := hown
  subst hn
  refine wpList_append_bytes hgd s x ho base _ L1 hs hrow ao cap xs hx B hin hao hlim hbase fun v' w' h1 h2 => ?_
  obtain ⟨a2, c2, rfl⟩ := row_slice h1
  exact h a2 _ c2 w' ⟨rfl, h1⟩ h2 (by rw [List.length_append])
end Go.Proofs.YtejgebpdipnhmaaGreatDoor
/- log.copied: entries in memory of their own. Conditions: the entries' cells lie as their readings say. -/
namespace Go.Proofs.YtejgebpdipnhmaaGreatDoor
open Go.RowKit
set_option maxRecDepth 20000
end Go.Proofs.YtejgebpdipnhmaaGreatDoor
/- Entries among the arguments, with the bounds of what hangs on them. Conditions: they are read as the row reads them, their weights are bounded. -/
namespace Go.Proofs.YtejgebpdipnhmaaGreatDoor
open Go.RowKit Go.ChangeShapes
set_option maxRecDepth 20000
end Go.Proofs.YtejgebpdipnhmaaGreatDoor
/- The bytes that forms are written as are bytes. No program. Conditions: as each says. -/
namespace Go.Proofs.YtejgebpdipnhmaaGreatDoor
open Go.RowKit
set_option maxRecDepth 20000
theorem BytesWf.app {a b : List Int} (h : BytesWf a) (h2 : BytesWf b) : BytesWf (a ++ b) := fun x hx => (List.mem_append.1 hx).elim (h x) (h2 x)
theorem BytesWf.flat {α : Type} {f : α → List Int} {l : List α} (h : ∀ x ∈ l, BytesWf (f x)) : BytesWf (l.flatMap f) := fun x hx => by
  obtain ⟨y, hy, hx⟩ := List.mem_flatMap.1 hx
  exact h y hy x hx
theorem of_lit {n : Int} (h : (Lit.int .i64 n).wf = true) : -9223372036854775808 ≤ n ∧ n ≤ 9223372036854775807 := by
  have h : (decide (IntKind.i64.min ≤ n) && decide (n ≤ IntKind.i64.max)) = true := h
  have e1 : IntKind.i64.min = -9223372036854775808 := by decide
  have e2 : IntKind.i64.max = 9223372036854775807 := by decide
  rw [e1, e2] at h
  simpa using h
end Go.Proofs.YtejgebpdipnhmaaGreatDoor
/- Snaps as they lie in memory. Conditions: as each says. -/
namespace Go.Proofs.YtejgebpdipnhmaaGreatDoor
open Go.RowKit
set_option maxRecDepth 20000
/-- A snap: its numbers, its voters and image where they lie. -/
structure Sn where
  index : Int
  term : Int
  va : Option Addr
  vs : List Int
  vc : Nat
  ia : Option Addr
  im : List Int
  ic : Nat
def Sn.plain (x : Sn) : SnP := ⟨x.index, x.term, x.vs, x.im⟩
def snVal (x : Sn) : Value := .agg #[.int .i64 x.index, .int .i64 x.term, .slice x.va x.vs.length x.vc, .slice x.ia x.im.length x.ic]
def snArr (x : Sn) : Array Value := #[.int .i64 x.index, .int .i64 x.term, .slice x.va x.vs.length x.vc, .slice x.ia x.im.length x.ic]
def zeroSx : Sn := ⟨0, 0, none, [], 0, none, [], 0⟩
def snSub (w : World) (B : Nat) (x : Sn) : Prop := NumsIn w B x.va x.vs ∧ BytesIn w B x.ia x.im
theorem snSub_below {w w' : World} {B B' : Nat} {x : Sn} (h : snSub w B x) (hb : Below B' w w') (hB : B ≤ B') : snSub w' B x := ⟨h.1.below noSub_kept hb hB, h.2.below hb hB⟩
theorem snSub_mono {w : World} {B B' : Nat} {x : Sn} (h : snSub w B x) (hB : B ≤ B') : snSub w B' x := ⟨h.1.mono noSub_rising hB, h.2.mono hB⟩
/-- A snap whose parts are not too great. -/
structure SnFine (x : Sn) : Prop where
  index : N64 x.index
  term : N64 x.term
  vs : ∀ v ∈ x.vs, N64 v
  vn : x.vs.length ≤ 1000000
  im : BytesWf x.im
  ln : x.im.length ≤ 4000000
  vnil : x.va = none → x.vc = 0
  inil : x.ia = none → x.ic = 0
  vcap : x.vs.length ≤ x.vc
  icap : x.im.length ≤ x.ic
end Go.Proofs.YtejgebpdipnhmaaGreatDoor
/- Whether a snap is right; numbers as bytes. Conditions: as each says. -/
namespace Go.Proofs.YtejgebpdipnhmaaGreatDoor
open Go.RowKit
set_option maxRecDepth 20000
theorem pair_of (g : Bool) : ∃ P : Bool × Bool, g = P.1 := ⟨(g, g), rfl⟩
theorem upGo_take : ∀ (l : List Int) (last : Int) (k : Nat) (x : Int), l[k]? = some x → upGo last (l.take k) = true → upGo last l = true → (l.take k).getLastD last < x ∧ x ≤ 9 := by
  intro l
  induction l with
  | nil => intro last k x h; simp at h
  | cons y l ih =>
    intro last k x h h1 h2
    cases k with
    | zero =>
      simp only [List.getElem?_cons_zero, Option.some.injEq] at h
      subst h
      simp only [upGo, Bool.and_eq_true, decide_eq_true_eq] at h2
      exact h2.1
    | succ k =>
      simp only [List.getElem?_cons_succ] at h
      simp only [List.take_succ_cons, upGo, Bool.and_eq_true] at h1 h2
      have := ih y k x h h1.2 h2.2
      rw [List.take_succ_cons, List.getLastD_cons]
      exact this
theorem upGo_snoc : ∀ (l : List Int) (last x : Int), upGo last (l ++ [x]) = (upGo last l && (decide (l.getLastD last < x) && decide (x ≤ 9))) := by
  intro l
  induction l with
  | nil => intro last x; simp [upGo]
  | cons y l ih =>
    intro last x
    rw [List.cons_append, upGo, ih, upGo, List.getLastD_cons]
    simp only [Bool.and_assoc]
theorem up_last {xs : List Int} {k : Nat} {x : Int} (hkx : xs[k]? = some x) (h1 : upGo 0 (xs.take k) = true) (h : ¬ ((xs.take k).getLastD 0 < x ∧ x ≤ 9)) : upGo 0 xs = false := by
  cases hh : upGo 0 xs with
  | false => rfl
  | true => exact absurd (upGo_take xs 0 k x hkx h1 hh) h
set_option maxHeartbeats 2000000 in
theorem sright_any (x : Sn) (w : World) (hx : NumsIn w w.heap.size x.va x.vs) (hf : SnFine x) (g : Bool) (hg : snRight x.plain = g) :
    Calls Tryz.prog 17 #[snVal x] w fun e w' => e = .returned (.bool g) ∧ Below w.heap.size w w' := by
  obtain ⟨si, st, va, xs, vc, ia, im, ic⟩ := x
  have hl := hf.vn
  clear hf
  dsimp only [snVal, Sn.plain] at hx hg hl ⊢
  obtain ⟨n, hn⟩ : ∃ n, xs.length = n := ⟨_, rfl⟩
  rw [hn] at hl ⊢
  have hg2 : g = (upGo 0 xs && ((decide (1 ≤ si) && decide (si ≤ 1099511627776)) && ((decide (0 ≤ st) && decide (st ≤ 1099511627776)) && decide (n ≤ 7)))) := by
    rw [← hg, ← hn]; rfl
  have HX := Lib.hid hx
  have HN := Lib.hid hn
  obtain ⟨P, hP⟩ := pair_of g
  rw [hP] at hg2
  have HG := Lib.hid hg2
  rw [hP]
  clear hx hn hg hg2 hP
  go_enter Tryz.func17, Tryz.ntmps17
  go_wp2_with fail
  have hb0 := (Below.refl w.heap.size w).alloc (Nat.le_refl _) (.cells #[.int .i64 si, .int .i64 st, .slice va n vc, .slice ia im.length ic] 26)
  have hk0 := heap_alloc_new w (.cells #[.int .i64 si, .int .i64 st, .slice va n vc, .slice ia im.length ic] 26)
  generalize w.alloc (.cells #[.int .i64 si, .int .i64 st, .slice va n vc, .slice ia im.length ic] 26) = w0 at hb0 hk0 ⊢
  have q0 : w0.cell? ⟨w.heap.size, 0, none⟩ = some (.int .i64 si) := Go.Joins.cell_of_block hk0 0
  have q1 : w0.cell? ⟨w.heap.size, 1, none⟩ = some (.int .i64 st) := Go.Joins.cell_of_block hk0 1
  have q2 : w0.cell? ⟨w.heap.size, 2, none⟩ = some (.slice va n vc) := Go.Joins.cell_of_block hk0 2
  have HB0 := Lib.hid hb0
  clear hk0 hb0
  go_loopw [3, 9] (fun m i wr => ∃ k : Nat, k ≤ n ∧ i = .int .i64 k ∧ m = .int .i64 ((xs.take k).getLastD 0) ∧ upGo 0 (xs.take k) = true ∧ w0 = wr) (fun _ i _ => n - (intOf i).toNat)
  case atStart => exact ⟨0, by omega, rfl, rfl, rfl, rfl⟩
  case round =>
    obtain ⟨k, hk, rfl, rfl, hall, rfl⟩ := hrel
    have HA := Lib.hid hall
    clear hall
    by_cases hlt : k < n
    · have i1 : (k : Int) < n := by omega
      have hkx : xs[k]? = some (xs[k]'(by rw [HN.out]; exact hlt)) := List.getElem?_eq_getElem _
      have htk : xs.take (k + 1) = xs.take k ++ [xs[k]'(by rw [HN.out]; exact hlt)] := List.take_succ_eq_append_getElem _
      obtain ⟨b, off, hao, hb, hc, _⟩ := HX.out.at hkx
      generalize xs[k]'(by rw [HN.out]; exact hlt) = x at hc hkx htk
      have c0 : w0.cell? ⟨b, off + k, none⟩ = some (.int .i64 x) := by
        have := hc 0 (by decide)
        rw [Nat.mul_one, Nat.add_zero] at this
        exact (HB0.out.cell (p := ⟨b, _, none⟩) hb).trans this
      subst hao
      have HT := Lib.hid htk
      have hbad : ¬ ((xs.take k).getLastD 0 < x ∧ x ≤ 9) → P.1 = false := fun h => by
        rw [HG.out, up_last hkx HA.out h, Bool.false_and]
      have HBAD := Lib.hid hbad
      obtain ⟨q, hq⟩ : ∃ q, (xs.take k).getLastD 0 = q := ⟨_, rfl⟩
      rw [hq] at HBAD
      rw [hq]
      have HQ := Lib.hid hq
      clear hc hkx htk hbad hq
      by_cases h1 : x ≤ q
      · have hf := HBAD.out (by omega)
        go_wp2_with fail
        go_ret
        exact ⟨by first | rfl | (rw [hf]; rfl), HB0.out⟩
      · by_cases h2 : 9 < x
        · have hf := HBAD.out (by omega)
          go_wp2_with fail
          go_ret
          exact ⟨by first | rfl | (rw [hf]; rfl), HB0.out⟩
        · have hv : upGo 0 (xs.take (k + 1)) = true ∧ (xs.take (k + 1)).getLastD 0 = x := by
            rw [HT.out, upGo_snoc, HA.out, HQ.out]
            exact ⟨by simp; omega, by simp⟩
          have HV := Lib.hid hv
          clear hv
          go_wp2_with fail
          go_roundw
          case rel => exact ⟨k + 1, by omega, by go_num, by rw [HV.out.2], HV.out.1, by first | rfl | trivial⟩
          case measure => simp [intOf] <;> omega
    · have i1 : ¬ (k : Int) < n := by omega
      obtain rfl : k = n := by omega
      have hall : upGo 0 xs = true := by
        have := HA.out
        rwa [List.take_of_length_le (by rw [HN.out]; exact Nat.le_refl _)] at this
      have hfin := HG.out
      rw [hall, Bool.true_and] at hfin
      have HF := Lib.hid hfin
      clear hall hfin
      by_cases h1 : 1 ≤ si
      · by_cases h2 : si ≤ 1099511627776
        · by_cases h3 : 0 ≤ st
          · by_cases h4 : st ≤ 1099511627776
            · by_cases h5 : k ≤ 7
              · have j5 : (k : Int) ≤ 7 := by omega
                go_wp2_with fail
                go_ret
                exact ⟨by rw [HF.out]; simp [h1, h2, h3, h4, h5] <;> (intros; omega), HB0.out⟩
              · have j5 : ¬ (k : Int) ≤ 7 := by omega
                go_wp2_with fail
                go_ret
                exact ⟨by rw [HF.out]; simp [h1, h2, h3, h4, h5] <;> (intros; omega), HB0.out⟩
            · go_wp2_with fail
              go_ret
              exact ⟨by rw [HF.out]; simp [h1, h2, h3, h4] <;> (intros; omega), HB0.out⟩
          · go_wp2_with fail
            go_ret
            exact ⟨by rw [HF.out]; simp [h1, h2, h3] <;> (intros; omega), HB0.out⟩
        · go_wp2_with fail
          go_ret
          exact ⟨by rw [HF.out]; simp [h1, h2] <;> (intros; omega), HB0.out⟩
      · go_wp2_with fail
        go_ret
        exact ⟨by rw [HF.out]; simp [h1] <;> (intros; omega), HB0.out⟩
theorem snumbers_any (ao : Option Addr) (n cap : Nat) (xs : List Int) (L : List Int) (w : World) (B : Nat) (hL : xs.flatMap (numB 8) = L) (hn : xs.length = n) (hx : NumsIn w B ao xs) (hB : B ≤ w.heap.size) (hl : n ≤ 1000000) :
    Calls Tryz.prog 20 #[.slice ao n cap] w (RNew L w) := by
  have HX := Lib.hid (hx.mono noSub_rising hB)
  have HN := Lib.hid hn
  have HL := Lib.hid hL
  clear hx hn hL
  go_enter Tryz.func20, Tryz.ntmps20
  go_wp2_with fail
  go_loopw [3, 8] (fun v i wr => ∃ (k : Nat) (a : Option Addr) (c : Nat), k ≤ n ∧ i = .int .i64 k ∧ v = .slice a (8 * k) c ∧ BOwn wr w.heap.size a (8 * k) c ((xs.take k).flatMap (numB 8)) ∧ Below w.heap.size w wr) (fun _ i _ => n - (intOf i).toNat)
  case atStart => exact ⟨0, none, 0, by omega, rfl, rfl, ⟨rfl, World.ownsRow_nil _ _ _ _⟩, Below.refl _ _⟩
  case round =>
    obtain ⟨k, a, c, hk, rfl, rfl, hown, hbel⟩ := hrel
    have HO := Lib.hid hown
    have hsz := hbel.size
    clear hown
    by_cases hlt : k < n
    · have i1 : (k : Int) < n := by omega
      have hkx : xs[k]? = some (xs[k]'(by rw [HN.out]; exact hlt)) := List.getElem?_eq_getElem _
      have htk : xs.take (k + 1) = xs.take k ++ [xs[k]'(by rw [HN.out]; exact hlt)] := List.take_succ_eq_append_getElem _
      obtain ⟨b, off, hao, hb, hc, _⟩ := HX.out.at hkx
      generalize xs[k]'(by rw [HN.out]; exact hlt) = x at hc hkx htk
      have c0 : wr.cell? ⟨b, off + k, none⟩ = some (.int .i64 x) := by
        have := hc 0 (by decide)
        rw [Nat.mul_one, Nat.add_zero] at this
        exact (hbel.cell (p := ⟨b, _, none⟩) hb).trans this
      subst hao
      have HT := Lib.hid htk
      obtain ⟨m, hm⟩ : ∃ m, 8 * k = m := ⟨_, rfl⟩
      have HM := Lib.hid hm
      rw [hm] at HO ⊢
      clear hc hkx htk hm
      go_wp2_with fail
      refine (number_w x _ wr rfl).mono ?_
      rintro e w2 ⟨a1, c1, rfl, ho1, hb1⟩
      have HO1 := Lib.hid ho1
      have hb2 := hbel.trans (hb1.mono hsz)
      have hz1 := hb1.size
      clear ho1 c0
      go_wp2_with (at_builtin; refine wpList_append_bo rfl (.tmp 12) (.tmp 14) rfl w.heap.size rfl (HO.out.below hb1 (Nat.le_refl _)) rfl rfl _ (own_bytes' HO1.out) (own_none HO1.out) (by have := HM.out; rw [numB_len]; omega) (by omega) ?_)
      intro a2 n2 c2 w3 hown hg hn2
      have hb3 := hb2.grown hg (by omega) (fun k hk => (HO.out.lt k hk).1)
      have hn3 : n2 = 8 * (k + 1) := by rw [hn2, numB_len, ← HM.out]; omega
      subst hn3
      have HO2 := Lib.hid (show BOwn w3 w.heap.size a2 (8 * (k + 1)) c2 ((xs.take (k + 1)).flatMap (numB 8)) by
        rw [HT.out, List.flatMap_append, List.flatMap_singleton]; exact hown)
      clear hown hg hn2
      go_wp2_with fail
      go_roundw
      case rel => exact ⟨k + 1, a2, c2, by omega, by go_num, rfl, HO2.out, hb3⟩
      case measure => simp [intOf] <;> omega
    · have i1 : ¬ (k : Int) < n := by omega
      obtain rfl : k = n := by omega
      go_wp2_with fail
      go_ret
      have hown := HO.out
      rw [List.take_of_length_le (by rw [HN.out]; exact Nat.le_refl _), HL.out] at hown
      exact ⟨a, _, c, rfl, hown, hbel⟩
end Go.Proofs.YtejgebpdipnhmaaGreatDoor
