/- Frames in bytes, in plain Lean: what is put, what is scanned, and that the one undoes the other. No program. Conditions: bytes are below 256. -/
import Derived.Test.YtgigfeppaalbcaaGreatDoorSumPlain
namespace Go.Proofs.YtgigfeppaalbcaaGreatDoor
open Go

/-- A number as four bytes. -/
def fourB (n : Nat) : List Int := [(n : Int) / 16777216, (n : Int) / 65536 % 256, (n : Int) / 256 % 256, (n : Int) % 256]
/-- What four bytes say. -/
def saidS (b : List Int) : Nat := (b.getD 0 0 * 16777216 + b.getD 1 0 * 65536 + b.getD 2 0 * 256 + b.getD 3 0).toNat
/-- A frame's bytes. -/
def frameB (kind : Int) (data : List Int) : List Int := fourB data.length ++ [kind] ++ fourB (sumS (kind :: data)) ++ data
theorem frameB_len (kind : Int) (data : List Int) : (frameB kind data).length = 9 + data.length := by simp [frameB, fourB]; omega
theorem said_four (n : Nat) (rest : List Int) : saidS (fourB n ++ rest) = n := by
  simp [saidS, fourB]; omega
theorem four_said {b : List Int} (hb : ∀ x ∈ b, 0 ≤ x ∧ x < 256) (hl : 4 ≤ b.length) : fourB (saidS b) = b.take 4 := by
  match b, hl with
  | x0 :: x1 :: x2 :: x3 :: r, _ =>
    have h0 := hb x0 (by simp)
    have h1 := hb x1 (by simp)
    have h2 := hb x2 (by simp)
    have h3 := hb x3 (by simp)
    simp [saidS, fourB]
    omega
theorem four_inj {m n : Nat} (h : fourB m = fourB n) : m = n := by
  have h1 := congrArg saidS h
  have := said_four m []
  have := said_four n []
  simp at *
  omega
inductive Stp where
  | stop (spoilt : Bool)
  | one (kind : Int) (data : List Int)
/-- The kind that stands behind the length; the data. -/
def kindS (b : List Int) : Int := b.getD 4 0
def dataS (b : List Int) : List Int := (b.drop 9).take (saidS b)
/-- What bytes begin with. -/
def stepS (b : List Int) : Stp :=
  if b.length < 4 then .stop false
  else if 1048576 < saidS b then .stop true
  else if b.length < 9 + saidS b then .stop false
  else if saidS (b.drop 5) ≠ sumS (kindS b :: dataS b) then .stop true
  else .one (kindS b) (dataS b)
def scanF : Nat → List Int → List (Int × List Int) × Nat × Bool
  | 0, _ => ([], 0, false)
  | f + 1, b => match stepS b with
    | .stop s => ([], 0, s)
    | .one k d => ((k, d) :: (scanF f (b.drop (9 + d.length))).1, 9 + d.length + (scanF f (b.drop (9 + d.length))).2.1, (scanF f (b.drop (9 + d.length))).2.2)
/-- The frames that bytes begin with, how many bytes they are, whether the next one is spoilt. -/
def scanS (b : List Int) : List (Int × List Int) × Nat × Bool := scanF (b.length + 1) b
theorem dataS_len {b : List Int} (h : 9 + saidS b ≤ b.length) : (dataS b).length = saidS b := by simp [dataS]; omega
theorem step_one {b : List Int} {k : Int} {d : List Int} (h : stepS b = .one k d) : 4 ≤ b.length ∧ saidS b ≤ 1048576 ∧ 9 + saidS b ≤ b.length ∧ saidS (b.drop 5) = sumS (kindS b :: dataS b) ∧ k = kindS b ∧ d = dataS b ∧ d.length = saidS b := by
  unfold stepS at h
  split at h
  · cases h
  · split at h
    · cases h
    · split at h
      · cases h
      · rename_i h1 h2 h3
        split at h
        · cases h
        · rename_i h4
          injection h with e1 e2
          refine ⟨by omega, by omega, by omega, by omega, e1.symm, e2.symm, ?_⟩
          rw [← e2]
          exact dataS_len (by omega)
theorem scanF_more : ∀ (f : Nat) (b : List Int), b.length < f → ∀ g, b.length < g → scanF f b = scanF g b := by
  intro f
  induction f with
  | zero => intro b h; omega
  | succ f ih =>
    intro b h g hg
    cases g with
    | zero => omega
    | succ g =>
      unfold scanF
      cases hs : stepS b with
      | stop s => rfl
      | one k d =>
        have h1 := step_one hs
        have h2 : (b.drop (9 + d.length)).length < f := by simp; omega
        have h3 : (b.drop (9 + d.length)).length < g := by simp; omega
        show (_, _) = _
        rw [ih _ h2 g h3]
theorem scanS_stop {b : List Int} {s : Bool} (h : stepS b = .stop s) : scanS b = ([], 0, s) := by
  unfold scanS scanF; rw [h]
theorem scanS_one {b : List Int} {k : Int} {d : List Int} (h : stepS b = .one k d) : scanS b = ((k, d) :: (scanS (b.drop (9 + d.length))).1, 9 + d.length + (scanS (b.drop (9 + d.length))).2.1, (scanS (b.drop (9 + d.length))).2.2) := by
  have h1 := step_one h
  have h2 : scanF b.length (b.drop (9 + d.length)) = scanS (b.drop (9 + d.length)) := scanF_more _ _ (by simp; omega) _ (by omega)
  conv => lhs; unfold scanS scanF
  rw [h]
  show (_, _) = _
  rw [h2]
/-- Frames that were found go ahead of what is found behind them. -/
def joinS (acc : List (Int × List Int)) (used : Nat) (r : List (Int × List Int) × Nat × Bool) : List (Int × List Int) × Nat × Bool := (acc ++ r.1, used + r.2.1, r.2.2)
theorem join_one {b : List Int} {acc : List (Int × List Int)} {used : Nat} {k : Int} {d : List Int} {r : List (Int × List Int) × Nat × Bool} (h : stepS (b.drop used) = .one k d) (hr : r = joinS acc used (scanS (b.drop used))) :
    r = joinS (acc ++ [(k, d)]) (used + 9 + d.length) (scanS (b.drop (used + 9 + d.length))) := by
  rw [hr, scanS_one h]
  unfold joinS
  rw [List.drop_drop, show used + (9 + d.length) = used + 9 + d.length by omega]
  simp
  omega
theorem join_stop {b : List Int} {acc : List (Int × List Int)} {used : Nat} {s : Bool} {r : List (Int × List Int) × Nat × Bool} (h : stepS (b.drop used) = .stop s) (hr : r = joinS acc used (scanS (b.drop used))) : r = (acc, used, s) := by
  rw [hr, scanS_stop h]; simp [joinS]
/-- Is it a frame that may be? -/
def okP (p : Int × List Int) : Prop := 0 ≤ p.1 ∧ p.1 ≤ 255 ∧ p.2.length ≤ 1048576 ∧ ∀ x ∈ p.2, 0 ≤ x ∧ x < 256
def putP (l : List (Int × List Int)) : List Int := l.flatMap fun p => frameB p.1 p.2
theorem putP_cons (p : Int × List Int) (l : List (Int × List Int)) : putP (p :: l) = frameB p.1 p.2 ++ putP l := by simp [putP]
theorem frame_drop5 (k : Int) (d rest : List Int) : (frameB k d ++ rest).drop 5 = fourB (sumS (k :: d)) ++ (d ++ rest) := by simp [frameB, fourB]
theorem frame_drop9 (k : Int) (d rest : List Int) : (frameB k d ++ rest).drop 9 = d ++ rest := by simp [frameB, fourB]
theorem frame_said (k : Int) (d rest : List Int) : saidS (frameB k d ++ rest) = d.length := by
  have := said_four d.length ([k] ++ fourB (sumS (k :: d)) ++ d ++ rest)
  simpa [frameB] using this
theorem frame_kind (k : Int) (d rest : List Int) : kindS (frameB k d ++ rest) = k := by simp [kindS, frameB, fourB]
theorem frame_data (k : Int) (d rest : List Int) : dataS (frameB k d ++ rest) = d := by
  unfold dataS
  rw [frame_drop9, frame_said, List.take_left]
theorem step_frame {k : Int} {d rest : List Int} (h : d.length ≤ 1048576) : stepS (frameB k d ++ rest) = .one k d := by
  have hl : (frameB k d ++ rest).length = 9 + d.length + rest.length := by rw [List.length_append, frameB_len]
  unfold stepS
  rw [frame_said, frame_kind, frame_data, frame_drop5, said_four, if_neg (by omega), if_neg (by omega), if_neg (by omega), if_neg (by simp)]
/-- A frame whose sum is another one. -/
theorem step_bad {k : Int} {d d' rest : List Int} (h : d.length ≤ 1048576) (hl : d'.length = d.length) (hs : sumS (k :: d) ≠ sumS (k :: d')) : stepS ((fourB d.length ++ [k] ++ fourB (sumS (k :: d)) ++ d') ++ rest) = .stop true := by
  have e1 : saidS ((fourB d.length ++ [k] ++ fourB (sumS (k :: d)) ++ d') ++ rest) = d.length := by
    have := said_four d.length ([k] ++ fourB (sumS (k :: d)) ++ d' ++ rest)
    simpa using this
  have e2 : kindS ((fourB d.length ++ [k] ++ fourB (sumS (k :: d)) ++ d') ++ rest) = k := by simp [kindS, fourB]
  have e3 : ((fourB d.length ++ [k] ++ fourB (sumS (k :: d)) ++ d') ++ rest).drop 5 = fourB (sumS (k :: d)) ++ (d' ++ rest) := by simp [fourB]
  have e4 : dataS ((fourB d.length ++ [k] ++ fourB (sumS (k :: d)) ++ d') ++ rest) = d' := by
    unfold dataS
    rw [e1, ← hl]
    simp [fourB]
  have hlen : ((fourB d.length ++ [k] ++ fourB (sumS (k :: d)) ++ d') ++ rest).length = 9 + d.length + rest.length := by simp [fourB]; omega
  unfold stepS
  rw [e1, e2, e3, e4, said_four, if_neg (by omega), if_neg (by omega), if_neg (by omega), if_pos hs]
/-- The beginning of a frame. -/
theorem step_torn {k : Int} {d : List Int} (h : d.length ≤ 1048576) {c : Nat} (hc : c < 9 + d.length) : stepS ((frameB k d).take c) = .stop false := by
  have hl : ((frameB k d).take c).length = c := by rw [List.length_take, frameB_len]; omega
  unfold stepS
  by_cases h4 : c < 4
  · rw [if_pos (by omega)]
  · have e : saidS ((frameB k d).take c) = d.length := by
      have h1 : (frameB k d).take c = fourB d.length ++ ((frameB k d).take c).drop 4 := by
        conv => lhs; rw [← List.take_append_drop 4 ((frameB k d).take c)]
        rw [List.take_take, show min 4 c = 4 by omega]
        congr 1
      rw [h1, said_four]
    rw [if_neg (by omega), e, if_neg (by omega), if_pos (by omega)]
/-- What is put is scanned. -/
theorem scan_put : ∀ (l : List (Int × List Int)), (∀ p ∈ l, okP p) → ∀ rest, scanS (putP l ++ rest) = joinS l (putP l).length (scanS rest) := by
  intro l
  induction l with
  | nil => intro _ rest; simp [putP, joinS]
  | cons p l ih =>
    intro h rest
    have hp := h p List.mem_cons_self
    have hd : ((frameB p.1 p.2 ++ (putP l ++ rest)).drop (9 + p.2.length)) = putP l ++ rest := by
      rw [← frameB_len p.1 p.2, List.drop_left]
    rw [putP_cons, List.append_assoc, scanS_one (step_frame hp.2.2.1), hd, ih (fun q hq => h q (List.mem_cons_of_mem _ hq))]
    simp [joinS, frameB_len]
    omega
theorem scan_nil : scanS [] = ([], 0, false) := scanS_stop (by unfold stepS; rw [if_pos (by simp)])
theorem scan_all (l : List (Int × List Int)) (h : ∀ p ∈ l, okP p) : scanS (putP l) = (l, (putP l).length, false) := by
  have := scan_put l h []
  rw [List.append_nil, scan_nil] at this
  rw [this]; simp [joinS]
/-- How many frames are whole up to a place, and how many bytes they are. -/
def wholeS : List (Int × List Int) → Nat → Nat × Nat
  | [], _ => (0, 0)
  | p :: l, cut => if 9 + p.2.length ≤ cut then ((wholeS l (cut - (9 + p.2.length))).1 + 1, (wholeS l (cut - (9 + p.2.length))).2 + (9 + p.2.length)) else (0, 0)
theorem scan_torn : ∀ (l : List (Int × List Int)), (∀ p ∈ l, okP p) → ∀ cut, cut ≤ (putP l).length → scanS ((putP l).take cut) = (l.take (wholeS l cut).1, (wholeS l cut).2, false) := by
  intro l
  induction l with
  | nil => intro _ cut h; simp [putP, wholeS, scan_nil]
  | cons p l ih =>
    intro h cut hc
    have hp := h p List.mem_cons_self
    rw [putP_cons] at hc ⊢
    rw [List.length_append, frameB_len] at hc
    unfold wholeS
    by_cases hw : 9 + p.2.length ≤ cut
    · rw [if_pos hw, List.take_append, frameB_len, List.take_of_length_le (by rw [frameB_len]; exact hw)]
      have hd : (frameB p.1 p.2 ++ (putP l).take (cut - (9 + p.2.length))).drop (9 + p.2.length) = (putP l).take (cut - (9 + p.2.length)) := by
        rw [← frameB_len p.1 p.2, List.drop_left]
      rw [scanS_one (step_frame hp.2.2.1), hd, ih (fun q hq => h q (List.mem_cons_of_mem _ hq)) _ (by omega)]
      simp
      omega
    · rw [if_neg hw, List.take_append_of_le_length (by rw [frameB_len]; omega), scanS_stop (step_torn hp.2.2.1 (by omega))]
      rfl
/-- What is scanned is put as just the bytes that were used. -/
theorem step_put {b : List Int} (hb : ∀ x ∈ b, 0 ≤ x ∧ x < 256) {k : Int} {d : List Int} (h : stepS b = .one k d) : b.take (9 + d.length) = frameB k d ∧ okP (k, d) := by
  obtain ⟨h1, h2, h3, h4, rfl, rfl, h5⟩ := step_one h
  have hk : kindS b ∈ b := by unfold kindS; rw [List.getD_eq_getElem?_getD, List.getElem?_eq_getElem (by omega)]; simp
  have hd : ∀ x ∈ dataS b, x ∈ b := fun x hx => List.mem_of_mem_drop (List.mem_of_mem_take hx)
  refine ⟨?_, (hb _ hk).1, by have := (hb _ hk).2; show kindS b ≤ 255; omega, by rw [h5]; exact h2, fun x hx => hb x (hd x hx)⟩
  unfold frameB
  rw [← h4, h5, four_said hb h1, four_said (fun x hx => hb x (List.mem_of_mem_drop hx)) (by simp; omega)]
  have e1 : [kindS b] = (b.drop 4).take 1 := by
    unfold kindS
    rw [List.getD_eq_getElem?_getD, List.getElem?_eq_getElem (by omega), List.drop_eq_getElem_cons (i := 4) (l := b) (by omega), List.take_succ_cons, List.take_zero]
    rfl
  rw [e1]
  unfold dataS
  have t : ∀ i j : Nat, b.take (i + j) = b.take i ++ (b.drop i).take j := fun i j => List.take_add
  rw [t 9, t 5 4, t 4 1]
theorem scanF_put : ∀ (f : Nat) (b : List Int), b.length < f → (∀ x ∈ b, 0 ≤ x ∧ x < 256) → (scanF f b).2.1 ≤ b.length ∧ putP (scanF f b).1 = b.take (scanF f b).2.1 ∧ ∀ p ∈ (scanF f b).1, okP p := by
  intro f
  induction f with
  | zero => intro b h; omega
  | succ f ih =>
    intro b h hb
    unfold scanF
    cases hs : stepS b with
    | stop s => exact ⟨by simp, by simp [putP], by simp⟩
    | one k d =>
      have h1 := step_one hs
      obtain ⟨h2, h3⟩ := step_put hb hs
      obtain ⟨i1, i2, i3⟩ := ih (b.drop (9 + d.length)) (by simp; omega) (fun x hx => hb x (List.mem_of_mem_drop hx))
      rw [List.length_drop] at i1
      refine ⟨by show 9 + d.length + _ ≤ _; omega, ?_, ?_⟩
      · show putP ((k, d) :: _) = b.take (9 + d.length + _)
        rw [putP_cons, i2, List.take_add, h2]
      · intro p hp
        rcases List.mem_cons.1 hp with rfl | hp
        · exact h3
        · exact i3 p hp
theorem scanS_put {b : List Int} (hb : ∀ x ∈ b, 0 ≤ x ∧ x < 256) : (scanS b).2.1 ≤ b.length ∧ putP (scanS b).1 = b.take (scanS b).2.1 ∧ ∀ p ∈ (scanS b).1, okP p := scanF_put _ _ (by omega) hb
end Go.Proofs.YtgigfeppaalbcaaGreatDoor
