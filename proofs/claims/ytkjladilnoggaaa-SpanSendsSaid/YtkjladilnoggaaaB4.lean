/- A part of the proof: see the text that states the theorem. -/
import Derived.Test.YtkjladilnoggaaaB0
set_option linter.unusedSimpArgs false
set_option linter.unusedVariables false
set_option linter.unusedSectionVars false
noncomputable section
set_option maxHeartbeats 1000000
namespace Go.Proofs.Y19
open Go Go.SX Go.RowKit
/-- the order by the first number that differs -/
def cmpV : List Int → List Int → Int
  | a :: l, b :: m => if a < b then -1 else if b < a then 1 else cmpV l m
  | _, _ => 0
theorem cmpV_anti : ∀ (l m : List Int), cmpV m l = -cmpV l m
  | [], [] => rfl
  | [], _ :: _ => rfl
  | _ :: _, [] => rfl
  | a :: l, b :: m => by
    simp only [cmpV]
    have := cmpV_anti l m
    split <;> split <;> first | omega | (split <;> omega)
theorem cmpV_zero : ∀ {l m : List Int}, l.length = m.length → (cmpV l m = 0 ↔ l = m)
  | [], [], _ => by simp [cmpV]
  | a :: l, b :: m, h => by
    simp only [cmpV]
    have ih := cmpV_zero (l := l) (m := m) (by simpa using h)
    split
    · simp; omega
    · split
      · simp; omega
      · rw [ih]
        have : a = b := by omega
        simp [this]
theorem cmpV_range : ∀ (l m : List Int), cmpV l m = -1 ∨ cmpV l m = 0 ∨ cmpV l m = 1
  | [], [] => .inr (.inl rfl)
  | [], _ :: _ => .inr (.inl rfl)
  | _ :: _, [] => .inr (.inl rfl)
  | a :: l, b :: m => by
    simp only [cmpV]
    have := cmpV_range l m
    split
    · exact .inl rfl
    · split
      · exact .inr (.inr rfl)
      · exact this
theorem cmpV_trans : ∀ {l m n : List Int}, l.length = m.length → m.length = n.length → cmpV l m ≤ 0 → cmpV m n ≤ 0 → cmpV l n ≤ 0 ∧ (cmpV l n < 0 ∨ cmpV l m = 0 ∧ cmpV m n = 0)
  | [], [], [], _, _, _, _ => by simp [cmpV]
  | a :: l, b :: m, c :: n, h1, h2, h3, h4 => by
    simp only [cmpV] at *
    have ih := cmpV_trans (l := l) (m := m) (n := n) (by simpa using h1) (by simpa using h2)
    grind
theorem c_Compare (a0 a1 a2 a3 a4 a5 b0 b1 b2 b3 b4 b5 : Int) : Ret Try.prog 37 #[vRk a0 a1 a2 a3 a4 a5, vRk b0 b1 b2 b3 b4 b5] (vI (cmpV [a0, a1, a2, a3, a4, a5] [b0, b1, b2, b3, b4, b5])) := by
  refine ret_of t_Compare (mkEnv [.i a0, .i a1, .i a2, .i a3, .i a4, .i a5, .i b0, .i b1, .i b2, .i b3, .i b4, .i b5]) (fun w => ?_)
  rcases Int.lt_trichotomy a0 b0 with h | h | h
  · simp [cmpV, h, Int.not_le.2 h, Int.not_lt.2 (Int.le_of_lt h), Int.ne_of_lt h, Int.le_of_lt h]
  rotate_left
  · simp [cmpV, h, Int.not_le.2 h, Int.not_lt.2 (Int.le_of_lt h), (Int.ne_of_lt h).symm, Int.le_of_lt h]
  subst h
  rcases Int.lt_trichotomy a1 b1 with h | h | h
  · simp [cmpV, h, Int.not_le.2 h, Int.not_lt.2 (Int.le_of_lt h), Int.ne_of_lt h, Int.le_of_lt h]
  rotate_left
  · simp [cmpV, h, Int.not_le.2 h, Int.not_lt.2 (Int.le_of_lt h), (Int.ne_of_lt h).symm, Int.le_of_lt h]
  subst h
  rcases Int.lt_trichotomy a2 b2 with h | h | h
  · simp [cmpV, h, Int.not_le.2 h, Int.not_lt.2 (Int.le_of_lt h), Int.ne_of_lt h, Int.le_of_lt h]
  rotate_left
  · simp [cmpV, h, Int.not_le.2 h, Int.not_lt.2 (Int.le_of_lt h), (Int.ne_of_lt h).symm, Int.le_of_lt h]
  subst h
  rcases Int.lt_trichotomy a3 b3 with h | h | h
  · simp [cmpV, h, Int.not_le.2 h, Int.not_lt.2 (Int.le_of_lt h), Int.ne_of_lt h, Int.le_of_lt h]
  rotate_left
  · simp [cmpV, h, Int.not_le.2 h, Int.not_lt.2 (Int.le_of_lt h), (Int.ne_of_lt h).symm, Int.le_of_lt h]
  subst h
  rcases Int.lt_trichotomy a4 b4 with h | h | h
  · simp [cmpV, h, Int.not_le.2 h, Int.not_lt.2 (Int.le_of_lt h), Int.ne_of_lt h, Int.le_of_lt h]
  rotate_left
  · simp [cmpV, h, Int.not_le.2 h, Int.not_lt.2 (Int.le_of_lt h), (Int.ne_of_lt h).symm, Int.le_of_lt h]
  subst h
  rcases Int.lt_trichotomy a5 b5 with h | h | h
  · simp [cmpV, h, Int.not_le.2 h, Int.not_lt.2 (Int.le_of_lt h), Int.ne_of_lt h, Int.le_of_lt h]
  rotate_left
  · simp [cmpV, h, Int.not_le.2 h, Int.not_lt.2 (Int.le_of_lt h), (Int.ne_of_lt h).symm, Int.le_of_lt h]
  subst h
  simp [cmpV]
theorem c_Better (a0 a1 a2 a3 a4 a5 b0 b1 b2 b3 b4 b5 : Int) : Ret Try.prog 49 #[vRk a0 a1 a2 a3 a4 a5, vRk b0 b1 b2 b3 b4 b5] (vB (decide (cmpV [a0, a1, a2, a3, a4, a5] [b0, b1, b2, b3, b4, b5] < 0))) := by
  refine ret_of t_Better (mkEnv [.i a0, .i a1, .i a2, .i a3, .i a4, .i a5, .i b0, .i b1, .i b2, .i b3, .i b4, .i b5]) (fun w => ?_)
  rcases Int.lt_trichotomy a0 b0 with h | h | h
  · simp [cmpV, h, Int.not_le.2 h, Int.not_lt.2 (Int.le_of_lt h), Int.ne_of_lt h, Int.le_of_lt h]
  rotate_left
  · simp [cmpV, h, Int.not_le.2 h, Int.not_lt.2 (Int.le_of_lt h), (Int.ne_of_lt h).symm, Int.le_of_lt h]
  subst h
  rcases Int.lt_trichotomy a1 b1 with h | h | h
  · simp [cmpV, h, Int.not_le.2 h, Int.not_lt.2 (Int.le_of_lt h), Int.ne_of_lt h, Int.le_of_lt h]
  rotate_left
  · simp [cmpV, h, Int.not_le.2 h, Int.not_lt.2 (Int.le_of_lt h), (Int.ne_of_lt h).symm, Int.le_of_lt h]
  subst h
  rcases Int.lt_trichotomy a2 b2 with h | h | h
  · simp [cmpV, h, Int.not_le.2 h, Int.not_lt.2 (Int.le_of_lt h), Int.ne_of_lt h, Int.le_of_lt h]
  rotate_left
  · simp [cmpV, h, Int.not_le.2 h, Int.not_lt.2 (Int.le_of_lt h), (Int.ne_of_lt h).symm, Int.le_of_lt h]
  subst h
  rcases Int.lt_trichotomy a3 b3 with h | h | h
  · simp [cmpV, h, Int.not_le.2 h, Int.not_lt.2 (Int.le_of_lt h), Int.ne_of_lt h, Int.le_of_lt h]
  rotate_left
  · simp [cmpV, h, Int.not_le.2 h, Int.not_lt.2 (Int.le_of_lt h), (Int.ne_of_lt h).symm, Int.le_of_lt h]
  subst h
  rcases Int.lt_trichotomy a4 b4 with h | h | h
  · simp [cmpV, h, Int.not_le.2 h, Int.not_lt.2 (Int.le_of_lt h), Int.ne_of_lt h, Int.le_of_lt h]
  rotate_left
  · simp [cmpV, h, Int.not_le.2 h, Int.not_lt.2 (Int.le_of_lt h), (Int.ne_of_lt h).symm, Int.le_of_lt h]
  subst h
  rcases Int.lt_trichotomy a5 b5 with h | h | h
  · simp [cmpV, h, Int.not_le.2 h, Int.not_lt.2 (Int.le_of_lt h), Int.ne_of_lt h, Int.le_of_lt h]
  rotate_left
  · simp [cmpV, h, Int.not_le.2 h, Int.not_lt.2 (Int.le_of_lt h), (Int.ne_of_lt h).symm, Int.le_of_lt h]
  subst h
  simp [cmpV]
end Go.Proofs.Y19
