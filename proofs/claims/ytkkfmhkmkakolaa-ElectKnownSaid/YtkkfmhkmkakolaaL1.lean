/- A part of the proof: see the text that states the theorem. -/
import Derived.Test.YtkkfmhkmkakolaaA0
set_option linter.unusedSimpArgs false
set_option linter.unusedVariables false
set_option linter.unusedSectionVars false
noncomputable section
namespace Go.Proofs.Y11
open Go Go.SX Go.RowKit
abbrev vI (n : Int) : Value := .int .i64 n
abbrev vB (b : Bool) : Value := .bool b
/-- the order by the first number that differs -/
def cmpV : List Int → List Int → Int
  | a :: l, b :: m => if a < b then -1 else if b < a then 1 else cmpV l m
  | _, _ => 0
theorem cmpV_anti : ∀ (l m : List Int), cmpV m l = -cmpV l m
  | [], [] => rfl
  | [], _ :: _ => rfl
  | _ :: _, [] => rfl
  | a :: l, b :: m => by
    simp only [cmpV]
    have := cmpV_anti l m
    split <;> split <;> first | omega | (split <;> omega)
theorem cmpV_zero : ∀ {l m : List Int}, l.length = m.length → (cmpV l m = 0 ↔ l = m)
  | [], [], _ => by simp [cmpV]
  | a :: l, b :: m, h => by
    simp only [cmpV]
    have ih := cmpV_zero (l := l) (m := m) (by simpa using h)
    split
    · simp; omega
    · split
      · simp; omega
      · rw [ih]
        have : a = b := by omega
        simp [this]
theorem cmpV_range : ∀ (l m : List Int), cmpV l m = -1 ∨ cmpV l m = 0 ∨ cmpV l m = 1
  | [], [] => .inr (.inl rfl)
  | [], _ :: _ => .inr (.inl rfl)
  | _ :: _, [] => .inr (.inl rfl)
  | a :: l, b :: m => by
    simp only [cmpV]
    have := cmpV_range l m
    split
    · exact .inl rfl
    · split
      · exact .inr (.inr rfl)
      · exact this
theorem cmpV_trans : ∀ {l m n : List Int}, l.length = m.length → m.length = n.length → cmpV l m ≤ 0 → cmpV m n ≤ 0 → cmpV l n ≤ 0 ∧ (cmpV l n < 0 ∨ cmpV l m = 0 ∧ cmpV m n = 0)
  | [], [], [], _, _, _, _ => by simp [cmpV]
  | a :: l, b :: m, c :: n, h1, h2, h3, h4 => by
    simp only [cmpV] at *
    have ih := cmpV_trans (l := l) (m := m) (n := n) (by simpa using h1) (by simpa using h2)
    grind
theorem c_Compare (a0 a1 a2 a3 a4 a5 a6 a7 a8 b0 b1 b2 b3 b4 b5 b6 b7 b8 : Int) : Ret Try.prog 15 #[.agg #[vI a0, vI a1, vI a2, vI a3, vI a4, vI a5, vI a6, vI a7, vI a8], .agg #[vI b0, vI b1, vI b2, vI b3, vI b4, vI b5, vI b6, vI b7, vI b8]] (vI (cmpV [a0, a1, a2, a3, a4, a5, a6, a7, a8] [b0, b1, b2, b3, b4, b5, b6, b7, b8])) := by
  refine ret_of t_Compare (mkEnv [.i a0, .i a1, .i a2, .i a3, .i a4, .i a5, .i a6, .i a7, .i a8, .i b0, .i b1, .i b2, .i b3, .i b4, .i b5, .i b6, .i b7, .i b8]) (fun w => ?_)
  rcases Int.lt_trichotomy a0 b0 with h | h | h
  · simp [cmpV, h, Int.not_le.2 h, Int.not_lt.2 (Int.le_of_lt h), Int.ne_of_lt h, Int.le_of_lt h]
  rotate_left
  · simp [cmpV, h, Int.not_le.2 h, Int.not_lt.2 (Int.le_of_lt h), (Int.ne_of_lt h).symm, Int.le_of_lt h]
  subst h
  rcases Int.lt_trichotomy a1 b1 with h | h | h
  · simp [cmpV, h, Int.not_le.2 h, Int.not_lt.2 (Int.le_of_lt h), Int.ne_of_lt h, Int.le_of_lt h]
  rotate_left
  · simp [cmpV, h, Int.not_le.2 h, Int.not_lt.2 (Int.le_of_lt h), (Int.ne_of_lt h).symm, Int.le_of_lt h]
  subst h
  rcases Int.lt_trichotomy a2 b2 with h | h | h
  · simp [cmpV, h, Int.not_le.2 h, Int.not_lt.2 (Int.le_of_lt h), Int.ne_of_lt h, Int.le_of_lt h]
  rotate_left
  · simp [cmpV, h, Int.not_le.2 h, Int.not_lt.2 (Int.le_of_lt h), (Int.ne_of_lt h).symm, Int.le_of_lt h]
  subst h
  rcases Int.lt_trichotomy a3 b3 with h | h | h
  · simp [cmpV, h, Int.not_le.2 h, Int.not_lt.2 (Int.le_of_lt h), Int.ne_of_lt h, Int.le_of_lt h]
  rotate_left
  · simp [cmpV, h, Int.not_le.2 h, Int.not_lt.2 (Int.le_of_lt h), (Int.ne_of_lt h).symm, Int.le_of_lt h]
  subst h
  rcases Int.lt_trichotomy a4 b4 with h | h | h
  · simp [cmpV, h, Int.not_le.2 h, Int.not_lt.2 (Int.le_of_lt h), Int.ne_of_lt h, Int.le_of_lt h]
  rotate_left
  · simp [cmpV, h, Int.not_le.2 h, Int.not_lt.2 (Int.le_of_lt h), (Int.ne_of_lt h).symm, Int.le_of_lt h]
  subst h
  rcases Int.lt_trichotomy a5 b5 with h | h | h
  · simp [cmpV, h, Int.not_le.2 h, Int.not_lt.2 (Int.le_of_lt h), Int.ne_of_lt h, Int.le_of_lt h]
  rotate_left
  · simp [cmpV, h, Int.not_le.2 h, Int.not_lt.2 (Int.le_of_lt h), (Int.ne_of_lt h).symm, Int.le_of_lt h]
  subst h
  rcases Int.lt_trichotomy a6 b6 with h | h | h
  · simp [cmpV, h, Int.not_le.2 h, Int.not_lt.2 (Int.le_of_lt h), Int.ne_of_lt h, Int.le_of_lt h]
  rotate_left
  · simp [cmpV, h, Int.not_le.2 h, Int.not_lt.2 (Int.le_of_lt h), (Int.ne_of_lt h).symm, Int.le_of_lt h]
  subst h
  rcases Int.lt_trichotomy a7 b7 with h | h | h
  · simp [cmpV, h, Int.not_le.2 h, Int.not_lt.2 (Int.le_of_lt h), Int.ne_of_lt h, Int.le_of_lt h]
  rotate_left
  · simp [cmpV, h, Int.not_le.2 h, Int.not_lt.2 (Int.le_of_lt h), (Int.ne_of_lt h).symm, Int.le_of_lt h]
  subst h
  rcases Int.lt_trichotomy a8 b8 with h | h | h
  · simp [cmpV, h, Int.not_le.2 h, Int.not_lt.2 (Int.le_of_lt h), Int.ne_of_lt h, Int.le_of_lt h]
  rotate_left
  · simp [cmpV, h, Int.not_le.2 h, Int.not_lt.2 (Int.le_of_lt h), (Int.ne_of_lt h).symm, Int.le_of_lt h]
  subst h
  simp [cmpV]
theorem c_order (a0 a1 a2 a3 a4 a5 a6 a7 a8 b0 b1 b2 b3 b4 b5 b6 b7 b8 : Int) : Ret Try.prog 26 #[.agg #[vI a0, vI a1, vI a2, vI a3, vI a4, vI a5, vI a6, vI a7, vI a8], .agg #[vI b0, vI b1, vI b2, vI b3, vI b4, vI b5, vI b6, vI b7, vI b8]] (vI (cmpV [a0, a1, a2, a3, a4, a5, a6, a7, a8] [b0, b1, b2, b3, b4, b5, b6, b7, b8])) := by
  refine ret_of t_order (mkEnv [.i a0, .i a1, .i a2, .i a3, .i a4, .i a5, .i a6, .i a7, .i a8, .i b0, .i b1, .i b2, .i b3, .i b4, .i b5, .i b6, .i b7, .i b8]) (fun w => ?_)
  rcases Int.lt_trichotomy a0 b0 with h | h | h
  · simp [cmpV, h, Int.not_le.2 h, Int.not_lt.2 (Int.le_of_lt h), Int.ne_of_lt h, Int.le_of_lt h]
  rotate_left
  · simp [cmpV, h, Int.not_le.2 h, Int.not_lt.2 (Int.le_of_lt h), (Int.ne_of_lt h).symm, Int.le_of_lt h]
  subst h
  rcases Int.lt_trichotomy a1 b1 with h | h | h
  · simp [cmpV, h, Int.not_le.2 h, Int.not_lt.2 (Int.le_of_lt h), Int.ne_of_lt h, Int.le_of_lt h]
  rotate_left
  · simp [cmpV, h, Int.not_le.2 h, Int.not_lt.2 (Int.le_of_lt h), (Int.ne_of_lt h).symm, Int.le_of_lt h]
  subst h
  rcases Int.lt_trichotomy a2 b2 with h | h | h
  · simp [cmpV, h, Int.not_le.2 h, Int.not_lt.2 (Int.le_of_lt h), Int.ne_of_lt h, Int.le_of_lt h]
  rotate_left
  · simp [cmpV, h, Int.not_le.2 h, Int.not_lt.2 (Int.le_of_lt h), (Int.ne_of_lt h).symm, Int.le_of_lt h]
  subst h
  rcases Int.lt_trichotomy a3 b3 with h | h | h
  · simp [cmpV, h, Int.not_le.2 h, Int.not_lt.2 (Int.le_of_lt h), Int.ne_of_lt h, Int.le_of_lt h]
  rotate_left
  · simp [cmpV, h, Int.not_le.2 h, Int.not_lt.2 (Int.le_of_lt h), (Int.ne_of_lt h).symm, Int.le_of_lt h]
  subst h
  rcases Int.lt_trichotomy a4 b4 with h | h | h
  · simp [cmpV, h, Int.not_le.2 h, Int.not_lt.2 (Int.le_of_lt h), Int.ne_of_lt h, Int.le_of_lt h]
  rotate_left
  · simp [cmpV, h, Int.not_le.2 h, Int.not_lt.2 (Int.le_of_lt h), (Int.ne_of_lt h).symm, Int.le_of_lt h]
  subst h
  rcases Int.lt_trichotomy a5 b5 with h | h | h
  · simp [cmpV, h, Int.not_le.2 h, Int.not_lt.2 (Int.le_of_lt h), Int.ne_of_lt h, Int.le_of_lt h]
  rotate_left
  · simp [cmpV, h, Int.not_le.2 h, Int.not_lt.2 (Int.le_of_lt h), (Int.ne_of_lt h).symm, Int.le_of_lt h]
  subst h
  rcases Int.lt_trichotomy a6 b6 with h | h | h
  · simp [cmpV, h, Int.not_le.2 h, Int.not_lt.2 (Int.le_of_lt h), Int.ne_of_lt h, Int.le_of_lt h]
  rotate_left
  · simp [cmpV, h, Int.not_le.2 h, Int.not_lt.2 (Int.le_of_lt h), (Int.ne_of_lt h).symm, Int.le_of_lt h]
  subst h
  rcases Int.lt_trichotomy a7 b7 with h | h | h
  · simp [cmpV, h, Int.not_le.2 h, Int.not_lt.2 (Int.le_of_lt h), Int.ne_of_lt h, Int.le_of_lt h]
  rotate_left
  · simp [cmpV, h, Int.not_le.2 h, Int.not_lt.2 (Int.le_of_lt h), (Int.ne_of_lt h).symm, Int.le_of_lt h]
  subst h
  rcases Int.lt_trichotomy a8 b8 with h | h | h
  · simp [cmpV, h, Int.not_le.2 h, Int.not_lt.2 (Int.le_of_lt h), Int.ne_of_lt h, Int.le_of_lt h]
  rotate_left
  · simp [cmpV, h, Int.not_le.2 h, Int.not_lt.2 (Int.le_of_lt h), (Int.ne_of_lt h).symm, Int.le_of_lt h]
  subst h
  simp [cmpV]
def masterP (p1 cl ac va p2 mid : Int) : Prop := (0 ≤ p1 ∧ p1 ≤ 255) ∧ (0 ≤ cl ∧ cl ≤ 255) ∧ (0 ≤ ac ∧ ac ≤ 255) ∧ (0 ≤ va ∧ va ≤ 65535) ∧ (0 ≤ p2 ∧ p2 ≤ 255) ∧ (0 ≤ mid ∧ mid ≤ 281474976710655)
instance (a b c d e f : Int) : Decidable (masterP a b c d e f) := by unfold masterP; infer_instance
theorem c_CheckMaster (p1 cl ac va p2 mid : Int) : Ret Try.prog 30 #[.agg #[vI p1, vI cl, vI ac, vI va, vI p2, vI mid]] (vI (if masterP p1 cl ac va p2 mid then 0 else 201)) := by
  refine ret_of t_CheckMaster (mkEnv [.i p1, .i cl, .i ac, .i va, .i p2, .i mid]) (fun w => ?_)
  simp [masterP]
  grind
theorem c_ranked (a0 a1 a2 a3 a4 a5 a6 a7 a8 : Int) : Ret Try.prog 25 #[.agg #[vI a0, vI a1, vI a2, vI a3, vI a4, vI a5, vI a6, vI a7, vI a8]] (.agg #[vI a0, vI a1, vI a2, vI a3, vI a4, vI a5, vI a6, vI a7, vI a8]) := by
  refine ret_of t_ranked (mkEnv [.i a0, .i a1, .i a2, .i a3, .i a4, .i a5, .i a6, .i a7, .i a8]) (fun w => ?_)
  simp
theorem c_least (a0 a1 a2 a3 a4 a5 a6 a7 a8 b0 b1 b2 b3 b4 b5 b6 b7 b8 : Int) : Ret Try.prog 31 #[.agg #[vI a0, vI a1, vI a2, vI a3, vI a4, vI a5, vI a6, vI a7, vI a8], .agg #[vI b0, vI b1, vI b2, vI b3, vI b4, vI b5, vI b6, vI b7, vI b8], .func (.func 25) #[] #[], .func (.func 26) #[] #[]] (if cmpV [b0, b1, b2, b3, b4, b5, b6, b7, b8] [a0, a1, a2, a3, a4, a5, a6, a7, a8] < 0 then .agg #[vI b0, vI b1, vI b2, vI b3, vI b4, vI b5, vI b6, vI b7, vI b8] else .agg #[vI a0, vI a1, vI a2, vI a3, vI a4, vI a5, vI a6, vI a7, vI a8]) := by
  have k1 := c_ranked a0 a1 a2 a3 a4 a5 a6 a7 a8
  have k2 := c_ranked b0 b1 b2 b3 b4 b5 b6 b7 b8
  have k3 := c_order b0 b1 b2 b3 b4 b5 b6 b7 b8 a0 a1 a2 a3 a4 a5 a6 a7 a8
  generalize cmpV [b0, b1, b2, b3, b4, b5, b6, b7, b8] [a0, a1, a2, a3, a4, a5, a6, a7, a8] = q at *
  refine ret_of t_least (mkEnv [.i a0, .i a1, .i a2, .i a3, .i a4, .i a5, .i a6, .i a7, .i a8, .i b0, .i b1, .i b2, .i b3, .i b4, .i b5, .i b6, .i b7, .i b8]) (fun w => ?_)
  simp [-Bool.exists_bool]
  exact ⟨_, _, _, _, _, _, _, _, _, k2, _, _, _, _, _, _, _, _, _, k1, _, k3, fun h1 h2 => absurd h1 (Int.not_lt.2 h2), fun h1 h2 => absurd h2 (Int.not_lt.2 h1)⟩
/-- numbers that are known -/
def lits : List SC → Option (List Int)
  | [] => some []
  | .int .i64 (.lit n) :: l => (lits l).map (n :: ·)
  | _ => none
theorem lits_eq : ∀ {x : List SC} {l : List Int}, lits x = some l → x = l.map fun n => .int .i64 (.lit n) := by
  intro x
  induction x with
  | nil => intro l h; cases h; rfl
  | cons s x ih =>
    intro l h
    unfold lits at h
    split at h
    · rename_i he; cases he
    · rename_i n x' he
      cases he
      obtain ⟨q, hq, rfl⟩ := Option.map_eq_some_iff.1 h
      rw [ih hq]; rfl
    · cases h
def ageq (a b : Int) : Bool := decide (a ≤ b)
def okM : List Int → Bool
  | [p1, cl, ac, va, p2, mid] => decide (masterP p1 cl ac va p2 mid)
  | _ => false
def cv1 (x : List SC) : Option SV := match lits x with
  | some [a, b, c, d, e, f] => some (.a (.c (.int .i64 (.lit (bif okM [a, b, c, d, e, f] then 0 else 201)))))
  | _ => none
def cv2 (x y : List SC) : Option SV := match lits x, lits y with
  | some [a0, a1, a2, a3, a4, a5, a6, a7, a8], some [b0, b1, b2, b3, b4, b5, b6, b7, b8] => some (.a (.c (.int .i64 (.lit (cmpV [a0, a1, a2, a3, a4, a5, a6, a7, a8] [b0, b1, b2, b3, b4, b5, b6, b7, b8])))))
  | _, _ => none
def cv3 (x : List SC) : Option SV := match lits x with
  | some [a0, a1, a2, a3, a4, a5, a6, a7, a8] => some (.a (.agg x))
  | _ => none
def cv4 (x y : List SC) : Option SV := match lits x, lits y with
  | some [a0, a1, a2, a3, a4, a5, a6, a7, a8], some [b0, b1, b2, b3, b4, b5, b6, b7, b8] => some (.a (.agg (bif decide (cmpV [b0, b1, b2, b3, b4, b5, b6, b7, b8] [a0, a1, a2, a3, a4, a5, a6, a7, a8] < 0) then y else x)))
  | _, _ => none
def cvF (f : Nat) (args : List SV) : Option SV := match args with
  | [.a (.agg x)] => bif Nat.beq f 30 then cv1 x else bif Nat.beq f 25 then cv3 x else none
  | [.a (.agg x), .a (.agg y)] => bif Nat.beq f 26 then cv2 x y else none
  | [.a (.agg x), .a (.agg y), .a (.c (.fn ⟨.func 25, [], []⟩ [] [])), .a (.c (.fn ⟨.func 26, [], []⟩ [] []))] => bif Nat.beq f 31 then cv4 x y else none
  | _ => none
theorem cvF_ok : ∀ f args v, cvF f args = some v → ∀ (ρ : Env) (κ : Kap) (w : World), Calls Try.prog f (args.map (SV.den ρ κ)).toArray w fun e w' => e = .returned (v.den ρ κ) ∧ Below w.heap.size w w' := by
  intro f args v h ρ κ w
  unfold cvF at h
  split at h
  · rename_i x
    cases hb : Nat.beq f 30
    · rw [hb] at h; simp only [cond_false] at h
      cases hc : Nat.beq f 25
      · rw [hc] at h; cases h
      · rw [hc] at h; simp only [cond_true] at h
        have := Nat.eq_of_beq_eq_true hc; subst this
        unfold cv3 at h
        split at h
        · rename_i a0 a1 a2 a3 a4 a5 a6 a7 a8 hx
          have e := lits_eq hx
          cases h
          have k := c_ranked a0 a1 a2 a3 a4 a5 a6 a7 a8 w
          subst e
          simpa [SV.den, SA.den, SC.den, IE.den] using k
        · cases h
    · rw [hb] at h; simp only [cond_true] at h
      have := Nat.eq_of_beq_eq_true hb; subst this
      unfold cv1 at h
      split at h
      · rename_i a b c d ee f hx
        have e := lits_eq hx
        cases h
        have k := c_CheckMaster a b c d ee f w
        have hq : (bif okM [a, b, c, d, ee, f] then (0 : Int) else 201) = if masterP a b c d ee f then 0 else 201 := by
          simp only [okM]; by_cases hm : masterP a b c d ee f <;> simp [hm]
        subst e
        simpa [SV.den, SA.den, SC.den, IE.den, hq] using k
      · cases h
  · rename_i x y
    cases hb : Nat.beq f 26
    · rw [hb] at h; cases h
    · rw [hb] at h; simp only [cond_true] at h
      have := Nat.eq_of_beq_eq_true hb; subst this
      unfold cv2 at h
      split at h
      · rename_i a0 a1 a2 a3 a4 a5 a6 a7 a8 b0 b1 b2 b3 b4 b5 b6 b7 b8 hx hy
        have e1 := lits_eq hx
        have e2 := lits_eq hy
        cases h
        have k := c_order a0 a1 a2 a3 a4 a5 a6 a7 a8 b0 b1 b2 b3 b4 b5 b6 b7 b8 w
        subst e1 e2
        simpa [SV.den, SA.den, SC.den, IE.den] using k
      · cases h
  · rename_i x y
    cases hb : Nat.beq f 31
    · rw [hb] at h; cases h
    · rw [hb] at h; simp only [cond_true] at h
      have := Nat.eq_of_beq_eq_true hb; subst this
      unfold cv4 at h
      split at h
      · rename_i a0 a1 a2 a3 a4 a5 a6 a7 a8 b0 b1 b2 b3 b4 b5 b6 b7 b8 hx hy
        have e1 := lits_eq hx
        have e2 := lits_eq hy
        cases h
        have k := c_least a0 a1 a2 a3 a4 a5 a6 a7 a8 b0 b1 b2 b3 b4 b5 b6 b7 b8 w
        subst e1 e2
        by_cases hq : cmpV [b0, b1, b2, b3, b4, b5, b6, b7, b8] [a0, a1, a2, a3, a4, a5, a6, a7, a8] < 0
        · rw [if_pos hq] at k
          simpa [SV.den, SA.den, SC.den, IE.den, SC.denL, regroup, hq] using k
        · rw [if_neg hq] at k
          simpa [SV.den, SA.den, SC.den, IE.den, SC.denL, regroup, hq] using k
      · cases h
  · cases h
end Go.Proofs.Y11
