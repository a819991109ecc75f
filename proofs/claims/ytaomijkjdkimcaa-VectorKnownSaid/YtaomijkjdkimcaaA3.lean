/- A part of the proof: see the text that states the theorem. -/
import Derived.Test.YtaomijkjdkimcaaA2
set_option linter.unusedSimpArgs false
set_option linter.unusedVariables false
set_option linter.unusedSectionVars false
namespace Go.Proofs.Y18
open Go Go.SX Go.RowKit
theorem better_trans {a b c d e f a' b' c' d' e' f' a2 b2 c2 d2 e2 f2 : Int} (h : better a b c d e f a' b' c' d' e' f' = true) (h' : better a' b' c' d' e' f' a2 b2 c2 d2 e2 f2 = true) : better a b c d e f a2 b2 c2 d2 e2 f2 = true := by
  unfold better at *
  by_cases h1 : a = a' <;> by_cases h1' : a' = a2
  · subst h1 h1'
    by_cases h2 : b = b' <;> by_cases h2' : b' = b2
    · subst h2 h2'
      by_cases h3 : c = c' <;> by_cases h3' : c' = c2
      · subst h3 h3'
        by_cases h4 : d = d' <;> by_cases h4' : d' = d2
        · subst h4 h4'
          by_cases h5 : e = e' <;> by_cases h5' : e' = e2
          · subst h5 h5'; simp at *; omega
          · subst h5; simp_all
          · subst h5'; simp_all
          · have : e < e2 := by simp_all; omega
            simp [this, Int.ne_of_lt this]
        · subst h4; simp_all
        · subst h4'; simp_all
        · have : d < d2 := by simp_all; omega
          simp [this, Int.ne_of_lt this]
      · subst h3; simp_all
      · subst h3'; simp_all
      · have : c < c2 := by simp_all; omega
        simp [this, Int.ne_of_lt this]
    · subst h2; simp_all
    · subst h2'; simp_all
    · have : b < b2 := by simp_all; omega
      simp [this, Int.ne_of_lt this]
  · subst h1; simp_all
  · subst h1'; simp_all
  · have : a < a2 := by simp_all; omega
    simp [this, Int.ne_of_lt this]
theorem better_total {a b c d e f a' b' c' d' e' f' : Int} (h : better a b c d e f a' b' c' d' e' f' = false) (h' : better a' b' c' d' e' f' a b c d e f = false) : a = a' ∧ b = b' ∧ c = c' ∧ d = d' ∧ e = e' ∧ f = f' := by
  unfold better at *
  by_cases h1 : a = a'
  · subst h1
    by_cases h2 : b = b'
    · subst h2
      by_cases h3 : c = c'
      · subst h3
        by_cases h4 : d = d'
        · subst h4
          by_cases h5 : e = e'
          · subst h5; simp at *; omega
          · simp [h5, Ne.symm h5] at h h'; omega
        · simp [h4, Ne.symm h4] at h h'; omega
      · simp [h3, Ne.symm h3] at h h'; omega
    · simp [h2, Ne.symm h2] at h h'; omega
  · simp [h1, Ne.symm h1] at h h'; omega
theorem l_VectorOrders (a b c d e f a' b' c' d' e' f' a2 b2 c2 d2 e2 f2 : Int) : Ret Try.prog 6 #[vR a b c d e f, vR a' b' c' d' e' f', vR a2 b2 c2 d2 e2 f2] (vB true) := by
  have k1 := c_Compare a b c d e f a' b' c' d' e' f'
  have k2 := c_Compare a' b' c' d' e' f' a2 b2 c2 d2 e2 f2
  have k3 := c_Compare a b c d e f a2 b2 c2 d2 e2 f2
  have k4 := c_Compare a' b' c' d' e' f' a b c d e f
  have k5 := c_wakes
  refine ret_of t_VectorOrders (mkEnv [.i a, .i b, .i c, .i d, .i e, .i f, .i a', .i b', .i c', .i d', .i e', .i f', .i a2, .i b2, .i c2, .i d2, .i e2, .i f2]) (fun w => ?_)
  have t1 := @better_total a b c d e f a' b' c' d' e' f'
  have t2 := @better_total a' b' c' d' e' f' a2 b2 c2 d2 e2 f2
  have t3 := @better_total a b c d e f a2 b2 c2 d2 e2 f2
  have r1 := @better_trans a b c d e f a' b' c' d' e' f' a2 b2 c2 d2 e2 f2
  have r2 := @better_trans a2 b2 c2 d2 e2 f2 a' b' c' d' e' f' a b c d e f
  have s1 := @better_asymm a b c d e f a' b' c' d' e' f'
  have s2 := @better_asymm a' b' c' d' e' f' a2 b2 c2 d2 e2 f2
  have s3 := @better_asymm a b c d e f a2 b2 c2 d2 e2 f2
  have i1 := better_irr a b c d e f
  have e1 : (a = a' ∧ b = b' ∧ c = c' ∧ d = d' ∧ e = e' ∧ f = f') → better a b c d e f a' b' c' d' e' f' = false ∧ better a' b' c' d' e' f' a b c d e f = false := by
    rintro ⟨rfl, rfl, rfl, rfl, rfl, rfl⟩; exact ⟨i1, i1⟩
  have cong : (a = a' ∧ b = b' ∧ c = c' ∧ d = d' ∧ e = e' ∧ f = f') → better a b c d e f a2 b2 c2 d2 e2 f2 = better a' b' c' d' e' f' a2 b2 c2 d2 e2 f2 ∧ better a2 b2 c2 d2 e2 f2 a b c d e f = better a2 b2 c2 d2 e2 f2 a' b' c' d' e' f' := by
    rintro ⟨rfl, rfl, rfl, rfl, rfl, rfl⟩; exact ⟨rfl, rfl⟩
  have cong2 : (a' = a2 ∧ b' = b2 ∧ c' = c2 ∧ d' = d2 ∧ e' = e2 ∧ f' = f2) → better a b c d e f a2 b2 c2 d2 e2 f2 = better a b c d e f a' b' c' d' e' f' ∧ better a2 b2 c2 d2 e2 f2 a b c d e f = better a' b' c' d' e' f' a b c d e f := by
    rintro ⟨rfl, rfl, rfl, rfl, rfl, rfl⟩; exact ⟨rfl, rfl⟩
  simp only [cmp6] at k1 k2 k3 k4
  have hneg : IntKind.i64.wrap 1 = 1 ∧ IntKind.i64.wrap (-1) = -1 ∧ IntKind.i64.wrap 0 = 0 := ⟨by decide, by decide, by decide⟩
  obtain ⟨n1, n2, n3⟩ := hneg
  -- the two meanings of 'equal'
  have q : (a = a' ∧ b = b' ∧ c = c' ∧ d = d' ∧ e = e' ∧ f = f') ↔ (better a b c d e f a' b' c' d' e' f' = false ∧ better a' b' c' d' e' f' a b c d e f = false) := ⟨e1, fun h => t1 h.1 h.2⟩
  have qb : (a == a' && b == b' && (c == c' && (d == d' && e == e' && f == f'))) = (!better a b c d e f a' b' c' d' e' f' && !better a' b' c' d' e' f' a b c d e f) := by
    rw [Bool.eq_iff_iff]; simp only [Bool.and_eq_true, beq_iff_eq, Bool.not_eq_true']
    rw [← q]; constructor
    · rintro ⟨⟨h1, h2⟩, h3, ⟨h4, h5⟩, h6⟩; exact ⟨h1, h2, h3, h4, h5, h6⟩
    · rintro ⟨h1, h2, h3, h4, h5, h6⟩; exact ⟨⟨h1, h2⟩, h3, ⟨h4, h5⟩, h6⟩
  have cc1 : better a b c d e f a' b' c' d' e' f' = false → better a' b' c' d' e' f' a b c d e f = false → better a b c d e f a2 b2 c2 d2 e2 f2 = better a' b' c' d' e' f' a2 b2 c2 d2 e2 f2 ∧ better a2 b2 c2 d2 e2 f2 a b c d e f = better a2 b2 c2 d2 e2 f2 a' b' c' d' e' f' := fun h h' => cong (t1 h h')
  have cc2 : better a' b' c' d' e' f' a2 b2 c2 d2 e2 f2 = false → better a2 b2 c2 d2 e2 f2 a' b' c' d' e' f' = false → better a b c d e f a2 b2 c2 d2 e2 f2 = better a b c d e f a' b' c' d' e' f' ∧ better a2 b2 c2 d2 e2 f2 a b c d e f = better a' b' c' d' e' f' a b c d e f := fun h h' => cong2 (t2 h h')
  clear cong cong2 q e1 t1 t2 t3
  generalize better a b c d e f a' b' c' d' e' f' = B1 at *
  generalize better a' b' c' d' e' f' a b c d e f = B1' at *
  generalize better a' b' c' d' e' f' a2 b2 c2 d2 e2 f2 = B2 at *
  generalize better a2 b2 c2 d2 e2 f2 a' b' c' d' e' f' = B2' at *
  generalize better a b c d e f a2 b2 c2 d2 e2 f2 = B3 at *
  generalize better a2 b2 c2 d2 e2 f2 a b c d e f = B3' at *
  simp [-Bool.exists_bool]
  refine ⟨_, k5, rfl, fun _ => ⟨_, k1, _, k2, _, k3, _, k4, ?_, ?_⟩⟩
  · rw [qb]
    clear k1 k2 k3 k4 k5 qb
    cases B1 <;> cases B1' <;> simp [n1, n2, n3] at s1 ⊢
  · clear k1 k2 k3 k4 k5 qb
    cases B1 <;> cases B1' <;> cases B2 <;> cases B2' <;> cases B3 <;> cases B3' <;> simp at s1 s2 s3 r1 r2 cc1 cc2 ⊢
end Go.Proofs.Y18
