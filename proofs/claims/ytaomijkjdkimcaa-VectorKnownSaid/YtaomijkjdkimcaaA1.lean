/- A part of the proof: see the text that states the theorem. -/
import Derived.Test.YtaomijkjdkimcaaA0
set_option linter.unusedSimpArgs false
set_option linter.unusedVariables false
set_option linter.unusedSectionVars false
namespace Go.Proofs.Y18
open Go Go.SX Go.RowKit
abbrev vI (n : Int) : Value := .int .i64 n
abbrev vB (b : Bool) : Value := .bool b
abbrev vR (a b c d e f : Int) : Value := .agg #[vI a, vI b, vI c, vI d, vI e, vI f]
abbrev vH (a b c d e f g : Int) : Value := .agg #[vI a, vI b, vI c, vI d, vI e, vI f, vI g]
abbrev vBd (a b : Int) : Value := .agg #[vI a, vI b]
def okB (a b : Int) : Bool := decide (0 ≤ a ∧ a ≤ 15 ∧ 0 ≤ b ∧ b ≤ 11)
def okR (a b c d e f : Int) : Bool := okB a b && okB d e && decide (0 ≤ c ∧ c ≤ 1048576 ∧ 0 ≤ f ∧ f ≤ 47)
def okH (a b c d e f g : Int) : Bool := okR a b c d e f && decide (0 ≤ g ∧ g ≤ 20)
def cmpI (x y : Int) : Int := if x < y then -1 else if y < x then 1 else 0
theorem c_wakes : Ret Try.prog 11 #[] (vB true) := by
  refine ret_of t_wakes (mkEnv []) (fun w => ?_)
  simp
theorem c_cmp (x y : Int) : Ret Try.prog 34 #[vI x, vI y] (vI (cmpI x y)) := by
  refine ret_of t_cmp (mkEnv [.i x, .i y]) (fun w => ?_)
  simp [cmpI]
  omega
theorem c_within (x y : Int) : Ret Try.prog 31 #[vI x, vI y] (vB (decide (0 ≤ x ∧ x ≤ y))) := by
  refine ret_of t_within (mkEnv [.i x, .i y]) (fun w => ?_)
  simp
theorem c_validPort (x : Int) : Ret Try.prog 32 #[vI x] (vB (decide (0 ≤ x ∧ x ≤ 47))) := by
  refine ret_of t_validPort (mkEnv [.i x]) (fun w => ?_)
  simp [-Bool.exists_bool]
  simpa using c_within x 47
theorem c_validBid (a b : Int) : Ret Try.prog 30 #[vBd a b] (vB (okB a b)) := by
  refine ret_of t_validBid (mkEnv [.i a, .i b]) (fun w => ?_)
  simp [-Bool.exists_bool]
  refine ⟨_, c_within a 15, fun h => ?_, fun h => ?_⟩
  · have := c_within b 11
    simp at h
    simpa [okB, h] using this
  · simp at h; simp [okB]; omega
theorem c_Bid (a b : Int) : Ret Try.prog 19 #[vBd a b] (vB (okB a b)) := by
  refine ret_of t_Bid (mkEnv [.i a, .i b]) (fun w => ?_)
  simp [okB, Bool.and_assoc]
theorem c_Right (a b c d e f : Int) : Ret Try.prog 12 #[vR a b c d e f] (vB (okR a b c d e f)) := by
  refine ret_of t_Right (mkEnv [.i a, .i b, .i c, .i d, .i e, .i f]) (fun w => ?_)
  simp [-Bool.exists_bool]
  refine ⟨_, c_Bid a b, fun h => ⟨_, c_Bid d e, ?_⟩, fun h => ?_⟩
  · simp [okR, h, Bool.and_assoc]
  · simp [okR, h]
theorem c_Hello (a b c d e f g : Int) : Ret Try.prog 13 #[vH a b c d e f g] (vB (okH a b c d e f g)) := by
  refine ret_of t_Hello (mkEnv [.i a, .i b, .i c, .i d, .i e, .i f, .i g]) (fun w => ?_)
  simp [-Bool.exists_bool]
  refine ⟨_, c_Right a b c d e f, ?_⟩
  simp [okH, Bool.and_assoc]
theorem c_Check (a b c d e f : Int) : Ret Try.prog 14 #[vR a b c d e f] (vI (if okR a b c d e f then 0 else 280)) := by
  refine ret_of t_Check (mkEnv [.i a, .i b, .i c, .i d, .i e, .i f]) (fun w => ?_)
  simp [-Bool.exists_bool]
  refine ⟨_, c_validBid a b, fun h => ⟨_, c_validBid d e, fun h2 => ⟨_, c_within c 1048576, fun h3 => ⟨_, c_validPort f, fun h4 => ?_, fun h4 => ?_⟩, fun h3 => ?_⟩, fun h2 => ?_⟩, fun h => ?_⟩ <;>
    (simp [okR, *] at *; try omega)
theorem c_CheckHello (a b c d e f g : Int) : Ret Try.prog 15 #[vH a b c d e f g] (vI (if okH a b c d e f g then 0 else 280)) := by
  refine ret_of t_CheckHello (mkEnv [.i a, .i b, .i c, .i d, .i e, .i f, .i g]) (fun w => ?_)
  simp [-Bool.exists_bool]
  refine ⟨_, c_within g 20, fun h => ?_, fun h => ?_⟩
  · simp [okH] at *; omega
  · have := c_Check a b c d e f
    simp at h
    simpa [okH, h] using this
def better (a b c d e f a' b' c' d' e' f' : Int) : Bool :=
  if a ≠ a' then a < a' else if b ≠ b' then b < b' else if c ≠ c' then c < c' else if d ≠ d' then d < d' else if e ≠ e' then e < e' else f < f'
theorem c_Better (a b c d e f a' b' c' d' e' f' : Int) : Ret Try.prog 16 #[vR a b c d e f, vR a' b' c' d' e' f'] (vB (better a b c d e f a' b' c' d' e' f')) := by
  refine ret_of t_Better (mkEnv [.i a, .i b, .i c, .i d, .i e, .i f, .i a', .i b', .i c', .i d', .i e', .i f']) (fun w => ?_)
  by_cases h1 : a = a' <;> by_cases h2 : b = b' <;> by_cases h3 : c = c' <;> by_cases h4 : d = d' <;> by_cases h5 : e = e' <;> simp [better, *]
def cmp6 (a b c d e f a' b' c' d' e' f' : Int) : Int :=
  if better a b c d e f a' b' c' d' e' f' then -1 else if better a' b' c' d' e' f' a b c d e f then 1 else 0
theorem cmpI_ne {x y : Int} (h : ¬ cmpI x y = 0) : x ≠ y := by rintro rfl; simp [cmpI] at h
theorem cmpI_eq {x y : Int} (h : cmpI x y = 0) : x = y := by unfold cmpI at h; split at h <;> (try split at h) <;> (try cases h) <;> omega
theorem c_Compare (a b c d e f a' b' c' d' e' f' : Int) : Ret Try.prog 17 #[vR a b c d e f, vR a' b' c' d' e' f'] (vI (cmp6 a b c d e f a' b' c' d' e' f')) := by
  refine ret_of t_Compare (mkEnv [.i a, .i b, .i c, .i d, .i e, .i f, .i a', .i b', .i c', .i d', .i e', .i f']) (fun w => ?_)
  simp [-Bool.exists_bool]
  refine ⟨fun h1 h2 h3 h4 h5 h6 => by subst h1 h2 h3 h4 h5 h6; simp [cmp6, better], fun _ => ⟨_, c_cmp a a', fun h => ?_, fun h => ⟨_, c_cmp b b', fun h2 => ?_, fun h2 => ⟨_, c_cmp c c', fun h3 => ?_, fun h3 => ⟨_, c_cmp d d', fun h4 => ?_, fun h4 => ⟨_, c_cmp e e', fun h5 => ?_, fun h5 => ⟨_, c_cmp f f', fun h6 => ?_, fun h6 => ?_⟩⟩⟩⟩⟩⟩⟩
  · have n := cmpI_ne h; simp [cmp6, better, n, n.symm, cmpI]
  · have := cmpI_eq h; subst this; have n := cmpI_ne h2; simp [cmp6, better, n, n.symm, cmpI]
  · have := cmpI_eq h; subst this; have := cmpI_eq h2; subst this; have n := cmpI_ne h3; simp [cmp6, better, n, n.symm, cmpI]
  · have := cmpI_eq h; subst this; have := cmpI_eq h2; subst this; have := cmpI_eq h3; subst this; have n := cmpI_ne h4; simp [cmp6, better, n, n.symm, cmpI]
  · have := cmpI_eq h; subst this; have := cmpI_eq h2; subst this; have := cmpI_eq h3; subst this; have := cmpI_eq h4; subst this; have n := cmpI_ne h5; simp [cmp6, better, n, n.symm, cmpI]
  · have := cmpI_eq h; subst this; have := cmpI_eq h2; subst this; have := cmpI_eq h3; subst this; have := cmpI_eq h4; subst this; have := cmpI_eq h5; subst this; simp [cmp6, better, cmpI]
  · have := cmpI_eq h; subst this; have := cmpI_eq h2; subst this; have := cmpI_eq h3; subst this; have := cmpI_eq h4; subst this; have := cmpI_eq h5; subst this; have := cmpI_eq h6; subst this; simp [cmp6, better, cmpI]
/-- what better is -/
theorem better_irr (a b c d e f : Int) : better a b c d e f a b c d e f = false := by simp [better]
theorem better_asymm {a b c d e f a' b' c' d' e' f' : Int} (h : better a b c d e f a' b' c' d' e' f' = true) : better a' b' c' d' e' f' a b c d e f = false := by
  unfold better at h ⊢
  by_cases h1 : a = a'
  · subst h1
    by_cases h2 : b = b'
    · subst h2
      by_cases h3 : c = c'
      · subst h3
        by_cases h4 : d = d'
        · subst h4
          by_cases h5 : e = e'
          · subst h5; simp at h ⊢; omega
          · simp [h5, Ne.symm h5] at h ⊢; omega
        · simp [h4, Ne.symm h4] at h ⊢; omega
      · simp [h3, Ne.symm h3] at h ⊢; omega
    · simp [h2, Ne.symm h2] at h ⊢; omega
  · simp [h1, Ne.symm h1] at h ⊢; omega
theorem cmp6_anti (a b c d e f a' b' c' d' e' f' : Int) : cmp6 a' b' c' d' e' f' a b c d e f = -(cmp6 a b c d e f a' b' c' d' e' f') := by
  unfold cmp6
  by_cases h : better a b c d e f a' b' c' d' e' f' = true
  · rw [better_asymm h]; simp [h]
  · by_cases h' : better a' b' c' d' e' f' a b c d e f = true
    · simp [h, h']
    · simp [h, h']
theorem cmp6_self (a b c d e f : Int) : cmp6 a b c d e f a b c d e f = 0 := by simp [cmp6, better_irr]
theorem l_VectorChecks (a b c d e f a' b' c' d' e' f' g : Int) : Ret Try.prog 3 #[vR a b c d e f, vR a' b' c' d' e' f', vI g] (vB true) := by
  have k1 := c_Compare a b c d e f a' b' c' d' e' f'
  have k2 := c_Compare a' b' c' d' e' f' a b c d e f
  have k3 := c_Compare a b c d e f a b c d e f
  have k4 := c_Better a b c d e f a' b' c' d' e' f'
  have k5 := c_Better a' b' c' d' e' f' a b c d e f
  have k6 := c_Right a b c d e f
  have k7 := c_Hello a b c d e f g
  have k8 := c_Check a b c d e f
  have k9 := c_CheckHello a b c d e f g
  have k10 := c_wakes
  refine ret_of t_VectorChecks (mkEnv [.i a, .i b, .i c, .i d, .i e, .i f, .i a', .i b', .i c', .i d', .i e', .i f', .i g]) (fun w => ?_)
  simp only [cmp6, better_irr] at k1 k2 k3
  generalize hb : better a b c d e f a' b' c' d' e' f' = B at *
  generalize hb' : better a' b' c' d' e' f' a b c d e f = B' at *
  have hne : B = true → B' = false := fun h => by rw [← hb']; exact better_asymm (hb.trans h)
  generalize okR a b c d e f = r at *
  generalize okH a b c d e f g = h at *
  cases B <;> cases B' <;> cases r <;> cases h <;> (try simp at hne) <;> (try simp at k1) <;> (try simp at k2) <;> (try simp at k3) <;> (try simp at k8) <;> (try simp at k9) <;> simp [-Bool.exists_bool] <;> (with_reducible repeat' first | (intro _) | assumption | (apply Exists.intro; apply And.intro; assumption) | (apply Exists.intro; assumption) | (apply Exists.intro; apply Exists.intro; apply Exists.intro; apply Exists.intro; apply Exists.intro; apply Exists.intro; apply Exists.intro; apply And.intro; assumption) | (apply Exists.intro; apply Exists.intro; apply Exists.intro; apply Exists.intro; apply Exists.intro; apply Exists.intro; apply And.intro; assumption) | apply And.intro) <;> (try contradiction) <;> (try rfl) <;> (try (simp; done))
end Go.Proofs.Y18
