/- A part of the proof: see the text that states the theorem. -/
import Derived.Test.YtaomijkjdkimcaaA1
set_option linter.unusedSimpArgs false
set_option linter.unusedVariables false
set_option linter.unusedSectionVars false
namespace Go.Proofs.Y18
open Go Go.SX Go.RowKit
def extE (a b c d e f s p q o : Int) : Int :=
  if okR a b c d e f then if decide (1 ≤ s ∧ s ≤ 1000) && okB p q && decide (0 ≤ o ∧ o ≤ 47) then if c + s > 1048576 then 6 else 0 else 2 else 280
abbrev vE (a b c d e f g : Int) : Value := .tuple #[vR a b c d e f, vI g]
theorem okR_c {a b c d e f : Int} (h : okR a b c d e f = true) : 0 ≤ c ∧ c ≤ 1048576 := by simp [okR] at h; omega
theorem c_Extend (a b c d e f s p q o : Int) : Ret Try.prog 18 #[vR a b c d e f, vI s, vBd p q, vI o] (if extE a b c d e f s p q o = 0 then vE a b (c + s) p q o 0 else vE 0 0 0 0 0 0 (extE a b c d e f s p q o)) := by
  have k1 := c_Check a b c d e f
  have k2 := c_validBid p q
  have k3 := c_validPort o
  refine ret_of t_Extend (mkEnv [.i a, .i b, .i c, .i d, .i e, .i f, .i s, .i p, .i q, .i o]) (fun w => ?_)
  by_cases h1 : okR a b c d e f = true
  · have hc := okR_c h1
    by_cases h2 : 1 ≤ s ∧ s ≤ 1000
    · have w1 : IntKind.i64.wrap (c + s) = c + s := wrap64 (by omega) (by omega)
      have w2 : IntKind.i64.wrap (1048576 - s) = 1048576 - s := wrap64 (by omega) (by omega)
      by_cases h3 : okB p q = true
      · by_cases h4 : 0 ≤ o ∧ o ≤ 47
        · by_cases h5 : c + s > 1048576
          · have hx : extE a b c d e f s p q o = 6 := by simp [extE, h1, h2, h3, h4, h5]
            simp [h1] at k1; simp [h3] at k2; simp [h4] at k3
            simp [-Bool.exists_bool, hx, w1, w2]; (with_reducible repeat' first | (intro _) | assumption | (apply Exists.intro; apply And.intro; assumption) | (apply Exists.intro; assumption) | (apply Exists.intro; apply Exists.intro; apply Exists.intro; apply Exists.intro; apply Exists.intro; apply Exists.intro; apply Exists.intro; apply And.intro; assumption) | (apply Exists.intro; apply Exists.intro; apply Exists.intro; apply Exists.intro; apply Exists.intro; apply Exists.intro; apply And.intro; assumption) | apply And.intro) <;> (try contradiction) <;> (try rfl) <;> (try omega) <;> simp_all <;> omega
          · have hx : extE a b c d e f s p q o = 0 := by simp [extE, h1, h2, h3, h4, h5]
            simp [h1] at k1; simp [h3] at k2; simp [h4] at k3
            simp [-Bool.exists_bool, hx, w1, w2]; (with_reducible repeat' first | (intro _) | assumption | (apply Exists.intro; apply And.intro; assumption) | (apply Exists.intro; assumption) | (apply Exists.intro; apply Exists.intro; apply Exists.intro; apply Exists.intro; apply Exists.intro; apply Exists.intro; apply Exists.intro; apply And.intro; assumption) | (apply Exists.intro; apply Exists.intro; apply Exists.intro; apply Exists.intro; apply Exists.intro; apply Exists.intro; apply And.intro; assumption) | apply And.intro) <;> (try contradiction) <;> (try rfl) <;> (try omega) <;> simp_all <;> omega
        · have hx : extE a b c d e f s p q o = 2 := by simp [extE, h1, h2, h3, h4]
          have k3' : Ret Try.prog 32 #[vI o] (vB false) := by rw [show decide (0 ≤ o ∧ o ≤ 47) = false from by simp; omega] at k3; exact k3
          simp [h1] at k1; simp [h3] at k2; clear k3
          simp [-Bool.exists_bool, hx, w1, w2]; (with_reducible repeat' first | (intro _) | assumption | (apply Exists.intro; apply And.intro; assumption) | (apply Exists.intro; assumption) | (apply Exists.intro; apply Exists.intro; apply Exists.intro; apply Exists.intro; apply Exists.intro; apply Exists.intro; apply Exists.intro; apply And.intro; assumption) | (apply Exists.intro; apply Exists.intro; apply Exists.intro; apply Exists.intro; apply Exists.intro; apply Exists.intro; apply And.intro; assumption) | apply And.intro) <;> (try contradiction) <;> (try rfl) <;> (try omega) <;> simp_all <;> omega
      · have hx : extE a b c d e f s p q o = 2 := by simp [extE, h1, h2, h3]
        simp [h1] at k1; simp [h3] at k2; clear k3
        simp [-Bool.exists_bool, hx, w1, w2]; (with_reducible repeat' first | (intro _) | assumption | (apply Exists.intro; apply And.intro; assumption) | (apply Exists.intro; assumption) | (apply Exists.intro; apply Exists.intro; apply Exists.intro; apply Exists.intro; apply Exists.intro; apply Exists.intro; apply Exists.intro; apply And.intro; assumption) | (apply Exists.intro; apply Exists.intro; apply Exists.intro; apply Exists.intro; apply Exists.intro; apply Exists.intro; apply And.intro; assumption) | apply And.intro) <;> (try contradiction) <;> (try rfl) <;> (try omega) <;> simp_all <;> omega
    · have hx : extE a b c d e f s p q o = 2 := by
        have : decide (1 ≤ s ∧ s ≤ 1000) = false := by simp; omega
        simp only [extE, h1, if_true, this]; simp
      simp [h1] at k1; clear k2 k3
      simp [-Bool.exists_bool, hx]; (with_reducible repeat' first | (intro _) | assumption | (apply Exists.intro; apply And.intro; assumption) | (apply Exists.intro; assumption) | (apply Exists.intro; apply Exists.intro; apply Exists.intro; apply Exists.intro; apply Exists.intro; apply Exists.intro; apply Exists.intro; apply And.intro; assumption) | (apply Exists.intro; apply Exists.intro; apply Exists.intro; apply Exists.intro; apply Exists.intro; apply Exists.intro; apply And.intro; assumption) | apply And.intro) <;> (try contradiction) <;> (try rfl) <;> (try omega) <;> simp_all <;> omega
  · have hx : extE a b c d e f s p q o = 280 := by simp [extE, h1]
    simp [h1] at k1; clear k2 k3
    simp [-Bool.exists_bool, hx]; (with_reducible repeat' first | (intro _) | assumption | (apply Exists.intro; apply And.intro; assumption) | (apply Exists.intro; assumption) | (apply Exists.intro; apply Exists.intro; apply Exists.intro; apply Exists.intro; apply Exists.intro; apply Exists.intro; apply Exists.intro; apply And.intro; assumption) | (apply Exists.intro; apply Exists.intro; apply Exists.intro; apply Exists.intro; apply Exists.intro; apply Exists.intro; apply And.intro; assumption) | apply And.intro) <;> (try contradiction) <;> (try rfl) <;> simp_all
theorem l_VectorExtends (a b c d e f s p q o : Int) : Ret Try.prog 4 #[vR a b c d e f, vI s, vBd p q, vI o] (vB true) := by
  have k1 := c_Extend a b c d e f s p q o
  have k2 := c_Right a b c d e f
  have k3 := c_Bid p q
  have k4 := c_wakes
  refine ret_of t_VectorExtends (mkEnv [.i a, .i b, .i c, .i d, .i e, .i f, .i s, .i p, .i q, .i o]) (fun w => ?_)
  by_cases h1 : okR a b c d e f = true
  · have hc := okR_c h1
    by_cases h2 : 1 ≤ s ∧ s ≤ 1000
    · have w1 : IntKind.i64.wrap (c + s) = c + s := wrap64 (by omega) (by omega)
      by_cases h3 : okB p q = true
      · by_cases h4 : 0 ≤ o ∧ o ≤ 47
        · by_cases h5 : c + s > 1048576
          · have hx : extE a b c d e f s p q o = 6 := by simp [extE, h1, h2, h3, h4, h5]
            simp [hx] at k1; simp [h1] at k2; simp [h3] at k3
            simp [-Bool.exists_bool, w1]; (with_reducible repeat' first | (intro _) | assumption | (apply Exists.intro; apply And.intro; assumption) | (apply Exists.intro; assumption) | (apply Exists.intro; apply Exists.intro; apply Exists.intro; apply Exists.intro; apply Exists.intro; apply Exists.intro; apply Exists.intro; apply And.intro; assumption) | (apply Exists.intro; apply Exists.intro; apply Exists.intro; apply Exists.intro; apply Exists.intro; apply Exists.intro; apply And.intro; assumption) | apply And.intro) <;> (try contradiction) <;> (try rfl) <;> (try omega) <;> simp_all <;> omega
          · have hx : extE a b c d e f s p q o = 0 := by simp [extE, h1, h2, h3, h4, h5]
            simp [hx] at k1; simp [h1] at k2; simp [h3] at k3
            simp [-Bool.exists_bool, w1]; (with_reducible repeat' first | (intro _) | assumption | (apply Exists.intro; apply And.intro; assumption) | (apply Exists.intro; assumption) | (apply Exists.intro; apply Exists.intro; apply Exists.intro; apply Exists.intro; apply Exists.intro; apply Exists.intro; apply Exists.intro; apply And.intro; assumption) | (apply Exists.intro; apply Exists.intro; apply Exists.intro; apply Exists.intro; apply Exists.intro; apply Exists.intro; apply And.intro; assumption) | apply And.intro) <;> (try contradiction) <;> (try rfl) <;> (try omega) <;> simp_all <;> omega
        · have hx : extE a b c d e f s p q o = 2 := by simp [extE, h1, h2, h3, h4]
          simp [hx] at k1; simp [h1] at k2; simp [h3] at k3
          simp [-Bool.exists_bool, w1]; (with_reducible repeat' first | (intro _) | assumption | (apply Exists.intro; apply And.intro; assumption) | (apply Exists.intro; assumption) | (apply Exists.intro; apply Exists.intro; apply Exists.intro; apply Exists.intro; apply Exists.intro; apply Exists.intro; apply Exists.intro; apply And.intro; assumption) | (apply Exists.intro; apply Exists.intro; apply Exists.intro; apply Exists.intro; apply Exists.intro; apply Exists.intro; apply And.intro; assumption) | apply And.intro) <;> (try contradiction) <;> (try rfl) <;> (try omega) <;> simp_all <;> omega
      · have hx : extE a b c d e f s p q o = 2 := by simp [extE, h1, h2, h3]
        simp [hx] at k1; simp [h1] at k2; simp [h3] at k3
        simp [-Bool.exists_bool, w1]; (with_reducible repeat' first | (intro _) | assumption | (apply Exists.intro; apply And.intro; assumption) | (apply Exists.intro; assumption) | (apply Exists.intro; apply Exists.intro; apply Exists.intro; apply Exists.intro; apply Exists.intro; apply Exists.intro; apply Exists.intro; apply And.intro; assumption) | (apply Exists.intro; apply Exists.intro; apply Exists.intro; apply Exists.intro; apply Exists.intro; apply Exists.intro; apply And.intro; assumption) | apply And.intro) <;> (try contradiction) <;> (try rfl) <;> (try omega) <;> simp_all <;> omega
    · have hx : extE a b c d e f s p q o = 2 := by
        have : decide (1 ≤ s ∧ s ≤ 1000) = false := by simp; omega
        simp only [extE, h1, if_true, this]; simp
      simp [hx] at k1; simp [h1] at k2; clear k3
      simp [-Bool.exists_bool]; (with_reducible repeat' first | (intro _) | assumption | (apply Exists.intro; apply And.intro; assumption) | (apply Exists.intro; assumption) | (apply Exists.intro; apply Exists.intro; apply Exists.intro; apply Exists.intro; apply Exists.intro; apply Exists.intro; apply Exists.intro; apply And.intro; assumption) | (apply Exists.intro; apply Exists.intro; apply Exists.intro; apply Exists.intro; apply Exists.intro; apply Exists.intro; apply And.intro; assumption) | apply And.intro) <;> (try contradiction) <;> (try rfl) <;> (try omega) <;> simp_all <;> omega
  · have hx : extE a b c d e f s p q o = 280 := by simp [extE, h1]
    simp [hx] at k1; simp [h1] at k2; clear k3
    simp [-Bool.exists_bool]; (with_reducible repeat' first | (intro _) | assumption | (apply Exists.intro; apply And.intro; assumption) | (apply Exists.intro; assumption) | (apply Exists.intro; apply Exists.intro; apply Exists.intro; apply Exists.intro; apply Exists.intro; apply Exists.intro; apply Exists.intro; apply And.intro; assumption) | (apply Exists.intro; apply Exists.intro; apply Exists.intro; apply Exists.intro; apply Exists.intro; apply Exists.intro; apply And.intro; assumption) | apply And.intro) <;> (try contradiction) <;> (try rfl) <;> simp_all
end Go.Proofs.Y18
