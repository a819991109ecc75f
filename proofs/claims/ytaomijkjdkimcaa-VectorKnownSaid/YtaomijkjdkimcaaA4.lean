/- A part of the proof: see the text that states the theorem. -/
import Derived.Test.YtaomijkjdkimcaaA3
set_option linter.unusedSimpArgs false
set_option linter.unusedVariables false
set_option linter.unusedSectionVars false
namespace Go.Proofs.Y18
open Go Go.SX Go.RowKit
def mk (x n : Int) : Int := IntKind.i64.wrap ((IntKind.u64.wrap x).tmod n)
theorem mk_bd (x n : Int) (h : 0 < n) (h2 : n < 2000000) : 0 ≤ mk x n ∧ mk x n < n := by
  have h0 : 0 ≤ IntKind.u64.wrap x := by simp only [IntKind.wrap, IntKind.bits, IntKind.signed]; simp; omega
  have h1 : (IntKind.u64.wrap x).tmod n = (IntKind.u64.wrap x) % n := Int.tmod_eq_emod_of_nonneg h0
  have h3 := Int.emod_nonneg (IntKind.u64.wrap x) (show n ≠ 0 by omega)
  have h4 := Int.emod_lt_of_pos (IntKind.u64.wrap x) h
  unfold mk
  rw [h1, wrap64 (by omega) (by omega)]; omega
theorem l_VectorGrows (a b c d e f a' b' c' d' e' f' s p q o : Int) : Ret Try.prog 7 #[vR a b c d e f, vR a' b' c' d' e' f', vI s, vBd p q, vI o] (vB true) := by
  have k5 := c_wakes
  refine ret_of t_VectorGrows (mkEnv [.i a, .i b, .i c, .i d, .i e, .i f, .i a', .i b', .i c', .i d', .i e', .i f', .i s, .i p, .i q, .i o]) (fun w => ?_)
  simp [-Bool.exists_bool]
  refine ⟨_, k5, rfl, fun _ => ?_⟩
  simp only [← mk.eq_1]
  obtain ⟨a0, a1⟩ := mk_bd a 16 (by decide) (by decide)
  obtain ⟨b0, b1⟩ := mk_bd b 12 (by decide) (by decide)
  obtain ⟨c0, c1⟩ := mk_bd c 1000001 (by decide) (by decide)
  obtain ⟨d0, d1⟩ := mk_bd d 16 (by decide) (by decide)
  obtain ⟨e0, e1⟩ := mk_bd e 12 (by decide) (by decide)
  obtain ⟨f0, f1⟩ := mk_bd f 48 (by decide) (by decide)
  obtain ⟨a0', a1'⟩ := mk_bd a' 16 (by decide) (by decide)
  obtain ⟨b0', b1'⟩ := mk_bd b' 12 (by decide) (by decide)
  obtain ⟨c0', c1'⟩ := mk_bd c' 1000001 (by decide) (by decide)
  obtain ⟨d0', d1'⟩ := mk_bd d' 16 (by decide) (by decide)
  obtain ⟨e0', e1'⟩ := mk_bd e' 12 (by decide) (by decide)
  obtain ⟨f0', f1'⟩ := mk_bd f' 48 (by decide) (by decide)
  obtain ⟨s0, s1⟩ := mk_bd s 1000 (by decide) (by decide)
  obtain ⟨p0, p1⟩ := mk_bd p 16 (by decide) (by decide)
  obtain ⟨q0, q1⟩ := mk_bd q 12 (by decide) (by decide)
  obtain ⟨o0, o1⟩ := mk_bd o 48 (by decide) (by decide)
  rw [wrap64 (x := 1 + mk s 1000) (by omega) (by omega)]
  generalize mk a 16 = a, mk b 12 = b, mk c 1000001 = c, mk d 16 = d, mk e 12 = e, mk f 48 = f, mk a' 16 = a', mk b' 12 = b', mk c' 1000001 = c', mk d' 16 = d', mk e' 12 = e', mk f' 48 = f', mk s 1000 = s, mk p 16 = p, mk q 12 = q, mk o 48 = o at *
  have h1 : extE a b c d e f (1 + s) p q o = 0 := by
    have g1 : okR a b c d e f = true := by simp [okR, okB]; omega
    have g2 : okB p q = true := by simp [okB]; omega
    have g3 : decide (1 ≤ 1 + s ∧ 1 + s ≤ 1000) = true := by simp; omega
    have g4 : decide (0 ≤ o ∧ o ≤ 47) = true := by simp; omega
    have g5 : ¬ c + (1 + s) > 1048576 := by omega
    simp only [extE, g1, g2, g3, g4, g5, if_true, if_false, Bool.and_self]
  have h2 : extE a' b' c' d' e' f' (1 + s) p q o = 0 := by
    have g1 : okR a' b' c' d' e' f' = true := by simp [okR, okB]; omega
    have g2 : okB p q = true := by simp [okB]; omega
    have g3 : decide (1 ≤ 1 + s ∧ 1 + s ≤ 1000) = true := by simp; omega
    have g4 : decide (0 ≤ o ∧ o ≤ 47) = true := by simp; omega
    have g5 : ¬ c' + (1 + s) > 1048576 := by omega
    simp only [extE, g1, g2, g3, g4, g5, if_true, if_false, Bool.and_self]
  have k1 := c_Extend a b c d e f (1 + s) p q o
  have k2 := c_Extend a' b' c' d' e' f' (1 + s) p q o
  rw [h1] at k1; rw [h2] at k2
  simp only [if_true] at k1 k2
  have k3 := c_Compare a b c d e f a b (c + (1 + s)) p q o
  have k4 := c_Compare a b (c + (1 + s)) p q o a' b' (c' + (1 + s)) p q o
  have k6 := c_Compare a b c d e f a' b' c' d' e' f'
  have h3 : cmp6 a b c d e f a b (c + (1 + s)) p q o = -1 := by
    have : c ≠ c + (1 + s) := by omega
    have h : c < c + (1 + s) := by omega
    simp [cmp6, better, this, h]
  rw [h3] at k3
  refine ⟨_, _, _, _, _, _, _, k1, _, _, _, _, _, _, _, k2, fun _ _ => ⟨_, k3, rfl, fun _ => ⟨fun hne => ⟨_, k4, ?_⟩, fun x y z => by subst x y z; simp⟩⟩, rfl, rfl⟩
  have h4 : cmp6 a b (c + (1 + s)) p q o a' b' (c' + (1 + s)) p q o = cmp6 a b c d e f a' b' c' d' e' f' := by
    by_cases x1 : a = a'
    · subst x1
      by_cases x2 : b = b'
      · subst x2
        have x3 : c ≠ c' := by rcases hne with (h | h) | h <;> first | exact absurd rfl h | exact h
        have x4 : c + (1 + s) ≠ c' + (1 + s) := by omega
        have x5 : c + (1 + s) < c' + (1 + s) ↔ c < c' := by omega
        have x6 : c' + (1 + s) < c + (1 + s) ↔ c' < c := by omega
        simp [cmp6, better, x3, x3.symm, x4, x4.symm, x5, x6]
      · simp [cmp6, better, x2, Ne.symm x2]
    · simp [cmp6, better, x1, Ne.symm x1]
  rw [h4]; exact k6
end Go.Proofs.Y18
