/- A part of the proof: see the text that states the theorem. -/
import Derived.Test.YtkkfmhkmkakolaaL1
import Derived.Test.YtkkfmhkmkakolaaA1
import Derived.Test.YtkkfmhkmkakolaaLW
set_option linter.unusedSimpArgs false
set_option linter.unusedVariables false
set_option linter.unusedSectionVars false
noncomputable section
namespace Go.Proofs.Y11
open Go Go.SX Go.RowKit
theorem l_Orders (a0 a1 a2 a3 a4 a5 a6 a7 a8 b0 b1 b2 b3 b4 b5 b6 b7 b8 c0 c1 c2 c3 c4 c5 c6 c7 c8 : Int) : Ret Try.prog 6 #[.agg #[vI a0, vI a1, vI a2, vI a3, vI a4, vI a5, vI a6, vI a7, vI a8], .agg #[vI b0, vI b1, vI b2, vI b3, vI b4, vI b5, vI b6, vI b7, vI b8], .agg #[vI c0, vI c1, vI c2, vI c3, vI c4, vI c5, vI c6, vI c7, vI c8]] (vB true) := by
  refine ret_of t_Orders (mkEnv [.i a0, .i a1, .i a2, .i a3, .i a4, .i a5, .i a6, .i a7, .i a8, .i b0, .i b1, .i b2, .i b3, .i b4, .i b5, .i b6, .i b7, .i b8, .i c0, .i c1, .i c2, .i c3, .i c4, .i c5, .i c6, .i c7, .i c8]) (fun w => ?_)
  have kw := c_works
  have kxy := c_Compare a0 a1 a2 a3 a4 a5 a6 a7 a8 a0 b1 b2 b3 b4 b5 b6 b7 b8
  have kyz := c_Compare a0 b1 b2 b3 b4 b5 b6 b7 b8 a0 b1 b2 b3 b4 b5 c6 c7 c8
  have kxz := c_Compare a0 a1 a2 a3 a4 a5 a6 a7 a8 a0 b1 b2 b3 b4 b5 c6 c7 c8
  have kyx := c_Compare a0 b1 b2 b3 b4 b5 b6 b7 b8 a0 a1 a2 a3 a4 a5 a6 a7 a8
  have kzy := c_Compare a0 b1 b2 b3 b4 b5 c6 c7 c8 a0 b1 b2 b3 b4 b5 b6 b7 b8
  have kxx := c_Compare a0 a1 a2 a3 a4 a5 a6 a7 a8 a0 a1 a2 a3 a4 a5 a6 a7 a8
  have e1 := cmpV_anti [a0, a1, a2, a3, a4, a5, a6, a7, a8] [a0, b1, b2, b3, b4, b5, b6, b7, b8]
  have e2 := cmpV_anti [a0, b1, b2, b3, b4, b5, b6, b7, b8] [a0, b1, b2, b3, b4, b5, c6, c7, c8]
  have z1 := cmpV_zero (l := [a0, a1, a2, a3, a4, a5, a6, a7, a8]) (m := [a0, b1, b2, b3, b4, b5, b6, b7, b8]) rfl
  have z2 := cmpV_zero (l := [a0, b1, b2, b3, b4, b5, b6, b7, b8]) (m := [a0, b1, b2, b3, b4, b5, c6, c7, c8]) rfl
  have z3 := cmpV_zero (l := [a0, a1, a2, a3, a4, a5, a6, a7, a8]) (m := [a0, a1, a2, a3, a4, a5, a6, a7, a8]) rfl
  have tr := cmpV_trans (l := [a0, a1, a2, a3, a4, a5, a6, a7, a8]) (m := [a0, b1, b2, b3, b4, b5, b6, b7, b8]) (n := [a0, b1, b2, b3, b4, b5, c6, c7, c8]) rfl rfl
  have r1 := cmpV_range [a0, a1, a2, a3, a4, a5, a6, a7, a8] [a0, b1, b2, b3, b4, b5, b6, b7, b8]
  have r2 := cmpV_range [a0, b1, b2, b3, b4, b5, b6, b7, b8] [a0, b1, b2, b3, b4, b5, c6, c7, c8]
  generalize cmpV [a0, a1, a2, a3, a4, a5, a6, a7, a8] [a0, b1, b2, b3, b4, b5, b6, b7, b8] = x at *
  generalize cmpV [a0, b1, b2, b3, b4, b5, b6, b7, b8] [a0, b1, b2, b3, b4, b5, c6, c7, c8] = y at *
  generalize cmpV [a0, a1, a2, a3, a4, a5, a6, a7, a8] [a0, b1, b2, b3, b4, b5, c6, c7, c8] = z at *
  rw [e1] at kyx
  rw [e2] at kzy
  rw [z3.2 rfl] at kxx
  have w1 : IntKind.i64.wrap (-x) = -x := by rcases r1 with rfl | rfl | rfl <;> decide
  have w2 : IntKind.i64.wrap (-y) = -y := by rcases r2 with rfl | rfl | rfl <;> decide
  simp at z1 z2
  simp [-Bool.exists_bool]
  have z1' : (x == 0) = (a1 == b1 && (a2 == b2 && (a3 == b3 && (a4 == b4 && a5 == b5))) && (a6 == b6 && (a7 == b7 && a8 == b8))) := by
    rw [Bool.eq_iff_iff]; simp; rw [z1]; grind
  have z2' : (y == 0) = (b6 == c6 && (b7 == c7 && b8 == c8)) := by
    rw [Bool.eq_iff_iff]; simp; rw [z2]
  refine ⟨true, kw, rfl, fun _ => ⟨x, kxy, y, kyz, z, kxz, by rw [w1]; exact kyx, -y, kzy, fun _ _ _ => ⟨0, kxx, rfl, ?_⟩, ?_⟩⟩
  · intro _
    by_cases h1 : x ≤ 0
    · by_cases h2 : y ≤ 0
      · exact .inr (tr h1 h2)
      · exact .inl (.inr (by omega))
    · exact .inl (.inl (by omega))
  · exact ⟨w2.symm, z1', z2'⟩
end Go.Proofs.Y11
