/- A part of the proof: see the text that states the theorem. -/
import Derived.Test.YthigggddccklpaaA1
import Derived.Test.YthigggddccklpaaK0
set_option linter.unusedSimpArgs false
set_option linter.unusedVariables false
set_option linter.unusedSectionVars false
noncomputable section
namespace Go.Proofs.Y23
open Go Go.SX Go.RowKit
theorem l_Known (h : Ret Try.prog 15 #[] (vB true)) : Ret Try.prog 9 #[] (vB true) := by
  refine ret_of t_Known (mkEnv []) (fun w => ?_)
  simp [-Bool.exists_bool]
  first | exact h | exact ⟨_, h, rfl⟩
end Go.Proofs.Y23
