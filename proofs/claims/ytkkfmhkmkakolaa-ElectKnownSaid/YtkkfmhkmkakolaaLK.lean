/- A part of the proof: see the text that states the theorem. -/
import Derived.Test.YtkkfmhkmkakolaaLW
import Derived.Test.YtkkfmhkmkakolaaK0
set_option linter.unusedSimpArgs false
set_option linter.unusedVariables false
set_option linter.unusedSectionVars false
noncomputable section
namespace Go.Proofs.Y11
open Go Go.SX Go.RowKit
theorem l_Known : Ret Try.prog 7 #[] (.bool true) := by
  refine ret_of t_Known (mkEnv []) fun w => ?_
  have k := c_works
  simp [-Bool.exists_bool]
  first | exact k | exact ⟨true, k, by simp⟩
end Go.Proofs.Y11
