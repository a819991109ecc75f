/- A part of the proof: see the text that states the theorem. -/
import Derived.Test.YtkkfmhkmkakolaaW0
set_option linter.unusedSimpArgs false
set_option linter.unusedVariables false
set_option linter.unusedSectionVars false
noncomputable section
namespace Go.Proofs.Y11
open Go Go.SX Go.RowKit
theorem c_works : Ret Try.prog 8 #[] (.bool true) := ret_of t_works (mkEnv []) fun w => by simp
end Go.Proofs.Y11
