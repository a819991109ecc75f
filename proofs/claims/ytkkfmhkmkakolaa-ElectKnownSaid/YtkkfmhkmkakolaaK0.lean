/- A part of the proof: see the text that states the theorem. -/
import Derived.Test.YtkkfmhkmkakolaaAK
set_option linter.unusedSimpArgs false
set_option linter.unusedVariables false
set_option linter.unusedSectionVars false
noncomputable section
namespace Go.Proofs.Y11
open Go Go.SX Go.RowKit
theorem t_Known : callTree CKn 20000 7 [] [] 20 = some
  (.call 8 [] [] 20 [.b] (.a (.c (.bool (.v 20)))) []
  (.ite (.not (.v 20))
    (done (.a (.c (.bool (.lit false)))) [])
    (done (.a (.c (.bool (.lit true)))) []))) := by kernel_rfl
end Go.Proofs.Y11
