/- A part of the proof: see the text that states the theorem. -/
import Derived.Test.YthigggddccklpaaA0
import Derived.Test.YthigggddccklpaaProg
set_option linter.unusedSimpArgs false
set_option linter.unusedVariables false
set_option linter.unusedSectionVars false
noncomputable section
namespace Go.Proofs.Y23
open Go Go.SX Go.RowKit

noncomputable def CK : Cfg := { P := Try.prog, ct := ctOf [(15, rB)], ann := annF [] }
@[simp] theorem CK_P : CK.P = Try.prog := rfl
theorem t_Known : callTree CK 3000 9 [] [] 20 = some
  (.call 15 [] [] 354 [.b] (.a (.c (.bool (.v 354)))) []
  (.ite (.v 354)
    (done (.a (.c (.bool (.lit true)))) [])
    (done (.a (.c (.bool (.lit false)))) []))) := by kernel_rfl

end Go.Proofs.Y23
