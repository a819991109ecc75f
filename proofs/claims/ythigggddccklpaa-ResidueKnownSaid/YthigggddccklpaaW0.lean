/- A part of the proof: see the text that states the theorem. -/
import Derived.Test.YthigggddccklpaaSyU
import Derived.Test.YthigggddccklpaaProg
set_option linter.unusedSimpArgs false
set_option linter.unusedVariables false
set_option linter.unusedSectionVars false
noncomputable section
namespace Go.Proofs.Y23
open Go Go.SX Go.RowKit

noncomputable def CW : Cfg := { P := Try.prog, ct := ctOf [], ann := annF [] }
@[simp] theorem CW_P : CW.P = Try.prog := rfl
theorem t_works : callTree CW 3000 15 [] [] 20 = some
  (done (.a (.c (.bool (.lit true)))) []) := by kernel_rfl

end Go.Proofs.Y23
