/- A part of the proof: see the text that states the theorem. -/
import Derived.Test.YtkjladilnoggaaaSyM5
import Derived.Test.YtkjladilnoggaaaProg
set_option linter.unusedSimpArgs false
set_option linter.unusedVariables false
set_option linter.unusedSectionVars false
noncomputable section
namespace Go.Proofs.Y19
open Go Go.SX Go.RowKit
noncomputable def CWk : Cfg := { P := Try.prog, ct := ctOf [], ann := annF [] }
@[simp] theorem CWk_P : CWk.P = Try.prog := rfl
noncomputable def CKn : Cfg := { P := Try.prog, ct := ctOf [(11, rB)], ann := annF [] }
@[simp] theorem CKn_P : CKn.P = Try.prog := rfl
end Go.Proofs.Y19
