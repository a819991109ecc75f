/- A part of the proof: see the text that states the theorem. -/
import Derived.Test.YtkkfmhkmkakolaaL1
set_option linter.unusedSimpArgs false
set_option linter.unusedVariables false
set_option linter.unusedSectionVars false
noncomputable section
namespace Go.Proofs.Y11
open Go Go.SX Go.RowKit
noncomputable def CWk : Cfg := { P := Try.prog, ct := ctOf [], ann := annF [], cv := cvF, cvOk := cvF_ok }
@[simp] theorem CWk_P : CWk.P = Try.prog := rfl
noncomputable def CKn : Cfg := { P := Try.prog, ct := ctOf [(8, rB)], ann := annF [], cv := cvF, cvOk := cvF_ok }
@[simp] theorem CKn_P : CKn.P = Try.prog := rfl
end Go.Proofs.Y11
