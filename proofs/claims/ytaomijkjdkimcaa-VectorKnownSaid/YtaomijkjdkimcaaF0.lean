/- A part of the proof: see the text that states the theorem. -/
import Derived.Test.YtaomijkjdkimcaaA4
set_option linter.unusedSimpArgs false
set_option linter.unusedVariables false
set_option linter.unusedSectionVars false
namespace Go.Proofs.Y18
open Go Go.SX Go.RowKit
noncomputable def C10 : Cfg := { P := Try.prog, ct := ctOf [(11, rB)], ann := annOf [] }
@[simp] theorem C10_P : C10.P = Try.prog := rfl
theorem t_VectorKnown : callTree C10 400 10 [] [] 20 = some
  (.call 11 [] [] 20 [.b] (.a (.c (.bool (.v 20)))) []
  (.ite (.not (.v 20))
    (done (.a (.c (.bool (.lit false)))) [])
    (done (.a (.c (.bool (.lit true)))) []))) := by kernel_rfl

theorem l_VectorKnown : Ret Try.prog 10 #[] (vB true) := by
  refine ret_of t_VectorKnown (mkEnv []) (fun w => ?_)
  simp [-Bool.exists_bool]
  first | exact c_wakes | exact ⟨_, c_wakes, rfl⟩
end Go.Proofs.Y18
