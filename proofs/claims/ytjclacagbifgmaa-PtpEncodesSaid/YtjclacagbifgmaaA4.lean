/- A part of the proof: see the text that states the theorem. -/
import Derived.Test.YtjclacagbifgmaaAA
set_option linter.unusedSimpArgs false
set_option linter.unusedVariables false
set_option linter.unusedSectionVars false
noncomputable section
namespace Go.Proofs.Y10
open Go Go.SX Go.RowKit
theorem t_Check8 : callTree C0 300 24 [msgK 8] [] 20 = some
  (.ite (.not (.and (.and (.and (.and (.and (.and (.and (.and (.and (.and (.and (.and (.and (.cmp .geq (.v 1) (.lit 0)) (.cmp .leq (.v 1) (.lit 127))) (.cmp .geq (.v 2) (.lit (-4398046511104)))) (.cmp .leq (.v 2) (.lit 4398046511104))) (.cmp .geq (.v 3) (.lit 0))) (.cmp .leq (.v 3) (.lit 281474976710655))) (.cmp .geq (.v 4) (.lit 1))) (.cmp .leq (.v 4) (.lit 65535))) (.cmp .geq (.v 5) (.lit 0))) (.cmp .leq (.v 5) (.lit 65535))) (.cmp .geq (.v 6) (.lit (-4398046511104)))) (.cmp .leq (.v 6) (.lit 4398046511104))) (.cmp .geq (.v 7) (.lit (-8388608)))) (.cmp .leq (.v 7) (.lit 8388608))))
    (done (.a (.c (.int .i64 (.lit 200)))) [])
    (.ite (.not (.and (.and (.cmp .eql (.v 8) (.lit 0)) (.cmp .eql (.v 9) (.lit 0))) (.and (.and (.cmp .eql (.v 10) (.lit 0)) (.and (.cmp .eql (.v 11) (.lit 0)) (.and (.cmp .eql (.v 12) (.lit 0)) (.and (.cmp .eql (.v 13) (.lit 0)) (.and (.cmp .eql (.v 14) (.lit 0)) (.cmp .eql (.v 15) (.lit 0))))))) (.cmp .eql (.v 16) (.lit 0)))))
      (done (.a (.c (.int .i64 (.lit 200)))) [])
      (done (.a (.c (.int .i64 (.lit 0)))) []))) := by kernel_rfl

theorem t_Check10 : callTree C0 300 24 [msgK 10] [] 20 = some
  (.ite (.not (.and (.and (.and (.and (.and (.and (.and (.and (.and (.and (.and (.and (.and (.and (.and (.cmp .geq (.v 1) (.lit 0)) (.cmp .leq (.v 1) (.lit 127))) (.cmp .geq (.v 2) (.lit (-4398046511104)))) (.cmp .leq (.v 2) (.lit 4398046511104))) (.cmp .geq (.v 3) (.lit 0))) (.cmp .leq (.v 3) (.lit 281474976710655))) (.cmp .geq (.v 4) (.lit 1))) (.cmp .leq (.v 4) (.lit 65535))) (.cmp .geq (.v 5) (.lit 0))) (.cmp .leq (.v 5) (.lit 65535))) (.cmp .geq (.v 6) (.lit (-4398046511104)))) (.cmp .leq (.v 6) (.lit 4398046511104))) (.cmp .geq (.v 8) (.lit 0))) (.cmp .leq (.v 8) (.lit 281474976710655))) (.cmp .geq (.v 9) (.lit 1))) (.cmp .leq (.v 9) (.lit 65535))))
    (done (.a (.c (.int .i64 (.lit 200)))) [])
    (.ite (.not (.and (.cmp .eql (.v 7) (.lit 0)) (.and (.and (.cmp .eql (.v 10) (.lit 0)) (.and (.cmp .eql (.v 11) (.lit 0)) (.and (.cmp .eql (.v 12) (.lit 0)) (.and (.cmp .eql (.v 13) (.lit 0)) (.and (.cmp .eql (.v 14) (.lit 0)) (.cmp .eql (.v 15) (.lit 0))))))) (.cmp .eql (.v 16) (.lit 0)))))
      (done (.a (.c (.int .i64 (.lit 200)))) [])
      (done (.a (.c (.int .i64 (.lit 0)))) []))) := by kernel_rfl

theorem t_Check11 : callTree C0 300 24 [msgK 11] [] 20 = some
  (.ite (.not (.and (.and (.and (.and (.and (.and (.and (.and (.and (.and (.and (.and (.and (.and (.and (.and (.and (.and (.and (.and (.and (.and (.and (.cmp .geq (.v 1) (.lit 0)) (.cmp .leq (.v 1) (.lit 127))) (.cmp .geq (.v 2) (.lit (-4398046511104)))) (.cmp .leq (.v 2) (.lit 4398046511104))) (.cmp .geq (.v 3) (.lit 0))) (.cmp .leq (.v 3) (.lit 281474976710655))) (.cmp .geq (.v 4) (.lit 1))) (.cmp .leq (.v 4) (.lit 65535))) (.cmp .geq (.v 5) (.lit 0))) (.cmp .leq (.v 5) (.lit 65535))) (.cmp .geq (.v 10) (.lit 0))) (.cmp .leq (.v 10) (.lit 255))) (.cmp .geq (.v 11) (.lit 0))) (.cmp .leq (.v 11) (.lit 255))) (.cmp .geq (.v 12) (.lit 0))) (.cmp .leq (.v 12) (.lit 255))) (.cmp .geq (.v 13) (.lit 0))) (.cmp .leq (.v 13) (.lit 65535))) (.cmp .geq (.v 14) (.lit 0))) (.cmp .leq (.v 14) (.lit 255))) (.cmp .geq (.v 15) (.lit 0))) (.cmp .leq (.v 15) (.lit 281474976710655))) (.cmp .geq (.v 16) (.lit 0))) (.cmp .leq (.v 16) (.lit 65535))))
    (done (.a (.c (.int .i64 (.lit 200)))) [])
    (.ite (.not (.and (.cmp .eql (.v 6) (.lit 0)) (.and (.cmp .eql (.v 7) (.lit 0)) (.and (.cmp .eql (.v 8) (.lit 0)) (.cmp .eql (.v 9) (.lit 0))))))
      (done (.a (.c (.int .i64 (.lit 200)))) [])
      (done (.a (.c (.int .i64 (.lit 0)))) []))) := by kernel_rfl

end Go.Proofs.Y10
