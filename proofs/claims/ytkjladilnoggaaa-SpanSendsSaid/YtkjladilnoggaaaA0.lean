/- A part of the proof: see the text that states the theorem. -/
import Derived.Test.YtkjladilnoggaaaAA
set_option linter.unusedSimpArgs false
set_option linter.unusedVariables false
set_option linter.unusedSectionVars false
noncomputable section
namespace Go.Proofs.Y19
open Go Go.SX Go.RowKit
theorem t_Bid : callTree C0 300 40 [i64s 0 2] [] 20 = some
  (done (.a (.c (.bool (.and (.and (.and (.cmp .geq (.v 0) (.lit 0)) (.cmp .leq (.v 0) (.lit 15))) (.cmp .geq (.v 1) (.lit 0))) (.cmp .leq (.v 1) (.lit 11)))))) []) := by kernel_rfl

theorem t_Right18 : callTree C0 300 55 [i64s 0 6] [] 20 = some
  (.ite (.and (.and (.and (.cmp .geq (.v 0) (.lit 0)) (.cmp .leq (.v 0) (.lit 15))) (.cmp .geq (.v 1) (.lit 0))) (.cmp .leq (.v 1) (.lit 11)))
    (done (.a (.c (.bool (.and (.and (.and (.and (.and (.and (.and (.cmp .geq (.v 3) (.lit 0)) (.cmp .leq (.v 3) (.lit 15))) (.cmp .geq (.v 4) (.lit 0))) (.cmp .leq (.v 4) (.lit 11))) (.cmp .geq (.v 2) (.lit 0))) (.cmp .leq (.v 2) (.lit 1048576))) (.cmp .geq (.v 5) (.lit 0))) (.cmp .leq (.v 5) (.lit 47)))))) [])
    (done (.a (.c (.bool (.lit false)))) [])) := by kernel_rfl

theorem t_Hello : callTree C0 300 32 [i64s 0 7] [] 20 = some
  (.ite (.and (.and (.and (.cmp .geq (.v 0) (.lit 0)) (.cmp .leq (.v 0) (.lit 15))) (.cmp .geq (.v 1) (.lit 0))) (.cmp .leq (.v 1) (.lit 11)))
    (done (.a (.c (.bool (.and (.and (.and (.and (.and (.and (.and (.and (.and (.cmp .geq (.v 3) (.lit 0)) (.cmp .leq (.v 3) (.lit 15))) (.cmp .geq (.v 4) (.lit 0))) (.cmp .leq (.v 4) (.lit 11))) (.cmp .geq (.v 2) (.lit 0))) (.cmp .leq (.v 2) (.lit 1048576))) (.cmp .geq (.v 5) (.lit 0))) (.cmp .leq (.v 5) (.lit 47))) (.cmp .geq (.v 6) (.lit 0))) (.cmp .leq (.v 6) (.lit 20)))))) [])
    (done (.a (.c (.bool (.lit false)))) [])) := by kernel_rfl

theorem t_vCheck : callTree C0 300 35 [i64s 0 6] [] 20 = some
  (.ite (.and (.cmp .geq (.v 0) (.lit 0)) (.cmp .leq (.v 0) (.lit 15)))
    (.ite (.and (.cmp .geq (.v 1) (.lit 0)) (.cmp .leq (.v 1) (.lit 11)))
      (.ite (.and (.cmp .geq (.v 3) (.lit 0)) (.cmp .leq (.v 3) (.lit 15)))
        (.ite (.and (.cmp .geq (.v 4) (.lit 0)) (.cmp .leq (.v 4) (.lit 11)))
          (.ite (.and (.cmp .geq (.v 2) (.lit 0)) (.cmp .leq (.v 2) (.lit 1048576)))
            (.ite (.not (.and (.cmp .geq (.v 5) (.lit 0)) (.cmp .leq (.v 5) (.lit 47))))
              (done (.a (.c (.int .i64 (.lit 280)))) [])
              (done (.a (.c (.int .i64 (.lit 0)))) []))
            (done (.a (.c (.int .i64 (.lit 280)))) []))
          (done (.a (.c (.int .i64 (.lit 280)))) []))
        (done (.a (.c (.int .i64 (.lit 280)))) []))
      (done (.a (.c (.int .i64 (.lit 280)))) []))
    (done (.a (.c (.int .i64 (.lit 280)))) [])) := by kernel_rfl

theorem t_CheckHello : callTree C0 300 36 [i64s 0 7] [] 20 = some
  (.ite (.not (.and (.cmp .geq (.v 6) (.lit 0)) (.cmp .leq (.v 6) (.lit 20))))
    (done (.a (.c (.int .i64 (.lit 280)))) [])
    (.ite (.and (.cmp .geq (.v 0) (.lit 0)) (.cmp .leq (.v 0) (.lit 15)))
      (.ite (.and (.cmp .geq (.v 1) (.lit 0)) (.cmp .leq (.v 1) (.lit 11)))
        (.ite (.and (.cmp .geq (.v 3) (.lit 0)) (.cmp .leq (.v 3) (.lit 15)))
          (.ite (.and (.cmp .geq (.v 4) (.lit 0)) (.cmp .leq (.v 4) (.lit 11)))
            (.ite (.and (.cmp .geq (.v 2) (.lit 0)) (.cmp .leq (.v 2) (.lit 1048576)))
              (.ite (.not (.and (.cmp .geq (.v 5) (.lit 0)) (.cmp .leq (.v 5) (.lit 47))))
                (done (.a (.c (.int .i64 (.lit 280)))) [])
                (done (.a (.c (.int .i64 (.lit 0)))) []))
              (done (.a (.c (.int .i64 (.lit 280)))) []))
            (done (.a (.c (.int .i64 (.lit 280)))) []))
          (done (.a (.c (.int .i64 (.lit 280)))) []))
        (done (.a (.c (.int .i64 (.lit 280)))) []))
      (done (.a (.c (.int .i64 (.lit 280)))) []))) := by kernel_rfl

theorem t_Compare : callTree C0 300 37 [i64s 0 6, i64s 6 6] [] 20 = some
  (.ite (.and (.and (.cmp .eql (.v 0) (.v 6)) (.cmp .eql (.v 1) (.v 7))) (.and (.cmp .eql (.v 2) (.v 8)) (.and (.and (.cmp .eql (.v 3) (.v 9)) (.cmp .eql (.v 4) (.v 10))) (.cmp .eql (.v 5) (.v 11)))))
    (done (.a (.c (.int .i64 (.lit 0)))) [])
    (.ite (.cmp .lss (.v 0) (.v 6))
      (done (.a (.c (.int .i64 (.lit (-1))))) [])
      (.ite (.cmp .gtr (.v 0) (.v 6))
        (done (.a (.c (.int .i64 (.lit 1)))) [])
        (.ite (.cmp .lss (.v 1) (.v 7))
          (done (.a (.c (.int .i64 (.lit (-1))))) [])
          (.ite (.cmp .gtr (.v 1) (.v 7))
            (done (.a (.c (.int .i64 (.lit 1)))) [])
            (.ite (.cmp .lss (.v 2) (.v 8))
              (done (.a (.c (.int .i64 (.lit (-1))))) [])
              (.ite (.cmp .gtr (.v 2) (.v 8))
                (done (.a (.c (.int .i64 (.lit 1)))) [])
                (.ite (.cmp .lss (.v 3) (.v 9))
                  (done (.a (.c (.int .i64 (.lit (-1))))) [])
                  (.ite (.cmp .gtr (.v 3) (.v 9))
                    (done (.a (.c (.int .i64 (.lit 1)))) [])
                    (.ite (.cmp .lss (.v 4) (.v 10))
                      (done (.a (.c (.int .i64 (.lit (-1))))) [])
                      (.ite (.cmp .gtr (.v 4) (.v 10))
                        (done (.a (.c (.int .i64 (.lit 1)))) [])
                        (.ite (.cmp .lss (.v 5) (.v 11))
                          (done (.a (.c (.int .i64 (.lit (-1))))) [])
                          (.ite (.cmp .gtr (.v 5) (.v 11))
                            (done (.a (.c (.int .i64 (.lit 1)))) [])
                            (done (.a (.c (.int .i64 (.lit 0)))) [])))))))))))))) := by kernel_rfl

theorem t_Better : callTree C0 300 49 [i64s 0 6, i64s 6 6] [] 20 = some
  (.ite (.cmp .neq (.v 0) (.v 6))
    (done (.a (.c (.bool (.cmp .lss (.v 0) (.v 6))))) [])
    (.ite (.cmp .neq (.v 1) (.v 7))
      (done (.a (.c (.bool (.cmp .lss (.v 1) (.v 7))))) [])
      (.ite (.cmp .neq (.v 2) (.v 8))
        (done (.a (.c (.bool (.cmp .lss (.v 2) (.v 8))))) [])
        (.ite (.cmp .neq (.v 3) (.v 9))
          (done (.a (.c (.bool (.cmp .lss (.v 3) (.v 9))))) [])
          (.ite (.cmp .neq (.v 4) (.v 10))
            (done (.a (.c (.bool (.cmp .lss (.v 4) (.v 10))))) [])
            (done (.a (.c (.bool (.cmp .lss (.v 5) (.v 11))))) [])))))) := by kernel_rfl

end Go.Proofs.Y19
