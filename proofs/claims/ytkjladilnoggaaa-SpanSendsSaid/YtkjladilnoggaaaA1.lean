/- A part of the proof: see the text that states the theorem. -/
import Derived.Test.YtkjladilnoggaaaAA
set_option linter.unusedSimpArgs false
set_option linter.unusedVariables false
set_option linter.unusedSectionVars false
noncomputable section
namespace Go.Proofs.Y19
open Go Go.SX Go.RowKit
theorem t_Right : callTree C1 300 13 [brg 0] (brH 0) 20 = some
  (.call 40 [(.a (.agg [(.int .i64 (.v 0)), (.int .i64 (.v 1))]))] [] 21 [.b] (.a (.c (.bool (.v 21)))) []
  (.ite (.or (.or (.or (.not (.v 21)) (.cmp .gtr (.alen 2) (.lit 24))) (.cmp .neq (.alen 5) (.alen 2))) (.cmp .neq (.alen 8) (.alen 2)))
    (done (.a (.c (.bool (.lit false)))) [])
    (.loop [.i] 22 [(.i (.lit 0))]
      (.ite (.cmp .lss (.v 22) (.alen 2))
        (.need [(.cmp .leq (.lit 0) (.v 22))]
        (.need [(.or (.not (.and (.not (.or (.cmp .lss (.sel 2 0 (.v 22)) (.lit 0)) (.cmp .gtr (.sel 2 0 (.v 22)) (.lit 47)))) (.cmp .gtr (.v 22) (.lit 0)))) (.cmp .leq (.lit 0) (.bin .sub .i64 (.v 22) (.lit 1)))), (.or (.not (.and (.not (.or (.cmp .lss (.sel 2 0 (.v 22)) (.lit 0)) (.cmp .gtr (.sel 2 0 (.v 22)) (.lit 47)))) (.cmp .gtr (.v 22) (.lit 0)))) (.cmp .lss (.bin .sub .i64 (.v 22) (.lit 1)) (.alen 2))), (.or (.not (.and (.not (.or (.cmp .lss (.sel 2 0 (.v 22)) (.lit 0)) (.cmp .gtr (.sel 2 0 (.v 22)) (.lit 47)))) (.cmp .gtr (.v 22) (.lit 0)))) (.cmp .lss (.bin .sub .i64 (.v 22) (.lit 1)) (.alen 2)))]
        (.ite (.or (.or (.or (.or (.cmp .lss (.sel 2 0 (.v 22)) (.lit 0)) (.cmp .gtr (.sel 2 0 (.v 22)) (.lit 47))) (.and (.cmp .gtr (.v 22) (.lit 0)) (.cmp .leq (.sel 2 0 (.v 22)) (.sel 2 0 (.bin .sub .i64 (.v 22) (.lit 1)))))) (.cmp .lss (.sel 5 0 (.v 22)) (.lit 1))) (.cmp .gtr (.sel 5 0 (.v 22)) (.lit 1000)))
          (done (.a (.c (.bool (.lit false)))) [])
          (.ite (.sel 8 0 (.v 22))
            (.call 32 [(.a (.agg [(.int .i64 (.sel 8 1 (.v 22))), (.int .i64 (.sel 8 2 (.v 22))), (.int .i64 (.sel 8 3 (.v 22))), (.int .i64 (.sel 8 4 (.v 22))), (.int .i64 (.sel 8 5 (.v 22))), (.int .i64 (.sel 8 6 (.v 22))), (.int .i64 (.sel 8 7 (.v 22)))]))] [] 24 [.b] (.a (.c (.bool (.v 24)))) []
            (.ite (.not (.v 24))
              (done (.a (.c (.bool (.lit false)))) [])
              (.cont 0 [(.i (.bin .add .i64 (.v 22) (.lit 1)))])))
            (.ite (.not (.and (.and (.and (.cmp .eql (.sel 8 1 (.v 22)) (.lit 0)) (.cmp .eql (.sel 8 2 (.v 22)) (.lit 0))) (.and (.cmp .eql (.sel 8 3 (.v 22)) (.lit 0)) (.and (.and (.cmp .eql (.sel 8 4 (.v 22)) (.lit 0)) (.cmp .eql (.sel 8 5 (.v 22)) (.lit 0))) (.cmp .eql (.sel 8 6 (.v 22)) (.lit 0))))) (.cmp .eql (.sel 8 7 (.v 22)) (.lit 0))))
              (done (.a (.c (.bool (.lit false)))) [])
              (.cont 0 [(.i (.bin .add .i64 (.v 22) (.lit 1)))]))))))
        (done (.a (.c (.bool (.lit true)))) []))))) := by kernel_rfl

theorem t_Check : callTree C1 300 14 [brg 0] (brH 0) 20 = some
  (.call 35 [(.a (.agg [(.int .i64 (.v 0)), (.int .i64 (.v 1)), (.int .i64 (.lit 0)), (.int .i64 (.lit 0)), (.int .i64 (.lit 0)), (.int .i64 (.lit 0))]))] [] 21 [.i] (.a (.c (.int .i64 (.v 21)))) []
  (.ite (.or (.or (.or (.cmp .neq (.v 21) (.lit 0)) (.cmp .gtr (.alen 2) (.lit 24))) (.cmp .neq (.alen 5) (.alen 2))) (.cmp .neq (.alen 8) (.alen 2)))
    (done (.a (.c (.int .i64 (.lit 290)))) [])
    (.loop [.i] 22 [(.i (.lit 0))]
      (.ite (.cmp .lss (.v 22) (.alen 2))
        (.need [(.cmp .leq (.lit 0) (.v 22))]
        (.need [(.or (.not (.and (.not (.or (.cmp .lss (.sel 2 0 (.v 22)) (.lit 0)) (.cmp .geq (.sel 2 0 (.v 22)) (.lit 48)))) (.cmp .gtr (.v 22) (.lit 0)))) (.cmp .leq (.lit 0) (.bin .sub .i64 (.v 22) (.lit 1)))), (.or (.not (.and (.not (.or (.cmp .lss (.sel 2 0 (.v 22)) (.lit 0)) (.cmp .geq (.sel 2 0 (.v 22)) (.lit 48)))) (.cmp .gtr (.v 22) (.lit 0)))) (.cmp .lss (.bin .sub .i64 (.v 22) (.lit 1)) (.alen 2))), (.or (.not (.and (.not (.or (.cmp .lss (.sel 2 0 (.v 22)) (.lit 0)) (.cmp .geq (.sel 2 0 (.v 22)) (.lit 48)))) (.cmp .gtr (.v 22) (.lit 0)))) (.cmp .lss (.bin .sub .i64 (.v 22) (.lit 1)) (.alen 2)))]
        (.ite (.or (.or (.or (.or (.cmp .lss (.sel 2 0 (.v 22)) (.lit 0)) (.cmp .geq (.sel 2 0 (.v 22)) (.lit 48))) (.and (.cmp .gtr (.v 22) (.lit 0)) (.cmp .geq (.sel 2 0 (.bin .sub .i64 (.v 22) (.lit 1))) (.sel 2 0 (.v 22))))) (.cmp .lss (.sel 5 0 (.v 22)) (.lit 1))) (.cmp .gtr (.sel 5 0 (.v 22)) (.lit 1000)))
          (done (.a (.c (.int .i64 (.lit 290)))) [])
          (.ite (.sel 8 0 (.v 22))
            (.call 36 [(.a (.agg [(.int .i64 (.sel 8 1 (.v 22))), (.int .i64 (.sel 8 2 (.v 22))), (.int .i64 (.sel 8 3 (.v 22))), (.int .i64 (.sel 8 4 (.v 22))), (.int .i64 (.sel 8 5 (.v 22))), (.int .i64 (.sel 8 6 (.v 22))), (.int .i64 (.sel 8 7 (.v 22)))]))] [] 24 [.i] (.a (.c (.int .i64 (.v 24)))) []
            (.ite (.cmp .neq (.v 24) (.lit 0))
              (done (.a (.c (.int .i64 (.lit 290)))) [])
              (.cont 0 [(.i (.bin .add .i64 (.v 22) (.lit 1)))])))
            (.ite (.not (.and (.and (.and (.cmp .eql (.sel 8 1 (.v 22)) (.lit 0)) (.cmp .eql (.sel 8 2 (.v 22)) (.lit 0))) (.and (.cmp .eql (.sel 8 3 (.v 22)) (.lit 0)) (.and (.and (.cmp .eql (.sel 8 4 (.v 22)) (.lit 0)) (.cmp .eql (.sel 8 5 (.v 22)) (.lit 0))) (.cmp .eql (.sel 8 6 (.v 22)) (.lit 0))))) (.cmp .eql (.sel 8 7 (.v 22)) (.lit 0))))
              (done (.a (.c (.int .i64 (.lit 290)))) [])
              (.cont 0 [(.i (.bin .add .i64 (.v 22) (.lit 1)))]))))))
        (done (.a (.c (.int .i64 (.lit 0)))) []))))) := by kernel_rfl

theorem t_Same : callTree C3 300 41 [brg 0, brg 11] (brH 0 ++ brH 11) 40 = some
  (.ite (.or (.or (.or (.not (.and (.cmp .eql (.v 0) (.v 11)) (.cmp .eql (.v 1) (.v 12)))) (.cmp .neq (.alen 2) (.alen 13))) (.cmp .neq (.alen 5) (.alen 16))) (.cmp .neq (.alen 8) (.alen 19)))
    (done (.a (.c (.bool (.lit false)))) [])
    (.loop [.i] 42 [(.i (.lit 0))]
      (.ite (.cmp .lss (.v 42) (.alen 13))
        (.need [(.cmp .leq (.lit 0) (.v 42))]
        (.ite (.cmp .neq (.sel 2 0 (.v 42)) (.sel 13 0 (.v 42)))
          (done (.a (.c (.bool (.lit false)))) [])
          (.cont 0 [(.i (.bin .add .i64 (.v 42) (.lit 1)))])))
        (.loop [.i] 43 [(.i (.lit 0))]
          (.ite (.cmp .lss (.v 43) (.alen 16))
            (.need [(.cmp .leq (.lit 0) (.v 43))]
            (.ite (.cmp .neq (.sel 5 0 (.v 43)) (.sel 16 0 (.v 43)))
              (done (.a (.c (.bool (.lit false)))) [])
              (.cont 0 [(.i (.bin .add .i64 (.v 43) (.lit 1)))])))
            (.loop [.i] 44 [(.i (.lit 0))]
              (.ite (.cmp .lss (.v 44) (.alen 19))
                (.need [(.cmp .leq (.lit 0) (.v 44))]
                (.ite (.not (.and (.eq (.sel 8 0 (.v 44)) (.sel 19 0 (.v 44))) (.and (.and (.and (.cmp .eql (.sel 8 1 (.v 44)) (.sel 19 1 (.v 44))) (.cmp .eql (.sel 8 2 (.v 44)) (.sel 19 2 (.v 44)))) (.and (.cmp .eql (.sel 8 3 (.v 44)) (.sel 19 3 (.v 44))) (.and (.and (.cmp .eql (.sel 8 4 (.v 44)) (.sel 19 4 (.v 44))) (.cmp .eql (.sel 8 5 (.v 44)) (.sel 19 5 (.v 44)))) (.cmp .eql (.sel 8 6 (.v 44)) (.sel 19 6 (.v 44)))))) (.cmp .eql (.sel 8 7 (.v 44)) (.sel 19 7 (.v 44))))))
                  (done (.a (.c (.bool (.lit false)))) [])
                  (.cont 0 [(.i (.bin .add .i64 (.v 44) (.lit 1)))])))
                (done (.a (.c (.bool (.lit true)))) [])))))))) := by kernel_rfl

end Go.Proofs.Y19
