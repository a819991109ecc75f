/- A part of the proof: see the text that states the theorem. -/
import Derived.Test.YtkkfmhkmkakolaaA0
set_option linter.unusedSimpArgs false
set_option linter.unusedVariables false
set_option linter.unusedSectionVars false
noncomputable section
namespace Go.Proofs.Y11
open Go Go.SX Go.RowKit
theorem t_Orders : callTree C1 300 6 [i64s 0 9, i64s 9 9, i64s 18 9] [] 40 = some
  (.call 8 [] [] 43 [.b] (.a (.c (.bool (.v 43)))) []
  (.ite (.not (.v 43))
    (done (.a (.c (.bool (.lit false)))) [])
    (.call 15 [(.a (.agg [(.int .i64 (.v 0)), (.int .i64 (.v 1)), (.int .i64 (.v 2)), (.int .i64 (.v 3)), (.int .i64 (.v 4)), (.int .i64 (.v 5)), (.int .i64 (.v 6)), (.int .i64 (.v 7)), (.int .i64 (.v 8))])), (.a (.agg [(.int .i64 (.v 0)), (.int .i64 (.v 10)), (.int .i64 (.v 11)), (.int .i64 (.v 12)), (.int .i64 (.v 13)), (.int .i64 (.v 14)), (.int .i64 (.v 15)), (.int .i64 (.v 16)), (.int .i64 (.v 17))]))] [] 44 [.i] (.a (.c (.int .i64 (.v 44)))) []
    (.call 15 [(.a (.agg [(.int .i64 (.v 0)), (.int .i64 (.v 10)), (.int .i64 (.v 11)), (.int .i64 (.v 12)), (.int .i64 (.v 13)), (.int .i64 (.v 14)), (.int .i64 (.v 15)), (.int .i64 (.v 16)), (.int .i64 (.v 17))])), (.a (.agg [(.int .i64 (.v 0)), (.int .i64 (.v 10)), (.int .i64 (.v 11)), (.int .i64 (.v 12)), (.int .i64 (.v 13)), (.int .i64 (.v 14)), (.int .i64 (.v 24)), (.int .i64 (.v 25)), (.int .i64 (.v 26))]))] [] 45 [.i] (.a (.c (.int .i64 (.v 45)))) []
    (.call 15 [(.a (.agg [(.int .i64 (.v 0)), (.int .i64 (.v 1)), (.int .i64 (.v 2)), (.int .i64 (.v 3)), (.int .i64 (.v 4)), (.int .i64 (.v 5)), (.int .i64 (.v 6)), (.int .i64 (.v 7)), (.int .i64 (.v 8))])), (.a (.agg [(.int .i64 (.v 0)), (.int .i64 (.v 10)), (.int .i64 (.v 11)), (.int .i64 (.v 12)), (.int .i64 (.v 13)), (.int .i64 (.v 14)), (.int .i64 (.v 24)), (.int .i64 (.v 25)), (.int .i64 (.v 26))]))] [] 46 [.i] (.a (.c (.int .i64 (.v 46)))) []
    (.call 15 [(.a (.agg [(.int .i64 (.v 0)), (.int .i64 (.v 10)), (.int .i64 (.v 11)), (.int .i64 (.v 12)), (.int .i64 (.v 13)), (.int .i64 (.v 14)), (.int .i64 (.v 15)), (.int .i64 (.v 16)), (.int .i64 (.v 17))])), (.a (.agg [(.int .i64 (.v 0)), (.int .i64 (.v 1)), (.int .i64 (.v 2)), (.int .i64 (.v 3)), (.int .i64 (.v 4)), (.int .i64 (.v 5)), (.int .i64 (.v 6)), (.int .i64 (.v 7)), (.int .i64 (.v 8))]))] [] 47 [.i] (.a (.c (.int .i64 (.v 47)))) []
    (.ite (.not (.cmp .neq (.v 47) (.bin .sub .i64 (.lit 0) (.v 44))))
      (.call 15 [(.a (.agg [(.int .i64 (.v 0)), (.int .i64 (.v 10)), (.int .i64 (.v 11)), (.int .i64 (.v 12)), (.int .i64 (.v 13)), (.int .i64 (.v 14)), (.int .i64 (.v 24)), (.int .i64 (.v 25)), (.int .i64 (.v 26))])), (.a (.agg [(.int .i64 (.v 0)), (.int .i64 (.v 10)), (.int .i64 (.v 11)), (.int .i64 (.v 12)), (.int .i64 (.v 13)), (.int .i64 (.v 14)), (.int .i64 (.v 15)), (.int .i64 (.v 16)), (.int .i64 (.v 17))]))] [] 48 [.i] (.a (.c (.int .i64 (.v 48)))) []
      (.ite (.not (.or (.or (.cmp .neq (.v 48) (.bin .sub .i64 (.lit 0) (.v 45))) (.not (.eq (.cmp .eql (.v 44) (.lit 0)) (.and (.and (.cmp .eql (.v 1) (.v 10)) (.and (.cmp .eql (.v 2) (.v 11)) (.and (.cmp .eql (.v 3) (.v 12)) (.and (.cmp .eql (.v 4) (.v 13)) (.cmp .eql (.v 5) (.v 14)))))) (.and (.cmp .eql (.v 6) (.v 15)) (.and (.cmp .eql (.v 7) (.v 16)) (.cmp .eql (.v 8) (.v 17)))))))) (.not (.eq (.cmp .eql (.v 45) (.lit 0)) (.and (.cmp .eql (.v 15) (.v 24)) (.and (.cmp .eql (.v 16) (.v 25)) (.cmp .eql (.v 17) (.v 26))))))))
        (.call 15 [(.a (.agg [(.int .i64 (.v 0)), (.int .i64 (.v 1)), (.int .i64 (.v 2)), (.int .i64 (.v 3)), (.int .i64 (.v 4)), (.int .i64 (.v 5)), (.int .i64 (.v 6)), (.int .i64 (.v 7)), (.int .i64 (.v 8))])), (.a (.agg [(.int .i64 (.v 0)), (.int .i64 (.v 1)), (.int .i64 (.v 2)), (.int .i64 (.v 3)), (.int .i64 (.v 4)), (.int .i64 (.v 5)), (.int .i64 (.v 6)), (.int .i64 (.v 7)), (.int .i64 (.v 8))]))] [] 49 [.i] (.a (.c (.int .i64 (.v 49)))) []
        (.ite (.cmp .neq (.v 49) (.lit 0))
          (done (.a (.c (.bool (.lit false)))) [])
          (done (.a (.c (.bool (.or (.not (.and (.cmp .leq (.v 44) (.lit 0)) (.cmp .leq (.v 45) (.lit 0)))) (.and (.cmp .leq (.v 46) (.lit 0)) (.or (.cmp .lss (.v 46) (.lit 0)) (.and (.cmp .eql (.v 44) (.lit 0)) (.cmp .eql (.v 45) (.lit 0))))))))) [])))
        (done (.a (.c (.bool (.lit false)))) [])))
      (done (.a (.c (.bool (.lit false)))) [])))))))) := by kernel_rfl
end Go.Proofs.Y11
