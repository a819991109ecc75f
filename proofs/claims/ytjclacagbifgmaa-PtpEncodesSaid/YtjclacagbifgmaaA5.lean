/- A part of the proof: see the text that states the theorem. -/
import Derived.Test.YtjclacagbifgmaaAA
set_option linter.unusedSimpArgs false
set_option linter.unusedVariables false
set_option linter.unusedSectionVars false
noncomputable section
namespace Go.Proofs.Y10
open Go Go.SX Go.RowKit
theorem t_EncodeE : callTree C6 300 18 [msg 0] [] 20 = some
  (.call 24 [(.a (.agg [(.int .i64 (.v 0)), (.int .i64 (.v 1)), (.int .i64 (.v 2)), (.int .i64 (.v 3)), (.int .i64 (.v 4)), (.int .i64 (.v 5)), (.int .i64 (.v 6)), (.int .i64 (.v 7)), (.int .i64 (.v 8)), (.int .i64 (.v 9)), (.int .i64 (.v 10)), (.int .i64 (.v 11)), (.int .i64 (.v 12)), (.int .i64 (.v 13)), (.int .i64 (.v 14)), (.int .i64 (.v 15)), (.int .i64 (.v 16))]))] [] 21 [.i] (.a (.c (.int .i64 (.v 21)))) []
  (.ite (.cmp .neq (.v 21) (.lit 0))
    (done (.tup [(.c (.lit (.slice none 0 0))), (.c (.int .i64 (.v 21)))]) [])
    (.call 13 [(.a (.c (.int .i64 (.v 0))))] [] 22 [.i] (.a (.c (.int .i64 (.v 22)))) []
    (.call 34 [(.a (.agg [(.ptr 20 0)]))] [(.obj 20 (.cells [(.int .i64 (.v 0)), (.int .i64 (.v 1)), (.int .i64 (.v 2)), (.int .i64 (.v 3)), (.int .i64 (.v 4)), (.int .i64 (.v 5)), (.int .i64 (.v 6)), (.int .i64 (.v 7)), (.int .i64 (.v 8)), (.int .i64 (.v 9)), (.int .i64 (.v 10)), (.int .i64 (.v 11)), (.int .i64 (.v 12)), (.int .i64 (.v 13)), (.int .i64 (.v 14)), (.int .i64 (.v 15)), (.int .i64 (.v 16))] 27 none))] 25 [.i] (.a (.c (.int .i64 (.v 25)))) []
    .dead)))) := by kernel_rfl

theorem t_DecodeE : callTree C7 300 22 [slArg 0 1] [.arr 1 0 pu none] 20 = some
  (.need [(.or (.cmp .lss (.alen 0) (.lit 22)) (.cmp .lss (.lit 0) (.alen 0))), (.or (.cmp .lss (.alen 0) (.lit 22)) (.cmp .lss (.lit 0) (.alen 0)))]
  (.ite (.not (.cmp .lss (.alen 0) (.lit 22)))
    (.call 13 [(.a (.c (.int .i64 (.conv .i64 (.sel 0 0 (.lit 0))))))] [] 22 [.i] (.a (.c (.int .i64 (.v 22)))) []
    (.ite (.cmp .neq (.v 22) (.alen 0))
      (done (.tup [(.agg [(.int .i64 (.lit 0)), (.int .i64 (.lit 0)), (.int .i64 (.lit 0)), (.int .i64 (.lit 0)), (.int .i64 (.lit 0)), (.int .i64 (.lit 0)), (.int .i64 (.lit 0)), (.int .i64 (.lit 0)), (.int .i64 (.lit 0)), (.int .i64 (.lit 0)), (.int .i64 (.lit 0)), (.int .i64 (.lit 0)), (.int .i64 (.lit 0)), (.int .i64 (.lit 0)), (.int .i64 (.lit 0)), (.int .i64 (.lit 0)), (.int .i64 (.lit 0))]), (.c (.int .i64 (.lit 5)))]) [])
      (.call 34 [(.a (.agg [(.ptr 21 0)]))] [(.obj 21 (.cells [(.int .i64 (.lit 0)), (.int .i64 (.lit 0)), (.int .i64 (.lit 0)), (.int .i64 (.lit 0)), (.int .i64 (.lit 0)), (.int .i64 (.lit 0)), (.int .i64 (.lit 0)), (.int .i64 (.lit 0)), (.int .i64 (.lit 0)), (.int .i64 (.lit 0)), (.int .i64 (.lit 0)), (.int .i64 (.lit 0)), (.int .i64 (.lit 0)), (.int .i64 (.lit 0)), (.int .i64 (.lit 0)), (.int .i64 (.lit 0)), (.int .i64 (.lit 0))] 27 none))] 26 [.i] (.a (.c (.int .i64 (.v 26)))) []
      .dead)))
    (done (.tup [(.agg [(.int .i64 (.lit 0)), (.int .i64 (.lit 0)), (.int .i64 (.lit 0)), (.int .i64 (.lit 0)), (.int .i64 (.lit 0)), (.int .i64 (.lit 0)), (.int .i64 (.lit 0)), (.int .i64 (.lit 0)), (.int .i64 (.lit 0)), (.int .i64 (.lit 0)), (.int .i64 (.lit 0)), (.int .i64 (.lit 0)), (.int .i64 (.lit 0)), (.int .i64 (.lit 0)), (.int .i64 (.lit 0)), (.int .i64 (.lit 0)), (.int .i64 (.lit 0))]), (.c (.int .i64 (.lit 5)))]) []))) := by kernel_rfl

theorem t_ReadE : callTree C8 300 23 [slArg 0 1] [.arr 1 0 pu none] 20 = some
  (.need [(.or (.cmp .lss (.alen 0) (.lit 22)) (.cmp .lss (.lit 0) (.alen 0))), (.or (.cmp .lss (.alen 0) (.lit 22)) (.cmp .lss (.lit 0) (.alen 0)))]
  (.ite (.not (.cmp .lss (.alen 0) (.lit 22)))
    (.call 14 [(.a (.c (.int .i64 (.conv .i64 (.sel 0 0 (.lit 0))))))] [] 21 [.i] (.a (.c (.int .i64 (.v 21)))) []
    (.ite (.cmp .neq (.v 21) (.alen 0))
      (done (.tup [(.agg [(.int .i64 (.lit 0)), (.int .i64 (.lit 0)), (.int .i64 (.lit 0)), (.int .i64 (.lit 0)), (.int .i64 (.lit 0)), (.int .i64 (.lit 0)), (.int .i64 (.lit 0)), (.int .i64 (.lit 0)), (.int .i64 (.lit 0)), (.int .i64 (.lit 0)), (.int .i64 (.lit 0)), (.int .i64 (.lit 0)), (.int .i64 (.lit 0)), (.int .i64 (.lit 0)), (.int .i64 (.lit 0)), (.int .i64 (.lit 0)), (.int .i64 (.lit 0))]), (.c (.bool (.lit false)))]) [])
      (.call 39 [(.a (.c (.slice 1 1 0 (.lit 0) (.alen 0) (.e (.v 2))))), (.a (.c (.int .i64 (.lit 4))))] [(.arr 1 0 [(.int .u8)] none)] 22 [] (.tup []) []
      (.call 40 [(.a (.c (.slice 1 1 0 (.lit 0) (.alen 0) (.e (.v 2))))), (.a (.c (.int .i64 (.lit 12)))), (.a (.c (.int .i64 (.lit 6))))] [(.arr 1 0 [(.int .u8)] none)] 22 [] (.tup []) []
      (.call 40 [(.a (.c (.slice 1 1 0 (.lit 0) (.alen 0) (.e (.v 2))))), (.a (.c (.int .i64 (.lit 18)))), (.a (.c (.int .i64 (.lit 2))))] [(.arr 1 0 [(.int .u8)] none)] 22 [] (.tup []) []
      .dead)))))
    (done (.tup [(.agg [(.int .i64 (.lit 0)), (.int .i64 (.lit 0)), (.int .i64 (.lit 0)), (.int .i64 (.lit 0)), (.int .i64 (.lit 0)), (.int .i64 (.lit 0)), (.int .i64 (.lit 0)), (.int .i64 (.lit 0)), (.int .i64 (.lit 0)), (.int .i64 (.lit 0)), (.int .i64 (.lit 0)), (.int .i64 (.lit 0)), (.int .i64 (.lit 0)), (.int .i64 (.lit 0)), (.int .i64 (.lit 0)), (.int .i64 (.lit 0)), (.int .i64 (.lit 0))]), (.c (.bool (.lit false)))]) []))) := by kernel_rfl

end Go.Proofs.Y10
