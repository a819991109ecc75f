/- A part of the proof: see the text that states the theorem. -/
import Derived.Test.YtkjladilnoggaaaAA
set_option linter.unusedSimpArgs false
set_option linter.unusedVariables false
set_option linter.unusedSectionVars false
noncomputable section
namespace Go.Proofs.Y19
open Go Go.SX Go.RowKit
theorem t_SpanChecks : callTree C2 300 3 [brg 0] (brH 0) 20 = some
  (.call 11 [] [] 21 [.b] (.a (.c (.bool (.v 21)))) []
  (.ite (.not (.v 21))
    (done (.a (.c (.bool (.lit false)))) [])
    (.need [(.cmp .leq (.lit 0) (.sw .lss (.lit 30) (.alen 2) (.lit 30) (.alen 2))), (.cmp .leq (.sw .lss (.lit 30) (.alen 2) (.lit 30) (.alen 2)) (.v 4))]
    (.need [(.cmp .leq (.lit 0) (.sw .lss (.lit 30) (.alen 5) (.lit 30) (.alen 5))), (.cmp .leq (.sw .lss (.lit 30) (.alen 5) (.lit 30) (.alen 5)) (.v 7))]
    (.need [(.cmp .leq (.lit 0) (.sw .lss (.lit 30) (.alen 8) (.lit 30) (.alen 8))), (.cmp .leq (.sw .lss (.lit 30) (.alen 8) (.lit 30) (.alen 8)) (.v 10))]
    (.call 13 [(.a (.agg [(.int .i64 (.v 0)), (.int .i64 (.v 1)), (.slice 3 1 0 (.lit 0) (.sw .lss (.lit 30) (.alen 2) (.lit 30) (.alen 2)) (.e (.v 4))), (.slice 6 1 0 (.lit 0) (.sw .lss (.lit 30) (.alen 5) (.lit 30) (.alen 5)) (.e (.v 7))), (.slice 9 8 0 (.lit 0) (.sw .lss (.lit 30) (.alen 8) (.lit 30) (.alen 8)) (.e (.v 10)))]))] [(.arr 3 2 [(.int .i64)] none), (.arr 6 5 [(.int .i64)] none), (.arr 9 8 [.bool, (.int .i64), (.int .i64), (.int .i64), (.int .i64), (.int .i64), (.int .i64), (.int .i64)] none)] 25 [.b] (.a (.c (.bool (.v 25)))) []
    (.call 14 [(.a (.agg [(.int .i64 (.v 0)), (.int .i64 (.v 1)), (.slice 3 1 0 (.lit 0) (.sw .lss (.lit 30) (.alen 2) (.lit 30) (.alen 2)) (.e (.v 4))), (.slice 6 1 0 (.lit 0) (.sw .lss (.lit 30) (.alen 5) (.lit 30) (.alen 5)) (.e (.v 7))), (.slice 9 8 0 (.lit 0) (.sw .lss (.lit 30) (.alen 8) (.lit 30) (.alen 8)) (.e (.v 10)))]))] [(.arr 3 2 [(.int .i64)] none), (.arr 6 5 [(.int .i64)] none), (.arr 9 8 [.bool, (.int .i64), (.int .i64), (.int .i64), (.int .i64), (.int .i64), (.int .i64), (.int .i64)] none)] 26 [.i] (.a (.c (.int .i64 (.v 26)))) []
    (.ite (.or (.not (.eq (.v 25) (.cmp .eql (.v 26) (.lit 0)))) (.and (.not (.v 25)) (.cmp .neq (.v 26) (.lit 290))))
      (done (.a (.c (.bool (.lit false)))) [])
      (.need [(.cmp .leq (.lit 0) (.nat (.sw .lss (.lit 30) (.alen 2) (.lit 30) (.alen 2)))), (.cmp .leq (.nat (.sw .lss (.lit 30) (.alen 2) (.lit 30) (.alen 2))) (.lit 2199023255552))]
      (.arr 29 (.rep (.nat (.sw .lss (.lit 30) (.alen 2) (.lit 30) (.alen 2))) [(.b (.lit false)), (.i (.lit 0)), (.i (.lit 0)), (.i (.lit 0)), (.i (.lit 0)), (.i (.lit 0)), (.i (.lit 0)), (.i (.lit 0))]) (.lit false)
      (.call 14 [(.a (.agg [(.int .i64 (.v 0)), (.int .i64 (.v 1)), (.slice 3 1 0 (.lit 0) (.sw .lss (.lit 30) (.alen 2) (.lit 30) (.alen 2)) (.e (.v 4))), (.slice 6 1 0 (.lit 0) (.sw .lss (.lit 30) (.alen 5) (.lit 30) (.alen 5)) (.e (.v 7))), (.slice 29 8 0 (.lit 0) (.alen 29) (.k 29))]))] [(.arr 29 29 [.bool, (.int .i64), (.int .i64), (.int .i64), (.int .i64), (.int .i64), (.int .i64), (.int .i64)] (some 51)), (.arr 3 2 [(.int .i64)] none), (.arr 6 5 [(.int .i64)] none)] 31 [.i] (.a (.c (.int .i64 (.v 31)))) []
      (.ite (.cmp .neq (.v 31) (.lit 0))
        (.arr 33 (.rep (.nat (.sw .lss (.lit 30) (.alen 2) (.lit 30) (.alen 2))) [(.b (.lit false)), (.i (.lit 0)), (.i (.lit 0)), (.i (.lit 0)), (.i (.lit 0)), (.i (.lit 0)), (.i (.lit 0)), (.i (.lit 0))]) (.lit false)
        (.call 13 [(.a (.agg [(.int .i64 (.v 0)), (.int .i64 (.v 1)), (.slice 3 1 0 (.lit 0) (.sw .lss (.lit 30) (.alen 2) (.lit 30) (.alen 2)) (.e (.v 4))), (.slice 6 1 0 (.lit 0) (.sw .lss (.lit 30) (.alen 5) (.lit 30) (.alen 5)) (.e (.v 7))), (.slice 33 8 0 (.lit 0) (.alen 33) (.k 33))]))] [(.arr 33 33 [.bool, (.int .i64), (.int .i64), (.int .i64), (.int .i64), (.int .i64), (.int .i64), (.int .i64)] (some 51)), (.arr 3 2 [(.int .i64)] none), (.arr 6 5 [(.int .i64)] none)] 35 [.b] (.a (.c (.bool (.v 35)))) []
        (.ite (.not (.v 35))
          (.call 41 [(.a (.agg [(.int .i64 (.lit 0)), (.int .i64 (.lit 0)), (.lit (.slice none 0 0)), (.lit (.slice none 0 0)), (.lit (.slice none 0 0))])), (.a (.agg [(.int .i64 (.lit 0)), (.int .i64 (.lit 0)), (.lit (.slice none 0 0)), (.lit (.slice none 0 0)), (.lit (.slice none 0 0))]))] [] 37 [.b] (.a (.c (.bool (.v 37)))) []
          (done (.a (.c (.bool (.v 37)))) []))
          (done (.a (.c (.bool (.lit false)))) []))))
        (.arr 33 (.rep (.nat (.sw .lss (.lit 30) (.alen 2) (.lit 30) (.alen 2))) [(.b (.lit false)), (.i (.lit 0)), (.i (.lit 0)), (.i (.lit 0)), (.i (.lit 0)), (.i (.lit 0)), (.i (.lit 0)), (.i (.lit 0))]) (.lit false)
        (.call 13 [(.a (.agg [(.int .i64 (.v 0)), (.int .i64 (.v 1)), (.slice 3 1 0 (.lit 0) (.sw .lss (.lit 30) (.alen 2) (.lit 30) (.alen 2)) (.e (.v 4))), (.slice 6 1 0 (.lit 0) (.sw .lss (.lit 30) (.alen 5) (.lit 30) (.alen 5)) (.e (.v 7))), (.slice 33 8 0 (.lit 0) (.alen 33) (.k 33))]))] [(.arr 33 33 [.bool, (.int .i64), (.int .i64), (.int .i64), (.int .i64), (.int .i64), (.int .i64), (.int .i64)] (some 51)), (.arr 3 2 [(.int .i64)] none), (.arr 6 5 [(.int .i64)] none)] 35 [.b] (.a (.c (.bool (.v 35)))) []
        (.ite (.not (.v 35))
          (done (.a (.c (.bool (.lit false)))) [])
          (.call 41 [(.a (.agg [(.int .i64 (.v 0)), (.int .i64 (.v 1)), (.slice 3 1 0 (.lit 0) (.sw .lss (.lit 30) (.alen 2) (.lit 30) (.alen 2)) (.e (.v 4))), (.slice 6 1 0 (.lit 0) (.sw .lss (.lit 30) (.alen 5) (.lit 30) (.alen 5)) (.e (.v 7))), (.slice 29 8 0 (.lit 0) (.alen 29) (.k 29))])), (.a (.agg [(.int .i64 (.v 0)), (.int .i64 (.v 1)), (.slice 3 1 0 (.lit 0) (.sw .lss (.lit 30) (.alen 2) (.lit 30) (.alen 2)) (.e (.v 4))), (.slice 6 1 0 (.lit 0) (.sw .lss (.lit 30) (.alen 5) (.lit 30) (.alen 5)) (.e (.v 7))), (.slice 33 8 0 (.lit 0) (.alen 33) (.k 33))]))] [(.arr 33 33 [.bool, (.int .i64), (.int .i64), (.int .i64), (.int .i64), (.int .i64), (.int .i64), (.int .i64)] (some 51)), (.arr 29 29 [.bool, (.int .i64), (.int .i64), (.int .i64), (.int .i64), (.int .i64), (.int .i64), (.int .i64)] (some 51)), (.arr 3 2 [(.int .i64)] none), (.arr 6 5 [(.int .i64)] none)] 38 [.b] (.a (.c (.bool (.v 38)))) []
          (done (.a (.c (.bool (.v 38)))) []))))))))))))))))) := by kernel_rfl

end Go.Proofs.Y19
