/- A part of the proof: see the text that states the theorem. -/
import Derived.Test.YtkjladilnoggaaaAA
set_option linter.unusedSimpArgs false
set_option linter.unusedVariables false
set_option linter.unusedSectionVars false
noncomputable section
namespace Go.Proofs.Y19
open Go Go.SX Go.RowKit
theorem t_Roles : callTree C12 300 19 [brg 0] (brH 0) 20 = some
  (.call 14 [(.a (.agg [(.int .i64 (.v 0)), (.int .i64 (.v 1)), (.slice 3 1 0 (.lit 0) (.alen 2) (.e (.v 4))), (.slice 6 1 0 (.lit 0) (.alen 5) (.e (.v 7))), (.slice 9 8 0 (.lit 0) (.alen 8) (.e (.v 10)))]))] [(.arr 3 2 [(.int .i64)] none), (.arr 6 5 [(.int .i64)] none), (.arr 9 8 [.bool, (.int .i64), (.int .i64), (.int .i64), (.int .i64), (.int .i64), (.int .i64), (.int .i64)] none)] 22 [.i] (.a (.c (.int .i64 (.v 22)))) []
  (.ite (.cmp .neq (.v 22) (.lit 0))
    (done (.tup [(.c (.lit (.slice none 0 0))), (.c (.int .i64 (.v 22)))]) [])
    (.arr 23 .nil (.lit true)
    (.loop [.i, .l, .n] 24 [(.i (.lit 0)), (.l (.arr 23)), (.n (.nl 23))]
      (.ite (.cmp .lss (.v 24) (.alen 2))
        (.call 44 [(.a (.agg [(.int .i64 (.v 0)), (.int .i64 (.v 1)), (.slice 3 1 0 (.lit 0) (.alen 2) (.e (.v 4))), (.slice 6 1 0 (.lit 0) (.alen 5) (.e (.v 7))), (.slice 9 8 0 (.lit 0) (.alen 8) (.e (.v 10)))])), (.a (.c (.int .i64 (.v 24))))] [(.arr 3 2 [(.int .i64)] none), (.arr 6 5 [(.int .i64)] none), (.arr 9 8 [.bool, (.int .i64), (.int .i64), (.int .i64), (.int .i64), (.int .i64), (.int .i64), (.int .i64)] none)] 27 [.i] (.a (.c (.int .i64 (.v 27)))) []
        (.need [(.cmp .leq (.plus (.alen 25) (.lit 1)) (.lit 17592186044416))]
        (.arr 29 (.cat (.arr 25) (.rows [[(.i (.v 27))]])) (.lit false)
        (.cont 0 [(.i (.bin .add .i64 (.v 24) (.lit 1))), (.l (.arr 29)), (.n (.nl 29))]))))
        (done (.tup [(.c (.slice 26 1 0 (.lit 0) (.alen 25) (.k 26))), (.c (.int .i64 (.lit 0)))]) [(.arr 26 25 [(.int .i64)] (some 3))])))))) := by kernel_rfl

theorem t_Send : callTree C13 300 20 [brg 0] (brH 0) 20 = some
  (.call 14 [(.a (.agg [(.int .i64 (.v 0)), (.int .i64 (.v 1)), (.slice 3 1 0 (.lit 0) (.alen 2) (.e (.v 4))), (.slice 6 1 0 (.lit 0) (.alen 5) (.e (.v 7))), (.slice 9 8 0 (.lit 0) (.alen 8) (.e (.v 10)))]))] [(.arr 3 2 [(.int .i64)] none), (.arr 6 5 [(.int .i64)] none), (.arr 9 8 [.bool, (.int .i64), (.int .i64), (.int .i64), (.int .i64), (.int .i64), (.int .i64), (.int .i64)] none)] 23 [.i] (.a (.c (.int .i64 (.v 23)))) []
  (.ite (.cmp .neq (.v 23) (.lit 0))
    (done (.tup [(.c (.lit (.slice none 0 0))), (.c (.int .i64 (.v 23)))]) [])
    (.arr 24 .nil (.lit true)
    (.loop [.i, .l, .n] 25 [(.i (.lit 0)), (.l (.arr 24)), (.n (.nl 24))]
      (.ite (.cmp .lss (.v 25) (.alen 2))
        (.call 44 [(.a (.agg [(.int .i64 (.v 0)), (.int .i64 (.v 1)), (.slice 3 1 0 (.lit 0) (.alen 2) (.e (.v 4))), (.slice 6 1 0 (.lit 0) (.alen 5) (.e (.v 7))), (.slice 9 8 0 (.lit 0) (.alen 8) (.e (.v 10)))])), (.a (.c (.int .i64 (.v 25))))] [(.arr 3 2 [(.int .i64)] none), (.arr 6 5 [(.int .i64)] none), (.arr 9 8 [.bool, (.int .i64), (.int .i64), (.int .i64), (.int .i64), (.int .i64), (.int .i64), (.int .i64)] none)] 29 [.i] (.a (.c (.int .i64 (.v 29)))) []
        (.ite (.cmp .neq (.v 29) (.lit 2))
          (.need [(.cmp .leq (.plus (.alen 26) (.lit 1)) (.lit 2199023255552))]
          (.arr 31 (.cat (.arr 26) (.rows [[(.b (.lit false)), (.i (.lit 0)), (.i (.lit 0)), (.i (.lit 0)), (.i (.lit 0)), (.i (.lit 0)), (.i (.lit 0)), (.i (.lit 0))]])) (.lit false)
          (.cont 0 [(.i (.bin .add .i64 (.v 25) (.lit 1))), (.l (.arr 31)), (.n (.nl 31))])))
          (.call 47 [(.a (.agg [(.int .i64 (.v 0)), (.int .i64 (.v 1)), (.slice 3 1 0 (.lit 0) (.alen 2) (.e (.v 4))), (.slice 6 1 0 (.lit 0) (.alen 5) (.e (.v 7))), (.slice 9 8 0 (.lit 0) (.alen 8) (.e (.v 10)))])), (.a (.c (.int .i64 (.v 25))))] [(.arr 3 2 [(.int .i64)] none), (.arr 6 5 [(.int .i64)] none), (.arr 9 8 [.bool, (.int .i64), (.int .i64), (.int .i64), (.int .i64), (.int .i64), (.int .i64), (.int .i64)] none)] 30 [.i, .i, .i, .i, .i, .i] (.a (.agg [(.int .i64 (.v 30)), (.int .i64 (.v 31)), (.int .i64 (.v 32)), (.int .i64 (.v 33)), (.int .i64 (.v 34)), (.int .i64 (.v 35))])) []
          (.call 42 [(.a (.agg [(.int .i64 (.v 0)), (.int .i64 (.v 1)), (.slice 3 1 0 (.lit 0) (.alen 2) (.e (.v 4))), (.slice 6 1 0 (.lit 0) (.alen 5) (.e (.v 7))), (.slice 9 8 0 (.lit 0) (.alen 8) (.e (.v 10)))]))] [(.arr 3 2 [(.int .i64)] none), (.arr 6 5 [(.int .i64)] none), (.arr 9 8 [.bool, (.int .i64), (.int .i64), (.int .i64), (.int .i64), (.int .i64), (.int .i64), (.int .i64)] none)] 37 [.i, .i, .i, .i, .i, .i, .i] (.tup [(.c (.int .i64 (.v 37))), (.agg [(.int .i64 (.v 38)), (.int .i64 (.v 39)), (.int .i64 (.v 40)), (.int .i64 (.v 41)), (.int .i64 (.v 42)), (.int .i64 (.v 43))])]) []
          (.ite (.cmp .geq (.v 37) (.lit 0))
            (.need [(.cmp .leq (.lit 0) (.v 37)), (.cmp .lss (.v 37) (.alen 8)), (.cmp .lss (.v 37) (.alen 8))]
            (.need [(.cmp .leq (.plus (.alen 26) (.lit 1)) (.lit 2199023255552))]
            (.arr 46 (.cat (.arr 26) (.rows [[(.b (.lit true)), (.i (.v 30)), (.i (.v 31)), (.i (.v 32)), (.i (.v 33)), (.i (.v 34)), (.i (.v 35)), (.i (.sel 8 7 (.v 37)))]])) (.lit false)
            (.cont 0 [(.i (.bin .add .i64 (.v 25) (.lit 1))), (.l (.arr 46)), (.n (.nl 46))]))))
            (.need [(.cmp .leq (.plus (.alen 26) (.lit 1)) (.lit 2199023255552))]
            (.arr 46 (.cat (.arr 26) (.rows [[(.b (.lit true)), (.i (.v 30)), (.i (.v 31)), (.i (.v 32)), (.i (.v 33)), (.i (.v 34)), (.i (.v 35)), (.i (.lit 0))]])) (.lit false)
            (.cont 0 [(.i (.bin .add .i64 (.v 25) (.lit 1))), (.l (.arr 46)), (.n (.nl 46))]))))))))
        (done (.tup [(.c (.slice 27 8 0 (.lit 0) (.alen 26) (.k 27))), (.c (.int .i64 (.lit 0)))]) [(.arr 27 26 [.bool, (.int .i64), (.int .i64), (.int .i64), (.int .i64), (.int .i64), (.int .i64), (.int .i64)] (some 51))])))))) := by kernel_rfl

end Go.Proofs.Y19
