/- A part of the proof: see the text that states the theorem. -/
import Derived.Test.YtkjladilnoggaaaAA
set_option linter.unusedSimpArgs false
set_option linter.unusedVariables false
set_option linter.unusedSectionVars false
noncomputable section
namespace Go.Proofs.Y19
open Go Go.SX Go.RowKit
theorem t_root : callTree C7 300 42 [brg 0] (brH 0) 20 = some
  (.loop [.i, .i, .i, .i, .i, .i, .i, .i] 26 [(.i (.lit 0)), (.i (.lit (-1))), (.i (.v 0)), (.i (.v 1)), (.i (.lit 0)), (.i (.lit 0)), (.i (.lit 0)), (.i (.lit 0))]
    (.ite (.cmp .lss (.v 26) (.alen 8))
      (.need [(.cmp .leq (.lit 0) (.v 26))]
      (.need [(.cmp .lss (.v 26) (.alen 5)), (.cmp .lss (.v 26) (.alen 5))]
      (.ite (.and (.sel 8 0 (.v 26)) (.cmp .leq (.bin .add .i64 (.sel 8 3 (.v 26)) (.sel 5 0 (.v 26))) (.lit 1048576)))
        (.ite (.or (.cmp .lss (.sel 8 1 (.v 26)) (.v 0)) (.and (.cmp .eql (.sel 8 1 (.v 26)) (.v 0)) (.cmp .lss (.sel 8 2 (.v 26)) (.v 1))))
          (.ite (.cmp .geq (.v 27) (.lit 0))
            (.call 37 [(.a (.agg [(.int .i64 (.sel 8 1 (.v 26))), (.int .i64 (.sel 8 2 (.v 26))), (.int .i64 (.bin .add .i64 (.sel 8 3 (.v 26)) (.sel 5 0 (.v 26)))), (.int .i64 (.sel 8 4 (.v 26))), (.int .i64 (.sel 8 5 (.v 26))), (.int .i64 (.sel 8 6 (.v 26)))])), (.a (.agg [(.int .i64 (.v 28)), (.int .i64 (.v 29)), (.int .i64 (.v 30)), (.int .i64 (.v 31)), (.int .i64 (.v 32)), (.int .i64 (.v 33))]))] [] 39 [.i] (.a (.c (.int .i64 (.v 39)))) []
            (.ite (.cmp .geq (.v 39) (.lit 0))
              (.cont 0 [(.i (.bin .add .i64 (.v 26) (.lit 1))), (.i (.v 27)), (.i (.v 28)), (.i (.v 29)), (.i (.v 30)), (.i (.v 31)), (.i (.v 32)), (.i (.v 33))])
              (.cont 0 [(.i (.bin .add .i64 (.v 26) (.lit 1))), (.i (.v 26)), (.i (.sel 8 1 (.v 26))), (.i (.sel 8 2 (.v 26))), (.i (.bin .add .i64 (.sel 8 3 (.v 26)) (.sel 5 0 (.v 26)))), (.i (.sel 8 4 (.v 26))), (.i (.sel 8 5 (.v 26))), (.i (.sel 8 6 (.v 26)))])))
            (.cont 0 [(.i (.bin .add .i64 (.v 26) (.lit 1))), (.i (.v 26)), (.i (.sel 8 1 (.v 26))), (.i (.sel 8 2 (.v 26))), (.i (.bin .add .i64 (.sel 8 3 (.v 26)) (.sel 5 0 (.v 26)))), (.i (.sel 8 4 (.v 26))), (.i (.sel 8 5 (.v 26))), (.i (.sel 8 6 (.v 26)))]))
          (.cont 0 [(.i (.bin .add .i64 (.v 26) (.lit 1))), (.i (.v 27)), (.i (.v 28)), (.i (.v 29)), (.i (.v 30)), (.i (.v 31)), (.i (.v 32)), (.i (.v 33))]))
        (.cont 0 [(.i (.bin .add .i64 (.v 26) (.lit 1))), (.i (.v 27)), (.i (.v 28)), (.i (.v 29)), (.i (.v 30)), (.i (.v 31)), (.i (.v 32)), (.i (.v 33))]))))
      (done (.tup [(.c (.int .i64 (.v 27))), (.agg [(.int .i64 (.v 28)), (.int .i64 (.v 29)), (.int .i64 (.v 30)), (.int .i64 (.v 31)), (.int .i64 (.v 32)), (.int .i64 (.v 33))])]) []))) := by kernel_rfl

theorem t_refRoot : callTree C8 300 21 [brg 0] (brH 0) 20 = some
  (.loop [.i, .i] 21 [(.i (.lit (-1))), (.i (.lit 0))]
    (.ite (.cmp .lss (.v 22) (.alen 2))
      (.need [(.cmp .leq (.lit 0) (.v 22)), (.cmp .lss (.v 22) (.alen 8)), (.cmp .lss (.v 22) (.alen 8))]
      (.need [(.cmp .lss (.v 22) (.alen 5)), (.cmp .lss (.v 22) (.alen 5))]
      (.ite (.not (.and (.and (.sel 8 0 (.v 22)) (.cmp .leq (.bin .add .i64 (.sel 8 3 (.v 22)) (.sel 5 0 (.v 22))) (.lit 1048576))) (.or (.cmp .lss (.sel 8 1 (.v 22)) (.v 0)) (.and (.cmp .eql (.sel 8 1 (.v 22)) (.v 0)) (.cmp .lss (.sel 8 2 (.v 22)) (.v 1))))))
        (.cont 0 [(.i (.v 21)), (.i (.bin .add .i64 (.v 22) (.lit 1)))])
        (.ite (.cmp .lss (.v 21) (.lit 0))
          (.cont 0 [(.i (.v 22)), (.i (.bin .add .i64 (.v 22) (.lit 1)))])
          (.need [(.cmp .lss (.v 21) (.alen 8)), (.cmp .lss (.v 21) (.alen 8))]
          (.need [(.cmp .lss (.v 21) (.alen 5)), (.cmp .lss (.v 21) (.alen 5))]
          (.call 49 [(.a (.agg [(.int .i64 (.sel 8 1 (.v 22))), (.int .i64 (.sel 8 2 (.v 22))), (.int .i64 (.bin .add .i64 (.sel 8 3 (.v 22)) (.sel 5 0 (.v 22)))), (.int .i64 (.sel 8 4 (.v 22))), (.int .i64 (.sel 8 5 (.v 22))), (.int .i64 (.sel 8 6 (.v 22)))])), (.a (.agg [(.int .i64 (.sel 8 1 (.v 21))), (.int .i64 (.sel 8 2 (.v 21))), (.int .i64 (.bin .add .i64 (.sel 8 3 (.v 21)) (.sel 5 0 (.v 21)))), (.int .i64 (.sel 8 4 (.v 21))), (.int .i64 (.sel 8 5 (.v 21))), (.int .i64 (.sel 8 6 (.v 21)))]))] [] 31 [.b] (.a (.c (.bool (.v 31)))) []
          (.ite (.v 31)
            (.cont 0 [(.i (.v 22)), (.i (.bin .add .i64 (.v 22) (.lit 1)))])
            (.cont 0 [(.i (.v 21)), (.i (.bin .add .i64 (.v 22) (.lit 1)))])))))))))
      (done (.a (.c (.int .i64 (.v 21)))) []))) := by kernel_rfl

theorem t_claim : callTree C9 300 47 [brg 0, i64 11] (brH 0) 20 = some
  (.call 42 [(.a (.agg [(.int .i64 (.v 0)), (.int .i64 (.v 1)), (.slice 3 1 0 (.lit 0) (.alen 2) (.e (.v 4))), (.slice 6 1 0 (.lit 0) (.alen 5) (.e (.v 7))), (.slice 9 8 0 (.lit 0) (.alen 8) (.e (.v 10)))]))] [(.arr 3 2 [(.int .i64)] none), (.arr 6 5 [(.int .i64)] none), (.arr 9 8 [.bool, (.int .i64), (.int .i64), (.int .i64), (.int .i64), (.int .i64), (.int .i64), (.int .i64)] none)] 22 [.i, .i, .i, .i, .i, .i, .i] (.tup [(.c (.int .i64 (.v 22))), (.agg [(.int .i64 (.v 23)), (.int .i64 (.v 24)), (.int .i64 (.v 25)), (.int .i64 (.v 26)), (.int .i64 (.v 27)), (.int .i64 (.v 28))])]) []
  (.need [(.cmp .leq (.lit 0) (.v 11)), (.cmp .lss (.v 11) (.alen 2)), (.cmp .lss (.v 11) (.alen 2))]
  (done (.a (.agg [(.int .i64 (.v 23)), (.int .i64 (.v 24)), (.int .i64 (.v 25)), (.int .i64 (.v 0)), (.int .i64 (.v 1)), (.int .i64 (.sel 2 0 (.v 11)))])) []))) := by kernel_rfl

theorem t_role : callTree C9 300 44 [brg 0, i64 11] (brH 0) 20 = some
  (.call 42 [(.a (.agg [(.int .i64 (.v 0)), (.int .i64 (.v 1)), (.slice 3 1 0 (.lit 0) (.alen 2) (.e (.v 4))), (.slice 6 1 0 (.lit 0) (.alen 5) (.e (.v 7))), (.slice 9 8 0 (.lit 0) (.alen 8) (.e (.v 10)))]))] [(.arr 3 2 [(.int .i64)] none), (.arr 6 5 [(.int .i64)] none), (.arr 9 8 [.bool, (.int .i64), (.int .i64), (.int .i64), (.int .i64), (.int .i64), (.int .i64), (.int .i64)] none)] 21 [.i, .i, .i, .i, .i, .i, .i] (.tup [(.c (.int .i64 (.v 21))), (.agg [(.int .i64 (.v 22)), (.int .i64 (.v 23)), (.int .i64 (.v 24)), (.int .i64 (.v 25)), (.int .i64 (.v 26)), (.int .i64 (.v 27))])]) []
  (.need [(.cmp .leq (.lit 0) (.v 11)), (.cmp .lss (.v 11) (.alen 8)), (.cmp .lss (.v 11) (.alen 8))]
  (.ite (.cmp .eql (.v 11) (.v 21))
    (done (.a (.c (.int .i64 (.lit 1)))) [])
    (.ite (.sel 8 0 (.v 11))
      (.call 47 [(.a (.agg [(.int .i64 (.v 0)), (.int .i64 (.v 1)), (.slice 3 1 0 (.lit 0) (.alen 2) (.e (.v 4))), (.slice 6 1 0 (.lit 0) (.alen 5) (.e (.v 7))), (.slice 9 8 0 (.lit 0) (.alen 8) (.e (.v 10)))])), (.a (.c (.int .i64 (.v 11))))] [(.arr 3 2 [(.int .i64)] none), (.arr 6 5 [(.int .i64)] none), (.arr 9 8 [.bool, (.int .i64), (.int .i64), (.int .i64), (.int .i64), (.int .i64), (.int .i64), (.int .i64)] none)] 30 [.i, .i, .i, .i, .i, .i] (.a (.agg [(.int .i64 (.v 30)), (.int .i64 (.v 31)), (.int .i64 (.v 32)), (.int .i64 (.v 33)), (.int .i64 (.v 34)), (.int .i64 (.v 35))])) []
      (.call 37 [(.a (.agg [(.int .i64 (.v 30)), (.int .i64 (.v 31)), (.int .i64 (.v 32)), (.int .i64 (.v 33)), (.int .i64 (.v 34)), (.int .i64 (.v 35))])), (.a (.agg [(.int .i64 (.sel 8 1 (.v 11))), (.int .i64 (.sel 8 2 (.v 11))), (.int .i64 (.sel 8 3 (.v 11))), (.int .i64 (.sel 8 4 (.v 11))), (.int .i64 (.sel 8 5 (.v 11))), (.int .i64 (.sel 8 6 (.v 11)))]))] [] 36 [.i] (.a (.c (.int .i64 (.v 36)))) []
      (.ite (.cmp .lss (.v 36) (.lit 0))
        (done (.a (.c (.int .i64 (.lit 2)))) [])
        (done (.a (.c (.int .i64 (.lit 3)))) []))))
      (done (.a (.c (.int .i64 (.lit 2)))) []))))) := by kernel_rfl

theorem t_refClaim : callTree C10 300 22 [brg 0, i64 11] (brH 0) 20 = some
  (.need [(.cmp .leq (.lit 0) (.v 11)), (.cmp .lss (.v 11) (.alen 2)), (.cmp .lss (.v 11) (.alen 2))]
  (.call 21 [(.a (.agg [(.int .i64 (.v 0)), (.int .i64 (.v 1)), (.slice 3 1 0 (.lit 0) (.alen 2) (.e (.v 4))), (.slice 6 1 0 (.lit 0) (.alen 5) (.e (.v 7))), (.slice 9 8 0 (.lit 0) (.alen 8) (.e (.v 10)))]))] [(.arr 3 2 [(.int .i64)] none), (.arr 6 5 [(.int .i64)] none), (.arr 9 8 [.bool, (.int .i64), (.int .i64), (.int .i64), (.int .i64), (.int .i64), (.int .i64), (.int .i64)] none)] 23 [.i] (.a (.c (.int .i64 (.v 23)))) []
  (.ite (.cmp .geq (.v 23) (.lit 0))
    (.need [(.cmp .leq (.lit 0) (.v 23)), (.cmp .lss (.v 23) (.alen 8)), (.cmp .lss (.v 23) (.alen 8))]
    (.need [(.cmp .lss (.v 23) (.alen 5)), (.cmp .lss (.v 23) (.alen 5))]
    (done (.a (.agg [(.int .i64 (.sel 8 1 (.v 23))), (.int .i64 (.sel 8 2 (.v 23))), (.int .i64 (.bin .add .i64 (.sel 8 3 (.v 23)) (.sel 5 0 (.v 23)))), (.int .i64 (.v 0)), (.int .i64 (.v 1)), (.int .i64 (.sel 2 0 (.v 11)))])) [])))
    (done (.a (.agg [(.int .i64 (.v 0)), (.int .i64 (.v 1)), (.int .i64 (.lit 0)), (.int .i64 (.v 0)), (.int .i64 (.v 1)), (.int .i64 (.sel 2 0 (.v 11)))])) [])))) := by kernel_rfl

theorem t_refRole : callTree C10 300 23 [brg 0, i64 11] (brH 0) 20 = some
  (.call 21 [(.a (.agg [(.int .i64 (.v 0)), (.int .i64 (.v 1)), (.slice 3 1 0 (.lit 0) (.alen 2) (.e (.v 4))), (.slice 6 1 0 (.lit 0) (.alen 5) (.e (.v 7))), (.slice 9 8 0 (.lit 0) (.alen 8) (.e (.v 10)))]))] [(.arr 3 2 [(.int .i64)] none), (.arr 6 5 [(.int .i64)] none), (.arr 9 8 [.bool, (.int .i64), (.int .i64), (.int .i64), (.int .i64), (.int .i64), (.int .i64), (.int .i64)] none)] 21 [.i] (.a (.c (.int .i64 (.v 21)))) []
  (.ite (.cmp .eql (.v 21) (.v 11))
    (done (.a (.c (.int .i64 (.lit 1)))) [])
    (.need [(.cmp .leq (.lit 0) (.v 11)), (.cmp .lss (.v 11) (.alen 8)), (.cmp .lss (.v 11) (.alen 8))]
    (.ite (.sel 8 0 (.v 11))
      (.call 22 [(.a (.agg [(.int .i64 (.v 0)), (.int .i64 (.v 1)), (.slice 3 1 0 (.lit 0) (.alen 2) (.e (.v 4))), (.slice 6 1 0 (.lit 0) (.alen 5) (.e (.v 7))), (.slice 9 8 0 (.lit 0) (.alen 8) (.e (.v 10)))])), (.a (.c (.int .i64 (.v 11))))] [(.arr 3 2 [(.int .i64)] none), (.arr 6 5 [(.int .i64)] none), (.arr 9 8 [.bool, (.int .i64), (.int .i64), (.int .i64), (.int .i64), (.int .i64), (.int .i64), (.int .i64)] none)] 22 [.i, .i, .i, .i, .i, .i] (.a (.agg [(.int .i64 (.v 22)), (.int .i64 (.v 23)), (.int .i64 (.v 24)), (.int .i64 (.v 25)), (.int .i64 (.v 26)), (.int .i64 (.v 27))])) []
      (.call 49 [(.a (.agg [(.int .i64 (.v 22)), (.int .i64 (.v 23)), (.int .i64 (.v 24)), (.int .i64 (.v 25)), (.int .i64 (.v 26)), (.int .i64 (.v 27))])), (.a (.agg [(.int .i64 (.sel 8 1 (.v 11))), (.int .i64 (.sel 8 2 (.v 11))), (.int .i64 (.sel 8 3 (.v 11))), (.int .i64 (.sel 8 4 (.v 11))), (.int .i64 (.sel 8 5 (.v 11))), (.int .i64 (.sel 8 6 (.v 11)))]))] [] 28 [.b] (.a (.c (.bool (.v 28)))) []
      (.ite (.v 28)
        (done (.a (.c (.int .i64 (.lit 2)))) [])
        (done (.a (.c (.int .i64 (.lit 3)))) []))))
      (done (.a (.c (.int .i64 (.lit 2)))) []))))) := by kernel_rfl

theorem t_refSend : callTree C11 300 24 [brg 0, i64 11] (brH 0) 20 = some
  (.call 23 [(.a (.agg [(.int .i64 (.v 0)), (.int .i64 (.v 1)), (.slice 3 1 0 (.lit 0) (.alen 2) (.e (.v 4))), (.slice 6 1 0 (.lit 0) (.alen 5) (.e (.v 7))), (.slice 9 8 0 (.lit 0) (.alen 8) (.e (.v 10)))])), (.a (.c (.int .i64 (.v 11))))] [(.arr 3 2 [(.int .i64)] none), (.arr 6 5 [(.int .i64)] none), (.arr 9 8 [.bool, (.int .i64), (.int .i64), (.int .i64), (.int .i64), (.int .i64), (.int .i64), (.int .i64)] none)] 22 [.i] (.a (.c (.int .i64 (.v 22)))) []
  (.ite (.cmp .neq (.v 22) (.lit 2))
    (done (.a (.agg [(.bool (.lit false)), (.int .i64 (.lit 0)), (.int .i64 (.lit 0)), (.int .i64 (.lit 0)), (.int .i64 (.lit 0)), (.int .i64 (.lit 0)), (.int .i64 (.lit 0)), (.int .i64 (.lit 0))])) [])
    (.call 22 [(.a (.agg [(.int .i64 (.v 0)), (.int .i64 (.v 1)), (.slice 3 1 0 (.lit 0) (.alen 2) (.e (.v 4))), (.slice 6 1 0 (.lit 0) (.alen 5) (.e (.v 7))), (.slice 9 8 0 (.lit 0) (.alen 8) (.e (.v 10)))])), (.a (.c (.int .i64 (.v 11))))] [(.arr 3 2 [(.int .i64)] none), (.arr 6 5 [(.int .i64)] none), (.arr 9 8 [.bool, (.int .i64), (.int .i64), (.int .i64), (.int .i64), (.int .i64), (.int .i64), (.int .i64)] none)] 23 [.i, .i, .i, .i, .i, .i] (.a (.agg [(.int .i64 (.v 23)), (.int .i64 (.v 24)), (.int .i64 (.v 25)), (.int .i64 (.v 26)), (.int .i64 (.v 27)), (.int .i64 (.v 28))])) []
    (.call 21 [(.a (.agg [(.int .i64 (.v 0)), (.int .i64 (.v 1)), (.slice 3 1 0 (.lit 0) (.alen 2) (.e (.v 4))), (.slice 6 1 0 (.lit 0) (.alen 5) (.e (.v 7))), (.slice 9 8 0 (.lit 0) (.alen 8) (.e (.v 10)))]))] [(.arr 3 2 [(.int .i64)] none), (.arr 6 5 [(.int .i64)] none), (.arr 9 8 [.bool, (.int .i64), (.int .i64), (.int .i64), (.int .i64), (.int .i64), (.int .i64), (.int .i64)] none)] 30 [.i] (.a (.c (.int .i64 (.v 30)))) []
    (.ite (.cmp .geq (.v 30) (.lit 0))
      (.need [(.cmp .leq (.lit 0) (.v 30)), (.cmp .lss (.v 30) (.alen 8)), (.cmp .lss (.v 30) (.alen 8))]
      (done (.a (.agg [(.bool (.lit true)), (.int .i64 (.v 23)), (.int .i64 (.v 24)), (.int .i64 (.v 25)), (.int .i64 (.v 26)), (.int .i64 (.v 27)), (.int .i64 (.v 28)), (.int .i64 (.sel 8 7 (.v 30)))])) []))
      (done (.a (.agg [(.bool (.lit true)), (.int .i64 (.v 23)), (.int .i64 (.v 24)), (.int .i64 (.v 25)), (.int .i64 (.v 26)), (.int .i64 (.v 27)), (.int .i64 (.v 28)), (.int .i64 (.lit 0))])) [])))))) := by kernel_rfl

end Go.Proofs.Y19
