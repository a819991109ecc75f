/- A part of the proof: see the text that states the theorem. -/
import Derived.Test.YtaomijkjdkimcaaA4
set_option linter.unusedSimpArgs false
set_option linter.unusedVariables false
set_option linter.unusedSectionVars false
namespace Go.Proofs.Y18
open Go Go.SX Go.RowKit
def p6 : List CK := List.replicate 6 (.int .i64)
noncomputable def C7 : Cfg := { P := Try.prog, ct := ctOf [(11, rB), (12, rB), (14, rI), (16, rB), (17, rI), (27, .tup [.c (.int .i64), .c (.int .i64)]), (28, rI)], ann := annOf [((27, 5, 20), [.slot 4, .slot 13]), ((28, 3, 20), [.slot 3, .slot 4]), ((9, 8, 25), [.slot 33])] }
@[simp] theorem C7_P : C7.P = Try.prog := rfl
theorem t_Best : callTree C7 300 27 [slArg 0 6] [.arr 1 0 p6 none] 20 = some
  (.ite (.cmp .eql (.alen 0) (.lit 0))
    (done (.tup [(.c (.int .i64 (.lit 0))), (.c (.int .i64 (.lit 4)))]) [])
    (.loop [.i, .i] 20 [(.i (.lit 0)), (.i (.lit 0))]
      (.ite (.cmp .lss (.v 21) (.alen 0))
        (.need [(.cmp .leq (.lit 0) (.v 21))]
        (.call 14 [(.a (.agg [(.int .i64 (.sel 0 0 (.v 21))), (.int .i64 (.sel 0 1 (.v 21))), (.int .i64 (.sel 0 2 (.v 21))), (.int .i64 (.sel 0 3 (.v 21))), (.int .i64 (.sel 0 4 (.v 21))), (.int .i64 (.sel 0 5 (.v 21)))]))] [] 23 [.i] (.a (.c (.int .i64 (.v 23)))) []
        (.ite (.cmp .neq (.v 23) (.lit 0))
          (done (.tup [(.c (.int .i64 (.lit 0))), (.c (.int .i64 (.v 23)))]) [])
          (.need [(.cmp .leq (.lit 0) (.v 20)), (.cmp .lss (.v 20) (.alen 0)), (.cmp .lss (.v 20) (.alen 0))]
          (.call 17 [(.a (.agg [(.int .i64 (.sel 0 0 (.v 21))), (.int .i64 (.sel 0 1 (.v 21))), (.int .i64 (.sel 0 2 (.v 21))), (.int .i64 (.sel 0 3 (.v 21))), (.int .i64 (.sel 0 4 (.v 21))), (.int .i64 (.sel 0 5 (.v 21)))])), (.a (.agg [(.int .i64 (.sel 0 0 (.v 20))), (.int .i64 (.sel 0 1 (.v 20))), (.int .i64 (.sel 0 2 (.v 20))), (.int .i64 (.sel 0 3 (.v 20))), (.int .i64 (.sel 0 4 (.v 20))), (.int .i64 (.sel 0 5 (.v 20)))]))] [] 24 [.i] (.a (.c (.int .i64 (.v 24)))) []
          (.ite (.cmp .lss (.v 24) (.lit 0))
            (.cont 0 [(.i (.v 21)), (.i (.bin .add .i64 (.v 21) (.lit 1)))])
            (.cont 0 [(.i (.v 20)), (.i (.bin .add .i64 (.v 21) (.lit 1)))])))))))
        (done (.tup [(.c (.int .i64 (.v 20))), (.c (.int .i64 (.lit 0)))]) [])))) := by kernel_rfl
theorem t_refBest : callTree C7 300 28 [slArg 0 6] [.arr 1 0 p6 none] 20 = some
  (.loop [.i, .i] 20 [(.i (.lit (-1))), (.i (.lit 0))]
    (.ite (.cmp .lss (.v 21) (.alen 0))
      (.need [(.or (.cmp .lss (.v 20) (.lit 0)) (.cmp .leq (.lit 0) (.v 21)))]
      (.need [(.or (.cmp .lss (.v 20) (.lit 0)) (.cmp .leq (.lit 0) (.v 20))), (.or (.cmp .lss (.v 20) (.lit 0)) (.cmp .lss (.v 20) (.alen 0))), (.or (.cmp .lss (.v 20) (.lit 0)) (.cmp .lss (.v 20) (.alen 0)))]
      (.ite (.not (.cmp .lss (.v 20) (.lit 0)))
        (.call 16 [(.a (.agg [(.int .i64 (.sel 0 0 (.v 21))), (.int .i64 (.sel 0 1 (.v 21))), (.int .i64 (.sel 0 2 (.v 21))), (.int .i64 (.sel 0 3 (.v 21))), (.int .i64 (.sel 0 4 (.v 21))), (.int .i64 (.sel 0 5 (.v 21)))])), (.a (.agg [(.int .i64 (.sel 0 0 (.v 20))), (.int .i64 (.sel 0 1 (.v 20))), (.int .i64 (.sel 0 2 (.v 20))), (.int .i64 (.sel 0 3 (.v 20))), (.int .i64 (.sel 0 4 (.v 20))), (.int .i64 (.sel 0 5 (.v 20)))]))] [] 22 [.b] (.a (.c (.bool (.v 22)))) []
        (.ite (.v 22)
          (.cont 0 [(.i (.v 21)), (.i (.bin .add .i64 (.v 21) (.lit 1)))])
          (.cont 0 [(.i (.v 20)), (.i (.bin .add .i64 (.v 21) (.lit 1)))])))
        (.cont 0 [(.i (.v 21)), (.i (.bin .add .i64 (.v 21) (.lit 1)))]))))
      (done (.a (.c (.int .i64 (.v 20)))) []))) := by kernel_rfl
theorem t_VectorBests : callTree C7 300 9 [slArg 0 6] [.arr 1 0 p6 none] 20 = some
  (.call 11 [] [] 20 [.b] (.a (.c (.bool (.v 20)))) []
  (.ite (.not (.v 20))
    (done (.a (.c (.bool (.lit false)))) [])
    (.need [(.cmp .leq (.lit 0) (.sw .lss (.lit 30) (.alen 0) (.lit 30) (.alen 0))), (.cmp .leq (.sw .lss (.lit 30) (.alen 0) (.lit 30) (.alen 0)) (.v 2))]
    (.need [(.cmp .leq (.sw .lss (.lit 30) (.alen 0) (.lit 30) (.alen 0)) (.alen 0)), (.cmp .leq (.sw .lss (.lit 30) (.alen 0) (.lit 30) (.alen 0)) (.lit 2932031007402))]
    (.arr 22 (.cat (.rows []) (.sub 0 (.lit 0) (.sw .lss (.lit 30) (.alen 0) (.lit 30) (.alen 0)))) (.lit false)
    (.call 27 [(.a (.c (.slice 22 6 0 (.lit 0) (.alen 22) (.k 22))))] [(.arr 22 22 [(.int .i64), (.int .i64), (.int .i64), (.int .i64), (.int .i64), (.int .i64)] (some 25))] 23 [.i, .i] (.tup [(.c (.int .i64 (.v 23))), (.c (.int .i64 (.v 24)))]) []
    (.ite (.cmp .eql (.alen 22) (.lit 0))
      (done (.a (.c (.bool (.and (.cmp .eql (.v 23) (.lit 0)) (.cmp .eql (.v 24) (.lit 4)))))) [])
      (.loop [.i] 25 [(.i (.lit 0))]
        (.ite (.cmp .lss (.v 25) (.alen 22))
          (.need [(.cmp .leq (.lit 0) (.v 25))]
          (.call 12 [(.a (.agg [(.int .i64 (.sel 22 0 (.v 25))), (.int .i64 (.sel 22 1 (.v 25))), (.int .i64 (.sel 22 2 (.v 25))), (.int .i64 (.sel 22 3 (.v 25))), (.int .i64 (.sel 22 4 (.v 25))), (.int .i64 (.sel 22 5 (.v 25)))]))] [] 27 [.b] (.a (.c (.bool (.v 27)))) []
          (.ite (.not (.v 27))
            (done (.a (.c (.bool (.and (.cmp .eql (.v 23) (.lit 0)) (.cmp .eql (.v 24) (.lit 280)))))) [])
            (.cont 0 [(.i (.bin .add .i64 (.v 25) (.lit 1)))]))))
          (.ite (.cmp .eql (.v 24) (.lit 0))
            (.call 28 [(.a (.c (.slice 22 6 0 (.lit 0) (.alen 22) (.k 22))))] [(.arr 22 22 [(.int .i64), (.int .i64), (.int .i64), (.int .i64), (.int .i64), (.int .i64)] (some 25))] 26 [.i] (.a (.c (.int .i64 (.v 26)))) []
            (done (.a (.c (.bool (.cmp .eql (.v 23) (.v 26))))) []))
            (done (.a (.c (.bool (.lit false)))) []))))))))))) := by kernel_rfl

end Go.Proofs.Y18
