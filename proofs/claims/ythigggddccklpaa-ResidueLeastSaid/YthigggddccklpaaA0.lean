/- A part of the proof: see the text that states the theorem. -/
import Derived.Test.YthigggddccklpaaSyU
import Derived.Test.YthigggddccklpaaProg
set_option linter.unusedSimpArgs false
set_option linter.unusedVariables false
set_option linter.unusedSectionVars false
noncomputable section
namespace Go.Proofs.Y23
open Go Go.SX Go.RowKit
def sp (n : Nat) : SV := .agg [.int .i64 (.v n), .int .i64 (.v (n+1)), .int .i64 (.v (n+2))]
def p3 : List CK := [.int .i64, .int .i64, .int .i64]
def p1 : List CK := [.int .i64]
noncomputable def C0 : Cfg := { P := Try.prog, ct := ctOf [(28, rI), (30, rI), (42, rI), (37, rI), (35, rB), (33, rI), (38, rI), (41, rI), (39, rI), (40, rB)], ann := annF [((42, 1), [.slot 0, .slot 1]), ((37, 2), [.slot 5]), ((33, 2), [.slot 8]), ((41, 3), [.slot 5, .slot 10]), ((23, 6), [.slot 16, .row 5 3]), ((35, 3), [.slot 6]), ((19, 6), [.slot 9, .slot 10, .slot 11, .cell 21 1]), ((39, 4), [.slot 3]), ((40, 2), [.slot 5]), ((21, 8), [.slot 8]), ((21, 10), [.slot 29, .slot 8]), ((22, 7), [.slot 7]), ((24, 5), [.slot 5]), ((24, 9), [.slot 6, .slot 7])] }
@[simp] theorem C0_P : C0.P = Try.prog := rfl
theorem t_Check : callTree C0 300 13 [sp 0] [] 20 = some
  (.ite (.or (.or (.or (.or (.or (.cmp .lss (.v 0) (.lit 1)) (.cmp .gtr (.v 0) (.lit 960))) (.cmp .lss (.v 1) (.lit 0))) (.cmp .geq (.v 1) (.v 0))) (.cmp .lss (.v 2) (.lit 1))) (.cmp .gtr (.v 2) (.v 0)))
    (done (.a (.c (.int .i64 (.lit 330)))) [])
    (done (.a (.c (.int .i64 (.lit 0)))) [])) := by kernel_rfl
theorem t_refCheck : callTree C0 300 14 [sp 0] [] 20 = some
  (.ite (.and (.and (.and (.and (.and (.cmp .geq (.v 0) (.lit 1)) (.cmp .leq (.v 0) (.lit 960))) (.cmp .geq (.v 1) (.lit 0))) (.cmp .lss (.v 1) (.v 0))) (.cmp .geq (.v 2) (.lit 1))) (.cmp .leq (.v 2) (.v 0)))
    (done (.a (.c (.int .i64 (.lit 0)))) [])
    (done (.a (.c (.int .i64 (.lit 330)))) [])) := by kernel_rfl
theorem t_refMod : callTree C0 300 28 [i64 0, i64 1] [] 20 = some
  (.need [(.cmp .neq (.v 1) (.lit 0))]
  (.ite (.cmp .lss (.bin .rem .i64 (.v 0) (.v 1)) (.lit 0))
    (done (.a (.c (.int .i64 (.bin .add .i64 (.bin .rem .i64 (.v 0) (.v 1)) (.v 1))))) [])
    (done (.a (.c (.int .i64 (.bin .rem .i64 (.v 0) (.v 1))))) []))) := by kernel_rfl
theorem t_mod : callTree C0 300 30 [i64 0, i64 1] [] 20 = some
  (.need [(.cmp .neq (.v 1) (.lit 0))]
  (done (.a (.c (.int .i64 (.bin .rem .i64 (.bin .add .i64 (.bin .rem .i64 (.v 0) (.v 1)) (.v 1)) (.v 1))))) [])) := by kernel_rfl
theorem t_refRight : callTree C0 300 31 [sp 0] [] 20 = some
  (done (.a (.c (.bool (.and (.and (.and (.and (.and (.cmp .geq (.v 0) (.lit 1)) (.cmp .leq (.v 0) (.lit 960))) (.cmp .geq (.v 1) (.lit 0))) (.cmp .lss (.v 1) (.v 0))) (.cmp .geq (.v 2) (.lit 1))) (.cmp .leq (.v 2) (.v 0)))))) []) := by kernel_rfl
theorem t_refCovers : callTree C0 300 12 [sp 0, i64 3] [] 20 = some
  (.ite (.not (.and (.and (.and (.and (.and (.cmp .geq (.v 0) (.lit 1)) (.cmp .leq (.v 0) (.lit 960))) (.cmp .geq (.v 1) (.lit 0))) (.cmp .lss (.v 1) (.v 0))) (.cmp .geq (.v 2) (.lit 1))) (.cmp .leq (.v 2) (.v 0))))
    (done (.tup [(.c (.bool (.lit false))), (.c (.int .i64 (.lit 330)))]) [])
    (.ite (.or (.cmp .lss (.v 3) (.lit (-1099511627776))) (.cmp .gtr (.v 3) (.lit 1099511627776)))
      (done (.tup [(.c (.bool (.lit false))), (.c (.int .i64 (.lit 2)))]) [])
      (.call 28 [(.a (.c (.int .i64 (.bin .sub .i64 (.v 3) (.v 1))))), (.a (.c (.int .i64 (.v 0))))] [] 22 [.i] (.a (.c (.int .i64 (.v 22)))) []
      (done (.tup [(.c (.bool (.cmp .lss (.v 22) (.v 2)))), (.c (.int .i64 (.lit 0)))]) [])))) := by kernel_rfl
theorem t_Covers : callTree C0 300 11 [sp 0, i64 3] [] 20 = some
  (.ite (.or (.or (.or (.or (.or (.cmp .lss (.v 0) (.lit 1)) (.cmp .gtr (.v 0) (.lit 960))) (.cmp .lss (.v 1) (.lit 0))) (.cmp .geq (.v 1) (.v 0))) (.cmp .lss (.v 2) (.lit 1))) (.cmp .gtr (.v 2) (.v 0)))
    (done (.tup [(.c (.bool (.lit false))), (.c (.int .i64 (.lit 330)))]) [])
    (.ite (.or (.cmp .lss (.v 3) (.lit (-1099511627776))) (.cmp .gtr (.v 3) (.lit 1099511627776)))
      (done (.tup [(.c (.bool (.lit false))), (.c (.int .i64 (.lit 2)))]) [])
      (.call 30 [(.a (.c (.int .i64 (.bin .sub .i64 (.v 3) (.v 1))))), (.a (.c (.int .i64 (.v 0))))] [] 22 [.i] (.a (.c (.int .i64 (.v 22)))) []
      (done (.tup [(.c (.bool (.cmp .lss (.v 22) (.v 2)))), (.c (.int .i64 (.lit 0)))]) [])))) := by kernel_rfl
theorem t_refApart : callTree C0 300 17 [sp 0, sp 3] [] 20 = some
  (.ite (.and (.and (.and (.and (.and (.cmp .geq (.v 0) (.lit 1)) (.cmp .leq (.v 0) (.lit 960))) (.cmp .geq (.v 1) (.lit 0))) (.cmp .lss (.v 1) (.v 0))) (.cmp .geq (.v 2) (.lit 1))) (.cmp .leq (.v 2) (.v 0)))
    (.ite (.not (.and (.and (.and (.and (.and (.cmp .geq (.v 3) (.lit 1)) (.cmp .leq (.v 3) (.lit 960))) (.cmp .geq (.v 4) (.lit 0))) (.cmp .lss (.v 4) (.v 3))) (.cmp .geq (.v 5) (.lit 1))) (.cmp .leq (.v 5) (.v 3))))
      (done (.tup [(.c (.bool (.lit false))), (.c (.int .i64 (.lit 330)))]) [])
      (.call 35 [(.a (.agg [(.int .i64 (.v 0)), (.int .i64 (.v 1)), (.int .i64 (.v 2))])), (.a (.agg [(.int .i64 (.v 3)), (.int .i64 (.v 4)), (.int .i64 (.v 5))]))] [] 24 [.b] (.a (.c (.bool (.v 24)))) []
      (done (.tup [(.c (.bool (.v 24))), (.c (.int .i64 (.lit 0)))]) [])))
    (done (.tup [(.c (.bool (.lit false))), (.c (.int .i64 (.lit 330)))]) [])) := by kernel_rfl
theorem t_gcd : callTree C0 300 42 [i64 0, i64 1] [] 20 = some
  (.loop [.i, .i] 20 [(.i (.v 0)), (.i (.v 1))]
    (.ite (.cmp .gtr (.v 21) (.lit 0))
      (.need [(.cmp .neq (.v 21) (.lit 0))]
      (.cont 0 [(.i (.v 21)), (.i (.bin .rem .i64 (.v 20) (.v 21)))]))
      (done (.a (.c (.int .i64 (.v 20)))) []))) := by kernel_rfl
theorem t_refGcd : callTree C0 300 37 [i64 0, i64 1] [] 20 = some
  (.loop [.i] 20 [(.i (.v 0))]
    (.ite (.cmp .gtr (.v 20) (.lit 1))
      (.need [(.cmp .neq (.v 20) (.lit 0))]
      (.ite (.and (.cmp .eql (.bin .rem .i64 (.v 0) (.v 20)) (.lit 0)) (.cmp .eql (.bin .rem .i64 (.v 1) (.v 20)) (.lit 0)))
        (done (.a (.c (.int .i64 (.v 20)))) [])
        (.cont 0 [(.i (.bin .sub .i64 (.v 20) (.lit 1)))])))
      (done (.a (.c (.int .i64 (.lit 1)))) []))) := by kernel_rfl
theorem t_Of : callTree C0 300 10 [u8 0, u8 1, u8 2] [] 20 = some
  (.need [(.cmp .neq (.bin .add .i64 (.lit 1) (.conv .i64 (.bin .rem .u8 (.v 0) (.lit 48)))) (.lit 0))]
  (done (.a (.agg [(.int .i64 (.bin .add .i64 (.lit 1) (.conv .i64 (.bin .rem .u8 (.v 0) (.lit 48))))), (.int .i64 (.bin .rem .i64 (.conv .i64 (.v 1)) (.bin .add .i64 (.lit 1) (.conv .i64 (.bin .rem .u8 (.v 0) (.lit 48)))))), (.int .i64 (.bin .add .i64 (.lit 1) (.bin .rem .i64 (.conv .i64 (.v 2)) (.bin .add .i64 (.lit 1) (.conv .i64 (.bin .rem .u8 (.v 0) (.lit 48)))))))])) [])) := by kernel_rfl
theorem t_Shifted : callTree C0 300 27 [sp 0, i64 3] [] 20 = some
  (.need [(.cmp .neq (.v 0) (.lit 0))]
  (done (.a (.agg [(.int .i64 (.v 0)), (.int .i64 (.bin .rem .i64 (.bin .add .i64 (.v 1) (.v 3)) (.v 0))), (.int .i64 (.v 2))])) [])) := by kernel_rfl
theorem t_valid : callTree C0 300 33 [slArg 0 3] [.arr 1 0 p3 none] 20 = some
  (.loop [.i] 20 [(.i (.lit 0))]
    (.ite (.cmp .lss (.v 20) (.alen 0))
      (.need [(.cmp .leq (.lit 0) (.v 20))]
      (.ite (.or (.or (.or (.or (.or (.cmp .lss (.sel 0 0 (.v 20)) (.lit 1)) (.cmp .gtr (.sel 0 0 (.v 20)) (.lit 960))) (.cmp .lss (.sel 0 1 (.v 20)) (.lit 0))) (.cmp .geq (.sel 0 1 (.v 20)) (.sel 0 0 (.v 20)))) (.cmp .lss (.sel 0 2 (.v 20)) (.lit 1))) (.cmp .gtr (.sel 0 2 (.v 20)) (.sel 0 0 (.v 20))))
        (done (.a (.c (.int .i64 (.lit 330)))) [])
        (.cont 0 [(.i (.bin .add .i64 (.v 20) (.lit 1)))])))
      (done (.a (.c (.int .i64 (.lit 0)))) []))) := by kernel_rfl
theorem t_list : callTree C0 300 38 [slArg 0 3] [.arr 1 0 p3 none] 20 = some
  (.ite (.cmp .gtr (.alen 0) (.lit 32))
    (done (.a (.c (.int .i64 (.lit 3)))) [])
    (.call 33 [(.a (.c (.slice 1 3 0 (.lit 0) (.alen 0) (.e (.v 2)))))] [(.arr 1 0 [(.int .i64), (.int .i64), (.int .i64)] none)] 20 [.i] (.a (.c (.int .i64 (.v 20)))) []
    (done (.a (.c (.int .i64 (.v 20)))) []))) := by kernel_rfl
theorem t_lcm : callTree C0 300 41 [i64 3, slArg 0 1] [.arr 1 0 p1 none] 20 = some
  (.loop [.i, .i] 20 [(.i (.lit 1)), (.i (.lit 0))]
    (.ite (.cmp .lss (.v 21) (.alen 0))
      (.need [(.cmp .leq (.lit 0) (.v 21))]
      (.call 42 [(.a (.c (.int .i64 (.v 20)))), (.a (.c (.int .i64 (.sel 0 0 (.v 21)))))] [] 22 [.i] (.a (.c (.int .i64 (.v 22)))) []
      (.need [(.cmp .neq (.v 22) (.lit 0))]
      (.ite (.cmp .gtr (.bin .mul .i64 (.bin .quo .i64 (.v 20) (.v 22)) (.sel 0 0 (.v 21))) (.v 3))
        (done (.a (.c (.int .i64 (.lit 0)))) [])
        (.cont 0 [(.i (.bin .mul .i64 (.bin .quo .i64 (.v 20) (.v 22)) (.sel 0 0 (.v 21)))), (.i (.bin .add .i64 (.v 21) (.lit 1)))])))))
      (done (.a (.c (.int .i64 (.v 20)))) []))) := by kernel_rfl
theorem t_Cycle : callTree C0 300 23 [slArg 0 3] [.arr 1 0 p3 none] 20 = some
  (.call 38 [(.a (.c (.slice 1 3 0 (.lit 0) (.alen 0) (.e (.v 2)))))] [(.arr 1 0 [(.int .i64), (.int .i64), (.int .i64)] none)] 20 [.i] (.a (.c (.int .i64 (.v 20)))) []
  (.ite (.cmp .neq (.v 20) (.lit 0))
    (done (.tup [(.c (.int .i64 (.lit 0))), (.c (.int .i64 (.v 20)))]) [])
    (.arr 21 .nil (.lit true)
    (.loop [.i, .l, .n] 22 [(.i (.lit 0)), (.l (.arr 21)), (.n (.nl 21))]
      (.ite (.cmp .lss (.v 22) (.alen 0))
        (.need [(.cmp .leq (.lit 0) (.v 22))]
        (.need [(.cmp .leq (.plus (.alen 23) (.lit 1)) (.lit 17592186044416))]
        (.arr 27 (.cat (.arr 23) (.rows [[(.i (.sel 0 0 (.v 22)))]])) (.lit false)
        (.cont 0 [(.i (.bin .add .i64 (.v 22) (.lit 1))), (.l (.arr 27)), (.n (.nl 27))]))))
        (.call 41 [(.a (.c (.int .i64 (.lit 960)))), (.a (.c (.slice 24 1 0 (.lit 0) (.alen 23) (.k 24))))] [(.arr 24 23 [(.int .i64)] (some 3))] 25 [.i] (.a (.c (.int .i64 (.v 25)))) []
        (.ite (.cmp .gtr (.v 25) (.lit 0))
          (done (.tup [(.c (.int .i64 (.v 25))), (.c (.int .i64 (.lit 0)))]) [])
          (done (.tup [(.c (.int .i64 (.lit 0))), (.c (.int .i64 (.lit 6)))]) [])))))))) := by kernel_rfl
theorem t_Separate : callTree C0 300 35 [sp 0, sp 3] [] 20 = some
  (.call 37 [(.a (.c (.int .i64 (.v 0)))), (.a (.c (.int .i64 (.v 3))))] [] 22 [.i] (.a (.c (.int .i64 (.v 22)))) []
  (.loop [.i] 23 [(.i (.bin .sub .i64 (.lit 1) (.v 5)))]
    (.ite (.cmp .lss (.v 23) (.v 2))
      (.call 28 [(.a (.c (.int .i64 (.bin .sub .i64 (.bin .sub .i64 (.v 4) (.v 1)) (.v 23))))), (.a (.c (.int .i64 (.v 22))))] [] 24 [.i] (.a (.c (.int .i64 (.v 24)))) []
      (.ite (.cmp .eql (.v 24) (.lit 0))
        (done (.a (.c (.bool (.lit false)))) [])
        (.cont 0 [(.i (.bin .add .i64 (.v 23) (.lit 1)))])))
      (done (.a (.c (.bool (.lit true)))) [])))) := by kernel_rfl
theorem t_refRoom : callTree C0 300 19 [sp 0, sp 3] [] 20 = some
  (.ite (.and (.and (.and (.and (.and (.cmp .geq (.v 0) (.lit 1)) (.cmp .leq (.v 0) (.lit 960))) (.cmp .geq (.v 1) (.lit 0))) (.cmp .lss (.v 1) (.v 0))) (.cmp .geq (.v 2) (.lit 1))) (.cmp .leq (.v 2) (.v 0)))
    (.ite (.not (.and (.and (.and (.and (.and (.cmp .geq (.v 3) (.lit 1)) (.cmp .leq (.v 3) (.lit 960))) (.cmp .geq (.v 4) (.lit 0))) (.cmp .lss (.v 4) (.v 3))) (.cmp .geq (.v 5) (.lit 1))) (.cmp .leq (.v 5) (.v 3))))
      (done (.tup [(.c (.int .i64 (.lit 0))), (.c (.int .i64 (.lit 0))), (.c (.int .i64 (.lit 0))), (.c (.int .i64 (.lit 330)))]) [])
      (.call 37 [(.a (.c (.int .i64 (.v 0)))), (.a (.c (.int .i64 (.v 3))))] [] 24 [.i] (.a (.c (.int .i64 (.v 24)))) []
      (.loop [.i, .i, .i, .i] 25 [(.i (.v 24)), (.i (.lit (-1))), (.i (.lit 0)), (.i (.v 4))]
        (.ite (.cmp .lss (.v 27) (.v 24))
          (.call 28 [(.a (.c (.int .i64 (.bin .add .i64 (.v 1) (.v 27))))), (.a (.c (.int .i64 (.v 3))))] [] 29 [.i] (.a (.c (.int .i64 (.v 29)))) []
          (.call 35 [(.a (.agg [(.int .i64 (.v 0)), (.int .i64 (.v 1)), (.int .i64 (.v 2))])), (.a (.agg [(.int .i64 (.v 3)), (.int .i64 (.v 29)), (.int .i64 (.v 5))]))] [] 30 [.b] (.a (.c (.bool (.v 30)))) []
          (.ite (.v 30)
            (.cont 0 [(.i (.sw .lss (.v 27) (.v 25) (.v 27) (.v 25))), (.i (.v 27)), (.i (.bin .add .i64 (.v 27) (.lit 1))), (.i (.v 29))])
            (.cont 0 [(.i (.v 25)), (.i (.v 26)), (.i (.bin .add .i64 (.v 27) (.lit 1))), (.i (.v 29))]))))
          (.ite (.cmp .lss (.v 26) (.lit 0))
            (done (.tup [(.c (.int .i64 (.lit 0))), (.c (.int .i64 (.lit 0))), (.c (.int .i64 (.lit 0))), (.c (.int .i64 (.lit 4)))]) [])
            (done (.tup [(.c (.int .i64 (.v 25))), (.c (.int .i64 (.v 26))), (.c (.int .i64 (.v 24))), (.c (.int .i64 (.lit 0)))]) []))))))
    (done (.tup [(.c (.int .i64 (.lit 0))), (.c (.int .i64 (.lit 0))), (.c (.int .i64 (.lit 0))), (.c (.int .i64 (.lit 330)))]) [])) := by kernel_rfl
theorem t_refList : callTree C0 300 39 [slArg 0 3] [.arr 1 0 p3 none] 20 = some
  (.ite (.cmp .gtr (.alen 0) (.lit 32))
    (done (.a (.c (.int .i64 (.lit 3)))) [])
    (.loop [.i] 20 [(.i (.lit 0))]
      (.ite (.cmp .lss (.v 20) (.alen 0))
        (.need [(.cmp .leq (.lit 0) (.v 20))]
        (.ite (.not (.and (.and (.and (.and (.and (.cmp .geq (.sel 0 0 (.v 20)) (.lit 1)) (.cmp .leq (.sel 0 0 (.v 20)) (.lit 960))) (.cmp .geq (.sel 0 1 (.v 20)) (.lit 0))) (.cmp .lss (.sel 0 1 (.v 20)) (.sel 0 0 (.v 20)))) (.cmp .geq (.sel 0 2 (.v 20)) (.lit 1))) (.cmp .leq (.sel 0 2 (.v 20)) (.sel 0 0 (.v 20)))))
          (done (.a (.c (.int .i64 (.lit 330)))) [])
          (.cont 0 [(.i (.bin .add .i64 (.v 20) (.lit 1)))])))
        (done (.a (.c (.int .i64 (.lit 0)))) [])))) := by kernel_rfl
theorem t_Clear : callTree C0 300 40 [slArg 0 3, sp 3] [.arr 1 0 p3 none] 20 = some
  (.loop [.i] 21 [(.i (.lit 0))]
    (.ite (.cmp .lss (.v 21) (.alen 0))
      (.need [(.cmp .leq (.lit 0) (.v 21))]
      (.call 35 [(.a (.agg [(.int .i64 (.sel 0 0 (.v 21))), (.int .i64 (.sel 0 1 (.v 21))), (.int .i64 (.sel 0 2 (.v 21)))])), (.a (.agg [(.int .i64 (.v 3)), (.int .i64 (.v 4)), (.int .i64 (.v 5))]))] [] 22 [.b] (.a (.c (.bool (.v 22)))) []
      (.ite (.not (.v 22))
        (done (.a (.c (.bool (.lit false)))) [])
        (.cont 0 [(.i (.bin .add .i64 (.v 21) (.lit 1)))]))))
      (done (.a (.c (.bool (.lit true)))) []))) := by kernel_rfl
theorem t_Next : callTree C0 300 21 [slArg 0 3, sp 3] [.arr 1 0 p3 none] 20 = some
  (.call 38 [(.a (.c (.slice 1 3 0 (.lit 0) (.alen 0) (.e (.v 2)))))] [(.arr 1 0 [(.int .i64), (.int .i64), (.int .i64)] none)] 21 [.i] (.a (.c (.int .i64 (.v 21)))) []
  (.ite (.cmp .neq (.v 21) (.lit 0))
    (done (.tup [(.c (.int .i64 (.lit 0))), (.c (.int .i64 (.v 21)))]) [])
    (.ite (.or (.or (.or (.or (.or (.cmp .lss (.v 3) (.lit 1)) (.cmp .gtr (.v 3) (.lit 960))) (.cmp .lss (.v 4) (.lit 0))) (.cmp .geq (.v 4) (.v 3))) (.cmp .lss (.v 5) (.lit 1))) (.cmp .gtr (.v 5) (.v 3)))
      (done (.tup [(.c (.int .i64 (.lit 0))), (.c (.int .i64 (.lit 330)))]) [])
      (.loop [.i] 23 [(.i (.lit 0))]
        (.ite (.cmp .lss (.v 23) (.v 3))
          (.loop [.i, .i] 24 [(.i (.lit 0)), (.i (.v 23))]
            (.ite (.cmp .lss (.v 24) (.alen 0))
              (.need [(.cmp .leq (.lit 0) (.v 24))]
              (.call 42 [(.a (.c (.int .i64 (.sel 0 0 (.v 24))))), (.a (.c (.int .i64 (.v 3))))] [] 30 [.i] (.a (.c (.int .i64 (.v 30)))) []
              (.ite (.cmp .gtr (.sel 0 2 (.v 24)) (.bin .sub .i64 (.v 30) (.v 5)))
                (done (.tup [(.c (.int .i64 (.lit 0))), (.c (.int .i64 (.lit 4)))]) [])
                (.call 30 [(.a (.c (.int .i64 (.bin .sub .i64 (.bin .add .i64 (.v 4) (.v 25)) (.sel 0 1 (.v 24)))))), (.a (.c (.int .i64 (.v 30))))] [] 33 [.i] (.a (.c (.int .i64 (.v 33)))) []
                (.ite (.or (.cmp .lss (.v 33) (.sel 0 2 (.v 24))) (.cmp .gtr (.v 33) (.bin .sub .i64 (.v 30) (.v 5))))
                  (.call 30 [(.a (.c (.int .i64 (.bin .sub .i64 (.sel 0 2 (.v 24)) (.v 33))))), (.a (.c (.int .i64 (.v 30))))] [] 34 [.i] (.a (.c (.int .i64 (.v 34)))) []
                  (.cont 1 [(.i (.bin .add .i64 (.v 25) (.v 34)))]))
                  (.cont 0 [(.i (.bin .add .i64 (.v 24) (.lit 1))), (.i (.v 25))]))))))
              (done (.tup [(.c (.int .i64 (.v 25))), (.c (.int .i64 (.lit 0)))]) [])))
          (done (.tup [(.c (.int .i64 (.lit 0))), (.c (.int .i64 (.lit 4)))]) [])))))) := by kernel_rfl
theorem t_refNext : callTree C0 300 22 [slArg 0 3, sp 3] [.arr 1 0 p3 none] 20 = some
  (.call 39 [(.a (.c (.slice 1 3 0 (.lit 0) (.alen 0) (.e (.v 2)))))] [(.arr 1 0 [(.int .i64), (.int .i64), (.int .i64)] none)] 21 [.i] (.a (.c (.int .i64 (.v 21)))) []
  (.ite (.cmp .eql (.v 21) (.lit 0))
    (.ite (.and (.and (.and (.and (.and (.cmp .geq (.v 3) (.lit 1)) (.cmp .leq (.v 3) (.lit 960))) (.cmp .geq (.v 4) (.lit 0))) (.cmp .lss (.v 4) (.v 3))) (.cmp .geq (.v 5) (.lit 1))) (.cmp .leq (.v 5) (.v 3)))
      (.loop [.i] 24 [(.i (.lit 0))]
        (.ite (.cmp .lss (.v 24) (.v 3))
          (.need [(.cmp .neq (.v 3) (.lit 0))]
          (.call 40 [(.a (.c (.slice 1 3 0 (.lit 0) (.alen 0) (.e (.v 2))))), (.a (.agg [(.int .i64 (.v 3)), (.int .i64 (.bin .rem .i64 (.bin .add .i64 (.v 4) (.v 24)) (.v 3))), (.int .i64 (.v 5))]))] [(.arr 1 0 [(.int .i64), (.int .i64), (.int .i64)] none)] 27 [.b] (.a (.c (.bool (.v 27)))) []
          (.ite (.v 27)
            (done (.tup [(.c (.int .i64 (.v 24))), (.c (.int .i64 (.lit 0)))]) [])
            (.cont 0 [(.i (.bin .add .i64 (.v 24) (.lit 1)))]))))
          (done (.tup [(.c (.int .i64 (.lit 0))), (.c (.int .i64 (.lit 4)))]) [])))
      (done (.tup [(.c (.int .i64 (.lit 0))), (.c (.int .i64 (.lit 330)))]) []))
    (done (.tup [(.c (.int .i64 (.lit 0))), (.c (.int .i64 (.v 21)))]) []))) := by kernel_rfl
theorem t_refCycle : callTree C0 300 24 [slArg 0 3] [.arr 1 0 p3 none] 20 = some
  (.call 39 [(.a (.c (.slice 1 3 0 (.lit 0) (.alen 0) (.e (.v 2)))))] [(.arr 1 0 [(.int .i64), (.int .i64), (.int .i64)] none)] 20 [.i] (.a (.c (.int .i64 (.v 20)))) []
  (.ite (.cmp .neq (.v 20) (.lit 0))
    (done (.tup [(.c (.int .i64 (.lit 0))), (.c (.int .i64 (.v 20)))]) [])
    (.loop [.i] 21 [(.i (.lit 1))]
      (.ite (.cmp .leq (.v 21) (.lit 960))
        (.loop [.b, .i] 22 [(.b (.lit true)), (.i (.lit 0))]
          (.ite (.cmp .lss (.v 23) (.alen 0))
            (.need [(.or (.not (.v 22)) (.cmp .leq (.lit 0) (.v 23)))]
            (.need [(.or (.not (.v 22)) (.cmp .neq (.sel 0 0 (.v 23)) (.lit 0)))]
            (.cont 0 [(.b (.and (.v 22) (.cmp .eql (.bin .rem .i64 (.v 21) (.sel 0 0 (.v 23))) (.lit 0)))), (.i (.bin .add .i64 (.v 23) (.lit 1)))])))
            (.ite (.v 22)
              (done (.tup [(.c (.int .i64 (.v 21))), (.c (.int .i64 (.lit 0)))]) [])
              (.cont 1 [(.i (.bin .add .i64 (.v 21) (.lit 1)))]))))
        (done (.tup [(.c (.int .i64 (.lit 0))), (.c (.int .i64 (.lit 6)))]) []))))) := by kernel_rfl

noncomputable def C00 : Cfg := { P := Try.prog, ct := ctOf [(28, rI), (30, rI), (42, rI), (37, rI), (35, rB)], ann := annF [] }
@[simp] theorem C00_P : C00.P = Try.prog := rfl
theorem t_Apart : callTree C00 300 16 [sp 0, sp 3] [] 20 = some
  (.ite (.or (.or (.or (.or (.or (.cmp .lss (.v 0) (.lit 1)) (.cmp .gtr (.v 0) (.lit 960))) (.cmp .lss (.v 1) (.lit 0))) (.cmp .geq (.v 1) (.v 0))) (.cmp .lss (.v 2) (.lit 1))) (.cmp .gtr (.v 2) (.v 0)))
    (done (.tup [(.c (.bool (.lit false))), (.c (.int .i64 (.lit 330)))]) [])
    (.ite (.or (.or (.or (.or (.or (.cmp .lss (.v 3) (.lit 1)) (.cmp .gtr (.v 3) (.lit 960))) (.cmp .lss (.v 4) (.lit 0))) (.cmp .geq (.v 4) (.v 3))) (.cmp .lss (.v 5) (.lit 1))) (.cmp .gtr (.v 5) (.v 3)))
      (done (.tup [(.c (.bool (.lit false))), (.c (.int .i64 (.lit 330)))]) [])
      (.ite (.and (.cmp .eql (.v 0) (.v 3)) (.and (.cmp .eql (.v 1) (.v 4)) (.cmp .eql (.v 2) (.v 5))))
        (done (.tup [(.c (.bool (.lit false))), (.c (.int .i64 (.lit 0)))]) [])
        (.call 42 [(.a (.c (.int .i64 (.v 0)))), (.a (.c (.int .i64 (.v 3))))] [] 30 [.i] (.a (.c (.int .i64 (.v 30)))) []
        (.call 30 [(.a (.c (.int .i64 (.bin .sub .i64 (.v 4) (.v 1))))), (.a (.c (.int .i64 (.v 30))))] [] 32 [.i] (.a (.c (.int .i64 (.v 32)))) []
        (done (.tup [(.c (.bool (.and (.cmp .geq (.v 32) (.v 2)) (.cmp .leq (.v 32) (.bin .sub .i64 (.v 30) (.v 5)))))), (.c (.int .i64 (.lit 0)))]) [])))))) := by kernel_rfl
theorem t_Room : callTree C00 300 18 [sp 0, sp 3] [] 20 = some
  (.ite (.or (.or (.or (.or (.or (.cmp .lss (.v 0) (.lit 1)) (.cmp .gtr (.v 0) (.lit 960))) (.cmp .lss (.v 1) (.lit 0))) (.cmp .geq (.v 1) (.v 0))) (.cmp .lss (.v 2) (.lit 1))) (.cmp .gtr (.v 2) (.v 0)))
    (done (.tup [(.c (.int .i64 (.lit 0))), (.c (.int .i64 (.lit 0))), (.c (.int .i64 (.lit 0))), (.c (.int .i64 (.lit 330)))]) [])
    (.ite (.or (.or (.or (.or (.or (.cmp .lss (.v 3) (.lit 1)) (.cmp .gtr (.v 3) (.lit 960))) (.cmp .lss (.v 4) (.lit 0))) (.cmp .geq (.v 4) (.v 3))) (.cmp .lss (.v 5) (.lit 1))) (.cmp .gtr (.v 5) (.v 3)))
      (done (.tup [(.c (.int .i64 (.lit 0))), (.c (.int .i64 (.lit 0))), (.c (.int .i64 (.lit 0))), (.c (.int .i64 (.lit 330)))]) [])
      (.call 42 [(.a (.c (.int .i64 (.v 0)))), (.a (.c (.int .i64 (.v 3))))] [] 30 [.i] (.a (.c (.int .i64 (.v 30)))) []
      (.ite (.cmp .gtr (.v 2) (.bin .sub .i64 (.v 30) (.v 5)))
        (done (.tup [(.c (.int .i64 (.lit 0))), (.c (.int .i64 (.lit 0))), (.c (.int .i64 (.lit 0))), (.c (.int .i64 (.lit 4)))]) [])
        (done (.tup [(.c (.int .i64 (.v 2))), (.c (.int .i64 (.bin .sub .i64 (.v 30) (.v 5)))), (.c (.int .i64 (.v 30))), (.c (.int .i64 (.lit 0)))]) []))))) := by kernel_rfl

end Go.Proofs.Y23
