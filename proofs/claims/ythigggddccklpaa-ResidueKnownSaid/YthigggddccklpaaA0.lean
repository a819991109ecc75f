/- A part of the proof: see the text that states the theorem. -/
import Derived.Test.YthigggddccklpaaSxU
import Derived.Test.YthigggddccklpaaProg
set_option linter.unusedSimpArgs false
set_option linter.unusedVariables false
set_option linter.unusedSectionVars false
namespace Go.Proofs.Y23
open Go Go.SX Go.RowKit
def sp (n : Nat) : SV := .agg [.int .i64 (.v n), .int .i64 (.v (n+1)), .int .i64 (.v (n+2))]
def p3 : List CK := [.int .i64, .int .i64, .int .i64]
def p1 : List CK := [.int .i64]
def rSp : RS := .one (.agg [.int .i64, .int .i64, .int .i64])
def rBE : RS := .tup [.c .bool, .c (.int .i64)]
def rIE : RS := .tup [.c (.int .i64), .c (.int .i64)]
def rRoom : RS := .tup [.c (.int .i64), .c (.int .i64), .c (.int .i64), .c (.int .i64)]
def u8x (n k : Nat) : SV := .a (.agg ((List.range k).map fun i => .int .u8 (.v (n + i))))
noncomputable def C0 : Cfg := { P := Try.prog, ct := ctOf [(28, rI), (30, rI), (42, rI), (37, rI), (35, rB), (33, rI), (38, rI), (41, rI), (39, rI), (40, rB)], ann := annOf [((42, 1), [.slot 0, .slot 1]), ((37, 2), [.slot 5]), ((33, 2), [.slot 8]), ((41, 3), [.slot 5, .slot 10]), ((23, 6), [.slot 16, .row 5 3]), ((35, 3), [.slot 6]), ((19, 6), [.slot 9, .slot 10, .slot 11, .cell 3 1]), ((39, 4), [.slot 3]), ((40, 2), [.slot 5]), ((21, 8), [.slot 8]), ((21, 10), [.slot 29, .slot 8]), ((22, 7), [.slot 7]), ((24, 5), [.slot 5]), ((24, 9), [.slot 6, .slot 7])] }
@[simp] theorem C0_P : C0.P = Try.prog := rfl
theorem t_Check : callTree C0 300 13 [sp 0] [] 20 = some
  (.ite (.or (.or (.or (.or (.or (.cmp .lss (.v 0) (.lit 1)) (.cmp .gtr (.v 0) (.lit 960))) (.cmp .lss (.v 1) (.lit 0))) (.cmp .geq (.v 1) (.v 0))) (.cmp .lss (.v 2) (.lit 1))) (.cmp .gtr (.v 2) (.v 0)))
    (.done (.a (.c (.int .i64 (.lit 330)))) [])
    (.done (.a (.c (.int .i64 (.lit 0)))) [])) := by kernel_rfl
theorem t_refCheck : callTree C0 300 14 [sp 0] [] 20 = some
  (.ite (.and (.and (.and (.and (.and (.cmp .geq (.v 0) (.lit 1)) (.cmp .leq (.v 0) (.lit 960))) (.cmp .geq (.v 1) (.lit 0))) (.cmp .lss (.v 1) (.v 0))) (.cmp .geq (.v 2) (.lit 1))) (.cmp .leq (.v 2) (.v 0)))
    (.done (.a (.c (.int .i64 (.lit 0)))) [])
    (.done (.a (.c (.int .i64 (.lit 330)))) [])) := by kernel_rfl
theorem t_refMod : callTree C0 300 28 [i64 0, i64 1] [] 20 = some
  (.need [(.cmp .neq (.v 1) (.lit 0))]
  (.ite (.cmp .lss (.bin .rem .i64 (.v 0) (.v 1)) (.lit 0))
    (.done (.a (.c (.int .i64 (.bin .add .i64 (.bin .rem .i64 (.v 0) (.v 1)) (.v 1))))) [])
    (.done (.a (.c (.int .i64 (.bin .rem .i64 (.v 0) (.v 1))))) []))) := by kernel_rfl
theorem t_mod : callTree C0 300 30 [i64 0, i64 1] [] 20 = some
  (.need [(.cmp .neq (.v 1) (.lit 0))]
  (.done (.a (.c (.int .i64 (.bin .rem .i64 (.bin .add .i64 (.bin .rem .i64 (.v 0) (.v 1)) (.v 1)) (.v 1))))) [])) := by kernel_rfl
theorem t_refRight : callTree C0 300 31 [sp 0] [] 20 = some
  (.done (.a (.c (.bool (.and (.and (.and (.and (.and (.cmp .geq (.v 0) (.lit 1)) (.cmp .leq (.v 0) (.lit 960))) (.cmp .geq (.v 1) (.lit 0))) (.cmp .lss (.v 1) (.v 0))) (.cmp .geq (.v 2) (.lit 1))) (.cmp .leq (.v 2) (.v 0)))))) []) := by kernel_rfl
theorem t_refCovers : callTree C0 300 12 [sp 0, i64 3] [] 20 = some
  (.ite (.not (.and (.and (.and (.and (.and (.cmp .geq (.v 0) (.lit 1)) (.cmp .leq (.v 0) (.lit 960))) (.cmp .geq (.v 1) (.lit 0))) (.cmp .lss (.v 1) (.v 0))) (.cmp .geq (.v 2) (.lit 1))) (.cmp .leq (.v 2) (.v 0))))
    (.done (.tup [(.c (.bool (.lit false))), (.c (.int .i64 (.lit 330)))]) [])
    (.ite (.or (.cmp .lss (.v 3) (.lit (-1099511627776))) (.cmp .gtr (.v 3) (.lit 1099511627776)))
      (.done (.tup [(.c (.bool (.lit false))), (.c (.int .i64 (.lit 2)))]) [])
      (.call 28 [(.a (.c (.int .i64 (.bin .sub .i64 (.v 3) (.v 1))))), (.a (.c (.int .i64 (.v 0))))] [] 22 [.i] (.a (.c (.int .i64 (.v 22)))) []
      (.done (.tup [(.c (.bool (.cmp .lss (.v 22) (.v 2)))), (.c (.int .i64 (.lit 0)))]) [])))) := by kernel_rfl
theorem t_Covers : callTree C0 300 11 [sp 0, i64 3] [] 20 = some
  (.ite (.or (.or (.or (.or (.or (.cmp .lss (.v 0) (.lit 1)) (.cmp .gtr (.v 0) (.lit 960))) (.cmp .lss (.v 1) (.lit 0))) (.cmp .geq (.v 1) (.v 0))) (.cmp .lss (.v 2) (.lit 1))) (.cmp .gtr (.v 2) (.v 0)))
    (.done (.tup [(.c (.bool (.lit false))), (.c (.int .i64 (.lit 330)))]) [])
    (.ite (.or (.cmp .lss (.v 3) (.lit (-1099511627776))) (.cmp .gtr (.v 3) (.lit 1099511627776)))
      (.done (.tup [(.c (.bool (.lit false))), (.c (.int .i64 (.lit 2)))]) [])
      (.call 30 [(.a (.c (.int .i64 (.bin .sub .i64 (.v 3) (.v 1))))), (.a (.c (.int .i64 (.v 0))))] [] 22 [.i] (.a (.c (.int .i64 (.v 22)))) []
      (.done (.tup [(.c (.bool (.cmp .lss (.v 22) (.v 2)))), (.c (.int .i64 (.lit 0)))]) [])))) := by kernel_rfl
theorem t_refApart : callTree C0 300 17 [sp 0, sp 3] [] 20 = some
  (.ite (.and (.and (.and (.and (.and (.cmp .geq (.v 0) (.lit 1)) (.cmp .leq (.v 0) (.lit 960))) (.cmp .geq (.v 1) (.lit 0))) (.cmp .lss (.v 1) (.v 0))) (.cmp .geq (.v 2) (.lit 1))) (.cmp .leq (.v 2) (.v 0)))
    (.ite (.not (.and (.and (.and (.and (.and (.cmp .geq (.v 3) (.lit 1)) (.cmp .leq (.v 3) (.lit 960))) (.cmp .geq (.v 4) (.lit 0))) (.cmp .lss (.v 4) (.v 3))) (.cmp .geq (.v 5) (.lit 1))) (.cmp .leq (.v 5) (.v 3))))
      (.done (.tup [(.c (.bool (.lit false))), (.c (.int .i64 (.lit 330)))]) [])
      (.call 35 [(.a (.agg [(.int .i64 (.v 0)), (.int .i64 (.v 1)), (.int .i64 (.v 2))])), (.a (.agg [(.int .i64 (.v 3)), (.int .i64 (.v 4)), (.int .i64 (.v 5))]))] [] 24 [.b] (.a (.c (.bool (.v 24)))) []
      (.done (.tup [(.c (.bool (.v 24))), (.c (.int .i64 (.lit 0)))]) [])))
    (.done (.tup [(.c (.bool (.lit false))), (.c (.int .i64 (.lit 330)))]) [])) := by kernel_rfl
theorem t_gcd : callTree C0 300 42 [i64 0, i64 1] [] 20 = some
  (.loop [.i, .i] 20 [(.i (.v 0)), (.i (.v 1))]
    (.ite (.cmp .gtr (.v 21) (.lit 0))
      (.need [(.cmp .neq (.v 21) (.lit 0))]
      (.cont 0 [(.i (.v 21)), (.i (.bin .rem .i64 (.v 20) (.v 21)))]))
      (.done (.a (.c (.int .i64 (.v 20)))) []))) := by kernel_rfl
theorem t_refGcd : callTree C0 300 37 [i64 0, i64 1] [] 20 = some
  (.loop [.i] 20 [(.i (.v 0))]
    (.ite (.cmp .gtr (.v 20) (.lit 1))
      (.need [(.cmp .neq (.v 20) (.lit 0))]
      (.ite (.and (.cmp .eql (.bin .rem .i64 (.v 0) (.v 20)) (.lit 0)) (.cmp .eql (.bin .rem .i64 (.v 1) (.v 20)) (.lit 0)))
        (.done (.a (.c (.int .i64 (.v 20)))) [])
        (.cont 0 [(.i (.bin .sub .i64 (.v 20) (.lit 1)))])))
      (.done (.a (.c (.int .i64 (.lit 1)))) []))) := by kernel_rfl
theorem t_Of : callTree C0 300 10 [u8 0, u8 1, u8 2] [] 20 = some
  (.need [(.cmp .neq (.bin .add .i64 (.lit 1) (.conv .i64 (.bin .rem .u8 (.v 0) (.lit 48)))) (.lit 0))]
  (.done (.a (.agg [(.int .i64 (.bin .add .i64 (.lit 1) (.conv .i64 (.bin .rem .u8 (.v 0) (.lit 48))))), (.int .i64 (.bin .rem .i64 (.conv .i64 (.v 1)) (.bin .add .i64 (.lit 1) (.conv .i64 (.bin .rem .u8 (.v 0) (.lit 48)))))), (.int .i64 (.bin .add .i64 (.lit 1) (.bin .rem .i64 (.conv .i64 (.v 2)) (.bin .add .i64 (.lit 1) (.conv .i64 (.bin .rem .u8 (.v 0) (.lit 48)))))))])) [])) := by kernel_rfl
theorem t_Shifted : callTree C0 300 27 [sp 0, i64 3] [] 20 = some
  (.need [(.cmp .neq (.v 0) (.lit 0))]
  (.done (.a (.agg [(.int .i64 (.v 0)), (.int .i64 (.bin .rem .i64 (.bin .add .i64 (.v 1) (.v 3)) (.v 0))), (.int .i64 (.v 2))])) [])) := by kernel_rfl
theorem t_valid : callTree C0 300 33 [slArg 0 3] [.arr 1 0 p3 none] 20 = some
  (.loop [.i] 20 [(.i (.lit 0))]
    (.ite (.cmp .lss (.v 20) (.alen 0))
      (.need [(.cmp .leq (.lit 0) (.v 20))]
      (.ite (.or (.or (.or (.or (.or (.cmp .lss (.sel 0 0 (.v 20)) (.lit 1)) (.cmp .gtr (.sel 0 0 (.v 20)) (.lit 960))) (.cmp .lss (.sel 0 1 (.v 20)) (.lit 0))) (.cmp .geq (.sel 0 1 (.v 20)) (.sel 0 0 (.v 20)))) (.cmp .lss (.sel 0 2 (.v 20)) (.lit 1))) (.cmp .gtr (.sel 0 2 (.v 20)) (.sel 0 0 (.v 20))))
        (.done (.a (.c (.int .i64 (.lit 330)))) [])
        (.cont 0 [(.i (.bin .add .i64 (.v 20) (.lit 1)))])))
      (.done (.a (.c (.int .i64 (.lit 0)))) []))) := by kernel_rfl
theorem t_list : callTree C0 300 38 [slArg 0 3] [.arr 1 0 p3 none] 20 = some
  (.ite (.cmp .gtr (.alen 0) (.lit 32))
    (.done (.a (.c (.int .i64 (.lit 3)))) [])
    (.call 33 [(.a (.c (.slice 1 3 0 (.lit 0) (.alen 0) (.e (.v 2)))))] [(.arr 1 0 [(.int .i64), (.int .i64), (.int .i64)] none)] 20 [.i] (.a (.c (.int .i64 (.v 20)))) []
    (.done (.a (.c (.int .i64 (.v 20)))) []))) := by kernel_rfl
theorem t_lcm : callTree C0 300 41 [i64 3, slArg 0 1] [.arr 1 0 p1 none] 20 = some
  (.loop [.i, .i] 20 [(.i (.lit 1)), (.i (.lit 0))]
    (.ite (.cmp .lss (.v 21) (.alen 0))
      (.need [(.cmp .leq (.lit 0) (.v 21))]
      (.call 42 [(.a (.c (.int .i64 (.v 20)))), (.a (.c (.int .i64 (.sel 0 0 (.v 21)))))] [] 22 [.i] (.a (.c (.int .i64 (.v 22)))) []
      (.need [(.cmp .neq (.v 22) (.lit 0))]
      (.ite (.cmp .gtr (.bin .mul .i64 (.bin .quo .i64 (.v 20) (.v 22)) (.sel 0 0 (.v 21))) (.v 3))
        (.done (.a (.c (.int .i64 (.lit 0)))) [])
        (.cont 0 [(.i (.bin .mul .i64 (.bin .quo .i64 (.v 20) (.v 22)) (.sel 0 0 (.v 21)))), (.i (.bin .add .i64 (.v 21) (.lit 1)))])))))
      (.done (.a (.c (.int .i64 (.v 20)))) []))) := by kernel_rfl
theorem t_Cycle : callTree C0 300 23 [slArg 0 3] [.arr 1 0 p3 none] 20 = some
  (.call 38 [(.a (.c (.slice 1 3 0 (.lit 0) (.alen 0) (.e (.v 2)))))] [(.arr 1 0 [(.int .i64), (.int .i64), (.int .i64)] none)] 20 [.i] (.a (.c (.int .i64 (.v 20)))) []
  (.ite (.cmp .neq (.v 20) (.lit 0))
    (.done (.tup [(.c (.int .i64 (.lit 0))), (.c (.int .i64 (.v 20)))]) [])
    (.arr 21 .nil (.lit true)
    (.loop [.i, .l, .n] 22 [(.i (.lit 0)), (.l (.arr 21)), (.n (.nl 21))]
      (.ite (.cmp .lss (.v 22) (.alen 0))
        (.need [(.cmp .leq (.lit 0) (.v 22))]
        (.need [(.cmp .leq (.plus (.alen 23) (.lit 1)) (.lit 17592186044416))]
        (.arr 27 (.cat (.arr 23) (.rows [[(.i (.sel 0 0 (.v 22)))]])) (.lit false)
        (.cont 0 [(.i (.bin .add .i64 (.v 22) (.lit 1))), (.l (.arr 27)), (.n (.nl 27))]))))
        (.call 41 [(.a (.c (.int .i64 (.lit 960)))), (.a (.c (.slice 24 1 0 (.lit 0) (.alen 23) (.k 24))))] [(.arr 24 23 [(.int .i64)] (some 3))] 25 [.i] (.a (.c (.int .i64 (.v 25)))) []
        (.ite (.cmp .gtr (.v 25) (.lit 0))
          (.done (.tup [(.c (.int .i64 (.v 25))), (.c (.int .i64 (.lit 0)))]) [])
          (.done (.tup [(.c (.int .i64 (.lit 0))), (.c (.int .i64 (.lit 6)))]) [])))))))) := by kernel_rfl
theorem t_Separate : callTree C0 300 35 [sp 0, sp 3] [] 20 = some
  (.call 37 [(.a (.c (.int .i64 (.v 0)))), (.a (.c (.int .i64 (.v 3))))] [] 22 [.i] (.a (.c (.int .i64 (.v 22)))) []
  (.loop [.i] 23 [(.i (.bin .sub .i64 (.lit 1) (.v 5)))]
    (.ite (.cmp .lss (.v 23) (.v 2))
      (.call 28 [(.a (.c (.int .i64 (.bin .sub .i64 (.bin .sub .i64 (.v 4) (.v 1)) (.v 23))))), (.a (.c (.int .i64 (.v 22))))] [] 24 [.i] (.a (.c (.int .i64 (.v 24)))) []
      (.ite (.cmp .eql (.v 24) (.lit 0))
        (.done (.a (.c (.bool (.lit false)))) [])
        (.cont 0 [(.i (.bin .add .i64 (.v 23) (.lit 1)))])))
      (.done (.a (.c (.bool (.lit true)))) [])))) := by kernel_rfl
theorem t_refRoom : callTree C0 300 19 [sp 0, sp 3] [] 20 = some
  (.ite (.and (.and (.and (.and (.and (.cmp .geq (.v 0) (.lit 1)) (.cmp .leq (.v 0) (.lit 960))) (.cmp .geq (.v 1) (.lit 0))) (.cmp .lss (.v 1) (.v 0))) (.cmp .geq (.v 2) (.lit 1))) (.cmp .leq (.v 2) (.v 0)))
    (.ite (.not (.and (.and (.and (.and (.and (.cmp .geq (.v 3) (.lit 1)) (.cmp .leq (.v 3) (.lit 960))) (.cmp .geq (.v 4) (.lit 0))) (.cmp .lss (.v 4) (.v 3))) (.cmp .geq (.v 5) (.lit 1))) (.cmp .leq (.v 5) (.v 3))))
      (.done (.tup [(.c (.int .i64 (.lit 0))), (.c (.int .i64 (.lit 0))), (.c (.int .i64 (.lit 0))), (.c (.int .i64 (.lit 330)))]) [])
      (.call 37 [(.a (.c (.int .i64 (.v 0)))), (.a (.c (.int .i64 (.v 3))))] [] 24 [.i] (.a (.c (.int .i64 (.v 24)))) []
      (.loop [.i, .i, .i, .i] 25 [(.i (.v 24)), (.i (.lit (-1))), (.i (.lit 0)), (.i (.v 4))]
        (.ite (.cmp .lss (.v 27) (.v 24))
          (.call 28 [(.a (.c (.int .i64 (.bin .add .i64 (.v 1) (.v 27))))), (.a (.c (.int .i64 (.v 3))))] [] 29 [.i] (.a (.c (.int .i64 (.v 29)))) []
          (.call 35 [(.a (.agg [(.int .i64 (.v 0)), (.int .i64 (.v 1)), (.int .i64 (.v 2))])), (.a (.agg [(.int .i64 (.v 3)), (.int .i64 (.v 29)), (.int .i64 (.v 5))]))] [] 30 [.b] (.a (.c (.bool (.v 30)))) []
          (.ite (.v 30)
            (.cont 0 [(.i (.sw .lss (.v 27) (.v 25) (.v 27) (.v 25))), (.i (.v 27)), (.i (.bin .add .i64 (.v 27) (.lit 1))), (.i (.v 29))])
            (.cont 0 [(.i (.v 25)), (.i (.v 26)), (.i (.bin .add .i64 (.v 27) (.lit 1))), (.i (.v 29))]))))
          (.ite (.cmp .lss (.v 26) (.lit 0))
            (.done (.tup [(.c (.int .i64 (.lit 0))), (.c (.int .i64 (.lit 0))), (.c (.int .i64 (.lit 0))), (.c (.int .i64 (.lit 4)))]) [])
            (.done (.tup [(.c (.int .i64 (.v 25))), (.c (.int .i64 (.v 26))), (.c (.int .i64 (.v 24))), (.c (.int .i64 (.lit 0)))]) []))))))
    (.done (.tup [(.c (.int .i64 (.lit 0))), (.c (.int .i64 (.lit 0))), (.c (.int .i64 (.lit 0))), (.c (.int .i64 (.lit 330)))]) [])) := by kernel_rfl
theorem t_refList : callTree C0 300 39 [slArg 0 3] [.arr 1 0 p3 none] 20 = some
  (.ite (.cmp .gtr (.alen 0) (.lit 32))
    (.done (.a (.c (.int .i64 (.lit 3)))) [])
    (.loop [.i] 20 [(.i (.lit 0))]
      (.ite (.cmp .lss (.v 20) (.alen 0))
        (.need [(.cmp .leq (.lit 0) (.v 20))]
        (.ite (.not (.and (.and (.and (.and (.and (.cmp .geq (.sel 0 0 (.v 20)) (.lit 1)) (.cmp .leq (.sel 0 0 (.v 20)) (.lit 960))) (.cmp .geq (.sel 0 1 (.v 20)) (.lit 0))) (.cmp .lss (.sel 0 1 (.v 20)) (.sel 0 0 (.v 20)))) (.cmp .geq (.sel 0 2 (.v 20)) (.lit 1))) (.cmp .leq (.sel 0 2 (.v 20)) (.sel 0 0 (.v 20)))))
          (.done (.a (.c (.int .i64 (.lit 330)))) [])
          (.cont 0 [(.i (.bin .add .i64 (.v 20) (.lit 1)))])))
        (.done (.a (.c (.int .i64 (.lit 0)))) [])))) := by kernel_rfl
theorem t_Clear : callTree C0 300 40 [slArg 0 3, sp 3] [.arr 1 0 p3 none] 20 = some
  (.loop [.i] 21 [(.i (.lit 0))]
    (.ite (.cmp .lss (.v 21) (.alen 0))
      (.call 35 [(.a (.agg [(.int .i64 (.sel 0 0 (.v 21))), (.int .i64 (.sel 0 1 (.v 21))), (.int .i64 (.sel 0 2 (.v 21)))])), (.a (.agg [(.int .i64 (.v 3)), (.int .i64 (.v 4)), (.int .i64 (.v 5))]))] [] 22 [.b] (.a (.c (.bool (.v 22)))) []
      (.need [(.cmp .leq (.lit 0) (.v 21))]
      (.ite (.not (.v 22))
        (.done (.a (.c (.bool (.lit false)))) [])
        (.cont 0 [(.i (.bin .add .i64 (.v 21) (.lit 1)))]))))
      (.done (.a (.c (.bool (.lit true)))) []))) := by kernel_rfl
theorem t_Next : callTree C0 300 21 [slArg 0 3, sp 3] [.arr 1 0 p3 none] 20 = some
  (.call 38 [(.a (.c (.slice 1 3 0 (.lit 0) (.alen 0) (.e (.v 2)))))] [(.arr 1 0 [(.int .i64), (.int .i64), (.int .i64)] none)] 21 [.i] (.a (.c (.int .i64 (.v 21)))) []
  (.ite (.cmp .neq (.v 21) (.lit 0))
    (.done (.tup [(.c (.int .i64 (.lit 0))), (.c (.int .i64 (.v 21)))]) [])
    (.ite (.or (.or (.or (.or (.or (.cmp .lss (.v 3) (.lit 1)) (.cmp .gtr (.v 3) (.lit 960))) (.cmp .lss (.v 4) (.lit 0))) (.cmp .geq (.v 4) (.v 3))) (.cmp .lss (.v 5) (.lit 1))) (.cmp .gtr (.v 5) (.v 3)))
      (.done (.tup [(.c (.int .i64 (.lit 0))), (.c (.int .i64 (.lit 330)))]) [])
      (.loop [.i] 23 [(.i (.lit 0))]
        (.ite (.cmp .lss (.v 23) (.v 3))
          (.loop [.i, .i] 24 [(.i (.lit 0)), (.i (.v 23))]
            (.ite (.cmp .lss (.v 24) (.alen 0))
              (.need [(.cmp .leq (.lit 0) (.v 24))]
              (.call 42 [(.a (.c (.int .i64 (.sel 0 0 (.v 24))))), (.a (.c (.int .i64 (.v 3))))] [] 30 [.i] (.a (.c (.int .i64 (.v 30)))) []
              (.ite (.cmp .gtr (.sel 0 2 (.v 24)) (.bin .sub .i64 (.v 30) (.v 5)))
                (.done (.tup [(.c (.int .i64 (.lit 0))), (.c (.int .i64 (.lit 4)))]) [])
                (.call 30 [(.a (.c (.int .i64 (.bin .sub .i64 (.bin .add .i64 (.v 4) (.v 25)) (.sel 0 1 (.v 24)))))), (.a (.c (.int .i64 (.v 30))))] [] 33 [.i] (.a (.c (.int .i64 (.v 33)))) []
                (.ite (.or (.cmp .lss (.v 33) (.sel 0 2 (.v 24))) (.cmp .gtr (.v 33) (.bin .sub .i64 (.v 30) (.v 5))))
                  (.call 30 [(.a (.c (.int .i64 (.bin .sub .i64 (.sel 0 2 (.v 24)) (.v 33))))), (.a (.c (.int .i64 (.v 30))))] [] 34 [.i] (.a (.c (.int .i64 (.v 34)))) []
                  (.cont 1 [(.i (.bin .add .i64 (.v 25) (.v 34)))]))
                  (.cont 0 [(.i (.bin .add .i64 (.v 24) (.lit 1))), (.i (.v 25))]))))))
              (.done (.tup [(.c (.int .i64 (.v 25))), (.c (.int .i64 (.lit 0)))]) [])))
          (.done (.tup [(.c (.int .i64 (.lit 0))), (.c (.int .i64 (.lit 4)))]) [])))))) := by kernel_rfl
theorem t_refNext : callTree C0 300 22 [slArg 0 3, sp 3] [.arr 1 0 p3 none] 20 = some
  (.call 39 [(.a (.c (.slice 1 3 0 (.lit 0) (.alen 0) (.e (.v 2)))))] [(.arr 1 0 [(.int .i64), (.int .i64), (.int .i64)] none)] 21 [.i] (.a (.c (.int .i64 (.v 21)))) []
  (.ite (.cmp .eql (.v 21) (.lit 0))
    (.ite (.and (.and (.and (.and (.and (.cmp .geq (.v 3) (.lit 1)) (.cmp .leq (.v 3) (.lit 960))) (.cmp .geq (.v 4) (.lit 0))) (.cmp .lss (.v 4) (.v 3))) (.cmp .geq (.v 5) (.lit 1))) (.cmp .leq (.v 5) (.v 3)))
      (.loop [.i] 24 [(.i (.lit 0))]
        (.ite (.cmp .lss (.v 24) (.v 3))
          (.need [(.cmp .neq (.v 3) (.lit 0))]
          (.call 40 [(.a (.c (.slice 1 3 0 (.lit 0) (.alen 0) (.e (.v 2))))), (.a (.agg [(.int .i64 (.v 3)), (.int .i64 (.bin .rem .i64 (.bin .add .i64 (.v 4) (.v 24)) (.v 3))), (.int .i64 (.v 5))]))] [(.arr 1 0 [(.int .i64), (.int .i64), (.int .i64)] none)] 27 [.b] (.a (.c (.bool (.v 27)))) []
          (.ite (.v 27)
            (.done (.tup [(.c (.int .i64 (.v 24))), (.c (.int .i64 (.lit 0)))]) [])
            (.cont 0 [(.i (.bin .add .i64 (.v 24) (.lit 1)))]))))
          (.done (.tup [(.c (.int .i64 (.lit 0))), (.c (.int .i64 (.lit 4)))]) [])))
      (.done (.tup [(.c (.int .i64 (.lit 0))), (.c (.int .i64 (.lit 330)))]) []))
    (.done (.tup [(.c (.int .i64 (.lit 0))), (.c (.int .i64 (.v 21)))]) []))) := by kernel_rfl
theorem t_refCycle : callTree C0 300 24 [slArg 0 3] [.arr 1 0 p3 none] 20 = some
  (.call 39 [(.a (.c (.slice 1 3 0 (.lit 0) (.alen 0) (.e (.v 2)))))] [(.arr 1 0 [(.int .i64), (.int .i64), (.int .i64)] none)] 20 [.i] (.a (.c (.int .i64 (.v 20)))) []
  (.ite (.cmp .neq (.v 20) (.lit 0))
    (.done (.tup [(.c (.int .i64 (.lit 0))), (.c (.int .i64 (.v 20)))]) [])
    (.loop [.i] 21 [(.i (.lit 1))]
      (.ite (.cmp .leq (.v 21) (.lit 960))
        (.loop [.b, .i] 22 [(.b (.lit true)), (.i (.lit 0))]
          (.ite (.cmp .lss (.v 23) (.alen 0))
            (.need [(.or (.not (.v 22)) (.cmp .leq (.lit 0) (.v 23)))]
            (.need [(.or (.not (.v 22)) (.cmp .neq (.sel 0 0 (.v 23)) (.lit 0)))]
            (.cont 0 [(.b (.and (.v 22) (.cmp .eql (.bin .rem .i64 (.v 21) (.sel 0 0 (.v 23))) (.lit 0)))), (.i (.bin .add .i64 (.v 23) (.lit 1)))])))
            (.ite (.v 22)
              (.done (.tup [(.c (.int .i64 (.v 21))), (.c (.int .i64 (.lit 0)))]) [])
              (.cont 1 [(.i (.bin .add .i64 (.v 21) (.lit 1)))]))))
        (.done (.tup [(.c (.int .i64 (.lit 0))), (.c (.int .i64 (.lit 6)))]) []))))) := by kernel_rfl

noncomputable def C00 : Cfg := { P := Try.prog, ct := ctOf [(28, rI), (30, rI), (42, rI), (37, rI), (35, rB)], ann := fun _ _ => none }
@[simp] theorem C00_P : C00.P = Try.prog := rfl
theorem t_Apart : callTree C00 300 16 [sp 0, sp 3] [] 20 = some
  (.ite (.or (.or (.or (.or (.or (.cmp .lss (.v 0) (.lit 1)) (.cmp .gtr (.v 0) (.lit 960))) (.cmp .lss (.v 1) (.lit 0))) (.cmp .geq (.v 1) (.v 0))) (.cmp .lss (.v 2) (.lit 1))) (.cmp .gtr (.v 2) (.v 0)))
    (.done (.tup [(.c (.bool (.lit false))), (.c (.int .i64 (.lit 330)))]) [])
    (.ite (.or (.or (.or (.or (.or (.cmp .lss (.v 3) (.lit 1)) (.cmp .gtr (.v 3) (.lit 960))) (.cmp .lss (.v 4) (.lit 0))) (.cmp .geq (.v 4) (.v 3))) (.cmp .lss (.v 5) (.lit 1))) (.cmp .gtr (.v 5) (.v 3)))
      (.done (.tup [(.c (.bool (.lit false))), (.c (.int .i64 (.lit 330)))]) [])
      (.ite (.and (.cmp .eql (.v 0) (.v 3)) (.and (.cmp .eql (.v 1) (.v 4)) (.cmp .eql (.v 2) (.v 5))))
        (.done (.tup [(.c (.bool (.lit false))), (.c (.int .i64 (.lit 0)))]) [])
        (.call 42 [(.a (.c (.int .i64 (.v 0)))), (.a (.c (.int .i64 (.v 3))))] [] 30 [.i] (.a (.c (.int .i64 (.v 30)))) []
        (.call 30 [(.a (.c (.int .i64 (.bin .sub .i64 (.v 4) (.v 1))))), (.a (.c (.int .i64 (.v 30))))] [] 32 [.i] (.a (.c (.int .i64 (.v 32)))) []
        (.done (.tup [(.c (.bool (.and (.cmp .geq (.v 32) (.v 2)) (.cmp .leq (.v 32) (.bin .sub .i64 (.v 30) (.v 5)))))), (.c (.int .i64 (.lit 0)))]) [])))))) := by kernel_rfl
theorem t_Room : callTree C00 300 18 [sp 0, sp 3] [] 20 = some
  (.ite (.or (.or (.or (.or (.or (.cmp .lss (.v 0) (.lit 1)) (.cmp .gtr (.v 0) (.lit 960))) (.cmp .lss (.v 1) (.lit 0))) (.cmp .geq (.v 1) (.v 0))) (.cmp .lss (.v 2) (.lit 1))) (.cmp .gtr (.v 2) (.v 0)))
    (.done (.tup [(.c (.int .i64 (.lit 0))), (.c (.int .i64 (.lit 0))), (.c (.int .i64 (.lit 0))), (.c (.int .i64 (.lit 330)))]) [])
    (.ite (.or (.or (.or (.or (.or (.cmp .lss (.v 3) (.lit 1)) (.cmp .gtr (.v 3) (.lit 960))) (.cmp .lss (.v 4) (.lit 0))) (.cmp .geq (.v 4) (.v 3))) (.cmp .lss (.v 5) (.lit 1))) (.cmp .gtr (.v 5) (.v 3)))
      (.done (.tup [(.c (.int .i64 (.lit 0))), (.c (.int .i64 (.lit 0))), (.c (.int .i64 (.lit 0))), (.c (.int .i64 (.lit 330)))]) [])
      (.call 42 [(.a (.c (.int .i64 (.v 0)))), (.a (.c (.int .i64 (.v 3))))] [] 30 [.i] (.a (.c (.int .i64 (.v 30)))) []
      (.ite (.cmp .gtr (.v 2) (.bin .sub .i64 (.v 30) (.v 5)))
        (.done (.tup [(.c (.int .i64 (.lit 0))), (.c (.int .i64 (.lit 0))), (.c (.int .i64 (.lit 0))), (.c (.int .i64 (.lit 4)))]) [])
        (.done (.tup [(.c (.int .i64 (.v 2))), (.c (.int .i64 (.bin .sub .i64 (.v 30) (.v 5)))), (.c (.int .i64 (.v 30))), (.c (.int .i64 (.lit 0)))]) []))))) := by kernel_rfl

noncomputable def C2 : Cfg := { P := Try.prog, ct := ctOf [(10, rSp), (11, rBE), (12, rBE), (13, rI), (14, rI), (15, rB), (16, rBE), (17, rBE), (18, rRoom), (19, rRoom), (21, rIE), (22, rIE), (23, rIE), (24, rIE), (25, rB), (26, rB), (27, rSp), (29, rSp), (32, rB)], ann := annOf [((20, 3), [.slot 6, .row 5 23])] }
@[simp] theorem C2_P : C2.P = Try.prog := rfl
theorem t_works : callTree C2 300 15 [] [] 20 = some
  (.call 29 [(.a (.c (.int .i64 (.lit 4)))), (.a (.c (.int .i64 (.lit 0)))), (.a (.c (.int .i64 (.lit 2))))] [] 20 [.i, .i, .i] (.a (.agg [(.int .i64 (.v 20)), (.int .i64 (.v 21)), (.int .i64 (.v 22))])) []
  (.call 29 [(.a (.c (.int .i64 (.lit 6)))), (.a (.c (.int .i64 (.lit 0)))), (.a (.c (.int .i64 (.lit 1))))] [] 23 [.i, .i, .i] (.a (.agg [(.int .i64 (.v 23)), (.int .i64 (.v 24)), (.int .i64 (.v 25))])) []
  (.call 18 [(.a (.agg [(.int .i64 (.v 20)), (.int .i64 (.v 21)), (.int .i64 (.v 22))])), (.a (.agg [(.int .i64 (.v 23)), (.int .i64 (.v 24)), (.int .i64 (.v 25))]))] [] 26 [.i, .i, .i, .i] (.tup [(.c (.int .i64 (.v 26))), (.c (.int .i64 (.v 27))), (.c (.int .i64 (.v 28))), (.c (.int .i64 (.v 29)))]) []
  (.call 29 [(.a (.c (.int .i64 (.lit 12)))), (.a (.c (.int .i64 (.lit 0)))), (.a (.c (.int .i64 (.lit 3))))] [] 30 [.i, .i, .i] (.a (.agg [(.int .i64 (.v 30)), (.int .i64 (.v 31)), (.int .i64 (.v 32))])) []
  (.call 29 [(.a (.c (.int .i64 (.lit 12)))), (.a (.c (.int .i64 (.lit 5)))), (.a (.c (.int .i64 (.lit 2))))] [] 33 [.i, .i, .i] (.a (.agg [(.int .i64 (.v 33)), (.int .i64 (.v 34)), (.int .i64 (.v 35))])) []
  (.call 29 [(.a (.c (.int .i64 (.lit 12)))), (.a (.c (.int .i64 (.lit 1)))), (.a (.c (.int .i64 (.lit 2))))] [] 37 [.i, .i, .i] (.a (.agg [(.int .i64 (.v 37)), (.int .i64 (.v 38)), (.int .i64 (.v 39))])) []
  (.call 21 [(.a (.c (.oslice 36 0 2 2))), (.a (.agg [(.int .i64 (.v 37)), (.int .i64 (.v 38)), (.int .i64 (.v 39))]))] [(.own 36 [(.int .i64 (.v 30)), (.int .i64 (.v 31)), (.int .i64 (.v 32)), (.int .i64 (.v 33)), (.int .i64 (.v 34)), (.int .i64 (.v 35))] 23)] 40 [.i, .i] (.tup [(.c (.int .i64 (.v 40))), (.c (.int .i64 (.v 41)))]) []
  (.call 29 [(.a (.c (.int .i64 (.lit 4)))), (.a (.c (.int .i64 (.lit 0)))), (.a (.c (.int .i64 (.lit 1))))] [] 42 [.i, .i, .i] (.a (.agg [(.int .i64 (.v 42)), (.int .i64 (.v 43)), (.int .i64 (.v 44))])) []
  (.call 29 [(.a (.c (.int .i64 (.lit 6)))), (.a (.c (.int .i64 (.lit 0)))), (.a (.c (.int .i64 (.lit 1))))] [] 46 [.i, .i, .i] (.a (.agg [(.int .i64 (.v 46)), (.int .i64 (.v 47)), (.int .i64 (.v 48))])) []
  (.call 21 [(.a (.c (.oslice 45 0 1 1))), (.a (.agg [(.int .i64 (.v 46)), (.int .i64 (.v 47)), (.int .i64 (.v 48))]))] [(.own 45 [(.int .i64 (.v 42)), (.int .i64 (.v 43)), (.int .i64 (.v 44))] 23)] 49 [.i, .i] (.tup [(.c (.int .i64 (.v 49))), (.c (.int .i64 (.v 50)))]) []
  (.call 29 [(.a (.c (.int .i64 (.lit 4)))), (.a (.c (.int .i64 (.lit 0)))), (.a (.c (.int .i64 (.lit 2))))] [] 51 [.i, .i, .i] (.a (.agg [(.int .i64 (.v 51)), (.int .i64 (.v 52)), (.int .i64 (.v 53))])) []
  (.call 29 [(.a (.c (.int .i64 (.lit 6)))), (.a (.c (.int .i64 (.lit 0)))), (.a (.c (.int .i64 (.lit 1))))] [] 55 [.i, .i, .i] (.a (.agg [(.int .i64 (.v 55)), (.int .i64 (.v 56)), (.int .i64 (.v 57))])) []
  (.call 21 [(.a (.c (.oslice 54 0 1 1))), (.a (.agg [(.int .i64 (.v 55)), (.int .i64 (.v 56)), (.int .i64 (.v 57))]))] [(.own 54 [(.int .i64 (.v 51)), (.int .i64 (.v 52)), (.int .i64 (.v 53))] 23)] 58 [.i, .i] (.tup [(.c (.int .i64 (.v 58))), (.c (.int .i64 (.v 59)))]) []
  (.call 29 [(.a (.c (.int .i64 (.lit 4)))), (.a (.c (.int .i64 (.lit 0)))), (.a (.c (.int .i64 (.lit 1))))] [] 60 [.i, .i, .i] (.a (.agg [(.int .i64 (.v 60)), (.int .i64 (.v 61)), (.int .i64 (.v 62))])) []
  (.call 29 [(.a (.c (.int .i64 (.lit 6)))), (.a (.c (.int .i64 (.lit 0)))), (.a (.c (.int .i64 (.lit 1))))] [] 63 [.i, .i, .i] (.a (.agg [(.int .i64 (.v 63)), (.int .i64 (.v 64)), (.int .i64 (.v 65))])) []
  (.call 23 [(.a (.c (.oslice 66 0 2 2)))] [(.own 66 [(.int .i64 (.v 60)), (.int .i64 (.v 61)), (.int .i64 (.v 62)), (.int .i64 (.v 63)), (.int .i64 (.v 64)), (.int .i64 (.v 65))] 23)] 67 [.i, .i] (.tup [(.c (.int .i64 (.v 67))), (.c (.int .i64 (.v 68)))]) []
  (.call 23 [(.a (.c (.lit (.slice none 0 0))))] [] 69 [.i, .i] (.tup [(.c (.int .i64 (.v 69))), (.c (.int .i64 (.v 70)))]) []
  (.call 29 [(.a (.c (.int .i64 (.lit 4)))), (.a (.c (.int .i64 (.lit 0)))), (.a (.c (.int .i64 (.lit 2))))] [] 71 [.i, .i, .i] (.a (.agg [(.int .i64 (.v 71)), (.int .i64 (.v 72)), (.int .i64 (.v 73))])) []
  (.call 29 [(.a (.c (.int .i64 (.lit 6)))), (.a (.c (.int .i64 (.lit 2)))), (.a (.c (.int .i64 (.lit 1))))] [] 74 [.i, .i, .i] (.a (.agg [(.int .i64 (.v 74)), (.int .i64 (.v 75)), (.int .i64 (.v 76))])) []
  (.call 16 [(.a (.agg [(.int .i64 (.v 71)), (.int .i64 (.v 72)), (.int .i64 (.v 73))])), (.a (.agg [(.int .i64 (.v 74)), (.int .i64 (.v 75)), (.int .i64 (.v 76))]))] [] 77 [.b, .i] (.tup [(.c (.bool (.v 77))), (.c (.int .i64 (.v 78)))]) []
  (.call 29 [(.a (.c (.int .i64 (.lit 4)))), (.a (.c (.int .i64 (.lit 0)))), (.a (.c (.int .i64 (.lit 1))))] [] 79 [.i, .i, .i] (.a (.agg [(.int .i64 (.v 79)), (.int .i64 (.v 80)), (.int .i64 (.v 81))])) []
  (.call 29 [(.a (.c (.int .i64 (.lit 6)))), (.a (.c (.int .i64 (.lit 0)))), (.a (.c (.int .i64 (.lit 1))))] [] 82 [.i, .i, .i] (.a (.agg [(.int .i64 (.v 82)), (.int .i64 (.v 83)), (.int .i64 (.v 84))])) []
  (.call 32 [(.a (.agg [(.int .i64 (.v 79)), (.int .i64 (.v 80)), (.int .i64 (.v 81))])), (.a (.agg [(.int .i64 (.v 82)), (.int .i64 (.v 83)), (.int .i64 (.v 84))])), (.a (.c (.int .i64 (.lit 1)))), (.a (.c (.int .i64 (.lit 1)))), (.a (.c (.int .i64 (.lit 2))))] [] 85 [.b] (.a (.c (.bool (.v 85)))) []
  (.ite (.and (.v 85) (.cmp .eql (.v 29) (.lit 4)))
    (.call 29 [(.a (.c (.int .i64 (.lit 12)))), (.a (.c (.int .i64 (.lit 5)))), (.a (.c (.int .i64 (.lit 3))))] [] 86 [.i, .i, .i] (.a (.agg [(.int .i64 (.v 86)), (.int .i64 (.v 87)), (.int .i64 (.v 88))])) []
    (.call 29 [(.a (.c (.int .i64 (.lit 8)))), (.a (.c (.int .i64 (.lit 0)))), (.a (.c (.int .i64 (.lit 1))))] [] 89 [.i, .i, .i] (.a (.agg [(.int .i64 (.v 89)), (.int .i64 (.v 90)), (.int .i64 (.v 91))])) []
    (.call 32 [(.a (.agg [(.int .i64 (.v 86)), (.int .i64 (.v 87)), (.int .i64 (.v 88))])), (.a (.agg [(.int .i64 (.v 89)), (.int .i64 (.v 90)), (.int .i64 (.v 91))])), (.a (.c (.int .i64 (.lit 3)))), (.a (.c (.int .i64 (.lit 3)))), (.a (.c (.int .i64 (.lit 4))))] [] 92 [.b] (.a (.c (.bool (.v 92)))) []
    (.call 29 [(.a (.c (.int .i64 (.lit 6)))), (.a (.c (.int .i64 (.lit 4)))), (.a (.c (.int .i64 (.lit 3))))] [] 93 [.i, .i, .i] (.a (.agg [(.int .i64 (.v 93)), (.int .i64 (.v 94)), (.int .i64 (.v 95))])) []
    (.call 25 [(.a (.agg [(.int .i64 (.v 93)), (.int .i64 (.v 94)), (.int .i64 (.v 95))])), (.a (.c (.int .i64 (.lit 0))))] [] 96 [.b] (.a (.c (.bool (.v 96)))) []
    (.ite (.v 96)
      (.call 29 [(.a (.c (.int .i64 (.lit 6)))), (.a (.c (.int .i64 (.lit 4)))), (.a (.c (.int .i64 (.lit 3))))] [] 97 [.i, .i, .i] (.a (.agg [(.int .i64 (.v 97)), (.int .i64 (.v 98)), (.int .i64 (.v 99))])) []
      (.call 25 [(.a (.agg [(.int .i64 (.v 97)), (.int .i64 (.v 98)), (.int .i64 (.v 99))])), (.a (.c (.int .i64 (.lit 1))))] [] 100 [.b] (.a (.c (.bool (.v 100)))) []
      (.ite (.not (.v 100))
        (.call 29 [(.a (.c (.int .i64 (.lit 6)))), (.a (.c (.int .i64 (.lit 4)))), (.a (.c (.int .i64 (.lit 3))))] [] 101 [.i, .i, .i] (.a (.agg [(.int .i64 (.v 101)), (.int .i64 (.v 102)), (.int .i64 (.v 103))])) []
        (.call 25 [(.a (.agg [(.int .i64 (.v 101)), (.int .i64 (.v 102)), (.int .i64 (.v 103))])), (.a (.c (.int .i64 (.lit (-2)))))] [] 104 [.b] (.a (.c (.bool (.v 104)))) []
        (.ite (.and (.and (.and (.and (.and (.and (.and (.and (.and (.and (.and (.v 92) (.cmp .eql (.v 40) (.lit 2))) (.cmp .eql (.v 41) (.lit 0))) (.cmp .eql (.v 49) (.lit 1))) (.cmp .eql (.v 50) (.lit 0))) (.cmp .eql (.v 59) (.lit 4))) (.cmp .eql (.v 67) (.lit 12))) (.cmp .eql (.v 68) (.lit 0))) (.cmp .eql (.v 69) (.lit 1))) (.cmp .eql (.v 70) (.lit 0))) (.not (.v 77))) (.cmp .eql (.v 78) (.lit 0)))
          (.call 29 [(.a (.c (.int .i64 (.lit 4)))), (.a (.c (.int .i64 (.lit 0)))), (.a (.c (.int .i64 (.lit 1))))] [] 105 [.i, .i, .i] (.a (.agg [(.int .i64 (.v 105)), (.int .i64 (.v 106)), (.int .i64 (.v 107))])) []
          (.call 29 [(.a (.c (.int .i64 (.lit 6)))), (.a (.c (.int .i64 (.lit 3)))), (.a (.c (.int .i64 (.lit 1))))] [] 108 [.i, .i, .i] (.a (.agg [(.int .i64 (.v 108)), (.int .i64 (.v 109)), (.int .i64 (.v 110))])) []
          (.call 26 [(.a (.agg [(.int .i64 (.v 105)), (.int .i64 (.v 106)), (.int .i64 (.v 107))])), (.a (.agg [(.int .i64 (.v 108)), (.int .i64 (.v 109)), (.int .i64 (.v 110))]))] [] 111 [.b] (.a (.c (.bool (.v 111)))) []
          (.done (.a (.c (.bool (.and (.v 111) (.v 104))))) []))))
          (.done (.a (.c (.bool (.lit false)))) []))))
        (.ite (.and (.and (.and (.and (.and (.and (.and (.and (.and (.and (.and (.v 92) (.cmp .eql (.v 40) (.lit 2))) (.cmp .eql (.v 41) (.lit 0))) (.cmp .eql (.v 49) (.lit 1))) (.cmp .eql (.v 50) (.lit 0))) (.cmp .eql (.v 59) (.lit 4))) (.cmp .eql (.v 67) (.lit 12))) (.cmp .eql (.v 68) (.lit 0))) (.cmp .eql (.v 69) (.lit 1))) (.cmp .eql (.v 70) (.lit 0))) (.not (.v 77))) (.cmp .eql (.v 78) (.lit 0)))
          (.call 29 [(.a (.c (.int .i64 (.lit 4)))), (.a (.c (.int .i64 (.lit 0)))), (.a (.c (.int .i64 (.lit 1))))] [] 101 [.i, .i, .i] (.a (.agg [(.int .i64 (.v 101)), (.int .i64 (.v 102)), (.int .i64 (.v 103))])) []
          (.call 29 [(.a (.c (.int .i64 (.lit 6)))), (.a (.c (.int .i64 (.lit 3)))), (.a (.c (.int .i64 (.lit 1))))] [] 104 [.i, .i, .i] (.a (.agg [(.int .i64 (.v 104)), (.int .i64 (.v 105)), (.int .i64 (.v 106))])) []
          (.call 26 [(.a (.agg [(.int .i64 (.v 101)), (.int .i64 (.v 102)), (.int .i64 (.v 103))])), (.a (.agg [(.int .i64 (.v 104)), (.int .i64 (.v 105)), (.int .i64 (.v 106))]))] [] 107 [.b] (.a (.c (.bool (.v 107)))) []
          (.done (.a (.c (.bool (.lit false)))) []))))
          (.done (.a (.c (.bool (.lit false)))) [])))))
      (.ite (.and (.and (.and (.and (.and (.and (.and (.and (.and (.and (.and (.v 92) (.cmp .eql (.v 40) (.lit 2))) (.cmp .eql (.v 41) (.lit 0))) (.cmp .eql (.v 49) (.lit 1))) (.cmp .eql (.v 50) (.lit 0))) (.cmp .eql (.v 59) (.lit 4))) (.cmp .eql (.v 67) (.lit 12))) (.cmp .eql (.v 68) (.lit 0))) (.cmp .eql (.v 69) (.lit 1))) (.cmp .eql (.v 70) (.lit 0))) (.not (.v 77))) (.cmp .eql (.v 78) (.lit 0)))
        (.call 29 [(.a (.c (.int .i64 (.lit 4)))), (.a (.c (.int .i64 (.lit 0)))), (.a (.c (.int .i64 (.lit 1))))] [] 97 [.i, .i, .i] (.a (.agg [(.int .i64 (.v 97)), (.int .i64 (.v 98)), (.int .i64 (.v 99))])) []
        (.call 29 [(.a (.c (.int .i64 (.lit 6)))), (.a (.c (.int .i64 (.lit 3)))), (.a (.c (.int .i64 (.lit 1))))] [] 100 [.i, .i, .i] (.a (.agg [(.int .i64 (.v 100)), (.int .i64 (.v 101)), (.int .i64 (.v 102))])) []
        (.call 26 [(.a (.agg [(.int .i64 (.v 97)), (.int .i64 (.v 98)), (.int .i64 (.v 99))])), (.a (.agg [(.int .i64 (.v 100)), (.int .i64 (.v 101)), (.int .i64 (.v 102))]))] [] 103 [.b] (.a (.c (.bool (.v 103)))) []
        (.done (.a (.c (.bool (.lit false)))) []))))
        (.done (.a (.c (.bool (.lit false)))) []))))))))
    (.call 29 [(.a (.c (.int .i64 (.lit 6)))), (.a (.c (.int .i64 (.lit 4)))), (.a (.c (.int .i64 (.lit 3))))] [] 86 [.i, .i, .i] (.a (.agg [(.int .i64 (.v 86)), (.int .i64 (.v 87)), (.int .i64 (.v 88))])) []
    (.call 25 [(.a (.agg [(.int .i64 (.v 86)), (.int .i64 (.v 87)), (.int .i64 (.v 88))])), (.a (.c (.int .i64 (.lit 0))))] [] 89 [.b] (.a (.c (.bool (.v 89)))) []
    (.ite (.v 89)
      (.call 29 [(.a (.c (.int .i64 (.lit 6)))), (.a (.c (.int .i64 (.lit 4)))), (.a (.c (.int .i64 (.lit 3))))] [] 90 [.i, .i, .i] (.a (.agg [(.int .i64 (.v 90)), (.int .i64 (.v 91)), (.int .i64 (.v 92))])) []
      (.call 25 [(.a (.agg [(.int .i64 (.v 90)), (.int .i64 (.v 91)), (.int .i64 (.v 92))])), (.a (.c (.int .i64 (.lit 1))))] [] 93 [.b] (.a (.c (.bool (.v 93)))) []
      (.ite (.not (.v 93))
        (.call 29 [(.a (.c (.int .i64 (.lit 6)))), (.a (.c (.int .i64 (.lit 4)))), (.a (.c (.int .i64 (.lit 3))))] [] 94 [.i, .i, .i] (.a (.agg [(.int .i64 (.v 94)), (.int .i64 (.v 95)), (.int .i64 (.v 96))])) []
        (.call 25 [(.a (.agg [(.int .i64 (.v 94)), (.int .i64 (.v 95)), (.int .i64 (.v 96))])), (.a (.c (.int .i64 (.lit (-2)))))] [] 97 [.b] (.a (.c (.bool (.v 97)))) []
        (.done (.a (.c (.bool (.lit false)))) [])))
        (.done (.a (.c (.bool (.lit false)))) []))))
      (.done (.a (.c (.bool (.lit false)))) [])))))))))))))))))))))))))))) := by kernel_rfl
theorem t_span : callTree C2 300 29 [i64 0, i64 1, i64 2] [] 20 = some
  (.done (.a (.agg [(.int .i64 (.v 0)), (.int .i64 (.v 1)), (.int .i64 (.v 2))])) []) := by kernel_rfl
theorem t_covers : callTree C2 300 25 [sp 0, i64 3] [] 20 = some
  (.call 11 [(.a (.agg [(.int .i64 (.v 0)), (.int .i64 (.v 1)), (.int .i64 (.v 2))])), (.a (.c (.int .i64 (.v 3))))] [] 21 [.b, .i] (.tup [(.c (.bool (.v 21))), (.c (.int .i64 (.v 22)))]) []
  (.done (.a (.c (.bool (.and (.v 21) (.cmp .eql (.v 22) (.lit 0)))))) [])) := by kernel_rfl
theorem t_apart : callTree C2 300 26 [sp 0, sp 3] [] 20 = some
  (.call 16 [(.a (.agg [(.int .i64 (.v 0)), (.int .i64 (.v 1)), (.int .i64 (.v 2))])), (.a (.agg [(.int .i64 (.v 3)), (.int .i64 (.v 4)), (.int .i64 (.v 5))]))] [] 22 [.b, .i] (.tup [(.c (.bool (.v 22))), (.c (.int .i64 (.v 23)))]) []
  (.done (.a (.c (.bool (.and (.v 22) (.cmp .eql (.v 23) (.lit 0)))))) [])) := by kernel_rfl
theorem t_room : callTree C2 300 32 [sp 0, sp 3, i64 6, i64 7, i64 8] [] 20 = some
  (.call 18 [(.a (.agg [(.int .i64 (.v 0)), (.int .i64 (.v 1)), (.int .i64 (.v 2))])), (.a (.agg [(.int .i64 (.v 3)), (.int .i64 (.v 4)), (.int .i64 (.v 5))]))] [] 22 [.i, .i, .i, .i] (.tup [(.c (.int .i64 (.v 22))), (.c (.int .i64 (.v 23))), (.c (.int .i64 (.v 24))), (.c (.int .i64 (.v 25)))]) []
  (.done (.a (.c (.bool (.and (.and (.and (.cmp .eql (.v 25) (.lit 0)) (.cmp .eql (.v 22) (.v 6))) (.cmp .eql (.v 23) (.v 7))) (.cmp .eql (.v 24) (.v 8)))))) [])) := by kernel_rfl
theorem t_Checks : callTree C2 300 3 [sp 0, u8x 3 3, i64 6] [] 20 = some
  (.call 10 [(.a (.c (.int .u8 (.v 3)))), (.a (.c (.int .u8 (.v 4)))), (.a (.c (.int .u8 (.v 5))))] [] 22 [.i, .i, .i] (.a (.agg [(.int .i64 (.v 22)), (.int .i64 (.v 23)), (.int .i64 (.v 24))])) []
  (.call 11 [(.a (.agg [(.int .i64 (.v 0)), (.int .i64 (.v 1)), (.int .i64 (.v 2))])), (.a (.c (.int .i64 (.v 6))))] [] 26 [.b, .i] (.tup [(.c (.bool (.v 26))), (.c (.int .i64 (.v 27)))]) []
  (.call 12 [(.a (.agg [(.int .i64 (.v 0)), (.int .i64 (.v 1)), (.int .i64 (.v 2))])), (.a (.c (.int .i64 (.v 6))))] [] 28 [.b, .i] (.tup [(.c (.bool (.v 28))), (.c (.int .i64 (.v 29)))]) []
  (.ite (.or (.not (.eq (.v 26) (.v 28))) (.cmp .neq (.v 27) (.v 29)))
    (.done (.a (.c (.bool (.lit false)))) [])
    (.call 11 [(.a (.agg [(.int .i64 (.v 0)), (.int .i64 (.v 1)), (.int .i64 (.v 2))])), (.a (.c (.int .i64 (.bin .rem .i64 (.v 6) (.lit 100)))))] [] 30 [.b, .i] (.tup [(.c (.bool (.v 30))), (.c (.int .i64 (.v 31)))]) []
    (.call 12 [(.a (.agg [(.int .i64 (.v 0)), (.int .i64 (.v 1)), (.int .i64 (.v 2))])), (.a (.c (.int .i64 (.bin .rem .i64 (.v 6) (.lit 100)))))] [] 32 [.b, .i] (.tup [(.c (.bool (.v 32))), (.c (.int .i64 (.v 33)))]) []
    (.ite (.or (.not (.eq (.v 30) (.v 32))) (.cmp .neq (.v 31) (.v 33)))
      (.done (.a (.c (.bool (.lit false)))) [])
      (.call 11 [(.a (.agg [(.int .i64 (.v 0)), (.int .i64 (.v 1)), (.int .i64 (.v 2))])), (.a (.c (.int .i64 (.bin .sub .i64 (.lit 0) (.bin .rem .i64 (.v 6) (.lit 1000))))))] [] 34 [.b, .i] (.tup [(.c (.bool (.v 34))), (.c (.int .i64 (.v 35)))]) []
      (.call 12 [(.a (.agg [(.int .i64 (.v 0)), (.int .i64 (.v 1)), (.int .i64 (.v 2))])), (.a (.c (.int .i64 (.bin .sub .i64 (.lit 0) (.bin .rem .i64 (.v 6) (.lit 1000))))))] [] 36 [.b, .i] (.tup [(.c (.bool (.v 36))), (.c (.int .i64 (.v 37)))]) []
      (.ite (.or (.not (.eq (.v 34) (.v 36))) (.cmp .neq (.v 35) (.v 37)))
        (.done (.a (.c (.bool (.lit false)))) [])
        (.call 13 [(.a (.agg [(.int .i64 (.v 0)), (.int .i64 (.v 1)), (.int .i64 (.v 2))]))] [] 38 [.i] (.a (.c (.int .i64 (.v 38)))) []
        (.call 14 [(.a (.agg [(.int .i64 (.v 0)), (.int .i64 (.v 1)), (.int .i64 (.v 2))]))] [] 39 [.i] (.a (.c (.int .i64 (.v 39)))) []
        (.ite (.cmp .neq (.v 38) (.v 39))
          (.done (.a (.c (.bool (.lit false)))) [])
          (.call 11 [(.a (.agg [(.int .i64 (.v 22)), (.int .i64 (.v 23)), (.int .i64 (.v 24))])), (.a (.c (.int .i64 (.v 6))))] [] 41 [.b, .i] (.tup [(.c (.bool (.v 41))), (.c (.int .i64 (.v 42)))]) []
          (.call 12 [(.a (.agg [(.int .i64 (.v 22)), (.int .i64 (.v 23)), (.int .i64 (.v 24))])), (.a (.c (.int .i64 (.v 6))))] [] 43 [.b, .i] (.tup [(.c (.bool (.v 43))), (.c (.int .i64 (.v 44)))]) []
          (.ite (.or (.not (.eq (.v 41) (.v 43))) (.cmp .neq (.v 42) (.v 44)))
            (.done (.a (.c (.bool (.lit false)))) [])
            (.call 11 [(.a (.agg [(.int .i64 (.v 22)), (.int .i64 (.v 23)), (.int .i64 (.v 24))])), (.a (.c (.int .i64 (.bin .rem .i64 (.v 6) (.lit 100)))))] [] 45 [.b, .i] (.tup [(.c (.bool (.v 45))), (.c (.int .i64 (.v 46)))]) []
            (.call 12 [(.a (.agg [(.int .i64 (.v 22)), (.int .i64 (.v 23)), (.int .i64 (.v 24))])), (.a (.c (.int .i64 (.bin .rem .i64 (.v 6) (.lit 100)))))] [] 47 [.b, .i] (.tup [(.c (.bool (.v 47))), (.c (.int .i64 (.v 48)))]) []
            (.ite (.or (.not (.eq (.v 45) (.v 47))) (.cmp .neq (.v 46) (.v 48)))
              (.done (.a (.c (.bool (.lit false)))) [])
              (.call 11 [(.a (.agg [(.int .i64 (.v 22)), (.int .i64 (.v 23)), (.int .i64 (.v 24))])), (.a (.c (.int .i64 (.bin .sub .i64 (.lit 0) (.bin .rem .i64 (.v 6) (.lit 1000))))))] [] 49 [.b, .i] (.tup [(.c (.bool (.v 49))), (.c (.int .i64 (.v 50)))]) []
              (.call 12 [(.a (.agg [(.int .i64 (.v 22)), (.int .i64 (.v 23)), (.int .i64 (.v 24))])), (.a (.c (.int .i64 (.bin .sub .i64 (.lit 0) (.bin .rem .i64 (.v 6) (.lit 1000))))))] [] 51 [.b, .i] (.tup [(.c (.bool (.v 51))), (.c (.int .i64 (.v 52)))]) []
              (.ite (.or (.not (.eq (.v 49) (.v 51))) (.cmp .neq (.v 50) (.v 52)))
                (.done (.a (.c (.bool (.lit false)))) [])
                (.call 13 [(.a (.agg [(.int .i64 (.v 22)), (.int .i64 (.v 23)), (.int .i64 (.v 24))]))] [] 53 [.i] (.a (.c (.int .i64 (.v 53)))) []
                (.call 14 [(.a (.agg [(.int .i64 (.v 22)), (.int .i64 (.v 23)), (.int .i64 (.v 24))]))] [] 54 [.i] (.a (.c (.int .i64 (.v 54)))) []
                (.ite (.cmp .neq (.v 53) (.v 54))
                  (.done (.a (.c (.bool (.lit false)))) [])
                  (.call 15 [] [] 55 [.b] (.a (.c (.bool (.v 55)))) []
                  (.done (.a (.c (.bool (.v 55)))) []))))))))))))))))))))))))))) := by kernel_rfl
theorem t_Aparts : callTree C2 300 4 [sp 0, sp 3, u8x 6 6] [] 20 = some
  (.call 10 [(.a (.c (.int .u8 (.v 6)))), (.a (.c (.int .u8 (.v 7)))), (.a (.c (.int .u8 (.v 8))))] [] 23 [.i, .i, .i] (.a (.agg [(.int .i64 (.v 23)), (.int .i64 (.v 24)), (.int .i64 (.v 25))])) []
  (.call 10 [(.a (.c (.int .u8 (.v 9)))), (.a (.c (.int .u8 (.v 10)))), (.a (.c (.int .u8 (.v 11))))] [] 26 [.i, .i, .i] (.a (.agg [(.int .i64 (.v 26)), (.int .i64 (.v 27)), (.int .i64 (.v 28))])) []
  (.call 16 [(.a (.agg [(.int .i64 (.v 0)), (.int .i64 (.v 1)), (.int .i64 (.v 2))])), (.a (.agg [(.int .i64 (.v 3)), (.int .i64 (.v 4)), (.int .i64 (.v 5))]))] [] 32 [.b, .i] (.tup [(.c (.bool (.v 32))), (.c (.int .i64 (.v 33)))]) []
  (.call 17 [(.a (.agg [(.int .i64 (.v 0)), (.int .i64 (.v 1)), (.int .i64 (.v 2))])), (.a (.agg [(.int .i64 (.v 3)), (.int .i64 (.v 4)), (.int .i64 (.v 5))]))] [] 34 [.b, .i] (.tup [(.c (.bool (.v 34))), (.c (.int .i64 (.v 35)))]) []
  (.call 18 [(.a (.agg [(.int .i64 (.v 0)), (.int .i64 (.v 1)), (.int .i64 (.v 2))])), (.a (.agg [(.int .i64 (.v 3)), (.int .i64 (.v 4)), (.int .i64 (.v 5))]))] [] 36 [.i, .i, .i, .i] (.tup [(.c (.int .i64 (.v 36))), (.c (.int .i64 (.v 37))), (.c (.int .i64 (.v 38))), (.c (.int .i64 (.v 39)))]) []
  (.call 19 [(.a (.agg [(.int .i64 (.v 0)), (.int .i64 (.v 1)), (.int .i64 (.v 2))])), (.a (.agg [(.int .i64 (.v 3)), (.int .i64 (.v 4)), (.int .i64 (.v 5))]))] [] 40 [.i, .i, .i, .i] (.tup [(.c (.int .i64 (.v 40))), (.c (.int .i64 (.v 41))), (.c (.int .i64 (.v 42))), (.c (.int .i64 (.v 43)))]) []
  (.ite (.or (.or (.or (.or (.or (.not (.eq (.v 32) (.v 34))) (.cmp .neq (.v 33) (.v 35))) (.cmp .neq (.v 36) (.v 40))) (.cmp .neq (.v 37) (.v 41))) (.cmp .neq (.v 38) (.v 42))) (.cmp .neq (.v 39) (.v 43)))
    (.done (.a (.c (.bool (.lit false)))) [])
    (.call 16 [(.a (.agg [(.int .i64 (.v 23)), (.int .i64 (.v 24)), (.int .i64 (.v 25))])), (.a (.agg [(.int .i64 (.v 26)), (.int .i64 (.v 27)), (.int .i64 (.v 28))]))] [] 45 [.b, .i] (.tup [(.c (.bool (.v 45))), (.c (.int .i64 (.v 46)))]) []
    (.call 17 [(.a (.agg [(.int .i64 (.v 23)), (.int .i64 (.v 24)), (.int .i64 (.v 25))])), (.a (.agg [(.int .i64 (.v 26)), (.int .i64 (.v 27)), (.int .i64 (.v 28))]))] [] 47 [.b, .i] (.tup [(.c (.bool (.v 47))), (.c (.int .i64 (.v 48)))]) []
    (.call 18 [(.a (.agg [(.int .i64 (.v 23)), (.int .i64 (.v 24)), (.int .i64 (.v 25))])), (.a (.agg [(.int .i64 (.v 26)), (.int .i64 (.v 27)), (.int .i64 (.v 28))]))] [] 49 [.i, .i, .i, .i] (.tup [(.c (.int .i64 (.v 49))), (.c (.int .i64 (.v 50))), (.c (.int .i64 (.v 51))), (.c (.int .i64 (.v 52)))]) []
    (.call 19 [(.a (.agg [(.int .i64 (.v 23)), (.int .i64 (.v 24)), (.int .i64 (.v 25))])), (.a (.agg [(.int .i64 (.v 26)), (.int .i64 (.v 27)), (.int .i64 (.v 28))]))] [] 53 [.i, .i, .i, .i] (.tup [(.c (.int .i64 (.v 53))), (.c (.int .i64 (.v 54))), (.c (.int .i64 (.v 55))), (.c (.int .i64 (.v 56)))]) []
    (.ite (.or (.or (.or (.or (.or (.not (.eq (.v 45) (.v 47))) (.cmp .neq (.v 46) (.v 48))) (.cmp .neq (.v 49) (.v 53))) (.cmp .neq (.v 50) (.v 54))) (.cmp .neq (.v 51) (.v 55))) (.cmp .neq (.v 52) (.v 56)))
      (.done (.a (.c (.bool (.lit false)))) [])
      (.call 16 [(.a (.agg [(.int .i64 (.v 23)), (.int .i64 (.v 24)), (.int .i64 (.v 25))])), (.a (.agg [(.int .i64 (.v 3)), (.int .i64 (.v 4)), (.int .i64 (.v 5))]))] [] 58 [.b, .i] (.tup [(.c (.bool (.v 58))), (.c (.int .i64 (.v 59)))]) []
      (.call 17 [(.a (.agg [(.int .i64 (.v 23)), (.int .i64 (.v 24)), (.int .i64 (.v 25))])), (.a (.agg [(.int .i64 (.v 3)), (.int .i64 (.v 4)), (.int .i64 (.v 5))]))] [] 60 [.b, .i] (.tup [(.c (.bool (.v 60))), (.c (.int .i64 (.v 61)))]) []
      (.call 18 [(.a (.agg [(.int .i64 (.v 23)), (.int .i64 (.v 24)), (.int .i64 (.v 25))])), (.a (.agg [(.int .i64 (.v 3)), (.int .i64 (.v 4)), (.int .i64 (.v 5))]))] [] 62 [.i, .i, .i, .i] (.tup [(.c (.int .i64 (.v 62))), (.c (.int .i64 (.v 63))), (.c (.int .i64 (.v 64))), (.c (.int .i64 (.v 65)))]) []
      (.call 19 [(.a (.agg [(.int .i64 (.v 23)), (.int .i64 (.v 24)), (.int .i64 (.v 25))])), (.a (.agg [(.int .i64 (.v 3)), (.int .i64 (.v 4)), (.int .i64 (.v 5))]))] [] 66 [.i, .i, .i, .i] (.tup [(.c (.int .i64 (.v 66))), (.c (.int .i64 (.v 67))), (.c (.int .i64 (.v 68))), (.c (.int .i64 (.v 69)))]) []
      (.ite (.or (.or (.or (.or (.or (.not (.eq (.v 58) (.v 60))) (.cmp .neq (.v 59) (.v 61))) (.cmp .neq (.v 62) (.v 66))) (.cmp .neq (.v 63) (.v 67))) (.cmp .neq (.v 64) (.v 68))) (.cmp .neq (.v 65) (.v 69)))
        (.done (.a (.c (.bool (.lit false)))) [])
        (.call 16 [(.a (.agg [(.int .i64 (.v 0)), (.int .i64 (.v 1)), (.int .i64 (.v 2))])), (.a (.agg [(.int .i64 (.v 26)), (.int .i64 (.v 27)), (.int .i64 (.v 28))]))] [] 71 [.b, .i] (.tup [(.c (.bool (.v 71))), (.c (.int .i64 (.v 72)))]) []
        (.call 17 [(.a (.agg [(.int .i64 (.v 0)), (.int .i64 (.v 1)), (.int .i64 (.v 2))])), (.a (.agg [(.int .i64 (.v 26)), (.int .i64 (.v 27)), (.int .i64 (.v 28))]))] [] 73 [.b, .i] (.tup [(.c (.bool (.v 73))), (.c (.int .i64 (.v 74)))]) []
        (.call 18 [(.a (.agg [(.int .i64 (.v 0)), (.int .i64 (.v 1)), (.int .i64 (.v 2))])), (.a (.agg [(.int .i64 (.v 26)), (.int .i64 (.v 27)), (.int .i64 (.v 28))]))] [] 75 [.i, .i, .i, .i] (.tup [(.c (.int .i64 (.v 75))), (.c (.int .i64 (.v 76))), (.c (.int .i64 (.v 77))), (.c (.int .i64 (.v 78)))]) []
        (.call 19 [(.a (.agg [(.int .i64 (.v 0)), (.int .i64 (.v 1)), (.int .i64 (.v 2))])), (.a (.agg [(.int .i64 (.v 26)), (.int .i64 (.v 27)), (.int .i64 (.v 28))]))] [] 79 [.i, .i, .i, .i] (.tup [(.c (.int .i64 (.v 79))), (.c (.int .i64 (.v 80))), (.c (.int .i64 (.v 81))), (.c (.int .i64 (.v 82)))]) []
        (.ite (.or (.or (.or (.or (.or (.not (.eq (.v 71) (.v 73))) (.cmp .neq (.v 72) (.v 74))) (.cmp .neq (.v 75) (.v 79))) (.cmp .neq (.v 76) (.v 80))) (.cmp .neq (.v 77) (.v 81))) (.cmp .neq (.v 78) (.v 82)))
          (.done (.a (.c (.bool (.lit false)))) [])
          (.call 15 [] [] 83 [.b] (.a (.c (.bool (.v 83)))) []
          (.done (.a (.c (.bool (.v 83)))) [])))))))))))))))))))))))) := by kernel_rfl

end Go.Proofs.Y23
