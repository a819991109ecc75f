/- A part of the proof: see the text that states the theorem. -/
import Derived.Test.YthigggddccklpaaA4
import Derived.Test.YthigggddccklpaaW0
import Derived.Test.YthigggddccklpaaProg
set_option linter.unusedSimpArgs false
set_option linter.unusedVariables false
set_option linter.unusedSectionVars false
noncomputable section
namespace Go.Proofs.Y23
open Go Go.SX Go.RowKit



def rSp : RS := .one (.agg [.int .i64, .int .i64, .int .i64])
def rBE : RS := .tup [.c .bool, .c (.int .i64)]
def rIE : RS := .tup [.c (.int .i64), .c (.int .i64)]
def rRoom : RS := .tup [.c (.int .i64), .c (.int .i64), .c (.int .i64), .c (.int .i64)]
def u8x (n k : Nat) : SV := .a (.agg ((List.range k).map fun i => .int .u8 (.v (n + i))))
def pu3 : List CK := [.int .u8, .int .u8, .int .u8]
noncomputable def C2 : Cfg := { P := Try.prog, ct := ctOf [(10, rSp), (11, rBE), (12, rBE), (13, rI), (14, rI), (15, rB), (16, rBE), (17, rBE), (18, rRoom), (19, rRoom), (21, rIE), (22, rIE), (23, rIE), (24, rIE), (25, rB), (26, rB), (27, rSp), (28, rI), (29, rSp), (32, rB), (20, .one (.c (.row 23 p3)))], ann := annF [((20, 3), [.slot 6, .row 5 23]), ((8, 11), [.slot 10]), ((8, 15), [.slot 11, .slot 12])] }
@[simp] theorem C2_P : C2.P = Try.prog := rfl
theorem t_span : callTree C2 300 29 [i64 0, i64 1, i64 2] [] 20 = some
  (done (.a (.agg [(.int .i64 (.v 0)), (.int .i64 (.v 1)), (.int .i64 (.v 2))])) []) := by kernel_rfl
theorem t_covers : callTree C2 300 25 [sp 0, i64 3] [] 20 = some
  (.call 11 [(.a (.agg [(.int .i64 (.v 0)), (.int .i64 (.v 1)), (.int .i64 (.v 2))])), (.a (.c (.int .i64 (.v 3))))] [] 21 [.b, .i] (.tup [(.c (.bool (.v 21))), (.c (.int .i64 (.v 22)))]) []
  (done (.a (.c (.bool (.and (.v 21) (.cmp .eql (.v 22) (.lit 0)))))) [])) := by kernel_rfl
theorem t_apart : callTree C2 300 26 [sp 0, sp 3] [] 20 = some
  (.call 16 [(.a (.agg [(.int .i64 (.v 0)), (.int .i64 (.v 1)), (.int .i64 (.v 2))])), (.a (.agg [(.int .i64 (.v 3)), (.int .i64 (.v 4)), (.int .i64 (.v 5))]))] [] 22 [.b, .i] (.tup [(.c (.bool (.v 22))), (.c (.int .i64 (.v 23)))]) []
  (done (.a (.c (.bool (.and (.v 22) (.cmp .eql (.v 23) (.lit 0)))))) [])) := by kernel_rfl
theorem t_drafts : callTree C2 300 20 [slArg 0 3, i64 3] [.arr 1 0 pu3 none] 20 = some
  (.arr 20 .nil (.lit true)
  (.loop [.i, .l, .n] 21 [(.i (.lit 0)), (.l (.arr 20)), (.n (.nl 20))]
    (.ite (.and (.cmp .lss (.v 21) (.alen 0)) (.cmp .lss (.v 21) (.v 3)))
      (.need [(.cmp .leq (.lit 0) (.v 21))]
      (.call 10 [(.a (.c (.int .u8 (.sel 0 0 (.v 21))))), (.a (.c (.int .u8 (.sel 0 1 (.v 21))))), (.a (.c (.int .u8 (.sel 0 2 (.v 21)))))] [] 24 [.i, .i, .i] (.a (.agg [(.int .i64 (.v 24)), (.int .i64 (.v 25)), (.int .i64 (.v 26))])) []
      (.need [(.cmp .leq (.plus (.alen 22) (.lit 1)) (.lit 5864062014805))]
      (.arr 28 (.cat (.arr 22) (.rows [[(.i (.v 24)), (.i (.v 25)), (.i (.v 26))]])) (.lit false)
      (.cont 0 [(.i (.bin .add .i64 (.v 21) (.lit 1))), (.l (.arr 28)), (.n (.nl 28))])))))
      (done (.a (.c (.slice 23 3 0 (.lit 0) (.alen 22) (.k 23)))) [(.arr 23 22 [(.int .i64), (.int .i64), (.int .i64)] (some 23))])))) := by kernel_rfl
theorem t_Least : callTree C2 300 8 [slArg 0 3, u8x 3 3] [.arr 1 0 pu3 none] 20 = some
  (.call 15 [] [] 21 [.b] (.a (.c (.bool (.v 21)))) []
  (.ite (.not (.v 21))
    (done (.a (.c (.bool (.lit false)))) [])
    (.call 20 [(.a (.c (.slice 1 3 0 (.lit 0) (.alen 0) (.e (.v 2))))), (.a (.c (.int .i64 (.lit 12))))] [(.arr 1 0 [(.int .u8), (.int .u8), (.int .u8)] none)] 22 [.l, .n] (.a (.c (.slice 23 3 0 (.lit 0) (.alen 22) (.k 23)))) [(.arr 23 22 [(.int .i64), (.int .i64), (.int .i64)] (some 23))]
    (.call 10 [(.a (.c (.int .u8 (.v 3)))), (.a (.c (.int .u8 (.v 4)))), (.a (.c (.int .u8 (.v 5))))] [] 24 [.i, .i, .i] (.a (.agg [(.int .i64 (.v 24)), (.int .i64 (.v 25)), (.int .i64 (.v 26))])) []
    (.call 21 [(.a (.c (.slice 23 3 0 (.lit 0) (.alen 22) (.k 23)))), (.a (.agg [(.int .i64 (.v 24)), (.int .i64 (.v 25)), (.int .i64 (.v 26))]))] [(.arr 23 22 [(.int .i64), (.int .i64), (.int .i64)] (some 23))] 28 [.i, .i] (.tup [(.c (.int .i64 (.v 28))), (.c (.int .i64 (.v 29)))]) []
    (.ite (.cmp .eql (.v 29) (.lit 4))
      (.loop [.i] 30 [(.i (.lit 0))]
        (.ite (.and (.cmp .leq (.v 30) (.v 24)) (.cmp .lss (.v 30) (.v 24)))
          (.loop [.b, .i] 31 [(.b (.lit true)), (.i (.lit 0))]
            (.ite (.cmp .lss (.v 32) (.alen 22))
              (.need [(.or (.not (.v 31)) (.cmp .leq (.lit 0) (.v 32)))]
              (.ite (.v 31)
                (.call 27 [(.a (.agg [(.int .i64 (.v 24)), (.int .i64 (.v 25)), (.int .i64 (.v 26))])), (.a (.c (.int .i64 (.v 30))))] [] 33 [.i, .i, .i] (.a (.agg [(.int .i64 (.v 33)), (.int .i64 (.v 34)), (.int .i64 (.v 35))])) []
                (.call 26 [(.a (.agg [(.int .i64 (.sel 22 0 (.v 32))), (.int .i64 (.sel 22 1 (.v 32))), (.int .i64 (.sel 22 2 (.v 32)))])), (.a (.agg [(.int .i64 (.v 33)), (.int .i64 (.v 34)), (.int .i64 (.v 35))]))] [] 36 [.b] (.a (.c (.bool (.v 36)))) []
                (.cont 0 [(.b (.v 36)), (.i (.bin .add .i64 (.v 32) (.lit 1)))])))
                (.cont 0 [(.b (.lit false)), (.i (.bin .add .i64 (.v 32) (.lit 1)))])))
              (.ite (.v 31)
                (done (.a (.c (.bool (.lit false)))) [])
                (.cont 1 [(.i (.bin .add .i64 (.v 30) (.lit 1)))]))))
          (done (.a (.c (.bool (.lit true)))) [])))
      (.ite (.or (.or (.cmp .neq (.v 29) (.lit 0)) (.cmp .lss (.v 28) (.lit 0))) (.cmp .geq (.v 28) (.v 24)))
        (done (.a (.c (.bool (.lit false)))) [])
        (.loop [.i] 30 [(.i (.lit 0))]
          (.ite (.and (.cmp .leq (.v 30) (.v 28)) (.cmp .lss (.v 30) (.v 24)))
            (.loop [.b, .i] 31 [(.b (.lit true)), (.i (.lit 0))]
              (.ite (.cmp .lss (.v 32) (.alen 22))
                (.need [(.or (.not (.v 31)) (.cmp .leq (.lit 0) (.v 32)))]
                (.ite (.v 31)
                  (.call 27 [(.a (.agg [(.int .i64 (.v 24)), (.int .i64 (.v 25)), (.int .i64 (.v 26))])), (.a (.c (.int .i64 (.v 30))))] [] 33 [.i, .i, .i] (.a (.agg [(.int .i64 (.v 33)), (.int .i64 (.v 34)), (.int .i64 (.v 35))])) []
                  (.call 26 [(.a (.agg [(.int .i64 (.sel 22 0 (.v 32))), (.int .i64 (.sel 22 1 (.v 32))), (.int .i64 (.sel 22 2 (.v 32)))])), (.a (.agg [(.int .i64 (.v 33)), (.int .i64 (.v 34)), (.int .i64 (.v 35))]))] [] 36 [.b] (.a (.c (.bool (.v 36)))) []
                  (.cont 0 [(.b (.v 36)), (.i (.bin .add .i64 (.v 32) (.lit 1)))])))
                  (.cont 0 [(.b (.lit false)), (.i (.bin .add .i64 (.v 32) (.lit 1)))])))
                (.ite (.not (.eq (.v 31) (.cmp .eql (.v 30) (.v 28))))
                  (done (.a (.c (.bool (.lit false)))) [])
                  (.cont 1 [(.i (.bin .add .i64 (.v 30) (.lit 1)))]))))
            (done (.a (.c (.bool (.lit true)))) [])))))))))) := by kernel_rfl
theorem t_Nexts : callTree C2 300 5 [slArg 0 3, sp 3, u8 6, sp 7, u8x 10 3] [.arr 1 0 pu3 none] 20 = some
  (.call 20 [(.a (.c (.slice 1 3 0 (.lit 0) (.alen 0) (.e (.v 2))))), (.a (.c (.int .i64 (.lit 34))))] [(.arr 1 0 [(.int .u8), (.int .u8), (.int .u8)] none)] 23 [.l, .n] (.a (.c (.slice 24 3 0 (.lit 0) (.alen 23) (.k 24)))) [(.arr 24 23 [(.int .i64), (.int .i64), (.int .i64)] (some 23))]
  (.need [(.cmp .leq (.alen 23) (.lit 5864062014805))]
  (.arr 26 (.cat (.rows []) (.arr 23)) (.lit false)
  (.ite (.cmp .gtr (.alen 26) (.lit 0))
    (.need [(.cmp .neq (.alen 26) (.lit 0))]
    (.need [(.cmp .leq (.lit 0) (.bin .rem .i64 (.conv .i64 (.v 6)) (.alen 26))), (.cmp .lss (.bin .rem .i64 (.conv .i64 (.v 6)) (.alen 26)) (.alen 26)), (.cmp .lss (.bin .rem .i64 (.conv .i64 (.v 6)) (.alen 26)) (.alen 26))]
    (.arr 27 (.set 26 (.bin .rem .i64 (.conv .i64 (.v 6)) (.alen 26)) [(.i (.v 3)), (.i (.v 4)), (.i (.v 5))]) (.lit false)
    (.call 10 [(.a (.c (.int .u8 (.v 10)))), (.a (.c (.int .u8 (.v 11)))), (.a (.c (.int .u8 (.v 12))))] [] 28 [.i, .i, .i] (.a (.agg [(.int .i64 (.v 28)), (.int .i64 (.v 29)), (.int .i64 (.v 30))])) []
    (.call 21 [(.a (.c (.slice 24 3 0 (.lit 0) (.alen 23) (.k 24)))), (.a (.agg [(.int .i64 (.v 7)), (.int .i64 (.v 8)), (.int .i64 (.v 9))]))] [(.arr 24 23 [(.int .i64), (.int .i64), (.int .i64)] (some 23))] 32 [.i, .i] (.tup [(.c (.int .i64 (.v 32))), (.c (.int .i64 (.v 33)))]) []
    (.call 22 [(.a (.c (.slice 24 3 0 (.lit 0) (.alen 23) (.k 24)))), (.a (.agg [(.int .i64 (.v 7)), (.int .i64 (.v 8)), (.int .i64 (.v 9))]))] [(.arr 24 23 [(.int .i64), (.int .i64), (.int .i64)] (some 23))] 34 [.i, .i] (.tup [(.c (.int .i64 (.v 34))), (.c (.int .i64 (.v 35)))]) []
    (.ite (.or (.cmp .neq (.v 32) (.v 34)) (.cmp .neq (.v 33) (.v 35)))
      (done (.a (.c (.bool (.lit false)))) [])
      (.call 21 [(.a (.c (.slice 24 3 0 (.lit 0) (.alen 23) (.k 24)))), (.a (.agg [(.int .i64 (.v 28)), (.int .i64 (.v 29)), (.int .i64 (.v 30))]))] [(.arr 24 23 [(.int .i64), (.int .i64), (.int .i64)] (some 23))] 37 [.i, .i] (.tup [(.c (.int .i64 (.v 37))), (.c (.int .i64 (.v 38)))]) []
      (.call 22 [(.a (.c (.slice 24 3 0 (.lit 0) (.alen 23) (.k 24)))), (.a (.agg [(.int .i64 (.v 28)), (.int .i64 (.v 29)), (.int .i64 (.v 30))]))] [(.arr 24 23 [(.int .i64), (.int .i64), (.int .i64)] (some 23))] 39 [.i, .i] (.tup [(.c (.int .i64 (.v 39))), (.c (.int .i64 (.v 40)))]) []
      (.ite (.or (.cmp .neq (.v 37) (.v 39)) (.cmp .neq (.v 38) (.v 40)))
        (done (.a (.c (.bool (.lit false)))) [])
        (.call 23 [(.a (.c (.slice 24 3 0 (.lit 0) (.alen 23) (.k 24))))] [(.arr 24 23 [(.int .i64), (.int .i64), (.int .i64)] (some 23))] 41 [.i, .i] (.tup [(.c (.int .i64 (.v 41))), (.c (.int .i64 (.v 42)))]) []
        (.call 24 [(.a (.c (.slice 24 3 0 (.lit 0) (.alen 23) (.k 24))))] [(.arr 24 23 [(.int .i64), (.int .i64), (.int .i64)] (some 23))] 43 [.i, .i] (.tup [(.c (.int .i64 (.v 43))), (.c (.int .i64 (.v 44)))]) []
        (.ite (.or (.cmp .neq (.v 41) (.v 43)) (.cmp .neq (.v 42) (.v 44)))
          (done (.a (.c (.bool (.lit false)))) [])
          (.call 10 [(.a (.c (.int .u8 (.v 10)))), (.a (.c (.int .u8 (.v 11)))), (.a (.c (.int .u8 (.v 12))))] [] 45 [.i, .i, .i] (.a (.agg [(.int .i64 (.v 45)), (.int .i64 (.v 46)), (.int .i64 (.v 47))])) []
          (.call 21 [(.a (.c (.slice 26 3 0 (.lit 0) (.alen 26) (.k 26)))), (.a (.agg [(.int .i64 (.v 7)), (.int .i64 (.v 8)), (.int .i64 (.v 9))]))] [(.arr 26 27 [(.int .i64), (.int .i64), (.int .i64)] (some 23))] 49 [.i, .i] (.tup [(.c (.int .i64 (.v 49))), (.c (.int .i64 (.v 50)))]) []
          (.call 22 [(.a (.c (.slice 26 3 0 (.lit 0) (.alen 26) (.k 26)))), (.a (.agg [(.int .i64 (.v 7)), (.int .i64 (.v 8)), (.int .i64 (.v 9))]))] [(.arr 26 27 [(.int .i64), (.int .i64), (.int .i64)] (some 23))] 51 [.i, .i] (.tup [(.c (.int .i64 (.v 51))), (.c (.int .i64 (.v 52)))]) []
          (.ite (.or (.cmp .neq (.v 49) (.v 51)) (.cmp .neq (.v 50) (.v 52)))
            (done (.a (.c (.bool (.lit false)))) [])
            (.call 21 [(.a (.c (.slice 26 3 0 (.lit 0) (.alen 26) (.k 26)))), (.a (.agg [(.int .i64 (.v 45)), (.int .i64 (.v 46)), (.int .i64 (.v 47))]))] [(.arr 26 27 [(.int .i64), (.int .i64), (.int .i64)] (some 23))] 54 [.i, .i] (.tup [(.c (.int .i64 (.v 54))), (.c (.int .i64 (.v 55)))]) []
            (.call 22 [(.a (.c (.slice 26 3 0 (.lit 0) (.alen 26) (.k 26)))), (.a (.agg [(.int .i64 (.v 45)), (.int .i64 (.v 46)), (.int .i64 (.v 47))]))] [(.arr 26 27 [(.int .i64), (.int .i64), (.int .i64)] (some 23))] 56 [.i, .i] (.tup [(.c (.int .i64 (.v 56))), (.c (.int .i64 (.v 57)))]) []
            (.ite (.or (.cmp .neq (.v 54) (.v 56)) (.cmp .neq (.v 55) (.v 57)))
              (done (.a (.c (.bool (.lit false)))) [])
              (.call 23 [(.a (.c (.slice 26 3 0 (.lit 0) (.alen 26) (.k 26))))] [(.arr 26 27 [(.int .i64), (.int .i64), (.int .i64)] (some 23))] 58 [.i, .i] (.tup [(.c (.int .i64 (.v 58))), (.c (.int .i64 (.v 59)))]) []
              (.call 24 [(.a (.c (.slice 26 3 0 (.lit 0) (.alen 26) (.k 26))))] [(.arr 26 27 [(.int .i64), (.int .i64), (.int .i64)] (some 23))] 60 [.i, .i] (.tup [(.c (.int .i64 (.v 60))), (.c (.int .i64 (.v 61)))]) []
              (.ite (.or (.cmp .neq (.v 58) (.v 60)) (.cmp .neq (.v 59) (.v 61)))
                (done (.a (.c (.bool (.lit false)))) [])
                (.call 15 [] [] 62 [.b] (.a (.c (.bool (.v 62)))) []
                (done (.a (.c (.bool (.v 62)))) [])))))))))))))))))))))))))
    (.call 10 [(.a (.c (.int .u8 (.v 10)))), (.a (.c (.int .u8 (.v 11)))), (.a (.c (.int .u8 (.v 12))))] [] 27 [.i, .i, .i] (.a (.agg [(.int .i64 (.v 27)), (.int .i64 (.v 28)), (.int .i64 (.v 29))])) []
    (.call 21 [(.a (.c (.slice 24 3 0 (.lit 0) (.alen 23) (.k 24)))), (.a (.agg [(.int .i64 (.v 7)), (.int .i64 (.v 8)), (.int .i64 (.v 9))]))] [(.arr 24 23 [(.int .i64), (.int .i64), (.int .i64)] (some 23))] 31 [.i, .i] (.tup [(.c (.int .i64 (.v 31))), (.c (.int .i64 (.v 32)))]) []
    (.call 22 [(.a (.c (.slice 24 3 0 (.lit 0) (.alen 23) (.k 24)))), (.a (.agg [(.int .i64 (.v 7)), (.int .i64 (.v 8)), (.int .i64 (.v 9))]))] [(.arr 24 23 [(.int .i64), (.int .i64), (.int .i64)] (some 23))] 33 [.i, .i] (.tup [(.c (.int .i64 (.v 33))), (.c (.int .i64 (.v 34)))]) []
    (.ite (.or (.cmp .neq (.v 31) (.v 33)) (.cmp .neq (.v 32) (.v 34)))
      (done (.a (.c (.bool (.lit false)))) [])
      (.call 21 [(.a (.c (.slice 24 3 0 (.lit 0) (.alen 23) (.k 24)))), (.a (.agg [(.int .i64 (.v 27)), (.int .i64 (.v 28)), (.int .i64 (.v 29))]))] [(.arr 24 23 [(.int .i64), (.int .i64), (.int .i64)] (some 23))] 36 [.i, .i] (.tup [(.c (.int .i64 (.v 36))), (.c (.int .i64 (.v 37)))]) []
      (.call 22 [(.a (.c (.slice 24 3 0 (.lit 0) (.alen 23) (.k 24)))), (.a (.agg [(.int .i64 (.v 27)), (.int .i64 (.v 28)), (.int .i64 (.v 29))]))] [(.arr 24 23 [(.int .i64), (.int .i64), (.int .i64)] (some 23))] 38 [.i, .i] (.tup [(.c (.int .i64 (.v 38))), (.c (.int .i64 (.v 39)))]) []
      (.ite (.or (.cmp .neq (.v 36) (.v 38)) (.cmp .neq (.v 37) (.v 39)))
        (done (.a (.c (.bool (.lit false)))) [])
        (.call 23 [(.a (.c (.slice 24 3 0 (.lit 0) (.alen 23) (.k 24))))] [(.arr 24 23 [(.int .i64), (.int .i64), (.int .i64)] (some 23))] 40 [.i, .i] (.tup [(.c (.int .i64 (.v 40))), (.c (.int .i64 (.v 41)))]) []
        (.call 24 [(.a (.c (.slice 24 3 0 (.lit 0) (.alen 23) (.k 24))))] [(.arr 24 23 [(.int .i64), (.int .i64), (.int .i64)] (some 23))] 42 [.i, .i] (.tup [(.c (.int .i64 (.v 42))), (.c (.int .i64 (.v 43)))]) []
        (.ite (.or (.cmp .neq (.v 40) (.v 42)) (.cmp .neq (.v 41) (.v 43)))
          (done (.a (.c (.bool (.lit false)))) [])
          (.call 10 [(.a (.c (.int .u8 (.v 10)))), (.a (.c (.int .u8 (.v 11)))), (.a (.c (.int .u8 (.v 12))))] [] 44 [.i, .i, .i] (.a (.agg [(.int .i64 (.v 44)), (.int .i64 (.v 45)), (.int .i64 (.v 46))])) []
          (.call 21 [(.a (.c (.slice 26 3 0 (.lit 0) (.alen 26) (.k 26)))), (.a (.agg [(.int .i64 (.v 7)), (.int .i64 (.v 8)), (.int .i64 (.v 9))]))] [(.arr 26 26 [(.int .i64), (.int .i64), (.int .i64)] (some 23))] 48 [.i, .i] (.tup [(.c (.int .i64 (.v 48))), (.c (.int .i64 (.v 49)))]) []
          (.call 22 [(.a (.c (.slice 26 3 0 (.lit 0) (.alen 26) (.k 26)))), (.a (.agg [(.int .i64 (.v 7)), (.int .i64 (.v 8)), (.int .i64 (.v 9))]))] [(.arr 26 26 [(.int .i64), (.int .i64), (.int .i64)] (some 23))] 50 [.i, .i] (.tup [(.c (.int .i64 (.v 50))), (.c (.int .i64 (.v 51)))]) []
          (.ite (.or (.cmp .neq (.v 48) (.v 50)) (.cmp .neq (.v 49) (.v 51)))
            (done (.a (.c (.bool (.lit false)))) [])
            (.call 21 [(.a (.c (.slice 26 3 0 (.lit 0) (.alen 26) (.k 26)))), (.a (.agg [(.int .i64 (.v 44)), (.int .i64 (.v 45)), (.int .i64 (.v 46))]))] [(.arr 26 26 [(.int .i64), (.int .i64), (.int .i64)] (some 23))] 53 [.i, .i] (.tup [(.c (.int .i64 (.v 53))), (.c (.int .i64 (.v 54)))]) []
            (.call 22 [(.a (.c (.slice 26 3 0 (.lit 0) (.alen 26) (.k 26)))), (.a (.agg [(.int .i64 (.v 44)), (.int .i64 (.v 45)), (.int .i64 (.v 46))]))] [(.arr 26 26 [(.int .i64), (.int .i64), (.int .i64)] (some 23))] 55 [.i, .i] (.tup [(.c (.int .i64 (.v 55))), (.c (.int .i64 (.v 56)))]) []
            (.ite (.or (.cmp .neq (.v 53) (.v 55)) (.cmp .neq (.v 54) (.v 56)))
              (done (.a (.c (.bool (.lit false)))) [])
              (.call 23 [(.a (.c (.slice 26 3 0 (.lit 0) (.alen 26) (.k 26))))] [(.arr 26 26 [(.int .i64), (.int .i64), (.int .i64)] (some 23))] 57 [.i, .i] (.tup [(.c (.int .i64 (.v 57))), (.c (.int .i64 (.v 58)))]) []
              (.call 24 [(.a (.c (.slice 26 3 0 (.lit 0) (.alen 26) (.k 26))))] [(.arr 26 26 [(.int .i64), (.int .i64), (.int .i64)] (some 23))] 59 [.i, .i] (.tup [(.c (.int .i64 (.v 59))), (.c (.int .i64 (.v 60)))]) []
              (.ite (.or (.cmp .neq (.v 57) (.v 59)) (.cmp .neq (.v 58) (.v 60)))
                (done (.a (.c (.bool (.lit false)))) [])
                (.call 15 [] [] 61 [.b] (.a (.c (.bool (.v 61)))) []
                (done (.a (.c (.bool (.v 61)))) [])))))))))))))))))))))))))) := by kernel_rfl

end Go.Proofs.Y23
