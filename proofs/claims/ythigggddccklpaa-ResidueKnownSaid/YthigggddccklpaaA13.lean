/- A part of the proof: see the text that states the theorem. -/
import Derived.Test.YthigggddccklpaaA11
set_option linter.unusedSimpArgs false
set_option linter.unusedVariables false
set_option linter.unusedSectionVars false
namespace Go.Proofs.Y23
open Go Go.SX Go.RowKit
def pu3 : List CK := [.int .u8, .int .u8, .int .u8]
noncomputable def C4 : Cfg := { P := Try.prog, ct := ctOf [(10, rSp), (11, rBE), (12, rBE), (13, rI), (14, rI), (15, rB), (16, rBE), (17, rBE), (18, rRoom), (19, rRoom), (21, rIE), (22, rIE), (23, rIE), (24, rIE), (25, rB), (26, rB), (27, rSp), (28, rI), (29, rSp), (32, rB), (20, .one (.c (.row 23 [.int .i64, .int .i64, .int .i64])))], ann := annOf [((6, 6), [.slot 7, .slot 8]), ((7, 10), [.slot 13]), ((7, 18), [.slot 14]), ((20, 3), [.slot 6, .row 5 23]), ((8, 11), [.slot 10]), ((8, 15), [.slot 11, .slot 12])] }
@[simp] theorem C4_P : C4.P = Try.prog := rfl
theorem t_drafts : callTree C4 300 20 [slArg 0 3, i64 3] [.arr 1 0 pu3 none] 20 = some
  (.arr 20 .nil (.lit true)
  (.loop [.i, .l, .n] 21 [(.i (.lit 0)), (.l (.arr 20)), (.n (.nl 20))]
    (.ite (.and (.cmp .lss (.v 21) (.alen 0)) (.cmp .lss (.v 21) (.v 3)))
      (.call 10 [(.a (.c (.int .u8 (.sel 0 0 (.v 21))))), (.a (.c (.int .u8 (.sel 0 1 (.v 21))))), (.a (.c (.int .u8 (.sel 0 2 (.v 21)))))] [] 24 [.i, .i, .i] (.a (.agg [(.int .i64 (.v 24)), (.int .i64 (.v 25)), (.int .i64 (.v 26))])) []
      (.arr 28 (.cat (.arr 22) (.rows [[(.i (.v 24)), (.i (.v 25)), (.i (.v 26))]])) (.lit false)
      (.need [(.cmp .leq (.lit 0) (.v 21)), (.cmp .leq (.plus (.alen 22) (.lit 1)) (.lit 5864062014805))]
      (.cont 0 [(.i (.bin .add .i64 (.v 21) (.lit 1))), (.l (.arr 28)), (.n (.nl 28))]))))
      (.done (.a (.c (.slice 23 3 0 (.lit 0) (.alen 22) (.k 23)))) [(.arr 23 22 [(.int .i64), (.int .i64), (.int .i64)] (some 23))])))) := by kernel_rfl

theorem t_Known : callTree C4 2000 9 [] [] 20 = some
  (.call 29 [(.a (.c (.int .i64 (.lit 0)))), (.a (.c (.int .i64 (.lit 0)))), (.a (.c (.int .i64 (.lit 1))))] [] 20 [.i, .i, .i] (.a (.agg [(.int .i64 (.v 20)), (.int .i64 (.v 21)), (.int .i64 (.v 22))])) []
  (.call 29 [(.a (.c (.int .i64 (.lit 961)))), (.a (.c (.int .i64 (.lit 0)))), (.a (.c (.int .i64 (.lit 1))))] [] 23 [.i, .i, .i] (.a (.agg [(.int .i64 (.v 23)), (.int .i64 (.v 24)), (.int .i64 (.v 25))])) []
  (.call 29 [(.a (.c (.int .i64 (.lit 5)))), (.a (.c (.int .i64 (.lit 5)))), (.a (.c (.int .i64 (.lit 1))))] [] 26 [.i, .i, .i] (.a (.agg [(.int .i64 (.v 26)), (.int .i64 (.v 27)), (.int .i64 (.v 28))])) []
  (.call 29 [(.a (.c (.int .i64 (.lit 5)))), (.a (.c (.int .i64 (.lit (-1))))), (.a (.c (.int .i64 (.lit 1))))] [] 29 [.i, .i, .i] (.a (.agg [(.int .i64 (.v 29)), (.int .i64 (.v 30)), (.int .i64 (.v 31))])) []
  (.call 29 [(.a (.c (.int .i64 (.lit 5)))), (.a (.c (.int .i64 (.lit 0)))), (.a (.c (.int .i64 (.lit 0))))] [] 32 [.i, .i, .i] (.a (.agg [(.int .i64 (.v 32)), (.int .i64 (.v 33)), (.int .i64 (.v 34))])) []
  (.call 29 [(.a (.c (.int .i64 (.lit 5)))), (.a (.c (.int .i64 (.lit 0)))), (.a (.c (.int .i64 (.lit 6))))] [] 35 [.i, .i, .i] (.a (.agg [(.int .i64 (.v 35)), (.int .i64 (.v 36)), (.int .i64 (.v 37))])) []
  (.call 29 [(.a (.c (.int .i64 (.lit 5)))), (.a (.c (.int .i64 (.lit 0)))), (.a (.c (.int .i64 (.lit 5))))] [] 39 [.i, .i, .i] (.a (.agg [(.int .i64 (.v 39)), (.int .i64 (.v 40)), (.int .i64 (.v 41))])) []
  (.call 11 [(.a (.agg [(.int .i64 (.lit 0)), (.int .i64 (.lit 0)), (.int .i64 (.lit 0))])), (.a (.c (.int .i64 (.lit 1099511627777))))] [] 43 [.b, .i] (.tup [(.c (.bool (.v 43))), (.c (.int .i64 (.v 44)))]) []
  (.call 16 [(.a (.agg [(.int .i64 (.v 39)), (.int .i64 (.v 40)), (.int .i64 (.v 41))])), (.a (.agg [(.int .i64 (.lit 0)), (.int .i64 (.lit 0)), (.int .i64 (.lit 0))]))] [] 45 [.b, .i] (.tup [(.c (.bool (.v 45))), (.c (.int .i64 (.v 46)))]) []
  (.call 16 [(.a (.agg [(.int .i64 (.lit 0)), (.int .i64 (.lit 0)), (.int .i64 (.lit 0))])), (.a (.agg [(.int .i64 (.v 39)), (.int .i64 (.v 40)), (.int .i64 (.v 41))]))] [] 47 [.b, .i] (.tup [(.c (.bool (.v 47))), (.c (.int .i64 (.v 48)))]) []
  (.call 18 [(.a (.agg [(.int .i64 (.v 39)), (.int .i64 (.v 40)), (.int .i64 (.v 41))])), (.a (.agg [(.int .i64 (.lit 0)), (.int .i64 (.lit 0)), (.int .i64 (.lit 0))]))] [] 49 [.i, .i, .i, .i] (.tup [(.c (.int .i64 (.v 49))), (.c (.int .i64 (.v 50))), (.c (.int .i64 (.v 51))), (.c (.int .i64 (.v 52)))]) []
  (.call 21 [(.a (.c (.oslice 53 0 1 1))), (.a (.agg [(.int .i64 (.v 39)), (.int .i64 (.v 40)), (.int .i64 (.v 41))]))] [(.own 53 [(.int .i64 (.lit 0)), (.int .i64 (.lit 0)), (.int .i64 (.lit 0))] 23)] 54 [.i, .i] (.tup [(.c (.int .i64 (.v 54))), (.c (.int .i64 (.v 55)))]) []
  (.call 21 [(.a (.c (.lit (.slice none 0 0)))), (.a (.agg [(.int .i64 (.lit 0)), (.int .i64 (.lit 0)), (.int .i64 (.lit 0))]))] [] 56 [.i, .i] (.tup [(.c (.int .i64 (.v 56))), (.c (.int .i64 (.v 57)))]) []
  (.call 23 [(.a (.c (.oslice 58 0 2 2)))] [(.own 58 [(.int .i64 (.v 39)), (.int .i64 (.v 40)), (.int .i64 (.v 41)), (.int .i64 (.lit 0)), (.int .i64 (.lit 0)), (.int .i64 (.lit 0))] 23)] 59 [.i, .i] (.tup [(.c (.int .i64 (.v 59))), (.c (.int .i64 (.v 60)))]) []
  (.call 13 [(.a (.agg [(.int .i64 (.lit 0)), (.int .i64 (.lit 0)), (.int .i64 (.lit 0))]))] [] 61 [.i] (.a (.c (.int .i64 (.v 61)))) []
  (.ite (.or (.or (.or (.or (.or (.or (.or (.cmp .neq (.v 61) (.lit 330)) (.cmp .neq (.v 44) (.lit 330))) (.cmp .neq (.v 46) (.lit 330))) (.cmp .neq (.v 48) (.lit 330))) (.cmp .neq (.v 52) (.lit 330))) (.cmp .neq (.v 55) (.lit 330))) (.cmp .neq (.v 57) (.lit 330))) (.cmp .neq (.v 60) (.lit 330)))
    (.done (.a (.c (.bool (.lit false)))) [])
    (.call 11 [(.a (.agg [(.int .i64 (.v 20)), (.int .i64 (.v 21)), (.int .i64 (.v 22))])), (.a (.c (.int .i64 (.lit 1099511627777))))] [] 62 [.b, .i] (.tup [(.c (.bool (.v 62))), (.c (.int .i64 (.v 63)))]) []
    (.call 16 [(.a (.agg [(.int .i64 (.v 39)), (.int .i64 (.v 40)), (.int .i64 (.v 41))])), (.a (.agg [(.int .i64 (.v 20)), (.int .i64 (.v 21)), (.int .i64 (.v 22))]))] [] 64 [.b, .i] (.tup [(.c (.bool (.v 64))), (.c (.int .i64 (.v 65)))]) []
    (.call 16 [(.a (.agg [(.int .i64 (.v 20)), (.int .i64 (.v 21)), (.int .i64 (.v 22))])), (.a (.agg [(.int .i64 (.v 39)), (.int .i64 (.v 40)), (.int .i64 (.v 41))]))] [] 66 [.b, .i] (.tup [(.c (.bool (.v 66))), (.c (.int .i64 (.v 67)))]) []
    (.call 18 [(.a (.agg [(.int .i64 (.v 39)), (.int .i64 (.v 40)), (.int .i64 (.v 41))])), (.a (.agg [(.int .i64 (.v 20)), (.int .i64 (.v 21)), (.int .i64 (.v 22))]))] [] 68 [.i, .i, .i, .i] (.tup [(.c (.int .i64 (.v 68))), (.c (.int .i64 (.v 69))), (.c (.int .i64 (.v 70))), (.c (.int .i64 (.v 71)))]) []
    (.call 21 [(.a (.c (.oslice 72 0 1 1))), (.a (.agg [(.int .i64 (.v 39)), (.int .i64 (.v 40)), (.int .i64 (.v 41))]))] [(.own 72 [(.int .i64 (.v 20)), (.int .i64 (.v 21)), (.int .i64 (.v 22))] 23)] 73 [.i, .i] (.tup [(.c (.int .i64 (.v 73))), (.c (.int .i64 (.v 74)))]) []
    (.call 21 [(.a (.c (.lit (.slice none 0 0)))), (.a (.agg [(.int .i64 (.v 20)), (.int .i64 (.v 21)), (.int .i64 (.v 22))]))] [] 75 [.i, .i] (.tup [(.c (.int .i64 (.v 75))), (.c (.int .i64 (.v 76)))]) []
    (.call 23 [(.a (.c (.oslice 77 0 2 2)))] [(.own 77 [(.int .i64 (.v 39)), (.int .i64 (.v 40)), (.int .i64 (.v 41)), (.int .i64 (.v 20)), (.int .i64 (.v 21)), (.int .i64 (.v 22))] 23)] 78 [.i, .i] (.tup [(.c (.int .i64 (.v 78))), (.c (.int .i64 (.v 79)))]) []
    (.call 13 [(.a (.agg [(.int .i64 (.v 20)), (.int .i64 (.v 21)), (.int .i64 (.v 22))]))] [] 80 [.i] (.a (.c (.int .i64 (.v 80)))) []
    (.ite (.or (.or (.or (.or (.or (.or (.or (.cmp .neq (.v 80) (.lit 330)) (.cmp .neq (.v 63) (.lit 330))) (.cmp .neq (.v 65) (.lit 330))) (.cmp .neq (.v 67) (.lit 330))) (.cmp .neq (.v 71) (.lit 330))) (.cmp .neq (.v 74) (.lit 330))) (.cmp .neq (.v 76) (.lit 330))) (.cmp .neq (.v 79) (.lit 330)))
      (.done (.a (.c (.bool (.lit false)))) [])
      (.call 11 [(.a (.agg [(.int .i64 (.v 23)), (.int .i64 (.v 24)), (.int .i64 (.v 25))])), (.a (.c (.int .i64 (.lit 1099511627777))))] [] 81 [.b, .i] (.tup [(.c (.bool (.v 81))), (.c (.int .i64 (.v 82)))]) []
      (.call 16 [(.a (.agg [(.int .i64 (.v 39)), (.int .i64 (.v 40)), (.int .i64 (.v 41))])), (.a (.agg [(.int .i64 (.v 23)), (.int .i64 (.v 24)), (.int .i64 (.v 25))]))] [] 83 [.b, .i] (.tup [(.c (.bool (.v 83))), (.c (.int .i64 (.v 84)))]) []
      (.call 16 [(.a (.agg [(.int .i64 (.v 23)), (.int .i64 (.v 24)), (.int .i64 (.v 25))])), (.a (.agg [(.int .i64 (.v 39)), (.int .i64 (.v 40)), (.int .i64 (.v 41))]))] [] 85 [.b, .i] (.tup [(.c (.bool (.v 85))), (.c (.int .i64 (.v 86)))]) []
      (.call 18 [(.a (.agg [(.int .i64 (.v 39)), (.int .i64 (.v 40)), (.int .i64 (.v 41))])), (.a (.agg [(.int .i64 (.v 23)), (.int .i64 (.v 24)), (.int .i64 (.v 25))]))] [] 87 [.i, .i, .i, .i] (.tup [(.c (.int .i64 (.v 87))), (.c (.int .i64 (.v 88))), (.c (.int .i64 (.v 89))), (.c (.int .i64 (.v 90)))]) []
      (.call 21 [(.a (.c (.oslice 91 0 1 1))), (.a (.agg [(.int .i64 (.v 39)), (.int .i64 (.v 40)), (.int .i64 (.v 41))]))] [(.own 91 [(.int .i64 (.v 23)), (.int .i64 (.v 24)), (.int .i64 (.v 25))] 23)] 92 [.i, .i] (.tup [(.c (.int .i64 (.v 92))), (.c (.int .i64 (.v 93)))]) []
      (.call 21 [(.a (.c (.lit (.slice none 0 0)))), (.a (.agg [(.int .i64 (.v 23)), (.int .i64 (.v 24)), (.int .i64 (.v 25))]))] [] 94 [.i, .i] (.tup [(.c (.int .i64 (.v 94))), (.c (.int .i64 (.v 95)))]) []
      (.call 23 [(.a (.c (.oslice 96 0 2 2)))] [(.own 96 [(.int .i64 (.v 39)), (.int .i64 (.v 40)), (.int .i64 (.v 41)), (.int .i64 (.v 23)), (.int .i64 (.v 24)), (.int .i64 (.v 25))] 23)] 97 [.i, .i] (.tup [(.c (.int .i64 (.v 97))), (.c (.int .i64 (.v 98)))]) []
      (.call 13 [(.a (.agg [(.int .i64 (.v 23)), (.int .i64 (.v 24)), (.int .i64 (.v 25))]))] [] 99 [.i] (.a (.c (.int .i64 (.v 99)))) []
      (.ite (.or (.or (.or (.or (.or (.or (.or (.cmp .neq (.v 99) (.lit 330)) (.cmp .neq (.v 82) (.lit 330))) (.cmp .neq (.v 84) (.lit 330))) (.cmp .neq (.v 86) (.lit 330))) (.cmp .neq (.v 90) (.lit 330))) (.cmp .neq (.v 93) (.lit 330))) (.cmp .neq (.v 95) (.lit 330))) (.cmp .neq (.v 98) (.lit 330)))
        (.done (.a (.c (.bool (.lit false)))) [])
        (.call 11 [(.a (.agg [(.int .i64 (.v 26)), (.int .i64 (.v 27)), (.int .i64 (.v 28))])), (.a (.c (.int .i64 (.lit 1099511627777))))] [] 100 [.b, .i] (.tup [(.c (.bool (.v 100))), (.c (.int .i64 (.v 101)))]) []
        (.call 16 [(.a (.agg [(.int .i64 (.v 39)), (.int .i64 (.v 40)), (.int .i64 (.v 41))])), (.a (.agg [(.int .i64 (.v 26)), (.int .i64 (.v 27)), (.int .i64 (.v 28))]))] [] 102 [.b, .i] (.tup [(.c (.bool (.v 102))), (.c (.int .i64 (.v 103)))]) []
        (.call 16 [(.a (.agg [(.int .i64 (.v 26)), (.int .i64 (.v 27)), (.int .i64 (.v 28))])), (.a (.agg [(.int .i64 (.v 39)), (.int .i64 (.v 40)), (.int .i64 (.v 41))]))] [] 104 [.b, .i] (.tup [(.c (.bool (.v 104))), (.c (.int .i64 (.v 105)))]) []
        (.call 18 [(.a (.agg [(.int .i64 (.v 39)), (.int .i64 (.v 40)), (.int .i64 (.v 41))])), (.a (.agg [(.int .i64 (.v 26)), (.int .i64 (.v 27)), (.int .i64 (.v 28))]))] [] 106 [.i, .i, .i, .i] (.tup [(.c (.int .i64 (.v 106))), (.c (.int .i64 (.v 107))), (.c (.int .i64 (.v 108))), (.c (.int .i64 (.v 109)))]) []
        (.call 21 [(.a (.c (.oslice 110 0 1 1))), (.a (.agg [(.int .i64 (.v 39)), (.int .i64 (.v 40)), (.int .i64 (.v 41))]))] [(.own 110 [(.int .i64 (.v 26)), (.int .i64 (.v 27)), (.int .i64 (.v 28))] 23)] 111 [.i, .i] (.tup [(.c (.int .i64 (.v 111))), (.c (.int .i64 (.v 112)))]) []
        (.call 21 [(.a (.c (.lit (.slice none 0 0)))), (.a (.agg [(.int .i64 (.v 26)), (.int .i64 (.v 27)), (.int .i64 (.v 28))]))] [] 113 [.i, .i] (.tup [(.c (.int .i64 (.v 113))), (.c (.int .i64 (.v 114)))]) []
        (.call 23 [(.a (.c (.oslice 115 0 2 2)))] [(.own 115 [(.int .i64 (.v 39)), (.int .i64 (.v 40)), (.int .i64 (.v 41)), (.int .i64 (.v 26)), (.int .i64 (.v 27)), (.int .i64 (.v 28))] 23)] 116 [.i, .i] (.tup [(.c (.int .i64 (.v 116))), (.c (.int .i64 (.v 117)))]) []
        (.call 13 [(.a (.agg [(.int .i64 (.v 26)), (.int .i64 (.v 27)), (.int .i64 (.v 28))]))] [] 118 [.i] (.a (.c (.int .i64 (.v 118)))) []
        (.ite (.or (.or (.or (.or (.or (.or (.or (.cmp .neq (.v 118) (.lit 330)) (.cmp .neq (.v 101) (.lit 330))) (.cmp .neq (.v 103) (.lit 330))) (.cmp .neq (.v 105) (.lit 330))) (.cmp .neq (.v 109) (.lit 330))) (.cmp .neq (.v 112) (.lit 330))) (.cmp .neq (.v 114) (.lit 330))) (.cmp .neq (.v 117) (.lit 330)))
          (.done (.a (.c (.bool (.lit false)))) [])
          (.call 11 [(.a (.agg [(.int .i64 (.v 29)), (.int .i64 (.v 30)), (.int .i64 (.v 31))])), (.a (.c (.int .i64 (.lit 1099511627777))))] [] 119 [.b, .i] (.tup [(.c (.bool (.v 119))), (.c (.int .i64 (.v 120)))]) []
          (.call 16 [(.a (.agg [(.int .i64 (.v 39)), (.int .i64 (.v 40)), (.int .i64 (.v 41))])), (.a (.agg [(.int .i64 (.v 29)), (.int .i64 (.v 30)), (.int .i64 (.v 31))]))] [] 121 [.b, .i] (.tup [(.c (.bool (.v 121))), (.c (.int .i64 (.v 122)))]) []
          (.call 16 [(.a (.agg [(.int .i64 (.v 29)), (.int .i64 (.v 30)), (.int .i64 (.v 31))])), (.a (.agg [(.int .i64 (.v 39)), (.int .i64 (.v 40)), (.int .i64 (.v 41))]))] [] 123 [.b, .i] (.tup [(.c (.bool (.v 123))), (.c (.int .i64 (.v 124)))]) []
          (.call 18 [(.a (.agg [(.int .i64 (.v 39)), (.int .i64 (.v 40)), (.int .i64 (.v 41))])), (.a (.agg [(.int .i64 (.v 29)), (.int .i64 (.v 30)), (.int .i64 (.v 31))]))] [] 125 [.i, .i, .i, .i] (.tup [(.c (.int .i64 (.v 125))), (.c (.int .i64 (.v 126))), (.c (.int .i64 (.v 127))), (.c (.int .i64 (.v 128)))]) []
          (.call 21 [(.a (.c (.oslice 129 0 1 1))), (.a (.agg [(.int .i64 (.v 39)), (.int .i64 (.v 40)), (.int .i64 (.v 41))]))] [(.own 129 [(.int .i64 (.v 29)), (.int .i64 (.v 30)), (.int .i64 (.v 31))] 23)] 130 [.i, .i] (.tup [(.c (.int .i64 (.v 130))), (.c (.int .i64 (.v 131)))]) []
          (.call 21 [(.a (.c (.lit (.slice none 0 0)))), (.a (.agg [(.int .i64 (.v 29)), (.int .i64 (.v 30)), (.int .i64 (.v 31))]))] [] 132 [.i, .i] (.tup [(.c (.int .i64 (.v 132))), (.c (.int .i64 (.v 133)))]) []
          (.call 23 [(.a (.c (.oslice 134 0 2 2)))] [(.own 134 [(.int .i64 (.v 39)), (.int .i64 (.v 40)), (.int .i64 (.v 41)), (.int .i64 (.v 29)), (.int .i64 (.v 30)), (.int .i64 (.v 31))] 23)] 135 [.i, .i] (.tup [(.c (.int .i64 (.v 135))), (.c (.int .i64 (.v 136)))]) []
          (.call 13 [(.a (.agg [(.int .i64 (.v 29)), (.int .i64 (.v 30)), (.int .i64 (.v 31))]))] [] 137 [.i] (.a (.c (.int .i64 (.v 137)))) []
          (.ite (.or (.or (.or (.or (.or (.or (.or (.cmp .neq (.v 137) (.lit 330)) (.cmp .neq (.v 120) (.lit 330))) (.cmp .neq (.v 122) (.lit 330))) (.cmp .neq (.v 124) (.lit 330))) (.cmp .neq (.v 128) (.lit 330))) (.cmp .neq (.v 131) (.lit 330))) (.cmp .neq (.v 133) (.lit 330))) (.cmp .neq (.v 136) (.lit 330)))
            (.done (.a (.c (.bool (.lit false)))) [])
            (.call 11 [(.a (.agg [(.int .i64 (.v 32)), (.int .i64 (.v 33)), (.int .i64 (.v 34))])), (.a (.c (.int .i64 (.lit 1099511627777))))] [] 138 [.b, .i] (.tup [(.c (.bool (.v 138))), (.c (.int .i64 (.v 139)))]) []
            (.call 16 [(.a (.agg [(.int .i64 (.v 39)), (.int .i64 (.v 40)), (.int .i64 (.v 41))])), (.a (.agg [(.int .i64 (.v 32)), (.int .i64 (.v 33)), (.int .i64 (.v 34))]))] [] 140 [.b, .i] (.tup [(.c (.bool (.v 140))), (.c (.int .i64 (.v 141)))]) []
            (.call 16 [(.a (.agg [(.int .i64 (.v 32)), (.int .i64 (.v 33)), (.int .i64 (.v 34))])), (.a (.agg [(.int .i64 (.v 39)), (.int .i64 (.v 40)), (.int .i64 (.v 41))]))] [] 142 [.b, .i] (.tup [(.c (.bool (.v 142))), (.c (.int .i64 (.v 143)))]) []
            (.call 18 [(.a (.agg [(.int .i64 (.v 39)), (.int .i64 (.v 40)), (.int .i64 (.v 41))])), (.a (.agg [(.int .i64 (.v 32)), (.int .i64 (.v 33)), (.int .i64 (.v 34))]))] [] 144 [.i, .i, .i, .i] (.tup [(.c (.int .i64 (.v 144))), (.c (.int .i64 (.v 145))), (.c (.int .i64 (.v 146))), (.c (.int .i64 (.v 147)))]) []
            (.call 21 [(.a (.c (.oslice 148 0 1 1))), (.a (.agg [(.int .i64 (.v 39)), (.int .i64 (.v 40)), (.int .i64 (.v 41))]))] [(.own 148 [(.int .i64 (.v 32)), (.int .i64 (.v 33)), (.int .i64 (.v 34))] 23)] 149 [.i, .i] (.tup [(.c (.int .i64 (.v 149))), (.c (.int .i64 (.v 150)))]) []
            (.call 21 [(.a (.c (.lit (.slice none 0 0)))), (.a (.agg [(.int .i64 (.v 32)), (.int .i64 (.v 33)), (.int .i64 (.v 34))]))] [] 151 [.i, .i] (.tup [(.c (.int .i64 (.v 151))), (.c (.int .i64 (.v 152)))]) []
            (.call 23 [(.a (.c (.oslice 153 0 2 2)))] [(.own 153 [(.int .i64 (.v 39)), (.int .i64 (.v 40)), (.int .i64 (.v 41)), (.int .i64 (.v 32)), (.int .i64 (.v 33)), (.int .i64 (.v 34))] 23)] 154 [.i, .i] (.tup [(.c (.int .i64 (.v 154))), (.c (.int .i64 (.v 155)))]) []
            (.call 13 [(.a (.agg [(.int .i64 (.v 32)), (.int .i64 (.v 33)), (.int .i64 (.v 34))]))] [] 156 [.i] (.a (.c (.int .i64 (.v 156)))) []
            (.ite (.or (.or (.or (.or (.or (.or (.or (.cmp .neq (.v 156) (.lit 330)) (.cmp .neq (.v 139) (.lit 330))) (.cmp .neq (.v 141) (.lit 330))) (.cmp .neq (.v 143) (.lit 330))) (.cmp .neq (.v 147) (.lit 330))) (.cmp .neq (.v 150) (.lit 330))) (.cmp .neq (.v 152) (.lit 330))) (.cmp .neq (.v 155) (.lit 330)))
              (.done (.a (.c (.bool (.lit false)))) [])
              (.call 11 [(.a (.agg [(.int .i64 (.v 35)), (.int .i64 (.v 36)), (.int .i64 (.v 37))])), (.a (.c (.int .i64 (.lit 1099511627777))))] [] 157 [.b, .i] (.tup [(.c (.bool (.v 157))), (.c (.int .i64 (.v 158)))]) []
              (.call 16 [(.a (.agg [(.int .i64 (.v 39)), (.int .i64 (.v 40)), (.int .i64 (.v 41))])), (.a (.agg [(.int .i64 (.v 35)), (.int .i64 (.v 36)), (.int .i64 (.v 37))]))] [] 159 [.b, .i] (.tup [(.c (.bool (.v 159))), (.c (.int .i64 (.v 160)))]) []
              (.call 16 [(.a (.agg [(.int .i64 (.v 35)), (.int .i64 (.v 36)), (.int .i64 (.v 37))])), (.a (.agg [(.int .i64 (.v 39)), (.int .i64 (.v 40)), (.int .i64 (.v 41))]))] [] 161 [.b, .i] (.tup [(.c (.bool (.v 161))), (.c (.int .i64 (.v 162)))]) []
              (.call 18 [(.a (.agg [(.int .i64 (.v 39)), (.int .i64 (.v 40)), (.int .i64 (.v 41))])), (.a (.agg [(.int .i64 (.v 35)), (.int .i64 (.v 36)), (.int .i64 (.v 37))]))] [] 163 [.i, .i, .i, .i] (.tup [(.c (.int .i64 (.v 163))), (.c (.int .i64 (.v 164))), (.c (.int .i64 (.v 165))), (.c (.int .i64 (.v 166)))]) []
              (.call 21 [(.a (.c (.oslice 167 0 1 1))), (.a (.agg [(.int .i64 (.v 39)), (.int .i64 (.v 40)), (.int .i64 (.v 41))]))] [(.own 167 [(.int .i64 (.v 35)), (.int .i64 (.v 36)), (.int .i64 (.v 37))] 23)] 168 [.i, .i] (.tup [(.c (.int .i64 (.v 168))), (.c (.int .i64 (.v 169)))]) []
              (.call 21 [(.a (.c (.lit (.slice none 0 0)))), (.a (.agg [(.int .i64 (.v 35)), (.int .i64 (.v 36)), (.int .i64 (.v 37))]))] [] 170 [.i, .i] (.tup [(.c (.int .i64 (.v 170))), (.c (.int .i64 (.v 171)))]) []
              (.call 23 [(.a (.c (.oslice 172 0 2 2)))] [(.own 172 [(.int .i64 (.v 39)), (.int .i64 (.v 40)), (.int .i64 (.v 41)), (.int .i64 (.v 35)), (.int .i64 (.v 36)), (.int .i64 (.v 37))] 23)] 173 [.i, .i] (.tup [(.c (.int .i64 (.v 173))), (.c (.int .i64 (.v 174)))]) []
              (.call 13 [(.a (.agg [(.int .i64 (.v 35)), (.int .i64 (.v 36)), (.int .i64 (.v 37))]))] [] 175 [.i] (.a (.c (.int .i64 (.v 175)))) []
              (.ite (.or (.or (.or (.or (.or (.or (.or (.cmp .neq (.v 175) (.lit 330)) (.cmp .neq (.v 158) (.lit 330))) (.cmp .neq (.v 160) (.lit 330))) (.cmp .neq (.v 162) (.lit 330))) (.cmp .neq (.v 166) (.lit 330))) (.cmp .neq (.v 169) (.lit 330))) (.cmp .neq (.v 171) (.lit 330))) (.cmp .neq (.v 174) (.lit 330)))
                (.done (.a (.c (.bool (.lit false)))) [])
                (.arr 176 (.rep (.lit 33) [(.i (.lit 0)), (.i (.lit 0)), (.i (.lit 0))]) (.lit false)
                (.call 21 [(.a (.c (.slice 176 3 0 (.lit 0) (.alen 176) (.k 176)))), (.a (.agg [(.int .i64 (.lit 0)), (.int .i64 (.lit 0)), (.int .i64 (.lit 0))]))] [(.arr 176 176 [(.int .i64), (.int .i64), (.int .i64)] (some 23))] 177 [.i, .i] (.tup [(.c (.int .i64 (.v 177))), (.c (.int .i64 (.v 178)))]) []
                (.call 23 [(.a (.c (.slice 176 3 0 (.lit 0) (.alen 176) (.k 176))))] [(.arr 176 176 [(.int .i64), (.int .i64), (.int .i64)] (some 23))] 179 [.i, .i] (.tup [(.c (.int .i64 (.v 179))), (.c (.int .i64 (.v 180)))]) []
                (.call 11 [(.a (.agg [(.int .i64 (.v 39)), (.int .i64 (.v 40)), (.int .i64 (.v 41))])), (.a (.c (.int .i64 (.lit 1099511627777))))] [] 181 [.b, .i] (.tup [(.c (.bool (.v 181))), (.c (.int .i64 (.v 182)))]) []
                (.call 11 [(.a (.agg [(.int .i64 (.v 39)), (.int .i64 (.v 40)), (.int .i64 (.v 41))])), (.a (.c (.int .i64 (.lit (-1099511627777)))))] [] 183 [.b, .i] (.tup [(.c (.bool (.v 183))), (.c (.int .i64 (.v 184)))]) []
                (.call 29 [(.a (.c (.int .i64 (.lit 31)))), (.a (.c (.int .i64 (.lit 0)))), (.a (.c (.int .i64 (.lit 1))))] [] 185 [.i, .i, .i] (.a (.agg [(.int .i64 (.v 185)), (.int .i64 (.v 186)), (.int .i64 (.v 187))])) []
                (.call 29 [(.a (.c (.int .i64 (.lit 32)))), (.a (.c (.int .i64 (.lit 0)))), (.a (.c (.int .i64 (.lit 1))))] [] 188 [.i, .i, .i] (.a (.agg [(.int .i64 (.v 188)), (.int .i64 (.v 189)), (.int .i64 (.v 190))])) []
                (.call 23 [(.a (.c (.oslice 191 0 2 2)))] [(.own 191 [(.int .i64 (.v 185)), (.int .i64 (.v 186)), (.int .i64 (.v 187)), (.int .i64 (.v 188)), (.int .i64 (.v 189)), (.int .i64 (.v 190))] 23)] 192 [.i, .i] (.tup [(.c (.int .i64 (.v 192))), (.c (.int .i64 (.v 193)))]) []
                (.call 29 [(.a (.c (.int .i64 (.lit 960)))), (.a (.c (.int .i64 (.lit 0)))), (.a (.c (.int .i64 (.lit 1))))] [] 194 [.i, .i, .i] (.a (.agg [(.int .i64 (.v 194)), (.int .i64 (.v 195)), (.int .i64 (.v 196))])) []
                (.call 29 [(.a (.c (.int .i64 (.lit 64)))), (.a (.c (.int .i64 (.lit 0)))), (.a (.c (.int .i64 (.lit 1))))] [] 197 [.i, .i, .i] (.a (.agg [(.int .i64 (.v 197)), (.int .i64 (.v 198)), (.int .i64 (.v 199))])) []
                (.call 29 [(.a (.c (.int .i64 (.lit 15)))), (.a (.c (.int .i64 (.lit 0)))), (.a (.c (.int .i64 (.lit 1))))] [] 200 [.i, .i, .i] (.a (.agg [(.int .i64 (.v 200)), (.int .i64 (.v 201)), (.int .i64 (.v 202))])) []
                (.call 23 [(.a (.c (.oslice 203 0 3 3)))] [(.own 203 [(.int .i64 (.v 194)), (.int .i64 (.v 195)), (.int .i64 (.v 196)), (.int .i64 (.v 197)), (.int .i64 (.v 198)), (.int .i64 (.v 199)), (.int .i64 (.v 200)), (.int .i64 (.v 201)), (.int .i64 (.v 202))] 23)] 204 [.i, .i] (.tup [(.c (.int .i64 (.v 204))), (.c (.int .i64 (.v 205)))]) []
                (.call 29 [(.a (.c (.int .i64 (.lit 7)))), (.a (.c (.int .i64 (.lit 6)))), (.a (.c (.int .i64 (.lit 7))))] [] 206 [.i, .i, .i] (.a (.agg [(.int .i64 (.v 206)), (.int .i64 (.v 207)), (.int .i64 (.v 208))])) []
                (.call 21 [(.a (.c (.lit (.slice none 0 0)))), (.a (.agg [(.int .i64 (.v 206)), (.int .i64 (.v 207)), (.int .i64 (.v 208))]))] [] 209 [.i, .i] (.tup [(.c (.int .i64 (.v 209))), (.c (.int .i64 (.v 210)))]) []
                (.call 29 [(.a (.c (.int .i64 (.lit 7)))), (.a (.c (.int .i64 (.lit 0)))), (.a (.c (.int .i64 (.lit 1))))] [] 211 [.i, .i, .i] (.a (.agg [(.int .i64 (.v 211)), (.int .i64 (.v 212)), (.int .i64 (.v 213))])) []
                (.call 29 [(.a (.c (.int .i64 (.lit 7)))), (.a (.c (.int .i64 (.lit 0)))), (.a (.c (.int .i64 (.lit 7))))] [] 215 [.i, .i, .i] (.a (.agg [(.int .i64 (.v 215)), (.int .i64 (.v 216)), (.int .i64 (.v 217))])) []
                (.call 21 [(.a (.c (.oslice 214 0 1 1))), (.a (.agg [(.int .i64 (.v 215)), (.int .i64 (.v 216)), (.int .i64 (.v 217))]))] [(.own 214 [(.int .i64 (.v 211)), (.int .i64 (.v 212)), (.int .i64 (.v 213))] 23)] 218 [.i, .i] (.tup [(.c (.int .i64 (.v 218))), (.c (.int .i64 (.v 219)))]) []
                (.call 29 [(.a (.c (.int .i64 (.lit 7)))), (.a (.c (.int .i64 (.lit 0)))), (.a (.c (.int .i64 (.lit 1))))] [] 220 [.i, .i, .i] (.a (.agg [(.int .i64 (.v 220)), (.int .i64 (.v 221)), (.int .i64 (.v 222))])) []
                (.call 29 [(.a (.c (.int .i64 (.lit 7)))), (.a (.c (.int .i64 (.lit 2)))), (.a (.c (.int .i64 (.lit 1))))] [] 223 [.i, .i, .i] (.a (.agg [(.int .i64 (.v 223)), (.int .i64 (.v 224)), (.int .i64 (.v 225))])) []
                (.call 29 [(.a (.c (.int .i64 (.lit 7)))), (.a (.c (.int .i64 (.lit 0)))), (.a (.c (.int .i64 (.lit 2))))] [] 227 [.i, .i, .i] (.a (.agg [(.int .i64 (.v 227)), (.int .i64 (.v 228)), (.int .i64 (.v 229))])) []
                (.call 21 [(.a (.c (.oslice 226 0 2 2))), (.a (.agg [(.int .i64 (.v 227)), (.int .i64 (.v 228)), (.int .i64 (.v 229))]))] [(.own 226 [(.int .i64 (.v 220)), (.int .i64 (.v 221)), (.int .i64 (.v 222)), (.int .i64 (.v 223)), (.int .i64 (.v 224)), (.int .i64 (.v 225))] 23)] 230 [.i, .i] (.tup [(.c (.int .i64 (.v 230))), (.c (.int .i64 (.v 231)))]) []
                (.call 15 [] [] 232 [.b] (.a (.c (.bool (.v 232)))) []
                (.ite (.v 232)
                  (.call 13 [(.a (.agg [(.int .i64 (.v 39)), (.int .i64 (.v 40)), (.int .i64 (.v 41))]))] [] 233 [.i] (.a (.c (.int .i64 (.v 233)))) []
                  (.ite (.and (.and (.and (.and (.and (.and (.and (.and (.and (.and (.and (.and (.cmp .eql (.v 233) (.lit 0)) (.cmp .eql (.v 178) (.lit 3))) (.cmp .eql (.v 180) (.lit 3))) (.cmp .eql (.v 182) (.lit 2))) (.cmp .eql (.v 184) (.lit 2))) (.cmp .eql (.v 193) (.lit 6))) (.cmp .eql (.v 204) (.lit 960))) (.cmp .eql (.v 205) (.lit 0))) (.cmp .eql (.v 209) (.lit 0))) (.cmp .eql (.v 210) (.lit 0))) (.cmp .eql (.v 219) (.lit 4))) (.cmp .eql (.v 230) (.lit 3))) (.cmp .eql (.v 231) (.lit 0)))
                    (.call 25 [(.a (.agg [(.int .i64 (.v 39)), (.int .i64 (.v 40)), (.int .i64 (.v 41))])), (.a (.c (.int .i64 (.lit 1099511627776))))] [] 234 [.b] (.a (.c (.bool (.v 234)))) []
                    (.ite (.v 234)
                      (.call 29 [(.a (.c (.int .i64 (.lit 3)))), (.a (.c (.int .i64 (.lit 0)))), (.a (.c (.int .i64 (.lit 1))))] [] 235 [.i, .i, .i] (.a (.agg [(.int .i64 (.v 235)), (.int .i64 (.v 236)), (.int .i64 (.v 237))])) []
                      (.call 25 [(.a (.agg [(.int .i64 (.v 235)), (.int .i64 (.v 236)), (.int .i64 (.v 237))])), (.a (.c (.int .i64 (.lit (-3)))))] [] 238 [.b] (.a (.c (.bool (.v 238)))) []
                      (.ite (.v 238)
                        (.call 29 [(.a (.c (.int .i64 (.lit 3)))), (.a (.c (.int .i64 (.lit 0)))), (.a (.c (.int .i64 (.lit 1))))] [] 239 [.i, .i, .i] (.a (.agg [(.int .i64 (.v 239)), (.int .i64 (.v 240)), (.int .i64 (.v 241))])) []
                        (.call 25 [(.a (.agg [(.int .i64 (.v 239)), (.int .i64 (.v 240)), (.int .i64 (.v 241))])), (.a (.c (.int .i64 (.lit (-1)))))] [] 242 [.b] (.a (.c (.bool (.v 242)))) []
                        (.done (.a (.c (.bool (.not (.v 242))))) [])))
                        (.done (.a (.c (.bool (.lit false)))) []))))
                      (.done (.a (.c (.bool (.lit false)))) [])))
                    (.done (.a (.c (.bool (.lit false)))) [])))
                  (.done (.a (.c (.bool (.lit false)))) [])))))))))))))))))))))))))))))))))))))))))))))))))))))))))))))))))))))))))))))))))))))))))))))) := by kernel_rfl

end Go.Proofs.Y23
