/- A part of the proof: see the text that states the theorem. -/
import Derived.Test.YtjclacagbifgmaaAA
set_option linter.unusedSimpArgs false
set_option linter.unusedVariables false
set_option linter.unusedSectionVars false
noncomputable section
namespace Go.Proofs.Y10
open Go Go.SX Go.RowKit
theorem t_PtpOnce : callTree C2 300 6 [slArg 0 1, dft 3, u8 18, u8 19] [.arr 1 0 pu none] 60 = some
  (.call 10 [] [] 61 [.b] (.a (.c (.bool (.v 61)))) []
  (.ite (.not (.v 61))
    (done (.a (.c (.bool (.lit false)))) [])
    (.call 16 [(.a (.agg [(.int .u8 (.v 3)), (.int .u8 (.v 4)), (.int .i64 (.v 5)), (.int .i64 (.v 6)), (.int .u64 (.v 7)), (.int .u64 (.v 8)), (.int .u16 (.v 9)), (.int .u16 (.v 10)), (.int .u16 (.v 11)), (.int .i32 (.v 12)), (.int .u8 (.v 13)), (.int .u8 (.v 14)), (.int .u8 (.v 15)), (.int .u8 (.v 16)), (.int .u16 (.v 17))]))] [] 62 [.i, .i, .i, .i, .i, .i, .i, .i, .i, .i, .i, .i, .i, .i, .i, .i, .i] (.a (.agg [(.int .i64 (.v 62)), (.int .i64 (.v 63)), (.int .i64 (.v 64)), (.int .i64 (.v 65)), (.int .i64 (.v 66)), (.int .i64 (.v 67)), (.int .i64 (.v 68)), (.int .i64 (.v 69)), (.int .i64 (.v 70)), (.int .i64 (.v 71)), (.int .i64 (.v 72)), (.int .i64 (.v 73)), (.int .i64 (.v 74)), (.int .i64 (.v 75)), (.int .i64 (.v 76)), (.int .i64 (.v 77)), (.int .i64 (.v 78))])) []
    (.call 18 [(.a (.agg [(.int .i64 (.v 62)), (.int .i64 (.v 63)), (.int .i64 (.v 64)), (.int .i64 (.v 65)), (.int .i64 (.v 66)), (.int .i64 (.v 67)), (.int .i64 (.v 68)), (.int .i64 (.v 69)), (.int .i64 (.v 70)), (.int .i64 (.v 71)), (.int .i64 (.v 72)), (.int .i64 (.v 73)), (.int .i64 (.v 74)), (.int .i64 (.v 75)), (.int .i64 (.v 76)), (.int .i64 (.v 77)), (.int .i64 (.v 78))]))] [] 79 [.l, .n, .i] (.tup [(.c (.slice 80 1 0 (.lit 0) (.alen 79) (.k 80))), (.c (.int .i64 (.v 81)))]) [(.arr 80 79 [(.int .u8)] (some 5))]
    (.ite (.or (.cmp .neq (.v 81) (.lit 0)) (.cmp .eql (.alen 79) (.lit 0)))
      (done (.a (.c (.bool (.lit false)))) [])
      (.need [(.cmp .leq (.lit 0) (.bin .rem .i64 (.conv .i64 (.v 18)) (.alen 79))), (.cmp .lss (.bin .rem .i64 (.conv .i64 (.v 18)) (.alen 79)) (.alen 79)), (.cmp .lss (.bin .rem .i64 (.conv .i64 (.v 18)) (.alen 79)) (.alen 79))]
      (.arr 82 (.set 79 (.bin .rem .i64 (.conv .i64 (.v 18)) (.alen 79)) [(.i (.bin .xor .u8 (.sel 79 0 (.bin .rem .i64 (.conv .i64 (.v 18)) (.alen 79))) (.v 19)))]) (.lit false)
      (.need [(.cmp .leq (.lit 0) (.sw .lss (.lit 60) (.alen 0) (.lit 60) (.alen 0))), (.cmp .leq (.sw .lss (.lit 60) (.alen 0) (.lit 60) (.alen 0)) (.v 2))]
      (.call 22 [(.a (.c (.slice 1 1 0 (.lit 0) (.sw .lss (.lit 60) (.alen 0) (.lit 60) (.alen 0)) (.e (.v 2)))))] [(.arr 1 0 [(.int .u8)] none)] 83 [.i, .i, .i, .i, .i, .i, .i, .i, .i, .i, .i, .i, .i, .i, .i, .i, .i, .i] (.tup [(.agg [(.int .i64 (.v 83)), (.int .i64 (.v 84)), (.int .i64 (.v 85)), (.int .i64 (.v 86)), (.int .i64 (.v 87)), (.int .i64 (.v 88)), (.int .i64 (.v 89)), (.int .i64 (.v 90)), (.int .i64 (.v 91)), (.int .i64 (.v 92)), (.int .i64 (.v 93)), (.int .i64 (.v 94)), (.int .i64 (.v 95)), (.int .i64 (.v 96)), (.int .i64 (.v 97)), (.int .i64 (.v 98)), (.int .i64 (.v 99))]), (.c (.int .i64 (.v 100)))]) []
      (.ite (.cmp .neq (.v 100) (.lit 0))
        (.ite (.or (.cmp .neq (.v 100) (.lit 5)) (.not (.and (.cmp .eql (.v 83) (.lit 0)) (.and (.cmp .eql (.v 84) (.lit 0)) (.and (.cmp .eql (.v 85) (.lit 0)) (.and (.and (.cmp .eql (.v 86) (.lit 0)) (.cmp .eql (.v 87) (.lit 0))) (.and (.cmp .eql (.v 88) (.lit 0)) (.and (.cmp .eql (.v 89) (.lit 0)) (.and (.cmp .eql (.v 90) (.lit 0)) (.and (.and (.cmp .eql (.v 91) (.lit 0)) (.cmp .eql (.v 92) (.lit 0))) (.and (.and (.cmp .eql (.v 93) (.lit 0)) (.and (.cmp .eql (.v 94) (.lit 0)) (.and (.cmp .eql (.v 95) (.lit 0)) (.and (.cmp .eql (.v 96) (.lit 0)) (.and (.cmp .eql (.v 97) (.lit 0)) (.cmp .eql (.v 98) (.lit 0))))))) (.cmp .eql (.v 99) (.lit 0)))))))))))))
          (done (.a (.c (.bool (.lit false)))) [])
          (.call 22 [(.a (.c (.slice 80 1 0 (.lit 0) (.alen 79) (.k 80))))] [(.arr 80 82 [(.int .u8)] (some 5))] 102 [.i, .i, .i, .i, .i, .i, .i, .i, .i, .i, .i, .i, .i, .i, .i, .i, .i, .i] (.tup [(.agg [(.int .i64 (.v 102)), (.int .i64 (.v 103)), (.int .i64 (.v 104)), (.int .i64 (.v 105)), (.int .i64 (.v 106)), (.int .i64 (.v 107)), (.int .i64 (.v 108)), (.int .i64 (.v 109)), (.int .i64 (.v 110)), (.int .i64 (.v 111)), (.int .i64 (.v 112)), (.int .i64 (.v 113)), (.int .i64 (.v 114)), (.int .i64 (.v 115)), (.int .i64 (.v 116)), (.int .i64 (.v 117)), (.int .i64 (.v 118))]), (.c (.int .i64 (.v 119)))]) []
          (.ite (.cmp .neq (.v 119) (.lit 0))
            (.ite (.or (.cmp .neq (.v 119) (.lit 5)) (.not (.and (.cmp .eql (.v 102) (.lit 0)) (.and (.cmp .eql (.v 103) (.lit 0)) (.and (.cmp .eql (.v 104) (.lit 0)) (.and (.and (.cmp .eql (.v 105) (.lit 0)) (.cmp .eql (.v 106) (.lit 0))) (.and (.cmp .eql (.v 107) (.lit 0)) (.and (.cmp .eql (.v 108) (.lit 0)) (.and (.cmp .eql (.v 109) (.lit 0)) (.and (.and (.cmp .eql (.v 110) (.lit 0)) (.cmp .eql (.v 111) (.lit 0))) (.and (.and (.cmp .eql (.v 112) (.lit 0)) (.and (.cmp .eql (.v 113) (.lit 0)) (.and (.cmp .eql (.v 114) (.lit 0)) (.and (.cmp .eql (.v 115) (.lit 0)) (.and (.cmp .eql (.v 116) (.lit 0)) (.cmp .eql (.v 117) (.lit 0))))))) (.cmp .eql (.v 118) (.lit 0)))))))))))))
              (done (.a (.c (.bool (.lit false)))) [])
              (done (.a (.c (.bool (.lit true)))) []))
            (.call 18 [(.a (.agg [(.int .i64 (.v 102)), (.int .i64 (.v 103)), (.int .i64 (.v 104)), (.int .i64 (.v 105)), (.int .i64 (.v 106)), (.int .i64 (.v 107)), (.int .i64 (.v 108)), (.int .i64 (.v 109)), (.int .i64 (.v 110)), (.int .i64 (.v 111)), (.int .i64 (.v 112)), (.int .i64 (.v 113)), (.int .i64 (.v 114)), (.int .i64 (.v 115)), (.int .i64 (.v 116)), (.int .i64 (.v 117)), (.int .i64 (.v 118))]))] [] 121 [.l, .n, .i] (.tup [(.c (.slice 122 1 0 (.lit 0) (.alen 121) (.k 122))), (.c (.int .i64 (.v 123)))]) [(.arr 122 121 [(.int .u8)] (some 5))]
            (.ite (.not (.cmp .neq (.v 123) (.lit 0)))
              (.call 20 [(.a (.c (.slice 122 1 0 (.lit 0) (.alen 121) (.k 122)))), (.a (.c (.slice 80 1 0 (.lit 0) (.alen 79) (.k 80))))] [(.arr 122 121 [(.int .u8)] (some 5)), (.arr 80 82 [(.int .u8)] (some 5))] 124 [.b] (.a (.c (.bool (.v 124)))) []
              (.ite (.not (.v 124))
                (done (.a (.c (.bool (.lit false)))) [])
                (done (.a (.c (.bool (.lit true)))) [])))
              (done (.a (.c (.bool (.lit false)))) []))))))
        (.call 18 [(.a (.agg [(.int .i64 (.v 83)), (.int .i64 (.v 84)), (.int .i64 (.v 85)), (.int .i64 (.v 86)), (.int .i64 (.v 87)), (.int .i64 (.v 88)), (.int .i64 (.v 89)), (.int .i64 (.v 90)), (.int .i64 (.v 91)), (.int .i64 (.v 92)), (.int .i64 (.v 93)), (.int .i64 (.v 94)), (.int .i64 (.v 95)), (.int .i64 (.v 96)), (.int .i64 (.v 97)), (.int .i64 (.v 98)), (.int .i64 (.v 99))]))] [] 102 [.l, .n, .i] (.tup [(.c (.slice 103 1 0 (.lit 0) (.alen 102) (.k 103))), (.c (.int .i64 (.v 104)))]) [(.arr 103 102 [(.int .u8)] (some 5))]
        (.ite (.not (.cmp .neq (.v 104) (.lit 0)))
          (.call 20 [(.a (.c (.slice 103 1 0 (.lit 0) (.alen 102) (.k 103)))), (.a (.c (.slice 1 1 0 (.lit 0) (.sw .lss (.lit 60) (.alen 0) (.lit 60) (.alen 0)) (.e (.v 2)))))] [(.arr 103 102 [(.int .u8)] (some 5)), (.arr 1 0 [(.int .u8)] none)] 105 [.b] (.a (.c (.bool (.v 105)))) []
          (.ite (.not (.v 105))
            (done (.a (.c (.bool (.lit false)))) [])
            (.call 22 [(.a (.c (.slice 80 1 0 (.lit 0) (.alen 79) (.k 80))))] [(.arr 80 82 [(.int .u8)] (some 5))] 106 [.i, .i, .i, .i, .i, .i, .i, .i, .i, .i, .i, .i, .i, .i, .i, .i, .i, .i] (.tup [(.agg [(.int .i64 (.v 106)), (.int .i64 (.v 107)), (.int .i64 (.v 108)), (.int .i64 (.v 109)), (.int .i64 (.v 110)), (.int .i64 (.v 111)), (.int .i64 (.v 112)), (.int .i64 (.v 113)), (.int .i64 (.v 114)), (.int .i64 (.v 115)), (.int .i64 (.v 116)), (.int .i64 (.v 117)), (.int .i64 (.v 118)), (.int .i64 (.v 119)), (.int .i64 (.v 120)), (.int .i64 (.v 121)), (.int .i64 (.v 122))]), (.c (.int .i64 (.v 123)))]) []
            (.ite (.cmp .neq (.v 123) (.lit 0))
              (.ite (.or (.cmp .neq (.v 123) (.lit 5)) (.not (.and (.cmp .eql (.v 106) (.lit 0)) (.and (.cmp .eql (.v 107) (.lit 0)) (.and (.cmp .eql (.v 108) (.lit 0)) (.and (.and (.cmp .eql (.v 109) (.lit 0)) (.cmp .eql (.v 110) (.lit 0))) (.and (.cmp .eql (.v 111) (.lit 0)) (.and (.cmp .eql (.v 112) (.lit 0)) (.and (.cmp .eql (.v 113) (.lit 0)) (.and (.and (.cmp .eql (.v 114) (.lit 0)) (.cmp .eql (.v 115) (.lit 0))) (.and (.and (.cmp .eql (.v 116) (.lit 0)) (.and (.cmp .eql (.v 117) (.lit 0)) (.and (.cmp .eql (.v 118) (.lit 0)) (.and (.cmp .eql (.v 119) (.lit 0)) (.and (.cmp .eql (.v 120) (.lit 0)) (.cmp .eql (.v 121) (.lit 0))))))) (.cmp .eql (.v 122) (.lit 0)))))))))))))
                (done (.a (.c (.bool (.lit false)))) [])
                (done (.a (.c (.bool (.lit true)))) []))
              (.call 18 [(.a (.agg [(.int .i64 (.v 106)), (.int .i64 (.v 107)), (.int .i64 (.v 108)), (.int .i64 (.v 109)), (.int .i64 (.v 110)), (.int .i64 (.v 111)), (.int .i64 (.v 112)), (.int .i64 (.v 113)), (.int .i64 (.v 114)), (.int .i64 (.v 115)), (.int .i64 (.v 116)), (.int .i64 (.v 117)), (.int .i64 (.v 118)), (.int .i64 (.v 119)), (.int .i64 (.v 120)), (.int .i64 (.v 121)), (.int .i64 (.v 122))]))] [] 125 [.l, .n, .i] (.tup [(.c (.slice 126 1 0 (.lit 0) (.alen 125) (.k 126))), (.c (.int .i64 (.v 127)))]) [(.arr 126 125 [(.int .u8)] (some 5))]
              (.ite (.not (.cmp .neq (.v 127) (.lit 0)))
                (.call 20 [(.a (.c (.slice 126 1 0 (.lit 0) (.alen 125) (.k 126)))), (.a (.c (.slice 80 1 0 (.lit 0) (.alen 79) (.k 80))))] [(.arr 126 125 [(.int .u8)] (some 5)), (.arr 80 82 [(.int .u8)] (some 5))] 128 [.b] (.a (.c (.bool (.v 128)))) []
                (.ite (.not (.v 128))
                  (done (.a (.c (.bool (.lit false)))) [])
                  (done (.a (.c (.bool (.lit true)))) [])))
                (done (.a (.c (.bool (.lit false)))) [])))))))
          (done (.a (.c (.bool (.lit false)))) []))))))))))))) := by kernel_rfl

end Go.Proofs.Y10
