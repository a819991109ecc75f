/- A part of the proof: see the text that states the theorem. -/
import Derived.Test.YtjclacagbifgmaaAA
set_option linter.unusedSimpArgs false
set_option linter.unusedVariables false
set_option linter.unusedSectionVars false
noncomputable section
namespace Go.Proofs.Y10
open Go Go.SX Go.RowKit
theorem t_PtpBack : callTree C2 300 9 [dft 0, u8 15] [] 60 = some
  (.call 10 [] [] 61 [.b] (.a (.c (.bool (.v 61)))) []
  (.ite (.not (.v 61))
    (done (.a (.c (.bool (.lit false)))) [])
    (.call 16 [(.a (.agg [(.int .u8 (.v 0)), (.int .u8 (.v 1)), (.int .i64 (.v 2)), (.int .i64 (.v 3)), (.int .u64 (.v 4)), (.int .u64 (.v 5)), (.int .u16 (.v 6)), (.int .u16 (.v 7)), (.int .u16 (.v 8)), (.int .i32 (.v 9)), (.int .u8 (.v 10)), (.int .u8 (.v 11)), (.int .u8 (.v 12)), (.int .u8 (.v 13)), (.int .u16 (.v 14))]))] [] 62 [.i, .i, .i, .i, .i, .i, .i, .i, .i, .i, .i, .i, .i, .i, .i, .i, .i] (.a (.agg [(.int .i64 (.v 62)), (.int .i64 (.v 63)), (.int .i64 (.v 64)), (.int .i64 (.v 65)), (.int .i64 (.v 66)), (.int .i64 (.v 67)), (.int .i64 (.v 68)), (.int .i64 (.v 69)), (.int .i64 (.v 70)), (.int .i64 (.v 71)), (.int .i64 (.v 72)), (.int .i64 (.v 73)), (.int .i64 (.v 74)), (.int .i64 (.v 75)), (.int .i64 (.v 76)), (.int .i64 (.v 77)), (.int .i64 (.v 78))])) []
    (.call 18 [(.a (.agg [(.int .i64 (.v 62)), (.int .i64 (.v 63)), (.int .i64 (.v 64)), (.int .i64 (.v 65)), (.int .i64 (.v 66)), (.int .i64 (.v 67)), (.int .i64 (.v 68)), (.int .i64 (.v 69)), (.int .i64 (.v 70)), (.int .i64 (.v 71)), (.int .i64 (.v 72)), (.int .i64 (.v 73)), (.int .i64 (.v 74)), (.int .i64 (.v 75)), (.int .i64 (.v 76)), (.int .i64 (.v 77)), (.int .i64 (.v 78))]))] [] 80 [.l, .n, .i] (.tup [(.c (.slice 81 1 0 (.lit 0) (.alen 80) (.k 81))), (.c (.int .i64 (.v 82)))]) [(.arr 81 80 [(.int .u8)] (some 5))]
    (.ite (.not (.cmp .neq (.v 82) (.lit 0)))
      (.call 13 [(.a (.c (.int .i64 (.v 62))))] [] 83 [.i] (.a (.c (.int .i64 (.v 83)))) []
      (.ite (.cmp .neq (.alen 80) (.v 83))
        (done (.a (.c (.bool (.lit false)))) [])
        (.call 22 [(.a (.c (.slice 81 1 0 (.lit 0) (.alen 80) (.k 81))))] [(.arr 81 80 [(.int .u8)] (some 5))] 84 [.i, .i, .i, .i, .i, .i, .i, .i, .i, .i, .i, .i, .i, .i, .i, .i, .i, .i] (.tup [(.agg [(.int .i64 (.v 84)), (.int .i64 (.v 85)), (.int .i64 (.v 86)), (.int .i64 (.v 87)), (.int .i64 (.v 88)), (.int .i64 (.v 89)), (.int .i64 (.v 90)), (.int .i64 (.v 91)), (.int .i64 (.v 92)), (.int .i64 (.v 93)), (.int .i64 (.v 94)), (.int .i64 (.v 95)), (.int .i64 (.v 96)), (.int .i64 (.v 97)), (.int .i64 (.v 98)), (.int .i64 (.v 99)), (.int .i64 (.v 100))]), (.c (.int .i64 (.v 101)))]) []
        (.ite (.nl 81)
          (.call 22 [(.a (.c (.gslice 104 0 1 0)))] [(.obj 104 (.cells [(.int .u8 (.v 15))] 5 (some 1)))] 105 [.i, .i, .i, .i, .i, .i, .i, .i, .i, .i, .i, .i, .i, .i, .i, .i, .i, .i] (.tup [(.agg [(.int .i64 (.v 105)), (.int .i64 (.v 106)), (.int .i64 (.v 107)), (.int .i64 (.v 108)), (.int .i64 (.v 109)), (.int .i64 (.v 110)), (.int .i64 (.v 111)), (.int .i64 (.v 112)), (.int .i64 (.v 113)), (.int .i64 (.v 114)), (.int .i64 (.v 115)), (.int .i64 (.v 116)), (.int .i64 (.v 117)), (.int .i64 (.v 118)), (.int .i64 (.v 119)), (.int .i64 (.v 120)), (.int .i64 (.v 121))]), (.c (.int .i64 (.v 122)))]) []
          (.ite (.or (.or (.cmp .neq (.v 101) (.lit 0)) (.not (.and (.cmp .eql (.v 84) (.v 62)) (.and (.cmp .eql (.v 85) (.v 63)) (.and (.cmp .eql (.v 86) (.v 64)) (.and (.and (.cmp .eql (.v 87) (.v 65)) (.cmp .eql (.v 88) (.v 66))) (.and (.cmp .eql (.v 89) (.v 67)) (.and (.cmp .eql (.v 90) (.v 68)) (.and (.cmp .eql (.v 91) (.v 69)) (.and (.and (.cmp .eql (.v 92) (.v 70)) (.cmp .eql (.v 93) (.v 71))) (.and (.and (.cmp .eql (.v 94) (.v 72)) (.and (.cmp .eql (.v 95) (.v 73)) (.and (.cmp .eql (.v 96) (.v 74)) (.and (.cmp .eql (.v 97) (.v 75)) (.and (.cmp .eql (.v 98) (.v 76)) (.cmp .eql (.v 99) (.v 77))))))) (.cmp .eql (.v 100) (.v 78))))))))))))) (.cmp .neq (.v 122) (.lit 5)))
            (done (.a (.c (.bool (.lit false)))) [])
            (.loop [.i] 124 [(.i (.lit 0))]
              (.ite (.cmp .lss (.v 124) (.v 83))
                (.need [(.cmp .leq (.lit 0) (.v 124)), (.cmp .leq (.v 124) (.v 83))]
                (.call 22 [(.a (.c (.slice 81 1 0 (.lit 0) (.v 124) (.k 81))))] [(.arr 81 80 [(.int .u8)] (some 5))] 125 [.i, .i, .i, .i, .i, .i, .i, .i, .i, .i, .i, .i, .i, .i, .i, .i, .i, .i] (.tup [(.agg [(.int .i64 (.v 125)), (.int .i64 (.v 126)), (.int .i64 (.v 127)), (.int .i64 (.v 128)), (.int .i64 (.v 129)), (.int .i64 (.v 130)), (.int .i64 (.v 131)), (.int .i64 (.v 132)), (.int .i64 (.v 133)), (.int .i64 (.v 134)), (.int .i64 (.v 135)), (.int .i64 (.v 136)), (.int .i64 (.v 137)), (.int .i64 (.v 138)), (.int .i64 (.v 139)), (.int .i64 (.v 140)), (.int .i64 (.v 141))]), (.c (.int .i64 (.v 142)))]) []
                (.ite (.cmp .neq (.v 142) (.lit 5))
                  (done (.a (.c (.bool (.lit false)))) [])
                  (.cont 0 [(.i (.bin .add .i64 (.v 124) (.lit 1)))]))))
                (done (.a (.c (.bool (.lit true)))) [])))))
          (.need [(.cmp .leq (.v 83) (.lit 140737488355328))]
          (.arr 104 (.cat (.rows []) (.arr 80)) (.lit false)
          (.need [(.cmp .leq (.plus (.alen 104) (.lit 1)) (.lit 140737488355328))]
          (.arr 106 (.cat (.arr 104) (.rows [[(.i (.v 15))]])) (.lit false)
          (.call 22 [(.a (.c (.slice 106 1 0 (.lit 0) (.alen 106) (.k 106))))] [(.arr 106 106 [(.int .u8)] (some 5))] 107 [.i, .i, .i, .i, .i, .i, .i, .i, .i, .i, .i, .i, .i, .i, .i, .i, .i, .i] (.tup [(.agg [(.int .i64 (.v 107)), (.int .i64 (.v 108)), (.int .i64 (.v 109)), (.int .i64 (.v 110)), (.int .i64 (.v 111)), (.int .i64 (.v 112)), (.int .i64 (.v 113)), (.int .i64 (.v 114)), (.int .i64 (.v 115)), (.int .i64 (.v 116)), (.int .i64 (.v 117)), (.int .i64 (.v 118)), (.int .i64 (.v 119)), (.int .i64 (.v 120)), (.int .i64 (.v 121)), (.int .i64 (.v 122)), (.int .i64 (.v 123))]), (.c (.int .i64 (.v 124)))]) []
          (.ite (.or (.or (.cmp .neq (.v 101) (.lit 0)) (.not (.and (.cmp .eql (.v 84) (.v 62)) (.and (.cmp .eql (.v 85) (.v 63)) (.and (.cmp .eql (.v 86) (.v 64)) (.and (.and (.cmp .eql (.v 87) (.v 65)) (.cmp .eql (.v 88) (.v 66))) (.and (.cmp .eql (.v 89) (.v 67)) (.and (.cmp .eql (.v 90) (.v 68)) (.and (.cmp .eql (.v 91) (.v 69)) (.and (.and (.cmp .eql (.v 92) (.v 70)) (.cmp .eql (.v 93) (.v 71))) (.and (.and (.cmp .eql (.v 94) (.v 72)) (.and (.cmp .eql (.v 95) (.v 73)) (.and (.cmp .eql (.v 96) (.v 74)) (.and (.cmp .eql (.v 97) (.v 75)) (.and (.cmp .eql (.v 98) (.v 76)) (.cmp .eql (.v 99) (.v 77))))))) (.cmp .eql (.v 100) (.v 78))))))))))))) (.cmp .neq (.v 124) (.lit 5)))
            (done (.a (.c (.bool (.lit false)))) [])
            (.loop [.i] 126 [(.i (.lit 0))]
              (.ite (.cmp .lss (.v 126) (.v 83))
                (.need [(.cmp .leq (.lit 0) (.v 126)), (.cmp .leq (.v 126) (.v 83))]
                (.call 22 [(.a (.c (.slice 81 1 0 (.lit 0) (.v 126) (.k 81))))] [(.arr 81 80 [(.int .u8)] (some 5))] 127 [.i, .i, .i, .i, .i, .i, .i, .i, .i, .i, .i, .i, .i, .i, .i, .i, .i, .i] (.tup [(.agg [(.int .i64 (.v 127)), (.int .i64 (.v 128)), (.int .i64 (.v 129)), (.int .i64 (.v 130)), (.int .i64 (.v 131)), (.int .i64 (.v 132)), (.int .i64 (.v 133)), (.int .i64 (.v 134)), (.int .i64 (.v 135)), (.int .i64 (.v 136)), (.int .i64 (.v 137)), (.int .i64 (.v 138)), (.int .i64 (.v 139)), (.int .i64 (.v 140)), (.int .i64 (.v 141)), (.int .i64 (.v 142)), (.int .i64 (.v 143))]), (.c (.int .i64 (.v 144)))]) []
                (.ite (.cmp .neq (.v 144) (.lit 5))
                  (done (.a (.c (.bool (.lit false)))) [])
                  (.cont 0 [(.i (.bin .add .i64 (.v 126) (.lit 1)))]))))
                (done (.a (.c (.bool (.lit true)))) [])))))))))))))
      (done (.a (.c (.bool (.lit false)))) [])))))) := by kernel_rfl

end Go.Proofs.Y10
