/- A part of the proof: see the text that states the theorem. -/
import Derived.Test.YtjclacagbifgmaaAA
set_option linter.unusedSimpArgs false
set_option linter.unusedVariables false
set_option linter.unusedSectionVars false
noncomputable section
namespace Go.Proofs.Y10
open Go Go.SX Go.RowKit
theorem t_PtpEncodes : callTree C2 300 4 [msg 0, dft 17, i64 32] [] 60 = some
  (.call 10 [] [] 62 [.b] (.a (.c (.bool (.v 62)))) []
  (.ite (.not (.v 62))
    (done (.a (.c (.bool (.lit false)))) [])
    (.call 16 [(.a (.agg [(.int .u8 (.v 17)), (.int .u8 (.v 18)), (.int .i64 (.v 19)), (.int .i64 (.v 20)), (.int .u64 (.v 21)), (.int .u64 (.v 22)), (.int .u16 (.v 23)), (.int .u16 (.v 24)), (.int .u16 (.v 25)), (.int .i32 (.v 26)), (.int .u8 (.v 27)), (.int .u8 (.v 28)), (.int .u8 (.v 29)), (.int .u8 (.v 30)), (.int .u16 (.v 31))]))] [] 63 [.i, .i, .i, .i, .i, .i, .i, .i, .i, .i, .i, .i, .i, .i, .i, .i, .i] (.a (.agg [(.int .i64 (.v 63)), (.int .i64 (.v 64)), (.int .i64 (.v 65)), (.int .i64 (.v 66)), (.int .i64 (.v 67)), (.int .i64 (.v 68)), (.int .i64 (.v 69)), (.int .i64 (.v 70)), (.int .i64 (.v 71)), (.int .i64 (.v 72)), (.int .i64 (.v 73)), (.int .i64 (.v 74)), (.int .i64 (.v 75)), (.int .i64 (.v 76)), (.int .i64 (.v 77)), (.int .i64 (.v 78)), (.int .i64 (.v 79))])) []
    (.call 16 [(.a (.agg [(.int .u8 (.v 17)), (.int .u8 (.v 18)), (.int .i64 (.v 19)), (.int .i64 (.v 20)), (.int .u64 (.v 21)), (.int .u64 (.v 22)), (.int .u16 (.v 23)), (.int .u16 (.v 24)), (.int .u16 (.v 25)), (.int .i32 (.v 26)), (.int .u8 (.v 27)), (.int .u8 (.v 28)), (.int .u8 (.v 29)), (.int .u8 (.v 30)), (.int .u16 (.v 31))]))] [] 84 [.i, .i, .i, .i, .i, .i, .i, .i, .i, .i, .i, .i, .i, .i, .i, .i, .i] (.a (.agg [(.int .i64 (.v 84)), (.int .i64 (.v 85)), (.int .i64 (.v 86)), (.int .i64 (.v 87)), (.int .i64 (.v 88)), (.int .i64 (.v 89)), (.int .i64 (.v 90)), (.int .i64 (.v 91)), (.int .i64 (.v 92)), (.int .i64 (.v 93)), (.int .i64 (.v 94)), (.int .i64 (.v 95)), (.int .i64 (.v 96)), (.int .i64 (.v 97)), (.int .i64 (.v 98)), (.int .i64 (.v 99)), (.int .i64 (.v 100))])) []
    (.loop [.i] 103 [(.i (.lit 0))]
      (.ite (.cmp .lss (.v 103) (.lit 14))
        (.ite (.cmp .eql (.v 103) (.lit 0))
          (.call 18 [(.a (.agg [(.int .i64 (.v 32)), (.int .i64 (.v 64)), (.int .i64 (.v 65)), (.int .i64 (.v 66)), (.int .i64 (.v 67)), (.int .i64 (.v 68)), (.int .i64 (.v 69)), (.int .i64 (.v 70)), (.int .i64 (.v 71)), (.int .i64 (.v 72)), (.int .i64 (.v 73)), (.int .i64 (.v 74)), (.int .i64 (.v 75)), (.int .i64 (.v 76)), (.int .i64 (.v 77)), (.int .i64 (.v 78)), (.int .i64 (.v 79))]))] [] 105 [.l, .n, .i] (.tup [(.c (.slice 106 1 0 (.lit 0) (.alen 105) (.k 106))), (.c (.int .i64 (.v 107)))]) [(.arr 106 105 [(.int .u8)] (some 5))]
          (.call 19 [(.a (.agg [(.int .i64 (.v 32)), (.int .i64 (.v 64)), (.int .i64 (.v 65)), (.int .i64 (.v 66)), (.int .i64 (.v 67)), (.int .i64 (.v 68)), (.int .i64 (.v 69)), (.int .i64 (.v 70)), (.int .i64 (.v 71)), (.int .i64 (.v 72)), (.int .i64 (.v 73)), (.int .i64 (.v 74)), (.int .i64 (.v 75)), (.int .i64 (.v 76)), (.int .i64 (.v 77)), (.int .i64 (.v 78)), (.int .i64 (.v 79))]))] [] 108 [.b] (.a (.c (.bool (.v 108)))) []
          (.ite (.not (.v 108))
            (.ite (.or (.cmp .neq (.v 107) (.lit 200)) (.cmp .gtr (.alen 105) (.lit 0)))
              (done (.a (.c (.bool (.lit false)))) [])
              (.cont 0 [(.i (.lit 1))]))
            (.ite (.not (.cmp .neq (.v 107) (.lit 0)))
              (.call 21 [(.a (.agg [(.int .i64 (.v 32)), (.int .i64 (.v 64)), (.int .i64 (.v 65)), (.int .i64 (.v 66)), (.int .i64 (.v 67)), (.int .i64 (.v 68)), (.int .i64 (.v 69)), (.int .i64 (.v 70)), (.int .i64 (.v 71)), (.int .i64 (.v 72)), (.int .i64 (.v 73)), (.int .i64 (.v 74)), (.int .i64 (.v 75)), (.int .i64 (.v 76)), (.int .i64 (.v 77)), (.int .i64 (.v 78)), (.int .i64 (.v 79))]))] [] 109 [.l, .n] (.a (.c (.slice 110 1 0 (.lit 0) (.alen 109) (.k 110)))) [(.arr 110 109 [(.int .u8)] (some 5))]
              (.call 20 [(.a (.c (.slice 106 1 0 (.lit 0) (.alen 105) (.k 106)))), (.a (.c (.slice 110 1 0 (.lit 0) (.alen 109) (.k 110))))] [(.arr 110 109 [(.int .u8)] (some 5)), (.arr 106 105 [(.int .u8)] (some 5))] 111 [.b] (.a (.c (.bool (.v 111)))) []
              (.ite (.not (.v 111))
                (done (.a (.c (.bool (.lit false)))) [])
                (.cont 0 [(.i (.lit 1))]))))
              (done (.a (.c (.bool (.lit false)))) [])))))
          (.ite (.cmp .eql (.v 103) (.lit 1))
            (.call 18 [(.a (.agg [(.int .i64 (.v 63)), (.int .i64 (.v 32)), (.int .i64 (.v 65)), (.int .i64 (.v 66)), (.int .i64 (.v 67)), (.int .i64 (.v 68)), (.int .i64 (.v 69)), (.int .i64 (.v 70)), (.int .i64 (.v 71)), (.int .i64 (.v 72)), (.int .i64 (.v 73)), (.int .i64 (.v 74)), (.int .i64 (.v 75)), (.int .i64 (.v 76)), (.int .i64 (.v 77)), (.int .i64 (.v 78)), (.int .i64 (.v 79))]))] [] 105 [.l, .n, .i] (.tup [(.c (.slice 106 1 0 (.lit 0) (.alen 105) (.k 106))), (.c (.int .i64 (.v 107)))]) [(.arr 106 105 [(.int .u8)] (some 5))]
            (.call 19 [(.a (.agg [(.int .i64 (.v 63)), (.int .i64 (.v 32)), (.int .i64 (.v 65)), (.int .i64 (.v 66)), (.int .i64 (.v 67)), (.int .i64 (.v 68)), (.int .i64 (.v 69)), (.int .i64 (.v 70)), (.int .i64 (.v 71)), (.int .i64 (.v 72)), (.int .i64 (.v 73)), (.int .i64 (.v 74)), (.int .i64 (.v 75)), (.int .i64 (.v 76)), (.int .i64 (.v 77)), (.int .i64 (.v 78)), (.int .i64 (.v 79))]))] [] 108 [.b] (.a (.c (.bool (.v 108)))) []
            (.ite (.not (.v 108))
              (.ite (.or (.cmp .neq (.v 107) (.lit 200)) (.cmp .gtr (.alen 105) (.lit 0)))
                (done (.a (.c (.bool (.lit false)))) [])
                (.cont 0 [(.i (.lit 2))]))
              (.ite (.not (.cmp .neq (.v 107) (.lit 0)))
                (.call 21 [(.a (.agg [(.int .i64 (.v 63)), (.int .i64 (.v 32)), (.int .i64 (.v 65)), (.int .i64 (.v 66)), (.int .i64 (.v 67)), (.int .i64 (.v 68)), (.int .i64 (.v 69)), (.int .i64 (.v 70)), (.int .i64 (.v 71)), (.int .i64 (.v 72)), (.int .i64 (.v 73)), (.int .i64 (.v 74)), (.int .i64 (.v 75)), (.int .i64 (.v 76)), (.int .i64 (.v 77)), (.int .i64 (.v 78)), (.int .i64 (.v 79))]))] [] 109 [.l, .n] (.a (.c (.slice 110 1 0 (.lit 0) (.alen 109) (.k 110)))) [(.arr 110 109 [(.int .u8)] (some 5))]
                (.call 20 [(.a (.c (.slice 106 1 0 (.lit 0) (.alen 105) (.k 106)))), (.a (.c (.slice 110 1 0 (.lit 0) (.alen 109) (.k 110))))] [(.arr 110 109 [(.int .u8)] (some 5)), (.arr 106 105 [(.int .u8)] (some 5))] 111 [.b] (.a (.c (.bool (.v 111)))) []
                (.ite (.not (.v 111))
                  (done (.a (.c (.bool (.lit false)))) [])
                  (.cont 0 [(.i (.lit 2))]))))
                (done (.a (.c (.bool (.lit false)))) [])))))
            (.ite (.cmp .eql (.v 103) (.lit 2))
              (.call 18 [(.a (.agg [(.int .i64 (.v 63)), (.int .i64 (.v 64)), (.int .i64 (.v 32)), (.int .i64 (.v 66)), (.int .i64 (.v 67)), (.int .i64 (.v 68)), (.int .i64 (.v 69)), (.int .i64 (.v 70)), (.int .i64 (.v 71)), (.int .i64 (.v 72)), (.int .i64 (.v 73)), (.int .i64 (.v 74)), (.int .i64 (.v 75)), (.int .i64 (.v 76)), (.int .i64 (.v 77)), (.int .i64 (.v 78)), (.int .i64 (.v 79))]))] [] 105 [.l, .n, .i] (.tup [(.c (.slice 106 1 0 (.lit 0) (.alen 105) (.k 106))), (.c (.int .i64 (.v 107)))]) [(.arr 106 105 [(.int .u8)] (some 5))]
              (.call 19 [(.a (.agg [(.int .i64 (.v 63)), (.int .i64 (.v 64)), (.int .i64 (.v 32)), (.int .i64 (.v 66)), (.int .i64 (.v 67)), (.int .i64 (.v 68)), (.int .i64 (.v 69)), (.int .i64 (.v 70)), (.int .i64 (.v 71)), (.int .i64 (.v 72)), (.int .i64 (.v 73)), (.int .i64 (.v 74)), (.int .i64 (.v 75)), (.int .i64 (.v 76)), (.int .i64 (.v 77)), (.int .i64 (.v 78)), (.int .i64 (.v 79))]))] [] 108 [.b] (.a (.c (.bool (.v 108)))) []
              (.ite (.not (.v 108))
                (.ite (.or (.cmp .neq (.v 107) (.lit 200)) (.cmp .gtr (.alen 105) (.lit 0)))
                  (done (.a (.c (.bool (.lit false)))) [])
                  (.cont 0 [(.i (.lit 3))]))
                (.ite (.not (.cmp .neq (.v 107) (.lit 0)))
                  (.call 21 [(.a (.agg [(.int .i64 (.v 63)), (.int .i64 (.v 64)), (.int .i64 (.v 32)), (.int .i64 (.v 66)), (.int .i64 (.v 67)), (.int .i64 (.v 68)), (.int .i64 (.v 69)), (.int .i64 (.v 70)), (.int .i64 (.v 71)), (.int .i64 (.v 72)), (.int .i64 (.v 73)), (.int .i64 (.v 74)), (.int .i64 (.v 75)), (.int .i64 (.v 76)), (.int .i64 (.v 77)), (.int .i64 (.v 78)), (.int .i64 (.v 79))]))] [] 109 [.l, .n] (.a (.c (.slice 110 1 0 (.lit 0) (.alen 109) (.k 110)))) [(.arr 110 109 [(.int .u8)] (some 5))]
                  (.call 20 [(.a (.c (.slice 106 1 0 (.lit 0) (.alen 105) (.k 106)))), (.a (.c (.slice 110 1 0 (.lit 0) (.alen 109) (.k 110))))] [(.arr 110 109 [(.int .u8)] (some 5)), (.arr 106 105 [(.int .u8)] (some 5))] 111 [.b] (.a (.c (.bool (.v 111)))) []
                  (.ite (.not (.v 111))
                    (done (.a (.c (.bool (.lit false)))) [])
                    (.cont 0 [(.i (.lit 3))]))))
                  (done (.a (.c (.bool (.lit false)))) [])))))
              (.ite (.cmp .eql (.v 103) (.lit 3))
                (.call 18 [(.a (.agg [(.int .i64 (.v 63)), (.int .i64 (.v 64)), (.int .i64 (.v 65)), (.int .i64 (.v 32)), (.int .i64 (.v 67)), (.int .i64 (.v 68)), (.int .i64 (.v 69)), (.int .i64 (.v 70)), (.int .i64 (.v 71)), (.int .i64 (.v 72)), (.int .i64 (.v 73)), (.int .i64 (.v 74)), (.int .i64 (.v 75)), (.int .i64 (.v 76)), (.int .i64 (.v 77)), (.int .i64 (.v 78)), (.int .i64 (.v 79))]))] [] 105 [.l, .n, .i] (.tup [(.c (.slice 106 1 0 (.lit 0) (.alen 105) (.k 106))), (.c (.int .i64 (.v 107)))]) [(.arr 106 105 [(.int .u8)] (some 5))]
                (.call 19 [(.a (.agg [(.int .i64 (.v 63)), (.int .i64 (.v 64)), (.int .i64 (.v 65)), (.int .i64 (.v 32)), (.int .i64 (.v 67)), (.int .i64 (.v 68)), (.int .i64 (.v 69)), (.int .i64 (.v 70)), (.int .i64 (.v 71)), (.int .i64 (.v 72)), (.int .i64 (.v 73)), (.int .i64 (.v 74)), (.int .i64 (.v 75)), (.int .i64 (.v 76)), (.int .i64 (.v 77)), (.int .i64 (.v 78)), (.int .i64 (.v 79))]))] [] 108 [.b] (.a (.c (.bool (.v 108)))) []
                (.ite (.not (.v 108))
                  (.ite (.or (.cmp .neq (.v 107) (.lit 200)) (.cmp .gtr (.alen 105) (.lit 0)))
                    (done (.a (.c (.bool (.lit false)))) [])
                    (.cont 0 [(.i (.lit 4))]))
                  (.ite (.not (.cmp .neq (.v 107) (.lit 0)))
                    (.call 21 [(.a (.agg [(.int .i64 (.v 63)), (.int .i64 (.v 64)), (.int .i64 (.v 65)), (.int .i64 (.v 32)), (.int .i64 (.v 67)), (.int .i64 (.v 68)), (.int .i64 (.v 69)), (.int .i64 (.v 70)), (.int .i64 (.v 71)), (.int .i64 (.v 72)), (.int .i64 (.v 73)), (.int .i64 (.v 74)), (.int .i64 (.v 75)), (.int .i64 (.v 76)), (.int .i64 (.v 77)), (.int .i64 (.v 78)), (.int .i64 (.v 79))]))] [] 109 [.l, .n] (.a (.c (.slice 110 1 0 (.lit 0) (.alen 109) (.k 110)))) [(.arr 110 109 [(.int .u8)] (some 5))]
                    (.call 20 [(.a (.c (.slice 106 1 0 (.lit 0) (.alen 105) (.k 106)))), (.a (.c (.slice 110 1 0 (.lit 0) (.alen 109) (.k 110))))] [(.arr 110 109 [(.int .u8)] (some 5)), (.arr 106 105 [(.int .u8)] (some 5))] 111 [.b] (.a (.c (.bool (.v 111)))) []
                    (.ite (.not (.v 111))
                      (done (.a (.c (.bool (.lit false)))) [])
                      (.cont 0 [(.i (.lit 4))]))))
                    (done (.a (.c (.bool (.lit false)))) [])))))
                (.ite (.cmp .eql (.v 103) (.lit 4))
                  (.call 18 [(.a (.agg [(.int .i64 (.v 63)), (.int .i64 (.v 64)), (.int .i64 (.v 65)), (.int .i64 (.v 66)), (.int .i64 (.v 32)), (.int .i64 (.v 68)), (.int .i64 (.v 69)), (.int .i64 (.v 70)), (.int .i64 (.v 71)), (.int .i64 (.v 72)), (.int .i64 (.v 73)), (.int .i64 (.v 74)), (.int .i64 (.v 75)), (.int .i64 (.v 76)), (.int .i64 (.v 77)), (.int .i64 (.v 78)), (.int .i64 (.v 79))]))] [] 105 [.l, .n, .i] (.tup [(.c (.slice 106 1 0 (.lit 0) (.alen 105) (.k 106))), (.c (.int .i64 (.v 107)))]) [(.arr 106 105 [(.int .u8)] (some 5))]
                  (.call 19 [(.a (.agg [(.int .i64 (.v 63)), (.int .i64 (.v 64)), (.int .i64 (.v 65)), (.int .i64 (.v 66)), (.int .i64 (.v 32)), (.int .i64 (.v 68)), (.int .i64 (.v 69)), (.int .i64 (.v 70)), (.int .i64 (.v 71)), (.int .i64 (.v 72)), (.int .i64 (.v 73)), (.int .i64 (.v 74)), (.int .i64 (.v 75)), (.int .i64 (.v 76)), (.int .i64 (.v 77)), (.int .i64 (.v 78)), (.int .i64 (.v 79))]))] [] 108 [.b] (.a (.c (.bool (.v 108)))) []
                  (.ite (.not (.v 108))
                    (.ite (.or (.cmp .neq (.v 107) (.lit 200)) (.cmp .gtr (.alen 105) (.lit 0)))
                      (done (.a (.c (.bool (.lit false)))) [])
                      (.cont 0 [(.i (.lit 5))]))
                    (.ite (.not (.cmp .neq (.v 107) (.lit 0)))
                      (.call 21 [(.a (.agg [(.int .i64 (.v 63)), (.int .i64 (.v 64)), (.int .i64 (.v 65)), (.int .i64 (.v 66)), (.int .i64 (.v 32)), (.int .i64 (.v 68)), (.int .i64 (.v 69)), (.int .i64 (.v 70)), (.int .i64 (.v 71)), (.int .i64 (.v 72)), (.int .i64 (.v 73)), (.int .i64 (.v 74)), (.int .i64 (.v 75)), (.int .i64 (.v 76)), (.int .i64 (.v 77)), (.int .i64 (.v 78)), (.int .i64 (.v 79))]))] [] 109 [.l, .n] (.a (.c (.slice 110 1 0 (.lit 0) (.alen 109) (.k 110)))) [(.arr 110 109 [(.int .u8)] (some 5))]
                      (.call 20 [(.a (.c (.slice 106 1 0 (.lit 0) (.alen 105) (.k 106)))), (.a (.c (.slice 110 1 0 (.lit 0) (.alen 109) (.k 110))))] [(.arr 110 109 [(.int .u8)] (some 5)), (.arr 106 105 [(.int .u8)] (some 5))] 111 [.b] (.a (.c (.bool (.v 111)))) []
                      (.ite (.not (.v 111))
                        (done (.a (.c (.bool (.lit false)))) [])
                        (.cont 0 [(.i (.lit 5))]))))
                      (done (.a (.c (.bool (.lit false)))) [])))))
                  (.ite (.cmp .eql (.v 103) (.lit 5))
                    (.call 18 [(.a (.agg [(.int .i64 (.v 63)), (.int .i64 (.v 64)), (.int .i64 (.v 65)), (.int .i64 (.v 66)), (.int .i64 (.v 67)), (.int .i64 (.v 32)), (.int .i64 (.v 69)), (.int .i64 (.v 70)), (.int .i64 (.v 71)), (.int .i64 (.v 72)), (.int .i64 (.v 73)), (.int .i64 (.v 74)), (.int .i64 (.v 75)), (.int .i64 (.v 76)), (.int .i64 (.v 77)), (.int .i64 (.v 78)), (.int .i64 (.v 79))]))] [] 105 [.l, .n, .i] (.tup [(.c (.slice 106 1 0 (.lit 0) (.alen 105) (.k 106))), (.c (.int .i64 (.v 107)))]) [(.arr 106 105 [(.int .u8)] (some 5))]
                    (.call 19 [(.a (.agg [(.int .i64 (.v 63)), (.int .i64 (.v 64)), (.int .i64 (.v 65)), (.int .i64 (.v 66)), (.int .i64 (.v 67)), (.int .i64 (.v 32)), (.int .i64 (.v 69)), (.int .i64 (.v 70)), (.int .i64 (.v 71)), (.int .i64 (.v 72)), (.int .i64 (.v 73)), (.int .i64 (.v 74)), (.int .i64 (.v 75)), (.int .i64 (.v 76)), (.int .i64 (.v 77)), (.int .i64 (.v 78)), (.int .i64 (.v 79))]))] [] 108 [.b] (.a (.c (.bool (.v 108)))) []
                    (.ite (.not (.v 108))
                      (.ite (.or (.cmp .neq (.v 107) (.lit 200)) (.cmp .gtr (.alen 105) (.lit 0)))
                        (done (.a (.c (.bool (.lit false)))) [])
                        (.cont 0 [(.i (.lit 6))]))
                      (.ite (.not (.cmp .neq (.v 107) (.lit 0)))
                        (.call 21 [(.a (.agg [(.int .i64 (.v 63)), (.int .i64 (.v 64)), (.int .i64 (.v 65)), (.int .i64 (.v 66)), (.int .i64 (.v 67)), (.int .i64 (.v 32)), (.int .i64 (.v 69)), (.int .i64 (.v 70)), (.int .i64 (.v 71)), (.int .i64 (.v 72)), (.int .i64 (.v 73)), (.int .i64 (.v 74)), (.int .i64 (.v 75)), (.int .i64 (.v 76)), (.int .i64 (.v 77)), (.int .i64 (.v 78)), (.int .i64 (.v 79))]))] [] 109 [.l, .n] (.a (.c (.slice 110 1 0 (.lit 0) (.alen 109) (.k 110)))) [(.arr 110 109 [(.int .u8)] (some 5))]
                        (.call 20 [(.a (.c (.slice 106 1 0 (.lit 0) (.alen 105) (.k 106)))), (.a (.c (.slice 110 1 0 (.lit 0) (.alen 109) (.k 110))))] [(.arr 110 109 [(.int .u8)] (some 5)), (.arr 106 105 [(.int .u8)] (some 5))] 111 [.b] (.a (.c (.bool (.v 111)))) []
                        (.ite (.not (.v 111))
                          (done (.a (.c (.bool (.lit false)))) [])
                          (.cont 0 [(.i (.lit 6))]))))
                        (done (.a (.c (.bool (.lit false)))) [])))))
                    (.ite (.cmp .eql (.v 103) (.lit 6))
                      (.call 18 [(.a (.agg [(.int .i64 (.v 63)), (.int .i64 (.v 64)), (.int .i64 (.v 65)), (.int .i64 (.v 66)), (.int .i64 (.v 67)), (.int .i64 (.v 68)), (.int .i64 (.v 32)), (.int .i64 (.v 70)), (.int .i64 (.v 71)), (.int .i64 (.v 72)), (.int .i64 (.v 73)), (.int .i64 (.v 74)), (.int .i64 (.v 75)), (.int .i64 (.v 76)), (.int .i64 (.v 77)), (.int .i64 (.v 78)), (.int .i64 (.v 79))]))] [] 105 [.l, .n, .i] (.tup [(.c (.slice 106 1 0 (.lit 0) (.alen 105) (.k 106))), (.c (.int .i64 (.v 107)))]) [(.arr 106 105 [(.int .u8)] (some 5))]
                      (.call 19 [(.a (.agg [(.int .i64 (.v 63)), (.int .i64 (.v 64)), (.int .i64 (.v 65)), (.int .i64 (.v 66)), (.int .i64 (.v 67)), (.int .i64 (.v 68)), (.int .i64 (.v 32)), (.int .i64 (.v 70)), (.int .i64 (.v 71)), (.int .i64 (.v 72)), (.int .i64 (.v 73)), (.int .i64 (.v 74)), (.int .i64 (.v 75)), (.int .i64 (.v 76)), (.int .i64 (.v 77)), (.int .i64 (.v 78)), (.int .i64 (.v 79))]))] [] 108 [.b] (.a (.c (.bool (.v 108)))) []
                      (.ite (.not (.v 108))
                        (.ite (.or (.cmp .neq (.v 107) (.lit 200)) (.cmp .gtr (.alen 105) (.lit 0)))
                          (done (.a (.c (.bool (.lit false)))) [])
                          (.cont 0 [(.i (.lit 7))]))
                        (.ite (.not (.cmp .neq (.v 107) (.lit 0)))
                          (.call 21 [(.a (.agg [(.int .i64 (.v 63)), (.int .i64 (.v 64)), (.int .i64 (.v 65)), (.int .i64 (.v 66)), (.int .i64 (.v 67)), (.int .i64 (.v 68)), (.int .i64 (.v 32)), (.int .i64 (.v 70)), (.int .i64 (.v 71)), (.int .i64 (.v 72)), (.int .i64 (.v 73)), (.int .i64 (.v 74)), (.int .i64 (.v 75)), (.int .i64 (.v 76)), (.int .i64 (.v 77)), (.int .i64 (.v 78)), (.int .i64 (.v 79))]))] [] 109 [.l, .n] (.a (.c (.slice 110 1 0 (.lit 0) (.alen 109) (.k 110)))) [(.arr 110 109 [(.int .u8)] (some 5))]
                          (.call 20 [(.a (.c (.slice 106 1 0 (.lit 0) (.alen 105) (.k 106)))), (.a (.c (.slice 110 1 0 (.lit 0) (.alen 109) (.k 110))))] [(.arr 110 109 [(.int .u8)] (some 5)), (.arr 106 105 [(.int .u8)] (some 5))] 111 [.b] (.a (.c (.bool (.v 111)))) []
                          (.ite (.not (.v 111))
                            (done (.a (.c (.bool (.lit false)))) [])
                            (.cont 0 [(.i (.lit 7))]))))
                          (done (.a (.c (.bool (.lit false)))) [])))))
                      (.ite (.cmp .eql (.v 103) (.lit 7))
                        (.call 18 [(.a (.agg [(.int .i64 (.v 63)), (.int .i64 (.v 64)), (.int .i64 (.v 65)), (.int .i64 (.v 66)), (.int .i64 (.v 67)), (.int .i64 (.v 68)), (.int .i64 (.v 69)), (.int .i64 (.v 32)), (.int .i64 (.v 71)), (.int .i64 (.v 72)), (.int .i64 (.v 73)), (.int .i64 (.v 74)), (.int .i64 (.v 75)), (.int .i64 (.v 76)), (.int .i64 (.v 77)), (.int .i64 (.v 78)), (.int .i64 (.v 79))]))] [] 105 [.l, .n, .i] (.tup [(.c (.slice 106 1 0 (.lit 0) (.alen 105) (.k 106))), (.c (.int .i64 (.v 107)))]) [(.arr 106 105 [(.int .u8)] (some 5))]
                        (.call 19 [(.a (.agg [(.int .i64 (.v 63)), (.int .i64 (.v 64)), (.int .i64 (.v 65)), (.int .i64 (.v 66)), (.int .i64 (.v 67)), (.int .i64 (.v 68)), (.int .i64 (.v 69)), (.int .i64 (.v 32)), (.int .i64 (.v 71)), (.int .i64 (.v 72)), (.int .i64 (.v 73)), (.int .i64 (.v 74)), (.int .i64 (.v 75)), (.int .i64 (.v 76)), (.int .i64 (.v 77)), (.int .i64 (.v 78)), (.int .i64 (.v 79))]))] [] 108 [.b] (.a (.c (.bool (.v 108)))) []
                        (.ite (.not (.v 108))
                          (.ite (.or (.cmp .neq (.v 107) (.lit 200)) (.cmp .gtr (.alen 105) (.lit 0)))
                            (done (.a (.c (.bool (.lit false)))) [])
                            (.cont 0 [(.i (.lit 8))]))
                          (.ite (.not (.cmp .neq (.v 107) (.lit 0)))
                            (.call 21 [(.a (.agg [(.int .i64 (.v 63)), (.int .i64 (.v 64)), (.int .i64 (.v 65)), (.int .i64 (.v 66)), (.int .i64 (.v 67)), (.int .i64 (.v 68)), (.int .i64 (.v 69)), (.int .i64 (.v 32)), (.int .i64 (.v 71)), (.int .i64 (.v 72)), (.int .i64 (.v 73)), (.int .i64 (.v 74)), (.int .i64 (.v 75)), (.int .i64 (.v 76)), (.int .i64 (.v 77)), (.int .i64 (.v 78)), (.int .i64 (.v 79))]))] [] 109 [.l, .n] (.a (.c (.slice 110 1 0 (.lit 0) (.alen 109) (.k 110)))) [(.arr 110 109 [(.int .u8)] (some 5))]
                            (.call 20 [(.a (.c (.slice 106 1 0 (.lit 0) (.alen 105) (.k 106)))), (.a (.c (.slice 110 1 0 (.lit 0) (.alen 109) (.k 110))))] [(.arr 110 109 [(.int .u8)] (some 5)), (.arr 106 105 [(.int .u8)] (some 5))] 111 [.b] (.a (.c (.bool (.v 111)))) []
                            (.ite (.not (.v 111))
                              (done (.a (.c (.bool (.lit false)))) [])
                              (.cont 0 [(.i (.lit 8))]))))
                            (done (.a (.c (.bool (.lit false)))) [])))))
                        (.ite (.cmp .eql (.v 103) (.lit 8))
                          (.call 18 [(.a (.agg [(.int .i64 (.v 63)), (.int .i64 (.v 64)), (.int .i64 (.v 65)), (.int .i64 (.v 66)), (.int .i64 (.v 67)), (.int .i64 (.v 68)), (.int .i64 (.v 69)), (.int .i64 (.v 70)), (.int .i64 (.v 71)), (.int .i64 (.v 32)), (.int .i64 (.v 73)), (.int .i64 (.v 74)), (.int .i64 (.v 75)), (.int .i64 (.v 76)), (.int .i64 (.v 77)), (.int .i64 (.v 78)), (.int .i64 (.v 79))]))] [] 105 [.l, .n, .i] (.tup [(.c (.slice 106 1 0 (.lit 0) (.alen 105) (.k 106))), (.c (.int .i64 (.v 107)))]) [(.arr 106 105 [(.int .u8)] (some 5))]
                          (.call 19 [(.a (.agg [(.int .i64 (.v 63)), (.int .i64 (.v 64)), (.int .i64 (.v 65)), (.int .i64 (.v 66)), (.int .i64 (.v 67)), (.int .i64 (.v 68)), (.int .i64 (.v 69)), (.int .i64 (.v 70)), (.int .i64 (.v 71)), (.int .i64 (.v 32)), (.int .i64 (.v 73)), (.int .i64 (.v 74)), (.int .i64 (.v 75)), (.int .i64 (.v 76)), (.int .i64 (.v 77)), (.int .i64 (.v 78)), (.int .i64 (.v 79))]))] [] 108 [.b] (.a (.c (.bool (.v 108)))) []
                          (.ite (.not (.v 108))
                            (.ite (.or (.cmp .neq (.v 107) (.lit 200)) (.cmp .gtr (.alen 105) (.lit 0)))
                              (done (.a (.c (.bool (.lit false)))) [])
                              (.cont 0 [(.i (.lit 9))]))
                            (.ite (.not (.cmp .neq (.v 107) (.lit 0)))
                              (.call 21 [(.a (.agg [(.int .i64 (.v 63)), (.int .i64 (.v 64)), (.int .i64 (.v 65)), (.int .i64 (.v 66)), (.int .i64 (.v 67)), (.int .i64 (.v 68)), (.int .i64 (.v 69)), (.int .i64 (.v 70)), (.int .i64 (.v 71)), (.int .i64 (.v 32)), (.int .i64 (.v 73)), (.int .i64 (.v 74)), (.int .i64 (.v 75)), (.int .i64 (.v 76)), (.int .i64 (.v 77)), (.int .i64 (.v 78)), (.int .i64 (.v 79))]))] [] 109 [.l, .n] (.a (.c (.slice 110 1 0 (.lit 0) (.alen 109) (.k 110)))) [(.arr 110 109 [(.int .u8)] (some 5))]
                              (.call 20 [(.a (.c (.slice 106 1 0 (.lit 0) (.alen 105) (.k 106)))), (.a (.c (.slice 110 1 0 (.lit 0) (.alen 109) (.k 110))))] [(.arr 110 109 [(.int .u8)] (some 5)), (.arr 106 105 [(.int .u8)] (some 5))] 111 [.b] (.a (.c (.bool (.v 111)))) []
                              (.ite (.not (.v 111))
                                (done (.a (.c (.bool (.lit false)))) [])
                                (.cont 0 [(.i (.lit 9))]))))
                              (done (.a (.c (.bool (.lit false)))) [])))))
                          (.ite (.cmp .eql (.v 103) (.lit 9))
                            (.call 18 [(.a (.agg [(.int .i64 (.v 63)), (.int .i64 (.v 64)), (.int .i64 (.v 65)), (.int .i64 (.v 66)), (.int .i64 (.v 67)), (.int .i64 (.v 68)), (.int .i64 (.v 69)), (.int .i64 (.v 70)), (.int .i64 (.v 71)), (.int .i64 (.v 72)), (.int .i64 (.v 73)), (.int .i64 (.v 74)), (.int .i64 (.v 75)), (.int .i64 (.v 32)), (.int .i64 (.v 77)), (.int .i64 (.v 78)), (.int .i64 (.v 79))]))] [] 105 [.l, .n, .i] (.tup [(.c (.slice 106 1 0 (.lit 0) (.alen 105) (.k 106))), (.c (.int .i64 (.v 107)))]) [(.arr 106 105 [(.int .u8)] (some 5))]
                            (.call 19 [(.a (.agg [(.int .i64 (.v 63)), (.int .i64 (.v 64)), (.int .i64 (.v 65)), (.int .i64 (.v 66)), (.int .i64 (.v 67)), (.int .i64 (.v 68)), (.int .i64 (.v 69)), (.int .i64 (.v 70)), (.int .i64 (.v 71)), (.int .i64 (.v 72)), (.int .i64 (.v 73)), (.int .i64 (.v 74)), (.int .i64 (.v 75)), (.int .i64 (.v 32)), (.int .i64 (.v 77)), (.int .i64 (.v 78)), (.int .i64 (.v 79))]))] [] 108 [.b] (.a (.c (.bool (.v 108)))) []
                            (.ite (.not (.v 108))
                              (.ite (.or (.cmp .neq (.v 107) (.lit 200)) (.cmp .gtr (.alen 105) (.lit 0)))
                                (done (.a (.c (.bool (.lit false)))) [])
                                (.cont 0 [(.i (.lit 10))]))
                              (.ite (.not (.cmp .neq (.v 107) (.lit 0)))
                                (.call 21 [(.a (.agg [(.int .i64 (.v 63)), (.int .i64 (.v 64)), (.int .i64 (.v 65)), (.int .i64 (.v 66)), (.int .i64 (.v 67)), (.int .i64 (.v 68)), (.int .i64 (.v 69)), (.int .i64 (.v 70)), (.int .i64 (.v 71)), (.int .i64 (.v 72)), (.int .i64 (.v 73)), (.int .i64 (.v 74)), (.int .i64 (.v 75)), (.int .i64 (.v 32)), (.int .i64 (.v 77)), (.int .i64 (.v 78)), (.int .i64 (.v 79))]))] [] 109 [.l, .n] (.a (.c (.slice 110 1 0 (.lit 0) (.alen 109) (.k 110)))) [(.arr 110 109 [(.int .u8)] (some 5))]
                                (.call 20 [(.a (.c (.slice 106 1 0 (.lit 0) (.alen 105) (.k 106)))), (.a (.c (.slice 110 1 0 (.lit 0) (.alen 109) (.k 110))))] [(.arr 110 109 [(.int .u8)] (some 5)), (.arr 106 105 [(.int .u8)] (some 5))] 111 [.b] (.a (.c (.bool (.v 111)))) []
                                (.ite (.not (.v 111))
                                  (done (.a (.c (.bool (.lit false)))) [])
                                  (.cont 0 [(.i (.lit 10))]))))
                                (done (.a (.c (.bool (.lit false)))) [])))))
                            (.ite (.cmp .eql (.v 103) (.lit 10))
                              (.call 18 [(.a (.agg [(.int .i64 (.v 63)), (.int .i64 (.v 64)), (.int .i64 (.v 65)), (.int .i64 (.v 66)), (.int .i64 (.v 67)), (.int .i64 (.v 68)), (.int .i64 (.v 69)), (.int .i64 (.v 70)), (.int .i64 (.v 71)), (.int .i64 (.v 72)), (.int .i64 (.v 73)), (.int .i64 (.v 74)), (.int .i64 (.v 75)), (.int .i64 (.v 76)), (.int .i64 (.v 77)), (.int .i64 (.v 78)), (.int .i64 (.v 32))]))] [] 105 [.l, .n, .i] (.tup [(.c (.slice 106 1 0 (.lit 0) (.alen 105) (.k 106))), (.c (.int .i64 (.v 107)))]) [(.arr 106 105 [(.int .u8)] (some 5))]
                              (.call 19 [(.a (.agg [(.int .i64 (.v 63)), (.int .i64 (.v 64)), (.int .i64 (.v 65)), (.int .i64 (.v 66)), (.int .i64 (.v 67)), (.int .i64 (.v 68)), (.int .i64 (.v 69)), (.int .i64 (.v 70)), (.int .i64 (.v 71)), (.int .i64 (.v 72)), (.int .i64 (.v 73)), (.int .i64 (.v 74)), (.int .i64 (.v 75)), (.int .i64 (.v 76)), (.int .i64 (.v 77)), (.int .i64 (.v 78)), (.int .i64 (.v 32))]))] [] 108 [.b] (.a (.c (.bool (.v 108)))) []
                              (.ite (.not (.v 108))
                                (.ite (.or (.cmp .neq (.v 107) (.lit 200)) (.cmp .gtr (.alen 105) (.lit 0)))
                                  (done (.a (.c (.bool (.lit false)))) [])
                                  (.cont 0 [(.i (.lit 11))]))
                                (.ite (.not (.cmp .neq (.v 107) (.lit 0)))
                                  (.call 21 [(.a (.agg [(.int .i64 (.v 63)), (.int .i64 (.v 64)), (.int .i64 (.v 65)), (.int .i64 (.v 66)), (.int .i64 (.v 67)), (.int .i64 (.v 68)), (.int .i64 (.v 69)), (.int .i64 (.v 70)), (.int .i64 (.v 71)), (.int .i64 (.v 72)), (.int .i64 (.v 73)), (.int .i64 (.v 74)), (.int .i64 (.v 75)), (.int .i64 (.v 76)), (.int .i64 (.v 77)), (.int .i64 (.v 78)), (.int .i64 (.v 32))]))] [] 109 [.l, .n] (.a (.c (.slice 110 1 0 (.lit 0) (.alen 109) (.k 110)))) [(.arr 110 109 [(.int .u8)] (some 5))]
                                  (.call 20 [(.a (.c (.slice 106 1 0 (.lit 0) (.alen 105) (.k 106)))), (.a (.c (.slice 110 1 0 (.lit 0) (.alen 109) (.k 110))))] [(.arr 110 109 [(.int .u8)] (some 5)), (.arr 106 105 [(.int .u8)] (some 5))] 111 [.b] (.a (.c (.bool (.v 111)))) []
                                  (.ite (.not (.v 111))
                                    (done (.a (.c (.bool (.lit false)))) [])
                                    (.cont 0 [(.i (.lit 11))]))))
                                  (done (.a (.c (.bool (.lit false)))) [])))))
                              (.ite (.cmp .eql (.v 103) (.lit 11))
                                (.call 18 [(.a (.agg [(.int .i64 (.v 63)), (.int .i64 (.v 64)), (.int .i64 (.v 65)), (.int .i64 (.v 66)), (.int .i64 (.v 67)), (.int .i64 (.v 68)), (.int .i64 (.v 69)), (.int .i64 (.v 70)), (.int .i64 (.v 32)), (.int .i64 (.v 72)), (.int .i64 (.v 73)), (.int .i64 (.v 74)), (.int .i64 (.v 75)), (.int .i64 (.v 76)), (.int .i64 (.v 77)), (.int .i64 (.v 78)), (.int .i64 (.v 79))]))] [] 105 [.l, .n, .i] (.tup [(.c (.slice 106 1 0 (.lit 0) (.alen 105) (.k 106))), (.c (.int .i64 (.v 107)))]) [(.arr 106 105 [(.int .u8)] (some 5))]
                                (.call 19 [(.a (.agg [(.int .i64 (.v 63)), (.int .i64 (.v 64)), (.int .i64 (.v 65)), (.int .i64 (.v 66)), (.int .i64 (.v 67)), (.int .i64 (.v 68)), (.int .i64 (.v 69)), (.int .i64 (.v 70)), (.int .i64 (.v 32)), (.int .i64 (.v 72)), (.int .i64 (.v 73)), (.int .i64 (.v 74)), (.int .i64 (.v 75)), (.int .i64 (.v 76)), (.int .i64 (.v 77)), (.int .i64 (.v 78)), (.int .i64 (.v 79))]))] [] 108 [.b] (.a (.c (.bool (.v 108)))) []
                                (.ite (.not (.v 108))
                                  (.ite (.or (.cmp .neq (.v 107) (.lit 200)) (.cmp .gtr (.alen 105) (.lit 0)))
                                    (done (.a (.c (.bool (.lit false)))) [])
                                    (.cont 0 [(.i (.lit 12))]))
                                  (.ite (.not (.cmp .neq (.v 107) (.lit 0)))
                                    (.call 21 [(.a (.agg [(.int .i64 (.v 63)), (.int .i64 (.v 64)), (.int .i64 (.v 65)), (.int .i64 (.v 66)), (.int .i64 (.v 67)), (.int .i64 (.v 68)), (.int .i64 (.v 69)), (.int .i64 (.v 70)), (.int .i64 (.v 32)), (.int .i64 (.v 72)), (.int .i64 (.v 73)), (.int .i64 (.v 74)), (.int .i64 (.v 75)), (.int .i64 (.v 76)), (.int .i64 (.v 77)), (.int .i64 (.v 78)), (.int .i64 (.v 79))]))] [] 109 [.l, .n] (.a (.c (.slice 110 1 0 (.lit 0) (.alen 109) (.k 110)))) [(.arr 110 109 [(.int .u8)] (some 5))]
                                    (.call 20 [(.a (.c (.slice 106 1 0 (.lit 0) (.alen 105) (.k 106)))), (.a (.c (.slice 110 1 0 (.lit 0) (.alen 109) (.k 110))))] [(.arr 110 109 [(.int .u8)] (some 5)), (.arr 106 105 [(.int .u8)] (some 5))] 111 [.b] (.a (.c (.bool (.v 111)))) []
                                    (.ite (.not (.v 111))
                                      (done (.a (.c (.bool (.lit false)))) [])
                                      (.cont 0 [(.i (.lit 12))]))))
                                    (done (.a (.c (.bool (.lit false)))) [])))))
                                (.ite (.cmp .eql (.v 103) (.lit 12))
                                  (.call 18 [(.a (.agg [(.int .i64 (.v 0)), (.int .i64 (.v 1)), (.int .i64 (.v 2)), (.int .i64 (.v 3)), (.int .i64 (.v 4)), (.int .i64 (.v 5)), (.int .i64 (.v 6)), (.int .i64 (.v 7)), (.int .i64 (.v 8)), (.int .i64 (.v 9)), (.int .i64 (.v 10)), (.int .i64 (.v 11)), (.int .i64 (.v 12)), (.int .i64 (.v 13)), (.int .i64 (.v 14)), (.int .i64 (.v 15)), (.int .i64 (.v 16))]))] [] 105 [.l, .n, .i] (.tup [(.c (.slice 106 1 0 (.lit 0) (.alen 105) (.k 106))), (.c (.int .i64 (.v 107)))]) [(.arr 106 105 [(.int .u8)] (some 5))]
                                  (.call 19 [(.a (.agg [(.int .i64 (.v 0)), (.int .i64 (.v 1)), (.int .i64 (.v 2)), (.int .i64 (.v 3)), (.int .i64 (.v 4)), (.int .i64 (.v 5)), (.int .i64 (.v 6)), (.int .i64 (.v 7)), (.int .i64 (.v 8)), (.int .i64 (.v 9)), (.int .i64 (.v 10)), (.int .i64 (.v 11)), (.int .i64 (.v 12)), (.int .i64 (.v 13)), (.int .i64 (.v 14)), (.int .i64 (.v 15)), (.int .i64 (.v 16))]))] [] 108 [.b] (.a (.c (.bool (.v 108)))) []
                                  (.ite (.not (.v 108))
                                    (.ite (.or (.cmp .neq (.v 107) (.lit 200)) (.cmp .gtr (.alen 105) (.lit 0)))
                                      (done (.a (.c (.bool (.lit false)))) [])
                                      (.cont 0 [(.i (.lit 13))]))
                                    (.ite (.not (.cmp .neq (.v 107) (.lit 0)))
                                      (.call 21 [(.a (.agg [(.int .i64 (.v 0)), (.int .i64 (.v 1)), (.int .i64 (.v 2)), (.int .i64 (.v 3)), (.int .i64 (.v 4)), (.int .i64 (.v 5)), (.int .i64 (.v 6)), (.int .i64 (.v 7)), (.int .i64 (.v 8)), (.int .i64 (.v 9)), (.int .i64 (.v 10)), (.int .i64 (.v 11)), (.int .i64 (.v 12)), (.int .i64 (.v 13)), (.int .i64 (.v 14)), (.int .i64 (.v 15)), (.int .i64 (.v 16))]))] [] 109 [.l, .n] (.a (.c (.slice 110 1 0 (.lit 0) (.alen 109) (.k 110)))) [(.arr 110 109 [(.int .u8)] (some 5))]
                                      (.call 20 [(.a (.c (.slice 106 1 0 (.lit 0) (.alen 105) (.k 106)))), (.a (.c (.slice 110 1 0 (.lit 0) (.alen 109) (.k 110))))] [(.arr 110 109 [(.int .u8)] (some 5)), (.arr 106 105 [(.int .u8)] (some 5))] 111 [.b] (.a (.c (.bool (.v 111)))) []
                                      (.ite (.not (.v 111))
                                        (done (.a (.c (.bool (.lit false)))) [])
                                        (.cont 0 [(.i (.lit 13))]))))
                                      (done (.a (.c (.bool (.lit false)))) [])))))
                                  (.need [(.cmp .eql (.v 103) (.lit 13))]
                                  (.call 18 [(.a (.agg [(.int .i64 (.v 84)), (.int .i64 (.v 85)), (.int .i64 (.v 86)), (.int .i64 (.v 87)), (.int .i64 (.v 88)), (.int .i64 (.v 89)), (.int .i64 (.v 90)), (.int .i64 (.v 91)), (.int .i64 (.v 92)), (.int .i64 (.v 93)), (.int .i64 (.v 94)), (.int .i64 (.v 95)), (.int .i64 (.v 96)), (.int .i64 (.v 97)), (.int .i64 (.v 98)), (.int .i64 (.v 99)), (.int .i64 (.v 100))]))] [] 105 [.l, .n, .i] (.tup [(.c (.slice 106 1 0 (.lit 0) (.alen 105) (.k 106))), (.c (.int .i64 (.v 107)))]) [(.arr 106 105 [(.int .u8)] (some 5))]
                                  (.call 19 [(.a (.agg [(.int .i64 (.v 84)), (.int .i64 (.v 85)), (.int .i64 (.v 86)), (.int .i64 (.v 87)), (.int .i64 (.v 88)), (.int .i64 (.v 89)), (.int .i64 (.v 90)), (.int .i64 (.v 91)), (.int .i64 (.v 92)), (.int .i64 (.v 93)), (.int .i64 (.v 94)), (.int .i64 (.v 95)), (.int .i64 (.v 96)), (.int .i64 (.v 97)), (.int .i64 (.v 98)), (.int .i64 (.v 99)), (.int .i64 (.v 100))]))] [] 108 [.b] (.a (.c (.bool (.v 108)))) []
                                  (.ite (.not (.v 108))
                                    (.ite (.or (.cmp .neq (.v 107) (.lit 200)) (.cmp .gtr (.alen 105) (.lit 0)))
                                      (done (.a (.c (.bool (.lit false)))) [])
                                      (.cont 0 [(.i (.lit 14))]))
                                    (.ite (.not (.cmp .neq (.v 107) (.lit 0)))
                                      (.call 21 [(.a (.agg [(.int .i64 (.v 84)), (.int .i64 (.v 85)), (.int .i64 (.v 86)), (.int .i64 (.v 87)), (.int .i64 (.v 88)), (.int .i64 (.v 89)), (.int .i64 (.v 90)), (.int .i64 (.v 91)), (.int .i64 (.v 92)), (.int .i64 (.v 93)), (.int .i64 (.v 94)), (.int .i64 (.v 95)), (.int .i64 (.v 96)), (.int .i64 (.v 97)), (.int .i64 (.v 98)), (.int .i64 (.v 99)), (.int .i64 (.v 100))]))] [] 109 [.l, .n] (.a (.c (.slice 110 1 0 (.lit 0) (.alen 109) (.k 110)))) [(.arr 110 109 [(.int .u8)] (some 5))]
                                      (.call 20 [(.a (.c (.slice 106 1 0 (.lit 0) (.alen 105) (.k 106)))), (.a (.c (.slice 110 1 0 (.lit 0) (.alen 109) (.k 110))))] [(.arr 110 109 [(.int .u8)] (some 5)), (.arr 106 105 [(.int .u8)] (some 5))] 111 [.b] (.a (.c (.bool (.v 111)))) []
                                      (.ite (.not (.v 111))
                                        (done (.a (.c (.bool (.lit false)))) [])
                                        (.cont 0 [(.i (.lit 14))]))))
                                      (done (.a (.c (.bool (.lit false)))) [])))))))))))))))))))
        (done (.a (.c (.bool (.lit true)))) []))))))) := by kernel_rfl

end Go.Proofs.Y10
