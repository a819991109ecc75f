/- A part of the proof: see the text that states the theorem. -/
import Derived.Test.YtjclacagbifgmaaAA
set_option linter.unusedSimpArgs false
set_option linter.unusedVariables false
set_option linter.unusedSectionVars false
noncomputable section
namespace Go.Proofs.Y10
open Go Go.SX Go.RowKit
theorem t_PtpChecks : callTree C2 300 3 [msg 0, dft 17, i64s 32 6, i64 38] [] 60 = some
  (.call 10 [] [] 63 [.b] (.a (.c (.bool (.v 63)))) []
  (.ite (.not (.v 63))
    (done (.a (.c (.bool (.lit false)))) [])
    (.call 11 [(.a (.agg [(.int .i64 (.v 32)), (.int .i64 (.v 33)), (.int .i64 (.v 34)), (.int .i64 (.v 35)), (.int .i64 (.v 36)), (.int .i64 (.v 37))]))] [] 64 [.b] (.a (.c (.bool (.v 64)))) []
    (.call 12 [(.a (.agg [(.int .i64 (.v 32)), (.int .i64 (.v 33)), (.int .i64 (.v 34)), (.int .i64 (.v 35)), (.int .i64 (.v 36)), (.int .i64 (.v 37))]))] [] 65 [.i] (.a (.c (.int .i64 (.v 65)))) []
    (.ite (.and (.eq (.v 64) (.cmp .eql (.v 65) (.lit 0))) (.not (.v 64)))
      (.call 12 [(.a (.agg [(.int .i64 (.v 32)), (.int .i64 (.v 33)), (.int .i64 (.v 34)), (.int .i64 (.v 35)), (.int .i64 (.v 36)), (.int .i64 (.v 37))]))] [] 66 [.i] (.a (.c (.int .i64 (.v 66)))) []
      (.ite (.not (.cmp .neq (.v 66) (.lit 201)))
        (.call 13 [(.a (.c (.int .i64 (.v 38))))] [] 67 [.i] (.a (.c (.int .i64 (.v 67)))) []
        (.call 14 [(.a (.c (.int .i64 (.v 38))))] [] 68 [.i] (.a (.c (.int .i64 (.v 68)))) []
        (.ite (.cmp .neq (.v 67) (.v 68))
          (done (.a (.c (.bool (.lit false)))) [])
          (.loop [.i] 69 [(.i (.lit (-1)))]
            (.ite (.cmp .lss (.v 69) (.lit 16))
              (.call 13 [(.a (.c (.int .i64 (.v 69))))] [] 70 [.i] (.a (.c (.int .i64 (.v 70)))) []
              (.call 14 [(.a (.c (.int .i64 (.v 69))))] [] 71 [.i] (.a (.c (.int .i64 (.v 71)))) []
              (.ite (.cmp .neq (.v 70) (.v 71))
                (done (.a (.c (.bool (.lit false)))) [])
                (.cont 0 [(.i (.bin .add .i64 (.v 69) (.lit 1)))]))))
              (.call 16 [(.a (.agg [(.int .u8 (.v 17)), (.int .u8 (.v 18)), (.int .i64 (.v 19)), (.int .i64 (.v 20)), (.int .u64 (.v 21)), (.int .u64 (.v 22)), (.int .u16 (.v 23)), (.int .u16 (.v 24)), (.int .u16 (.v 25)), (.int .i32 (.v 26)), (.int .u8 (.v 27)), (.int .u8 (.v 28)), (.int .u8 (.v 29)), (.int .u8 (.v 30)), (.int .u16 (.v 31))]))] [] 70 [.i, .i, .i, .i, .i, .i, .i, .i, .i, .i, .i, .i, .i, .i, .i, .i, .i] (.a (.agg [(.int .i64 (.v 70)), (.int .i64 (.v 71)), (.int .i64 (.v 72)), (.int .i64 (.v 73)), (.int .i64 (.v 74)), (.int .i64 (.v 75)), (.int .i64 (.v 76)), (.int .i64 (.v 77)), (.int .i64 (.v 78)), (.int .i64 (.v 79)), (.int .i64 (.v 80)), (.int .i64 (.v 81)), (.int .i64 (.v 82)), (.int .i64 (.v 83)), (.int .i64 (.v 84)), (.int .i64 (.v 85)), (.int .i64 (.v 86))])) []
              (.loop [.i] 90 [(.i (.lit 0))]
                (.ite (.cmp .lss (.v 90) (.lit 12))
                  (.ite (.cmp .eql (.v 90) (.lit 0))
                    (.call 17 [(.a (.agg [(.int .i64 (.v 38)), (.int .i64 (.v 71)), (.int .i64 (.v 72)), (.int .i64 (.v 73)), (.int .i64 (.v 74)), (.int .i64 (.v 75)), (.int .i64 (.v 76)), (.int .i64 (.v 77)), (.int .i64 (.v 78)), (.int .i64 (.v 79)), (.int .i64 (.v 80)), (.int .i64 (.v 81)), (.int .i64 (.v 82)), (.int .i64 (.v 83)), (.int .i64 (.v 84)), (.int .i64 (.v 85)), (.int .i64 (.v 86))]))] [] 92 [.b] (.a (.c (.bool (.v 92)))) []
                    (.ite (.not (.v 92))
                      (done (.a (.c (.bool (.lit false)))) [])
                      (.cont 0 [(.i (.lit 1))])))
                    (.ite (.cmp .eql (.v 90) (.lit 1))
                      (.call 17 [(.a (.agg [(.int .i64 (.v 70)), (.int .i64 (.v 38)), (.int .i64 (.v 72)), (.int .i64 (.v 73)), (.int .i64 (.v 74)), (.int .i64 (.v 75)), (.int .i64 (.v 76)), (.int .i64 (.v 77)), (.int .i64 (.v 78)), (.int .i64 (.v 79)), (.int .i64 (.v 80)), (.int .i64 (.v 81)), (.int .i64 (.v 82)), (.int .i64 (.v 83)), (.int .i64 (.v 84)), (.int .i64 (.v 85)), (.int .i64 (.v 86))]))] [] 92 [.b] (.a (.c (.bool (.v 92)))) []
                      (.ite (.not (.v 92))
                        (done (.a (.c (.bool (.lit false)))) [])
                        (.cont 0 [(.i (.lit 2))])))
                      (.ite (.cmp .eql (.v 90) (.lit 2))
                        (.call 17 [(.a (.agg [(.int .i64 (.v 70)), (.int .i64 (.v 71)), (.int .i64 (.v 38)), (.int .i64 (.v 73)), (.int .i64 (.v 74)), (.int .i64 (.v 75)), (.int .i64 (.v 76)), (.int .i64 (.v 77)), (.int .i64 (.v 78)), (.int .i64 (.v 79)), (.int .i64 (.v 80)), (.int .i64 (.v 81)), (.int .i64 (.v 82)), (.int .i64 (.v 83)), (.int .i64 (.v 84)), (.int .i64 (.v 85)), (.int .i64 (.v 86))]))] [] 92 [.b] (.a (.c (.bool (.v 92)))) []
                        (.ite (.not (.v 92))
                          (done (.a (.c (.bool (.lit false)))) [])
                          (.cont 0 [(.i (.lit 3))])))
                        (.ite (.cmp .eql (.v 90) (.lit 3))
                          (.call 17 [(.a (.agg [(.int .i64 (.v 70)), (.int .i64 (.v 71)), (.int .i64 (.v 72)), (.int .i64 (.v 38)), (.int .i64 (.v 74)), (.int .i64 (.v 75)), (.int .i64 (.v 76)), (.int .i64 (.v 77)), (.int .i64 (.v 78)), (.int .i64 (.v 79)), (.int .i64 (.v 80)), (.int .i64 (.v 81)), (.int .i64 (.v 82)), (.int .i64 (.v 83)), (.int .i64 (.v 84)), (.int .i64 (.v 85)), (.int .i64 (.v 86))]))] [] 92 [.b] (.a (.c (.bool (.v 92)))) []
                          (.ite (.not (.v 92))
                            (done (.a (.c (.bool (.lit false)))) [])
                            (.cont 0 [(.i (.lit 4))])))
                          (.ite (.cmp .eql (.v 90) (.lit 4))
                            (.call 17 [(.a (.agg [(.int .i64 (.v 70)), (.int .i64 (.v 71)), (.int .i64 (.v 72)), (.int .i64 (.v 73)), (.int .i64 (.v 38)), (.int .i64 (.v 75)), (.int .i64 (.v 76)), (.int .i64 (.v 77)), (.int .i64 (.v 78)), (.int .i64 (.v 79)), (.int .i64 (.v 80)), (.int .i64 (.v 81)), (.int .i64 (.v 82)), (.int .i64 (.v 83)), (.int .i64 (.v 84)), (.int .i64 (.v 85)), (.int .i64 (.v 86))]))] [] 92 [.b] (.a (.c (.bool (.v 92)))) []
                            (.ite (.not (.v 92))
                              (done (.a (.c (.bool (.lit false)))) [])
                              (.cont 0 [(.i (.lit 5))])))
                            (.ite (.cmp .eql (.v 90) (.lit 5))
                              (.call 17 [(.a (.agg [(.int .i64 (.v 70)), (.int .i64 (.v 71)), (.int .i64 (.v 72)), (.int .i64 (.v 73)), (.int .i64 (.v 74)), (.int .i64 (.v 38)), (.int .i64 (.v 76)), (.int .i64 (.v 77)), (.int .i64 (.v 78)), (.int .i64 (.v 79)), (.int .i64 (.v 80)), (.int .i64 (.v 81)), (.int .i64 (.v 82)), (.int .i64 (.v 83)), (.int .i64 (.v 84)), (.int .i64 (.v 85)), (.int .i64 (.v 86))]))] [] 92 [.b] (.a (.c (.bool (.v 92)))) []
                              (.ite (.not (.v 92))
                                (done (.a (.c (.bool (.lit false)))) [])
                                (.cont 0 [(.i (.lit 6))])))
                              (.ite (.cmp .eql (.v 90) (.lit 6))
                                (.call 17 [(.a (.agg [(.int .i64 (.v 70)), (.int .i64 (.v 71)), (.int .i64 (.v 72)), (.int .i64 (.v 73)), (.int .i64 (.v 74)), (.int .i64 (.v 75)), (.int .i64 (.v 38)), (.int .i64 (.v 77)), (.int .i64 (.v 78)), (.int .i64 (.v 79)), (.int .i64 (.v 80)), (.int .i64 (.v 81)), (.int .i64 (.v 82)), (.int .i64 (.v 83)), (.int .i64 (.v 84)), (.int .i64 (.v 85)), (.int .i64 (.v 86))]))] [] 92 [.b] (.a (.c (.bool (.v 92)))) []
                                (.ite (.not (.v 92))
                                  (done (.a (.c (.bool (.lit false)))) [])
                                  (.cont 0 [(.i (.lit 7))])))
                                (.ite (.cmp .eql (.v 90) (.lit 7))
                                  (.call 17 [(.a (.agg [(.int .i64 (.v 70)), (.int .i64 (.v 71)), (.int .i64 (.v 72)), (.int .i64 (.v 73)), (.int .i64 (.v 74)), (.int .i64 (.v 75)), (.int .i64 (.v 76)), (.int .i64 (.v 38)), (.int .i64 (.v 78)), (.int .i64 (.v 79)), (.int .i64 (.v 80)), (.int .i64 (.v 81)), (.int .i64 (.v 82)), (.int .i64 (.v 83)), (.int .i64 (.v 84)), (.int .i64 (.v 85)), (.int .i64 (.v 86))]))] [] 92 [.b] (.a (.c (.bool (.v 92)))) []
                                  (.ite (.not (.v 92))
                                    (done (.a (.c (.bool (.lit false)))) [])
                                    (.cont 0 [(.i (.lit 8))])))
                                  (.ite (.cmp .eql (.v 90) (.lit 8))
                                    (.call 17 [(.a (.agg [(.int .i64 (.v 70)), (.int .i64 (.v 71)), (.int .i64 (.v 72)), (.int .i64 (.v 73)), (.int .i64 (.v 74)), (.int .i64 (.v 75)), (.int .i64 (.v 76)), (.int .i64 (.v 77)), (.int .i64 (.v 78)), (.int .i64 (.v 38)), (.int .i64 (.v 80)), (.int .i64 (.v 81)), (.int .i64 (.v 82)), (.int .i64 (.v 83)), (.int .i64 (.v 84)), (.int .i64 (.v 85)), (.int .i64 (.v 86))]))] [] 92 [.b] (.a (.c (.bool (.v 92)))) []
                                    (.ite (.not (.v 92))
                                      (done (.a (.c (.bool (.lit false)))) [])
                                      (.cont 0 [(.i (.lit 9))])))
                                    (.ite (.cmp .eql (.v 90) (.lit 9))
                                      (.call 17 [(.a (.agg [(.int .i64 (.v 70)), (.int .i64 (.v 71)), (.int .i64 (.v 72)), (.int .i64 (.v 73)), (.int .i64 (.v 74)), (.int .i64 (.v 75)), (.int .i64 (.v 76)), (.int .i64 (.v 77)), (.int .i64 (.v 78)), (.int .i64 (.v 79)), (.int .i64 (.v 80)), (.int .i64 (.v 81)), (.int .i64 (.v 82)), (.int .i64 (.v 38)), (.int .i64 (.v 84)), (.int .i64 (.v 85)), (.int .i64 (.v 86))]))] [] 92 [.b] (.a (.c (.bool (.v 92)))) []
                                      (.ite (.not (.v 92))
                                        (done (.a (.c (.bool (.lit false)))) [])
                                        (.cont 0 [(.i (.lit 10))])))
                                      (.ite (.cmp .eql (.v 90) (.lit 10))
                                        (.call 17 [(.a (.agg [(.int .i64 (.v 70)), (.int .i64 (.v 71)), (.int .i64 (.v 72)), (.int .i64 (.v 73)), (.int .i64 (.v 74)), (.int .i64 (.v 75)), (.int .i64 (.v 76)), (.int .i64 (.v 77)), (.int .i64 (.v 78)), (.int .i64 (.v 79)), (.int .i64 (.v 80)), (.int .i64 (.v 81)), (.int .i64 (.v 82)), (.int .i64 (.v 83)), (.int .i64 (.v 84)), (.int .i64 (.v 85)), (.int .i64 (.v 38))]))] [] 92 [.b] (.a (.c (.bool (.v 92)))) []
                                        (.ite (.not (.v 92))
                                          (done (.a (.c (.bool (.lit false)))) [])
                                          (.cont 0 [(.i (.lit 11))])))
                                        (.need [(.cmp .eql (.v 90) (.lit 11))]
                                        (.call 17 [(.a (.agg [(.int .i64 (.v 70)), (.int .i64 (.v 71)), (.int .i64 (.v 72)), (.int .i64 (.v 73)), (.int .i64 (.v 74)), (.int .i64 (.v 75)), (.int .i64 (.v 76)), (.int .i64 (.v 77)), (.int .i64 (.v 38)), (.int .i64 (.v 79)), (.int .i64 (.v 80)), (.int .i64 (.v 81)), (.int .i64 (.v 82)), (.int .i64 (.v 83)), (.int .i64 (.v 84)), (.int .i64 (.v 85)), (.int .i64 (.v 86))]))] [] 92 [.b] (.a (.c (.bool (.v 92)))) []
                                        (.ite (.not (.v 92))
                                          (done (.a (.c (.bool (.lit false)))) [])
                                          (.cont 0 [(.i (.lit 12))])))))))))))))))
                  (.call 17 [(.a (.agg [(.int .i64 (.v 0)), (.int .i64 (.v 1)), (.int .i64 (.v 2)), (.int .i64 (.v 3)), (.int .i64 (.v 4)), (.int .i64 (.v 5)), (.int .i64 (.v 6)), (.int .i64 (.v 7)), (.int .i64 (.v 8)), (.int .i64 (.v 9)), (.int .i64 (.v 10)), (.int .i64 (.v 11)), (.int .i64 (.v 12)), (.int .i64 (.v 13)), (.int .i64 (.v 14)), (.int .i64 (.v 15)), (.int .i64 (.v 16))]))] [] 91 [.b] (.a (.c (.bool (.v 91)))) []
                  (.ite (.v 91)
                    (.call 16 [(.a (.agg [(.int .u8 (.v 17)), (.int .u8 (.v 18)), (.int .i64 (.v 19)), (.int .i64 (.v 20)), (.int .u64 (.v 21)), (.int .u64 (.v 22)), (.int .u16 (.v 23)), (.int .u16 (.v 24)), (.int .u16 (.v 25)), (.int .i32 (.v 26)), (.int .u8 (.v 27)), (.int .u8 (.v 28)), (.int .u8 (.v 29)), (.int .u8 (.v 30)), (.int .u16 (.v 31))]))] [] 92 [.i, .i, .i, .i, .i, .i, .i, .i, .i, .i, .i, .i, .i, .i, .i, .i, .i] (.a (.agg [(.int .i64 (.v 92)), (.int .i64 (.v 93)), (.int .i64 (.v 94)), (.int .i64 (.v 95)), (.int .i64 (.v 96)), (.int .i64 (.v 97)), (.int .i64 (.v 98)), (.int .i64 (.v 99)), (.int .i64 (.v 100)), (.int .i64 (.v 101)), (.int .i64 (.v 102)), (.int .i64 (.v 103)), (.int .i64 (.v 104)), (.int .i64 (.v 105)), (.int .i64 (.v 106)), (.int .i64 (.v 107)), (.int .i64 (.v 108))])) []
                    (.call 17 [(.a (.agg [(.int .i64 (.v 92)), (.int .i64 (.v 93)), (.int .i64 (.v 94)), (.int .i64 (.v 95)), (.int .i64 (.v 96)), (.int .i64 (.v 97)), (.int .i64 (.v 98)), (.int .i64 (.v 99)), (.int .i64 (.v 100)), (.int .i64 (.v 101)), (.int .i64 (.v 102)), (.int .i64 (.v 103)), (.int .i64 (.v 104)), (.int .i64 (.v 105)), (.int .i64 (.v 106)), (.int .i64 (.v 107)), (.int .i64 (.v 108))]))] [] 109 [.b] (.a (.c (.bool (.v 109)))) []
                    (done (.a (.c (.bool (.v 109)))) [])))
                    (done (.a (.c (.bool (.lit false)))) [])))))))))))
        (done (.a (.c (.bool (.lit false)))) [])))
      (.ite (.eq (.v 64) (.cmp .eql (.v 65) (.lit 0)))
        (.call 13 [(.a (.c (.int .i64 (.v 38))))] [] 66 [.i] (.a (.c (.int .i64 (.v 66)))) []
        (.call 14 [(.a (.c (.int .i64 (.v 38))))] [] 67 [.i] (.a (.c (.int .i64 (.v 67)))) []
        (.ite (.cmp .neq (.v 66) (.v 67))
          (done (.a (.c (.bool (.lit false)))) [])
          (.loop [.i] 68 [(.i (.lit (-1)))]
            (.ite (.cmp .lss (.v 68) (.lit 16))
              (.call 13 [(.a (.c (.int .i64 (.v 68))))] [] 69 [.i] (.a (.c (.int .i64 (.v 69)))) []
              (.call 14 [(.a (.c (.int .i64 (.v 68))))] [] 70 [.i] (.a (.c (.int .i64 (.v 70)))) []
              (.ite (.cmp .neq (.v 69) (.v 70))
                (done (.a (.c (.bool (.lit false)))) [])
                (.cont 0 [(.i (.bin .add .i64 (.v 68) (.lit 1)))]))))
              (.call 16 [(.a (.agg [(.int .u8 (.v 17)), (.int .u8 (.v 18)), (.int .i64 (.v 19)), (.int .i64 (.v 20)), (.int .u64 (.v 21)), (.int .u64 (.v 22)), (.int .u16 (.v 23)), (.int .u16 (.v 24)), (.int .u16 (.v 25)), (.int .i32 (.v 26)), (.int .u8 (.v 27)), (.int .u8 (.v 28)), (.int .u8 (.v 29)), (.int .u8 (.v 30)), (.int .u16 (.v 31))]))] [] 69 [.i, .i, .i, .i, .i, .i, .i, .i, .i, .i, .i, .i, .i, .i, .i, .i, .i] (.a (.agg [(.int .i64 (.v 69)), (.int .i64 (.v 70)), (.int .i64 (.v 71)), (.int .i64 (.v 72)), (.int .i64 (.v 73)), (.int .i64 (.v 74)), (.int .i64 (.v 75)), (.int .i64 (.v 76)), (.int .i64 (.v 77)), (.int .i64 (.v 78)), (.int .i64 (.v 79)), (.int .i64 (.v 80)), (.int .i64 (.v 81)), (.int .i64 (.v 82)), (.int .i64 (.v 83)), (.int .i64 (.v 84)), (.int .i64 (.v 85))])) []
              (.loop [.i] 89 [(.i (.lit 0))]
                (.ite (.cmp .lss (.v 89) (.lit 12))
                  (.ite (.cmp .eql (.v 89) (.lit 0))
                    (.call 17 [(.a (.agg [(.int .i64 (.v 38)), (.int .i64 (.v 70)), (.int .i64 (.v 71)), (.int .i64 (.v 72)), (.int .i64 (.v 73)), (.int .i64 (.v 74)), (.int .i64 (.v 75)), (.int .i64 (.v 76)), (.int .i64 (.v 77)), (.int .i64 (.v 78)), (.int .i64 (.v 79)), (.int .i64 (.v 80)), (.int .i64 (.v 81)), (.int .i64 (.v 82)), (.int .i64 (.v 83)), (.int .i64 (.v 84)), (.int .i64 (.v 85))]))] [] 91 [.b] (.a (.c (.bool (.v 91)))) []
                    (.ite (.not (.v 91))
                      (done (.a (.c (.bool (.lit false)))) [])
                      (.cont 0 [(.i (.lit 1))])))
                    (.ite (.cmp .eql (.v 89) (.lit 1))
                      (.call 17 [(.a (.agg [(.int .i64 (.v 69)), (.int .i64 (.v 38)), (.int .i64 (.v 71)), (.int .i64 (.v 72)), (.int .i64 (.v 73)), (.int .i64 (.v 74)), (.int .i64 (.v 75)), (.int .i64 (.v 76)), (.int .i64 (.v 77)), (.int .i64 (.v 78)), (.int .i64 (.v 79)), (.int .i64 (.v 80)), (.int .i64 (.v 81)), (.int .i64 (.v 82)), (.int .i64 (.v 83)), (.int .i64 (.v 84)), (.int .i64 (.v 85))]))] [] 91 [.b] (.a (.c (.bool (.v 91)))) []
                      (.ite (.not (.v 91))
                        (done (.a (.c (.bool (.lit false)))) [])
                        (.cont 0 [(.i (.lit 2))])))
                      (.ite (.cmp .eql (.v 89) (.lit 2))
                        (.call 17 [(.a (.agg [(.int .i64 (.v 69)), (.int .i64 (.v 70)), (.int .i64 (.v 38)), (.int .i64 (.v 72)), (.int .i64 (.v 73)), (.int .i64 (.v 74)), (.int .i64 (.v 75)), (.int .i64 (.v 76)), (.int .i64 (.v 77)), (.int .i64 (.v 78)), (.int .i64 (.v 79)), (.int .i64 (.v 80)), (.int .i64 (.v 81)), (.int .i64 (.v 82)), (.int .i64 (.v 83)), (.int .i64 (.v 84)), (.int .i64 (.v 85))]))] [] 91 [.b] (.a (.c (.bool (.v 91)))) []
                        (.ite (.not (.v 91))
                          (done (.a (.c (.bool (.lit false)))) [])
                          (.cont 0 [(.i (.lit 3))])))
                        (.ite (.cmp .eql (.v 89) (.lit 3))
                          (.call 17 [(.a (.agg [(.int .i64 (.v 69)), (.int .i64 (.v 70)), (.int .i64 (.v 71)), (.int .i64 (.v 38)), (.int .i64 (.v 73)), (.int .i64 (.v 74)), (.int .i64 (.v 75)), (.int .i64 (.v 76)), (.int .i64 (.v 77)), (.int .i64 (.v 78)), (.int .i64 (.v 79)), (.int .i64 (.v 80)), (.int .i64 (.v 81)), (.int .i64 (.v 82)), (.int .i64 (.v 83)), (.int .i64 (.v 84)), (.int .i64 (.v 85))]))] [] 91 [.b] (.a (.c (.bool (.v 91)))) []
                          (.ite (.not (.v 91))
                            (done (.a (.c (.bool (.lit false)))) [])
                            (.cont 0 [(.i (.lit 4))])))
                          (.ite (.cmp .eql (.v 89) (.lit 4))
                            (.call 17 [(.a (.agg [(.int .i64 (.v 69)), (.int .i64 (.v 70)), (.int .i64 (.v 71)), (.int .i64 (.v 72)), (.int .i64 (.v 38)), (.int .i64 (.v 74)), (.int .i64 (.v 75)), (.int .i64 (.v 76)), (.int .i64 (.v 77)), (.int .i64 (.v 78)), (.int .i64 (.v 79)), (.int .i64 (.v 80)), (.int .i64 (.v 81)), (.int .i64 (.v 82)), (.int .i64 (.v 83)), (.int .i64 (.v 84)), (.int .i64 (.v 85))]))] [] 91 [.b] (.a (.c (.bool (.v 91)))) []
                            (.ite (.not (.v 91))
                              (done (.a (.c (.bool (.lit false)))) [])
                              (.cont 0 [(.i (.lit 5))])))
                            (.ite (.cmp .eql (.v 89) (.lit 5))
                              (.call 17 [(.a (.agg [(.int .i64 (.v 69)), (.int .i64 (.v 70)), (.int .i64 (.v 71)), (.int .i64 (.v 72)), (.int .i64 (.v 73)), (.int .i64 (.v 38)), (.int .i64 (.v 75)), (.int .i64 (.v 76)), (.int .i64 (.v 77)), (.int .i64 (.v 78)), (.int .i64 (.v 79)), (.int .i64 (.v 80)), (.int .i64 (.v 81)), (.int .i64 (.v 82)), (.int .i64 (.v 83)), (.int .i64 (.v 84)), (.int .i64 (.v 85))]))] [] 91 [.b] (.a (.c (.bool (.v 91)))) []
                              (.ite (.not (.v 91))
                                (done (.a (.c (.bool (.lit false)))) [])
                                (.cont 0 [(.i (.lit 6))])))
                              (.ite (.cmp .eql (.v 89) (.lit 6))
                                (.call 17 [(.a (.agg [(.int .i64 (.v 69)), (.int .i64 (.v 70)), (.int .i64 (.v 71)), (.int .i64 (.v 72)), (.int .i64 (.v 73)), (.int .i64 (.v 74)), (.int .i64 (.v 38)), (.int .i64 (.v 76)), (.int .i64 (.v 77)), (.int .i64 (.v 78)), (.int .i64 (.v 79)), (.int .i64 (.v 80)), (.int .i64 (.v 81)), (.int .i64 (.v 82)), (.int .i64 (.v 83)), (.int .i64 (.v 84)), (.int .i64 (.v 85))]))] [] 91 [.b] (.a (.c (.bool (.v 91)))) []
                                (.ite (.not (.v 91))
                                  (done (.a (.c (.bool (.lit false)))) [])
                                  (.cont 0 [(.i (.lit 7))])))
                                (.ite (.cmp .eql (.v 89) (.lit 7))
                                  (.call 17 [(.a (.agg [(.int .i64 (.v 69)), (.int .i64 (.v 70)), (.int .i64 (.v 71)), (.int .i64 (.v 72)), (.int .i64 (.v 73)), (.int .i64 (.v 74)), (.int .i64 (.v 75)), (.int .i64 (.v 38)), (.int .i64 (.v 77)), (.int .i64 (.v 78)), (.int .i64 (.v 79)), (.int .i64 (.v 80)), (.int .i64 (.v 81)), (.int .i64 (.v 82)), (.int .i64 (.v 83)), (.int .i64 (.v 84)), (.int .i64 (.v 85))]))] [] 91 [.b] (.a (.c (.bool (.v 91)))) []
                                  (.ite (.not (.v 91))
                                    (done (.a (.c (.bool (.lit false)))) [])
                                    (.cont 0 [(.i (.lit 8))])))
                                  (.ite (.cmp .eql (.v 89) (.lit 8))
                                    (.call 17 [(.a (.agg [(.int .i64 (.v 69)), (.int .i64 (.v 70)), (.int .i64 (.v 71)), (.int .i64 (.v 72)), (.int .i64 (.v 73)), (.int .i64 (.v 74)), (.int .i64 (.v 75)), (.int .i64 (.v 76)), (.int .i64 (.v 77)), (.int .i64 (.v 38)), (.int .i64 (.v 79)), (.int .i64 (.v 80)), (.int .i64 (.v 81)), (.int .i64 (.v 82)), (.int .i64 (.v 83)), (.int .i64 (.v 84)), (.int .i64 (.v 85))]))] [] 91 [.b] (.a (.c (.bool (.v 91)))) []
                                    (.ite (.not (.v 91))
                                      (done (.a (.c (.bool (.lit false)))) [])
                                      (.cont 0 [(.i (.lit 9))])))
                                    (.ite (.cmp .eql (.v 89) (.lit 9))
                                      (.call 17 [(.a (.agg [(.int .i64 (.v 69)), (.int .i64 (.v 70)), (.int .i64 (.v 71)), (.int .i64 (.v 72)), (.int .i64 (.v 73)), (.int .i64 (.v 74)), (.int .i64 (.v 75)), (.int .i64 (.v 76)), (.int .i64 (.v 77)), (.int .i64 (.v 78)), (.int .i64 (.v 79)), (.int .i64 (.v 80)), (.int .i64 (.v 81)), (.int .i64 (.v 38)), (.int .i64 (.v 83)), (.int .i64 (.v 84)), (.int .i64 (.v 85))]))] [] 91 [.b] (.a (.c (.bool (.v 91)))) []
                                      (.ite (.not (.v 91))
                                        (done (.a (.c (.bool (.lit false)))) [])
                                        (.cont 0 [(.i (.lit 10))])))
                                      (.ite (.cmp .eql (.v 89) (.lit 10))
                                        (.call 17 [(.a (.agg [(.int .i64 (.v 69)), (.int .i64 (.v 70)), (.int .i64 (.v 71)), (.int .i64 (.v 72)), (.int .i64 (.v 73)), (.int .i64 (.v 74)), (.int .i64 (.v 75)), (.int .i64 (.v 76)), (.int .i64 (.v 77)), (.int .i64 (.v 78)), (.int .i64 (.v 79)), (.int .i64 (.v 80)), (.int .i64 (.v 81)), (.int .i64 (.v 82)), (.int .i64 (.v 83)), (.int .i64 (.v 84)), (.int .i64 (.v 38))]))] [] 91 [.b] (.a (.c (.bool (.v 91)))) []
                                        (.ite (.not (.v 91))
                                          (done (.a (.c (.bool (.lit false)))) [])
                                          (.cont 0 [(.i (.lit 11))])))
                                        (.need [(.cmp .eql (.v 89) (.lit 11))]
                                        (.call 17 [(.a (.agg [(.int .i64 (.v 69)), (.int .i64 (.v 70)), (.int .i64 (.v 71)), (.int .i64 (.v 72)), (.int .i64 (.v 73)), (.int .i64 (.v 74)), (.int .i64 (.v 75)), (.int .i64 (.v 76)), (.int .i64 (.v 38)), (.int .i64 (.v 78)), (.int .i64 (.v 79)), (.int .i64 (.v 80)), (.int .i64 (.v 81)), (.int .i64 (.v 82)), (.int .i64 (.v 83)), (.int .i64 (.v 84)), (.int .i64 (.v 85))]))] [] 91 [.b] (.a (.c (.bool (.v 91)))) []
                                        (.ite (.not (.v 91))
                                          (done (.a (.c (.bool (.lit false)))) [])
                                          (.cont 0 [(.i (.lit 12))])))))))))))))))
                  (.call 17 [(.a (.agg [(.int .i64 (.v 0)), (.int .i64 (.v 1)), (.int .i64 (.v 2)), (.int .i64 (.v 3)), (.int .i64 (.v 4)), (.int .i64 (.v 5)), (.int .i64 (.v 6)), (.int .i64 (.v 7)), (.int .i64 (.v 8)), (.int .i64 (.v 9)), (.int .i64 (.v 10)), (.int .i64 (.v 11)), (.int .i64 (.v 12)), (.int .i64 (.v 13)), (.int .i64 (.v 14)), (.int .i64 (.v 15)), (.int .i64 (.v 16))]))] [] 90 [.b] (.a (.c (.bool (.v 90)))) []
                  (.ite (.v 90)
                    (.call 16 [(.a (.agg [(.int .u8 (.v 17)), (.int .u8 (.v 18)), (.int .i64 (.v 19)), (.int .i64 (.v 20)), (.int .u64 (.v 21)), (.int .u64 (.v 22)), (.int .u16 (.v 23)), (.int .u16 (.v 24)), (.int .u16 (.v 25)), (.int .i32 (.v 26)), (.int .u8 (.v 27)), (.int .u8 (.v 28)), (.int .u8 (.v 29)), (.int .u8 (.v 30)), (.int .u16 (.v 31))]))] [] 91 [.i, .i, .i, .i, .i, .i, .i, .i, .i, .i, .i, .i, .i, .i, .i, .i, .i] (.a (.agg [(.int .i64 (.v 91)), (.int .i64 (.v 92)), (.int .i64 (.v 93)), (.int .i64 (.v 94)), (.int .i64 (.v 95)), (.int .i64 (.v 96)), (.int .i64 (.v 97)), (.int .i64 (.v 98)), (.int .i64 (.v 99)), (.int .i64 (.v 100)), (.int .i64 (.v 101)), (.int .i64 (.v 102)), (.int .i64 (.v 103)), (.int .i64 (.v 104)), (.int .i64 (.v 105)), (.int .i64 (.v 106)), (.int .i64 (.v 107))])) []
                    (.call 17 [(.a (.agg [(.int .i64 (.v 91)), (.int .i64 (.v 92)), (.int .i64 (.v 93)), (.int .i64 (.v 94)), (.int .i64 (.v 95)), (.int .i64 (.v 96)), (.int .i64 (.v 97)), (.int .i64 (.v 98)), (.int .i64 (.v 99)), (.int .i64 (.v 100)), (.int .i64 (.v 101)), (.int .i64 (.v 102)), (.int .i64 (.v 103)), (.int .i64 (.v 104)), (.int .i64 (.v 105)), (.int .i64 (.v 106)), (.int .i64 (.v 107))]))] [] 108 [.b] (.a (.c (.bool (.v 108)))) []
                    (done (.a (.c (.bool (.v 108)))) [])))
                    (done (.a (.c (.bool (.lit false)))) [])))))))))))
        (done (.a (.c (.bool (.lit false)))) []))))))) := by kernel_rfl

end Go.Proofs.Y10
