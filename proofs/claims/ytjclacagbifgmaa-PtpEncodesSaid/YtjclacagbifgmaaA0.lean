/- A part of the proof: see the text that states the theorem. -/
import Derived.Test.YtjclacagbifgmaaAA
set_option linter.unusedSimpArgs false
set_option linter.unusedVariables false
set_option linter.unusedSectionVars false
noncomputable section
namespace Go.Proofs.Y10
open Go Go.SX Go.RowKit
theorem t_Size : callTree C0 300 13 [i64 0] [] 20 = some
  (.ite (.cmp .eql (.v 0) (.lit 0))
    (done (.a (.c (.int .i64 (.lit 22)))) [])
    (.ite (.cmp .eql (.v 0) (.lit 2))
      (done (.a (.c (.int .i64 (.lit 22)))) [])
      (.ite (.cmp .eql (.v 0) (.lit 8))
        (done (.a (.c (.int .i64 (.lit 34)))) [])
        (.ite (.cmp .eql (.v 0) (.lit 3))
          (done (.a (.c (.int .i64 (.lit 38)))) [])
          (.ite (.cmp .eql (.v 0) (.lit 10))
            (done (.a (.c (.int .i64 (.lit 38)))) [])
            (.ite (.cmp .eql (.v 0) (.lit 11))
              (done (.a (.c (.int .i64 (.lit 36)))) [])
              (done (.a (.c (.int .i64 (.lit 0)))) []))))))) := by kernel_rfl

theorem t_refSize : callTree C0 300 14 [i64 0] [] 20 = some
  (.ite (.cmp .eql (.v 0) (.lit 0))
    (done (.a (.c (.int .i64 (.lit 22)))) [])
    (.ite (.cmp .eql (.v 0) (.lit 2))
      (done (.a (.c (.int .i64 (.lit 22)))) [])
      (.ite (.cmp .eql (.v 0) (.lit 3))
        (done (.a (.c (.int .i64 (.lit 38)))) [])
        (.ite (.cmp .eql (.v 0) (.lit 10))
          (done (.a (.c (.int .i64 (.lit 38)))) [])
          (.ite (.cmp .eql (.v 0) (.lit 8))
            (done (.a (.c (.int .i64 (.lit 34)))) [])
            (.ite (.cmp .eql (.v 0) (.lit 11))
              (done (.a (.c (.int .i64 (.lit 36)))) [])
              (done (.a (.c (.int .i64 (.lit 0)))) []))))))) := by kernel_rfl

theorem t_Master : callTree C0 300 11 [i64s 0 6] [] 20 = some
  (.ite (.and (.cmp .geq (.v 0) (.lit 0)) (.cmp .leq (.v 0) (.lit 255)))
    (.ite (.and (.cmp .geq (.v 1) (.lit 0)) (.cmp .leq (.v 1) (.lit 255)))
      (.ite (.and (.cmp .geq (.v 2) (.lit 0)) (.cmp .leq (.v 2) (.lit 255)))
        (.ite (.and (.cmp .geq (.v 3) (.lit 0)) (.cmp .leq (.v 3) (.lit 65535)))
          (.ite (.and (.cmp .geq (.v 4) (.lit 0)) (.cmp .leq (.v 4) (.lit 255)))
            (done (.a (.c (.bool (.and (.cmp .geq (.v 5) (.lit 0)) (.cmp .leq (.v 5) (.lit 281474976710655)))))) [])
            (done (.a (.c (.bool (.lit false)))) []))
          (done (.a (.c (.bool (.lit false)))) []))
        (done (.a (.c (.bool (.lit false)))) []))
      (done (.a (.c (.bool (.lit false)))) []))
    (done (.a (.c (.bool (.lit false)))) [])) := by kernel_rfl

theorem t_CheckMaster : callTree C0 300 12 [i64s 0 6] [] 20 = some
  (.ite (.not (.and (.and (.and (.and (.and (.and (.and (.and (.and (.and (.and (.cmp .geq (.v 0) (.lit 0)) (.cmp .leq (.v 0) (.lit 255))) (.cmp .geq (.v 1) (.lit 0))) (.cmp .leq (.v 1) (.lit 255))) (.cmp .geq (.v 2) (.lit 0))) (.cmp .leq (.v 2) (.lit 255))) (.cmp .geq (.v 3) (.lit 0))) (.cmp .leq (.v 3) (.lit 65535))) (.cmp .geq (.v 4) (.lit 0))) (.cmp .leq (.v 4) (.lit 255))) (.cmp .geq (.v 5) (.lit 0))) (.cmp .leq (.v 5) (.lit 281474976710655))))
    (done (.a (.c (.int .i64 (.lit 201)))) [])
    (done (.a (.c (.int .i64 (.lit 0)))) [])) := by kernel_rfl

theorem t_Message : callTree C0 300 16 [dft 0] [] 40 = some
  (.ite (.cmp .eql (.bin .rem .u8 (.v 0) (.lit 6)) (.lit 0))
    (done (.a (.agg [(.int .i64 (.lit 0)), (.int .i64 (.conv .i64 (.bin .rem .u8 (.v 1) (.lit 128)))), (.int .i64 (.bin .rem .i64 (.v 2) (.lit 4398046511105))), (.int .i64 (.conv .i64 (.bin .rem .u64 (.v 4) (.lit 281474976710656)))), (.int .i64 (.bin .add .i64 (.lit 1) (.conv .i64 (.bin .rem .u16 (.v 6) (.lit 65535))))), (.int .i64 (.conv .i64 (.v 7))), (.int .i64 (.lit 0)), (.int .i64 (.lit 0)), (.int .i64 (.lit 0)), (.int .i64 (.lit 0)), (.int .i64 (.lit 0)), (.int .i64 (.lit 0)), (.int .i64 (.lit 0)), (.int .i64 (.lit 0)), (.int .i64 (.lit 0)), (.int .i64 (.lit 0)), (.int .i64 (.lit 0))])) [])
    (.ite (.cmp .eql (.bin .rem .u8 (.v 0) (.lit 6)) (.lit 1))
      (done (.a (.agg [(.int .i64 (.lit 2)), (.int .i64 (.conv .i64 (.bin .rem .u8 (.v 1) (.lit 128)))), (.int .i64 (.bin .rem .i64 (.v 2) (.lit 4398046511105))), (.int .i64 (.conv .i64 (.bin .rem .u64 (.v 4) (.lit 281474976710656)))), (.int .i64 (.bin .add .i64 (.lit 1) (.conv .i64 (.bin .rem .u16 (.v 6) (.lit 65535))))), (.int .i64 (.conv .i64 (.v 7))), (.int .i64 (.lit 0)), (.int .i64 (.lit 0)), (.int .i64 (.lit 0)), (.int .i64 (.lit 0)), (.int .i64 (.lit 0)), (.int .i64 (.lit 0)), (.int .i64 (.lit 0)), (.int .i64 (.lit 0)), (.int .i64 (.lit 0)), (.int .i64 (.lit 0)), (.int .i64 (.lit 0))])) [])
      (.ite (.cmp .eql (.bin .rem .u8 (.v 0) (.lit 6)) (.lit 2))
        (done (.a (.agg [(.int .i64 (.lit 3)), (.int .i64 (.conv .i64 (.bin .rem .u8 (.v 1) (.lit 128)))), (.int .i64 (.bin .rem .i64 (.v 2) (.lit 4398046511105))), (.int .i64 (.conv .i64 (.bin .rem .u64 (.v 4) (.lit 281474976710656)))), (.int .i64 (.bin .add .i64 (.lit 1) (.conv .i64 (.bin .rem .u16 (.v 6) (.lit 65535))))), (.int .i64 (.conv .i64 (.v 7))), (.int .i64 (.bin .rem .i64 (.v 3) (.lit 4398046511105))), (.int .i64 (.lit 0)), (.int .i64 (.conv .i64 (.bin .rem .u64 (.v 5) (.lit 281474976710656)))), (.int .i64 (.bin .add .i64 (.lit 1) (.conv .i64 (.bin .rem .u16 (.v 8) (.lit 65535))))), (.int .i64 (.lit 0)), (.int .i64 (.lit 0)), (.int .i64 (.lit 0)), (.int .i64 (.lit 0)), (.int .i64 (.lit 0)), (.int .i64 (.lit 0)), (.int .i64 (.lit 0))])) [])
        (.ite (.cmp .eql (.bin .rem .u8 (.v 0) (.lit 6)) (.lit 3))
          (done (.a (.agg [(.int .i64 (.lit 8)), (.int .i64 (.conv .i64 (.bin .rem .u8 (.v 1) (.lit 128)))), (.int .i64 (.bin .rem .i64 (.v 2) (.lit 4398046511105))), (.int .i64 (.conv .i64 (.bin .rem .u64 (.v 4) (.lit 281474976710656)))), (.int .i64 (.bin .add .i64 (.lit 1) (.conv .i64 (.bin .rem .u16 (.v 6) (.lit 65535))))), (.int .i64 (.conv .i64 (.v 7))), (.int .i64 (.bin .rem .i64 (.v 3) (.lit 4398046511105))), (.int .i64 (.conv .i64 (.bin .rem .i32 (.v 9) (.lit 8388609)))), (.int .i64 (.lit 0)), (.int .i64 (.lit 0)), (.int .i64 (.lit 0)), (.int .i64 (.lit 0)), (.int .i64 (.lit 0)), (.int .i64 (.lit 0)), (.int .i64 (.lit 0)), (.int .i64 (.lit 0)), (.int .i64 (.lit 0))])) [])
          (.ite (.cmp .eql (.bin .rem .u8 (.v 0) (.lit 6)) (.lit 4))
            (done (.a (.agg [(.int .i64 (.lit 10)), (.int .i64 (.conv .i64 (.bin .rem .u8 (.v 1) (.lit 128)))), (.int .i64 (.bin .rem .i64 (.v 2) (.lit 4398046511105))), (.int .i64 (.conv .i64 (.bin .rem .u64 (.v 4) (.lit 281474976710656)))), (.int .i64 (.bin .add .i64 (.lit 1) (.conv .i64 (.bin .rem .u16 (.v 6) (.lit 65535))))), (.int .i64 (.conv .i64 (.v 7))), (.int .i64 (.bin .rem .i64 (.v 3) (.lit 4398046511105))), (.int .i64 (.lit 0)), (.int .i64 (.conv .i64 (.bin .rem .u64 (.v 5) (.lit 281474976710656)))), (.int .i64 (.bin .add .i64 (.lit 1) (.conv .i64 (.bin .rem .u16 (.v 8) (.lit 65535))))), (.int .i64 (.lit 0)), (.int .i64 (.lit 0)), (.int .i64 (.lit 0)), (.int .i64 (.lit 0)), (.int .i64 (.lit 0)), (.int .i64 (.lit 0)), (.int .i64 (.lit 0))])) [])
            (.need [(.cmp .eql (.bin .rem .u8 (.v 0) (.lit 6)) (.lit 5))]
            (done (.a (.agg [(.int .i64 (.lit 11)), (.int .i64 (.conv .i64 (.bin .rem .u8 (.v 1) (.lit 128)))), (.int .i64 (.bin .rem .i64 (.v 2) (.lit 4398046511105))), (.int .i64 (.conv .i64 (.bin .rem .u64 (.v 4) (.lit 281474976710656)))), (.int .i64 (.bin .add .i64 (.lit 1) (.conv .i64 (.bin .rem .u16 (.v 6) (.lit 65535))))), (.int .i64 (.conv .i64 (.v 7))), (.int .i64 (.lit 0)), (.int .i64 (.lit 0)), (.int .i64 (.lit 0)), (.int .i64 (.lit 0)), (.int .i64 (.conv .i64 (.v 10))), (.int .i64 (.conv .i64 (.v 11))), (.int .i64 (.conv .i64 (.v 12))), (.int .i64 (.conv .i64 (.v 14))), (.int .i64 (.conv .i64 (.v 13))), (.int .i64 (.conv .i64 (.bin .rem .u64 (.v 5) (.lit 281474976710656)))), (.int .i64 (.conv .i64 (.v 8)))])) []))))))) := by kernel_rfl

theorem t_checks : callTree C1 300 17 [msg 0] [] 20 = some
  (.call 19 [(.a (.agg [(.int .i64 (.v 0)), (.int .i64 (.v 1)), (.int .i64 (.v 2)), (.int .i64 (.v 3)), (.int .i64 (.v 4)), (.int .i64 (.v 5)), (.int .i64 (.v 6)), (.int .i64 (.v 7)), (.int .i64 (.v 8)), (.int .i64 (.v 9)), (.int .i64 (.v 10)), (.int .i64 (.v 11)), (.int .i64 (.v 12)), (.int .i64 (.v 13)), (.int .i64 (.v 14)), (.int .i64 (.v 15)), (.int .i64 (.v 16))]))] [] 21 [.b] (.a (.c (.bool (.v 21)))) []
  (.ite (.not (.v 21))
    (.call 24 [(.a (.agg [(.int .i64 (.v 0)), (.int .i64 (.v 1)), (.int .i64 (.v 2)), (.int .i64 (.v 3)), (.int .i64 (.v 4)), (.int .i64 (.v 5)), (.int .i64 (.v 6)), (.int .i64 (.v 7)), (.int .i64 (.v 8)), (.int .i64 (.v 9)), (.int .i64 (.v 10)), (.int .i64 (.v 11)), (.int .i64 (.v 12)), (.int .i64 (.v 13)), (.int .i64 (.v 14)), (.int .i64 (.v 15)), (.int .i64 (.v 16))]))] [] 22 [.i] (.a (.c (.int .i64 (.v 22)))) []
    (done (.a (.c (.bool (.cmp .eql (.v 22) (.lit 200))))) []))
    (.call 24 [(.a (.agg [(.int .i64 (.v 0)), (.int .i64 (.v 1)), (.int .i64 (.v 2)), (.int .i64 (.v 3)), (.int .i64 (.v 4)), (.int .i64 (.v 5)), (.int .i64 (.v 6)), (.int .i64 (.v 7)), (.int .i64 (.v 8)), (.int .i64 (.v 9)), (.int .i64 (.v 10)), (.int .i64 (.v 11)), (.int .i64 (.v 12)), (.int .i64 (.v 13)), (.int .i64 (.v 14)), (.int .i64 (.v 15)), (.int .i64 (.v 16))]))] [] 22 [.i] (.a (.c (.int .i64 (.v 22)))) []
    (done (.a (.c (.bool (.cmp .eql (.v 22) (.lit 0))))) [])))) := by kernel_rfl

theorem t_CheckE : callTree C4 300 24 [msg 0] [] 20 = some
  (.ite (.cmp .eql (.v 0) (.lit 0))
    (.call 34 [(.a (.agg [(.ptr 20 0)]))] [(.obj 20 (.cells [(.int .i64 (.v 0)), (.int .i64 (.v 1)), (.int .i64 (.v 2)), (.int .i64 (.v 3)), (.int .i64 (.v 4)), (.int .i64 (.v 5)), (.int .i64 (.v 6)), (.int .i64 (.v 7)), (.int .i64 (.v 8)), (.int .i64 (.v 9)), (.int .i64 (.v 10)), (.int .i64 (.v 11)), (.int .i64 (.v 12)), (.int .i64 (.v 13)), (.int .i64 (.v 14)), (.int .i64 (.v 15)), (.int .i64 (.v 16))] 27 none))] 23 [.i] (.a (.c (.int .i64 (.v 23)))) []
    .dead)
    (.ite (.cmp .eql (.v 0) (.lit 2))
      (.call 34 [(.a (.agg [(.ptr 20 0)]))] [(.obj 20 (.cells [(.int .i64 (.v 0)), (.int .i64 (.v 1)), (.int .i64 (.v 2)), (.int .i64 (.v 3)), (.int .i64 (.v 4)), (.int .i64 (.v 5)), (.int .i64 (.v 6)), (.int .i64 (.v 7)), (.int .i64 (.v 8)), (.int .i64 (.v 9)), (.int .i64 (.v 10)), (.int .i64 (.v 11)), (.int .i64 (.v 12)), (.int .i64 (.v 13)), (.int .i64 (.v 14)), (.int .i64 (.v 15)), (.int .i64 (.v 16))] 27 none))] 23 [.i] (.a (.c (.int .i64 (.v 23)))) []
      .dead)
      (.ite (.cmp .eql (.v 0) (.lit 8))
        (.call 34 [(.a (.agg [(.ptr 20 0)]))] [(.obj 20 (.cells [(.int .i64 (.v 0)), (.int .i64 (.v 1)), (.int .i64 (.v 2)), (.int .i64 (.v 3)), (.int .i64 (.v 4)), (.int .i64 (.v 5)), (.int .i64 (.v 6)), (.int .i64 (.v 7)), (.int .i64 (.v 8)), (.int .i64 (.v 9)), (.int .i64 (.v 10)), (.int .i64 (.v 11)), (.int .i64 (.v 12)), (.int .i64 (.v 13)), (.int .i64 (.v 14)), (.int .i64 (.v 15)), (.int .i64 (.v 16))] 27 none))] 23 [.i] (.a (.c (.int .i64 (.v 23)))) []
        .dead)
        (.ite (.cmp .eql (.v 0) (.lit 3))
          (.call 34 [(.a (.agg [(.ptr 20 0)]))] [(.obj 20 (.cells [(.int .i64 (.v 0)), (.int .i64 (.v 1)), (.int .i64 (.v 2)), (.int .i64 (.v 3)), (.int .i64 (.v 4)), (.int .i64 (.v 5)), (.int .i64 (.v 6)), (.int .i64 (.v 7)), (.int .i64 (.v 8)), (.int .i64 (.v 9)), (.int .i64 (.v 10)), (.int .i64 (.v 11)), (.int .i64 (.v 12)), (.int .i64 (.v 13)), (.int .i64 (.v 14)), (.int .i64 (.v 15)), (.int .i64 (.v 16))] 27 none))] 23 [.i] (.a (.c (.int .i64 (.v 23)))) []
          .dead)
          (.ite (.cmp .eql (.v 0) (.lit 10))
            (.call 34 [(.a (.agg [(.ptr 20 0)]))] [(.obj 20 (.cells [(.int .i64 (.v 0)), (.int .i64 (.v 1)), (.int .i64 (.v 2)), (.int .i64 (.v 3)), (.int .i64 (.v 4)), (.int .i64 (.v 5)), (.int .i64 (.v 6)), (.int .i64 (.v 7)), (.int .i64 (.v 8)), (.int .i64 (.v 9)), (.int .i64 (.v 10)), (.int .i64 (.v 11)), (.int .i64 (.v 12)), (.int .i64 (.v 13)), (.int .i64 (.v 14)), (.int .i64 (.v 15)), (.int .i64 (.v 16))] 27 none))] 23 [.i] (.a (.c (.int .i64 (.v 23)))) []
            .dead)
            (.ite (.cmp .eql (.v 0) (.lit 11))
              (.call 34 [(.a (.agg [(.ptr 20 0)]))] [(.obj 20 (.cells [(.int .i64 (.v 0)), (.int .i64 (.v 1)), (.int .i64 (.v 2)), (.int .i64 (.v 3)), (.int .i64 (.v 4)), (.int .i64 (.v 5)), (.int .i64 (.v 6)), (.int .i64 (.v 7)), (.int .i64 (.v 8)), (.int .i64 (.v 9)), (.int .i64 (.v 10)), (.int .i64 (.v 11)), (.int .i64 (.v 12)), (.int .i64 (.v 13)), (.int .i64 (.v 14)), (.int .i64 (.v 15)), (.int .i64 (.v 16))] 27 none))] 23 [.i] (.a (.c (.int .i64 (.v 23)))) []
              .dead)
              (done (.a (.c (.int .i64 (.lit 200)))) []))))))) := by kernel_rfl

end Go.Proofs.Y10
