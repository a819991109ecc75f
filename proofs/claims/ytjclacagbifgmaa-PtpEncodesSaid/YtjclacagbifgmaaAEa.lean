/- A part of the proof: see the text that states the theorem. -/
import Derived.Test.YtjclacagbifgmaaAA
set_option linter.unusedSimpArgs false
set_option linter.unusedVariables false
set_option linter.unusedSectionVars false
noncomputable section
namespace Go.Proofs.Y10
open Go Go.SX Go.RowKit
theorem t_Encode0 : callTreeF C3 300 [.cmp .eql (.v 0) (.lit 0)] 18 [msg 0] [] 20 = some
  (.call 24 [(.a (.agg [(.int .i64 (.v 0)), (.int .i64 (.v 1)), (.int .i64 (.v 2)), (.int .i64 (.v 3)), (.int .i64 (.v 4)), (.int .i64 (.v 5)), (.int .i64 (.v 6)), (.int .i64 (.v 7)), (.int .i64 (.v 8)), (.int .i64 (.v 9)), (.int .i64 (.v 10)), (.int .i64 (.v 11)), (.int .i64 (.v 12)), (.int .i64 (.v 13)), (.int .i64 (.v 14)), (.int .i64 (.v 15)), (.int .i64 (.v 16))]))] [] 21 [.i] (.a (.c (.int .i64 (.v 21)))) []
  (.ite (.cmp .neq (.v 21) (.lit 0))
    (done (.tup [(.c (.lit (.slice none 0 0))), (.c (.int .i64 (.v 21)))]) [])
    (.call 13 [(.a (.c (.int .i64 (.lit 0))))] [] 22 [.i] (.a (.c (.int .i64 (.v 22)))) []
    (done (.tup [(.c (.gslice 95 0 22 0)), (.c (.int .i64 (.lit 0)))]) [(.obj 95 (.cells [(.int .u8 (.lit 0)), (.int .u8 (.conv .u8 (.bin .shr .i64 (.v 1) (.lit 0)))), (.int .u8 (.conv .u8 (.bin .shr .i64 (.v 22) (.lit 8)))), (.int .u8 (.conv .u8 (.bin .shr .i64 (.v 22) (.lit 0)))), (.int .u8 (.conv .u8 (.bin .shr .i64 (.v 2) (.lit 56)))), (.int .u8 (.conv .u8 (.bin .shr .i64 (.v 2) (.lit 48)))), (.int .u8 (.conv .u8 (.bin .shr .i64 (.v 2) (.lit 40)))), (.int .u8 (.conv .u8 (.bin .shr .i64 (.v 2) (.lit 32)))), (.int .u8 (.conv .u8 (.bin .shr .i64 (.v 2) (.lit 24)))), (.int .u8 (.conv .u8 (.bin .shr .i64 (.v 2) (.lit 16)))), (.int .u8 (.conv .u8 (.bin .shr .i64 (.v 2) (.lit 8)))), (.int .u8 (.conv .u8 (.bin .shr .i64 (.v 2) (.lit 0)))), (.int .u8 (.conv .u8 (.bin .shr .i64 (.v 3) (.lit 40)))), (.int .u8 (.conv .u8 (.bin .shr .i64 (.v 3) (.lit 32)))), (.int .u8 (.conv .u8 (.bin .shr .i64 (.v 3) (.lit 24)))), (.int .u8 (.conv .u8 (.bin .shr .i64 (.v 3) (.lit 16)))), (.int .u8 (.conv .u8 (.bin .shr .i64 (.v 3) (.lit 8)))), (.int .u8 (.conv .u8 (.bin .shr .i64 (.v 3) (.lit 0)))), (.int .u8 (.conv .u8 (.bin .shr .i64 (.v 4) (.lit 8)))), (.int .u8 (.conv .u8 (.bin .shr .i64 (.v 4) (.lit 0)))), (.int .u8 (.conv .u8 (.bin .shr .i64 (.v 5) (.lit 8)))), (.int .u8 (.conv .u8 (.bin .shr .i64 (.v 5) (.lit 0))))] 5 (some 1)))])))) := by kernel_rfl

end Go.Proofs.Y10

set_option linter.unusedSimpArgs false
set_option linter.unusedVariables false
set_option linter.unusedSectionVars false
noncomputable section
namespace Go.Proofs.Y10
open Go Go.SX Go.RowKit
theorem t_Encode2 : callTreeF C3 300 [.cmp .eql (.v 0) (.lit 2)] 18 [msg 0] [] 20 = some
  (.call 24 [(.a (.agg [(.int .i64 (.v 0)), (.int .i64 (.v 1)), (.int .i64 (.v 2)), (.int .i64 (.v 3)), (.int .i64 (.v 4)), (.int .i64 (.v 5)), (.int .i64 (.v 6)), (.int .i64 (.v 7)), (.int .i64 (.v 8)), (.int .i64 (.v 9)), (.int .i64 (.v 10)), (.int .i64 (.v 11)), (.int .i64 (.v 12)), (.int .i64 (.v 13)), (.int .i64 (.v 14)), (.int .i64 (.v 15)), (.int .i64 (.v 16))]))] [] 21 [.i] (.a (.c (.int .i64 (.v 21)))) []
  (.ite (.cmp .neq (.v 21) (.lit 0))
    (done (.tup [(.c (.lit (.slice none 0 0))), (.c (.int .i64 (.v 21)))]) [])
    (.call 13 [(.a (.c (.int .i64 (.lit 2))))] [] 22 [.i] (.a (.c (.int .i64 (.v 22)))) []
    (done (.tup [(.c (.gslice 95 0 22 0)), (.c (.int .i64 (.lit 0)))]) [(.obj 95 (.cells [(.int .u8 (.lit 2)), (.int .u8 (.conv .u8 (.bin .shr .i64 (.v 1) (.lit 0)))), (.int .u8 (.conv .u8 (.bin .shr .i64 (.v 22) (.lit 8)))), (.int .u8 (.conv .u8 (.bin .shr .i64 (.v 22) (.lit 0)))), (.int .u8 (.conv .u8 (.bin .shr .i64 (.v 2) (.lit 56)))), (.int .u8 (.conv .u8 (.bin .shr .i64 (.v 2) (.lit 48)))), (.int .u8 (.conv .u8 (.bin .shr .i64 (.v 2) (.lit 40)))), (.int .u8 (.conv .u8 (.bin .shr .i64 (.v 2) (.lit 32)))), (.int .u8 (.conv .u8 (.bin .shr .i64 (.v 2) (.lit 24)))), (.int .u8 (.conv .u8 (.bin .shr .i64 (.v 2) (.lit 16)))), (.int .u8 (.conv .u8 (.bin .shr .i64 (.v 2) (.lit 8)))), (.int .u8 (.conv .u8 (.bin .shr .i64 (.v 2) (.lit 0)))), (.int .u8 (.conv .u8 (.bin .shr .i64 (.v 3) (.lit 40)))), (.int .u8 (.conv .u8 (.bin .shr .i64 (.v 3) (.lit 32)))), (.int .u8 (.conv .u8 (.bin .shr .i64 (.v 3) (.lit 24)))), (.int .u8 (.conv .u8 (.bin .shr .i64 (.v 3) (.lit 16)))), (.int .u8 (.conv .u8 (.bin .shr .i64 (.v 3) (.lit 8)))), (.int .u8 (.conv .u8 (.bin .shr .i64 (.v 3) (.lit 0)))), (.int .u8 (.conv .u8 (.bin .shr .i64 (.v 4) (.lit 8)))), (.int .u8 (.conv .u8 (.bin .shr .i64 (.v 4) (.lit 0)))), (.int .u8 (.conv .u8 (.bin .shr .i64 (.v 5) (.lit 8)))), (.int .u8 (.conv .u8 (.bin .shr .i64 (.v 5) (.lit 0))))] 5 (some 1)))])))) := by kernel_rfl

end Go.Proofs.Y10

set_option linter.unusedSimpArgs false
set_option linter.unusedVariables false
set_option linter.unusedSectionVars false
noncomputable section
namespace Go.Proofs.Y10
open Go Go.SX Go.RowKit
theorem t_Encode3 : callTreeF C3 300 [.cmp .eql (.v 0) (.lit 3)] 18 [msg 0] [] 20 = some
  (.call 24 [(.a (.agg [(.int .i64 (.v 0)), (.int .i64 (.v 1)), (.int .i64 (.v 2)), (.int .i64 (.v 3)), (.int .i64 (.v 4)), (.int .i64 (.v 5)), (.int .i64 (.v 6)), (.int .i64 (.v 7)), (.int .i64 (.v 8)), (.int .i64 (.v 9)), (.int .i64 (.v 10)), (.int .i64 (.v 11)), (.int .i64 (.v 12)), (.int .i64 (.v 13)), (.int .i64 (.v 14)), (.int .i64 (.v 15)), (.int .i64 (.v 16))]))] [] 21 [.i] (.a (.c (.int .i64 (.v 21)))) []
  (.ite (.cmp .neq (.v 21) (.lit 0))
    (done (.tup [(.c (.lit (.slice none 0 0))), (.c (.int .i64 (.v 21)))]) [])
    (.call 13 [(.a (.c (.int .i64 (.lit 3))))] [] 22 [.i] (.a (.c (.int .i64 (.v 22)))) []
    (done (.tup [(.c (.gslice 136 0 38 0)), (.c (.int .i64 (.lit 0)))]) [(.obj 136 (.cells [(.int .u8 (.lit 3)), (.int .u8 (.conv .u8 (.bin .shr .i64 (.v 1) (.lit 0)))), (.int .u8 (.conv .u8 (.bin .shr .i64 (.v 22) (.lit 8)))), (.int .u8 (.conv .u8 (.bin .shr .i64 (.v 22) (.lit 0)))), (.int .u8 (.conv .u8 (.bin .shr .i64 (.v 2) (.lit 56)))), (.int .u8 (.conv .u8 (.bin .shr .i64 (.v 2) (.lit 48)))), (.int .u8 (.conv .u8 (.bin .shr .i64 (.v 2) (.lit 40)))), (.int .u8 (.conv .u8 (.bin .shr .i64 (.v 2) (.lit 32)))), (.int .u8 (.conv .u8 (.bin .shr .i64 (.v 2) (.lit 24)))), (.int .u8 (.conv .u8 (.bin .shr .i64 (.v 2) (.lit 16)))), (.int .u8 (.conv .u8 (.bin .shr .i64 (.v 2) (.lit 8)))), (.int .u8 (.conv .u8 (.bin .shr .i64 (.v 2) (.lit 0)))), (.int .u8 (.conv .u8 (.bin .shr .i64 (.v 3) (.lit 40)))), (.int .u8 (.conv .u8 (.bin .shr .i64 (.v 3) (.lit 32)))), (.int .u8 (.conv .u8 (.bin .shr .i64 (.v 3) (.lit 24)))), (.int .u8 (.conv .u8 (.bin .shr .i64 (.v 3) (.lit 16)))), (.int .u8 (.conv .u8 (.bin .shr .i64 (.v 3) (.lit 8)))), (.int .u8 (.conv .u8 (.bin .shr .i64 (.v 3) (.lit 0)))), (.int .u8 (.conv .u8 (.bin .shr .i64 (.v 4) (.lit 8)))), (.int .u8 (.conv .u8 (.bin .shr .i64 (.v 4) (.lit 0)))), (.int .u8 (.conv .u8 (.bin .shr .i64 (.v 5) (.lit 8)))), (.int .u8 (.conv .u8 (.bin .shr .i64 (.v 5) (.lit 0)))), (.int .u8 (.conv .u8 (.bin .shr .i64 (.v 6) (.lit 56)))), (.int .u8 (.conv .u8 (.bin .shr .i64 (.v 6) (.lit 48)))), (.int .u8 (.conv .u8 (.bin .shr .i64 (.v 6) (.lit 40)))), (.int .u8 (.conv .u8 (.bin .shr .i64 (.v 6) (.lit 32)))), (.int .u8 (.conv .u8 (.bin .shr .i64 (.v 6) (.lit 24)))), (.int .u8 (.conv .u8 (.bin .shr .i64 (.v 6) (.lit 16)))), (.int .u8 (.conv .u8 (.bin .shr .i64 (.v 6) (.lit 8)))), (.int .u8 (.conv .u8 (.bin .shr .i64 (.v 6) (.lit 0)))), (.int .u8 (.conv .u8 (.bin .shr .i64 (.v 8) (.lit 40)))), (.int .u8 (.conv .u8 (.bin .shr .i64 (.v 8) (.lit 32)))), (.int .u8 (.conv .u8 (.bin .shr .i64 (.v 8) (.lit 24)))), (.int .u8 (.conv .u8 (.bin .shr .i64 (.v 8) (.lit 16)))), (.int .u8 (.conv .u8 (.bin .shr .i64 (.v 8) (.lit 8)))), (.int .u8 (.conv .u8 (.bin .shr .i64 (.v 8) (.lit 0)))), (.int .u8 (.conv .u8 (.bin .shr .i64 (.v 9) (.lit 8)))), (.int .u8 (.conv .u8 (.bin .shr .i64 (.v 9) (.lit 0))))] 5 (some 1)))])))) := by kernel_rfl

end Go.Proofs.Y10
