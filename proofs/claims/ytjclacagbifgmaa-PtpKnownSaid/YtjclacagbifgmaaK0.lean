/- A part of the proof: see the text that states the theorem. -/
import Derived.Test.YtjclacagbifgmaaAA
set_option linter.unusedSimpArgs false
set_option linter.unusedVariables false
set_option linter.unusedSectionVars false
noncomputable section
namespace Go.Proofs.Y10
open Go Go.SX Go.RowKit
theorem t_Known : callTree CKn 8000 8 [] [] 20 = some
  (.call 10 [] [] 20 [.b] (.a (.c (.bool (.v 20)))) []
  (.ite (.not (.v 20))
    (done (.a (.c (.bool (.lit false)))) [])
    (.call 18 [(.a (.agg [(.int .i64 (.lit 11)), (.int .i64 (.lit 127)), (.int .i64 (.lit 4398046511104)), (.int .i64 (.lit 281474976710655)), (.int .i64 (.lit 65535)), (.int .i64 (.lit 65535)), (.int .i64 (.lit 0)), (.int .i64 (.lit 0)), (.int .i64 (.lit 0)), (.int .i64 (.lit 0)), (.int .i64 (.lit 255)), (.int .i64 (.lit 254)), (.int .i64 (.lit 253)), (.int .i64 (.lit 65535)), (.int .i64 (.lit 252)), (.int .i64 (.lit 281474976710655)), (.int .i64 (.lit 65535))]))] [] 22 [.l, .n, .i] (.tup [(.c (.slice 23 1 0 (.lit 0) (.alen 22) (.k 23))), (.c (.int .i64 (.v 24)))]) [(.arr 23 22 [(.int .u8)] (some 5))]
    (.call 18 [(.a (.agg [(.int .i64 (.lit 10)), (.int .i64 (.lit 0)), (.int .i64 (.lit (-4398046511104))), (.int .i64 (.lit 0)), (.int .i64 (.lit 1)), (.int .i64 (.lit 0)), (.int .i64 (.lit (-4398046511104))), (.int .i64 (.lit 0)), (.int .i64 (.lit 0)), (.int .i64 (.lit 1)), (.int .i64 (.lit 0)), (.int .i64 (.lit 0)), (.int .i64 (.lit 0)), (.int .i64 (.lit 0)), (.int .i64 (.lit 0)), (.int .i64 (.lit 0)), (.int .i64 (.lit 0))]))] [] 26 [.l, .n, .i] (.tup [(.c (.slice 27 1 0 (.lit 0) (.alen 26) (.k 27))), (.c (.int .i64 (.v 28)))]) [(.arr 27 26 [(.int .u8)] (some 5))]
    (.ite (.not (.or (.cmp .neq (.v 24) (.lit 0)) (.cmp .neq (.v 28) (.lit 0))))
      (.call 20 [(.a (.c (.slice 23 1 0 (.lit 0) (.alen 22) (.k 23)))), (.a (.c (.oslice 29 0 36 36)))] [(.obj 29 (.cells [(.int .u8 (.lit 11)), (.int .u8 (.lit 127)), (.int .u8 (.lit 0)), (.int .u8 (.lit 36)), (.int .u8 (.lit 0)), (.int .u8 (.lit 0)), (.int .u8 (.lit 4)), (.int .u8 (.lit 0)), (.int .u8 (.lit 0)), (.int .u8 (.lit 0)), (.int .u8 (.lit 0)), (.int .u8 (.lit 0)), (.int .u8 (.lit 255)), (.int .u8 (.lit 255)), (.int .u8 (.lit 255)), (.int .u8 (.lit 255)), (.int .u8 (.lit 255)), (.int .u8 (.lit 255)), (.int .u8 (.lit 255)), (.int .u8 (.lit 255)), (.int .u8 (.lit 255)), (.int .u8 (.lit 255)), (.int .u8 (.lit 255)), (.int .u8 (.lit 254)), (.int .u8 (.lit 253)), (.int .u8 (.lit 255)), (.int .u8 (.lit 255)), (.int .u8 (.lit 252)), (.int .u8 (.lit 255)), (.int .u8 (.lit 255)), (.int .u8 (.lit 255)), (.int .u8 (.lit 255)), (.int .u8 (.lit 255)), (.int .u8 (.lit 255)), (.int .u8 (.lit 255)), (.int .u8 (.lit 255))] 5 none)), (.arr 23 22 [(.int .u8)] (some 5))] 30 [.b] (.a (.c (.bool (.v 30)))) []
      (.ite (.not (.v 30))
        (done (.a (.c (.bool (.lit false)))) [])
        (.call 20 [(.a (.c (.slice 27 1 0 (.lit 0) (.alen 26) (.k 27)))), (.a (.c (.oslice 31 0 38 38)))] [(.obj 31 (.cells [(.int .u8 (.lit 10)), (.int .u8 (.lit 0)), (.int .u8 (.lit 0)), (.int .u8 (.lit 38)), (.int .u8 (.lit 255)), (.int .u8 (.lit 255)), (.int .u8 (.lit 252)), (.int .u8 (.lit 0)), (.int .u8 (.lit 0)), (.int .u8 (.lit 0)), (.int .u8 (.lit 0)), (.int .u8 (.lit 0)), (.int .u8 (.lit 0)), (.int .u8 (.lit 0)), (.int .u8 (.lit 0)), (.int .u8 (.lit 0)), (.int .u8 (.lit 0)), (.int .u8 (.lit 0)), (.int .u8 (.lit 0)), (.int .u8 (.lit 1)), (.int .u8 (.lit 0)), (.int .u8 (.lit 0)), (.int .u8 (.lit 255)), (.int .u8 (.lit 255)), (.int .u8 (.lit 252)), (.int .u8 (.lit 0)), (.int .u8 (.lit 0)), (.int .u8 (.lit 0)), (.int .u8 (.lit 0)), (.int .u8 (.lit 0)), (.int .u8 (.lit 0)), (.int .u8 (.lit 0)), (.int .u8 (.lit 0)), (.int .u8 (.lit 0)), (.int .u8 (.lit 0)), (.int .u8 (.lit 0)), (.int .u8 (.lit 0)), (.int .u8 (.lit 1))] 5 none)), (.arr 27 26 [(.int .u8)] (some 5))] 32 [.b] (.a (.c (.bool (.v 32)))) []
        (.ite (.not (.v 32))
          (done (.a (.c (.bool (.lit false)))) [])
          (.call 22 [(.a (.c (.lit (.slice none 0 0))))] [] 36 [.i, .i, .i, .i, .i, .i, .i, .i, .i, .i, .i, .i, .i, .i, .i, .i, .i, .i] (.tup [(.agg [(.int .i64 (.v 36)), (.int .i64 (.v 37)), (.int .i64 (.v 38)), (.int .i64 (.v 39)), (.int .i64 (.v 40)), (.int .i64 (.v 41)), (.int .i64 (.v 42)), (.int .i64 (.v 43)), (.int .i64 (.v 44)), (.int .i64 (.v 45)), (.int .i64 (.v 46)), (.int .i64 (.v 47)), (.int .i64 (.v 48)), (.int .i64 (.v 49)), (.int .i64 (.v 50)), (.int .i64 (.v 51)), (.int .i64 (.v 52))]), (.c (.int .i64 (.v 53)))]) []
          (.call 18 [(.a (.agg [(.int .i64 (.lit 0)), (.int .i64 (.lit 0)), (.int .i64 (.lit 0)), (.int .i64 (.lit 0)), (.int .i64 (.lit 0)), (.int .i64 (.lit 0)), (.int .i64 (.lit 0)), (.int .i64 (.lit 0)), (.int .i64 (.lit 0)), (.int .i64 (.lit 0)), (.int .i64 (.lit 0)), (.int .i64 (.lit 0)), (.int .i64 (.lit 0)), (.int .i64 (.lit 0)), (.int .i64 (.lit 0)), (.int .i64 (.lit 0)), (.int .i64 (.lit 0))]))] [] 55 [.l, .n, .i] (.tup [(.c (.slice 56 1 0 (.lit 0) (.alen 55) (.k 56))), (.c (.int .i64 (.v 57)))]) [(.arr 56 55 [(.int .u8)] (some 5))]
          (.call 24 [(.a (.agg [(.int .i64 (.lit 11)), (.int .i64 (.lit 127)), (.int .i64 (.lit 4398046511104)), (.int .i64 (.lit 281474976710655)), (.int .i64 (.lit 65535)), (.int .i64 (.lit 65535)), (.int .i64 (.lit 0)), (.int .i64 (.lit 0)), (.int .i64 (.lit 0)), (.int .i64 (.lit 1)), (.int .i64 (.lit 255)), (.int .i64 (.lit 254)), (.int .i64 (.lit 253)), (.int .i64 (.lit 65535)), (.int .i64 (.lit 252)), (.int .i64 (.lit 281474976710655)), (.int .i64 (.lit 65535))]))] [] 58 [.i] (.a (.c (.int .i64 (.v 58)))) []
          (.ite (.cmp .eql (.v 58) (.lit 200))
            (.call 24 [(.a (.agg [(.int .i64 (.lit 11)), (.int .i64 (.lit 127)), (.int .i64 (.lit 4398046511104)), (.int .i64 (.lit 281474976710655)), (.int .i64 (.lit 65535)), (.int .i64 (.lit 65535)), (.int .i64 (.lit 0)), (.int .i64 (.lit 0)), (.int .i64 (.lit 0)), (.int .i64 (.lit 0)), (.int .i64 (.lit 255)), (.int .i64 (.lit 254)), (.int .i64 (.lit 253)), (.int .i64 (.lit 65535)), (.int .i64 (.lit 252)), (.int .i64 (.lit 281474976710656)), (.int .i64 (.lit 65535))]))] [] 59 [.i] (.a (.c (.int .i64 (.v 59)))) []
            (.ite (.cmp .eql (.v 59) (.lit 200))
              (.call 24 [(.a (.agg [(.int .i64 (.lit 10)), (.int .i64 (.lit 0)), (.int .i64 (.lit (-4398046511104))), (.int .i64 (.lit 0)), (.int .i64 (.lit 1)), (.int .i64 (.lit 0)), (.int .i64 (.lit (-4398046511104))), (.int .i64 (.lit 0)), (.int .i64 (.lit 0)), (.int .i64 (.lit 0)), (.int .i64 (.lit 0)), (.int .i64 (.lit 0)), (.int .i64 (.lit 0)), (.int .i64 (.lit 0)), (.int .i64 (.lit 0)), (.int .i64 (.lit 0)), (.int .i64 (.lit 0))]))] [] 60 [.i] (.a (.c (.int .i64 (.v 60)))) []
              (.ite (.and (.and (.cmp .eql (.v 60) (.lit 200)) (.cmp .eql (.v 53) (.lit 5))) (.cmp .eql (.v 57) (.lit 200)))
                (.call 12 [(.a (.agg [(.int .i64 (.lit 0)), (.int .i64 (.lit 0)), (.int .i64 (.lit 0)), (.int .i64 (.lit 0)), (.int .i64 (.lit 0)), (.int .i64 (.lit 0))]))] [] 61 [.i] (.a (.c (.int .i64 (.v 61)))) []
                (.ite (.cmp .eql (.v 61) (.lit 0))
                  (.call 12 [(.a (.agg [(.int .i64 (.lit 0)), (.int .i64 (.lit 0)), (.int .i64 (.lit 0)), (.int .i64 (.lit 0)), (.int .i64 (.lit 0)), (.int .i64 (.lit (-1)))]))] [] 62 [.i] (.a (.c (.int .i64 (.v 62)))) []
                  (done (.a (.c (.bool (.cmp .eql (.v 62) (.lit 201))))) []))
                  (done (.a (.c (.bool (.lit false)))) [])))
                (done (.a (.c (.bool (.lit false)))) [])))
              (done (.a (.c (.bool (.lit false)))) [])))
            (done (.a (.c (.bool (.lit false)))) [])))))))))
      (done (.a (.c (.bool (.lit false)))) [])))))) := by kernel_rfl

end Go.Proofs.Y10
