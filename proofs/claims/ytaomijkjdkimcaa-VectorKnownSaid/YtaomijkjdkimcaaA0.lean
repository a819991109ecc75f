/- A part of the proof: see the text that states the theorem. -/
import Derived.Test.YtaomijkjdkimcaaSyU
import Derived.Test.YtaomijkjdkimcaaProg
set_option linter.unusedSimpArgs false
set_option linter.unusedVariables false
set_option linter.unusedSectionVars false
namespace Go.Proofs.Y18
open Go Go.SX Go.RowKit
def rk (n : Nat) : SV := .agg ((List.range 6).map fun i => .int .i64 (.v (n+i)))
def hl (n : Nat) : SV := .agg ((List.range 7).map fun i => .int .i64 (.v (n+i)))
def bd (n : Nat) : SV := .agg ((List.range 2).map fun i => .int .i64 (.v (n+i)))
def aR : AS := .agg (List.replicate 6 (.int .i64))
def pu : List CK := [.int .u8]
noncomputable def C : Cfg := { P := Try.prog, ct := ctOf [(11, rB), (12, rB), (13, rB), (14, rI), (15, rI), (16, rB), (17, rI), (19, rB), (30, rB), (31, rB), (32, rB), (34, rI), (29, .one aR), (18, .tup [aR, .c (.int .i64)])], ann := annOf [] }
@[simp] theorem C_P : C.P = Try.prog := rfl
theorem t_cmp : callTree C 300 34 [i64 0, i64 1] [] 20 = some
  (.ite (.cmp .neq (.v 0) (.v 0))
    (.ite (.cmp .neq (.v 1) (.v 1))
      (done (.a (.c (.int .i64 (.lit 0)))) [])
      (done (.a (.c (.int .i64 (.lit (-1))))) []))
    (.ite (.cmp .neq (.v 1) (.v 1))
      (done (.a (.c (.int .i64 (.lit 1)))) [])
      (.ite (.cmp .lss (.v 0) (.v 1))
        (done (.a (.c (.int .i64 (.lit (-1))))) [])
        (.ite (.cmp .gtr (.v 0) (.v 1))
          (done (.a (.c (.int .i64 (.lit 1)))) [])
          (done (.a (.c (.int .i64 (.lit 0)))) []))))) := by kernel_rfl
theorem t_within : callTree C 300 31 [i64 0, i64 1] [] 20 = some
  (done (.a (.c (.bool (.and (.cmp .geq (.v 0) (.lit 0)) (.cmp .leq (.v 0) (.v 1)))))) []) := by kernel_rfl
theorem t_validPort : callTree C 300 32 [i64 0] [] 20 = some
  (.call 31 [(.a (.c (.int .i64 (.v 0)))), (.a (.c (.int .i64 (.lit 47))))] [] 20 [.b] (.a (.c (.bool (.v 20)))) []
  (done (.a (.c (.bool (.v 20)))) [])) := by kernel_rfl
theorem t_validBid : callTree C 300 30 [bd 0] [] 20 = some
  (.call 31 [(.a (.c (.int .i64 (.v 0)))), (.a (.c (.int .i64 (.lit 15))))] [] 21 [.b] (.a (.c (.bool (.v 21)))) []
  (.ite (.v 21)
    (.call 31 [(.a (.c (.int .i64 (.v 1)))), (.a (.c (.int .i64 (.lit 11))))] [] 22 [.b] (.a (.c (.bool (.v 22)))) []
    (done (.a (.c (.bool (.v 22)))) []))
    (done (.a (.c (.bool (.lit false)))) []))) := by kernel_rfl
theorem t_Right : callTree C 300 12 [rk 0] [] 20 = some
  (.call 19 [(.a (.agg [(.int .i64 (.v 0)), (.int .i64 (.v 1))]))] [] 21 [.b] (.a (.c (.bool (.v 21)))) []
  (.ite (.v 21)
    (.call 19 [(.a (.agg [(.int .i64 (.v 3)), (.int .i64 (.v 4))]))] [] 22 [.b] (.a (.c (.bool (.v 22)))) []
    (done (.a (.c (.bool (.and (.and (.and (.and (.v 22) (.cmp .geq (.v 2) (.lit 0))) (.cmp .leq (.v 2) (.lit 1048576))) (.cmp .geq (.v 5) (.lit 0))) (.cmp .leq (.v 5) (.lit 47)))))) []))
    (done (.a (.c (.bool (.lit false)))) []))) := by kernel_rfl
theorem t_Hello : callTree C 300 13 [hl 0] [] 20 = some
  (.call 12 [(.a (.agg [(.int .i64 (.v 0)), (.int .i64 (.v 1)), (.int .i64 (.v 2)), (.int .i64 (.v 3)), (.int .i64 (.v 4)), (.int .i64 (.v 5))]))] [] 21 [.b] (.a (.c (.bool (.v 21)))) []
  (done (.a (.c (.bool (.and (.and (.v 21) (.cmp .geq (.v 6) (.lit 0))) (.cmp .leq (.v 6) (.lit 20)))))) [])) := by kernel_rfl
theorem t_Check : callTree C 300 14 [rk 0] [] 20 = some
  (.call 30 [(.a (.agg [(.int .i64 (.v 0)), (.int .i64 (.v 1))]))] [] 21 [.b] (.a (.c (.bool (.v 21)))) []
  (.ite (.v 21)
    (.call 30 [(.a (.agg [(.int .i64 (.v 3)), (.int .i64 (.v 4))]))] [] 22 [.b] (.a (.c (.bool (.v 22)))) []
    (.ite (.v 22)
      (.call 31 [(.a (.c (.int .i64 (.v 2)))), (.a (.c (.int .i64 (.lit 1048576))))] [] 23 [.b] (.a (.c (.bool (.v 23)))) []
      (.ite (.v 23)
        (.call 32 [(.a (.c (.int .i64 (.v 5))))] [] 24 [.b] (.a (.c (.bool (.v 24)))) []
        (.ite (.not (.v 24))
          (done (.a (.c (.int .i64 (.lit 280)))) [])
          (done (.a (.c (.int .i64 (.lit 0)))) [])))
        (done (.a (.c (.int .i64 (.lit 280)))) [])))
      (done (.a (.c (.int .i64 (.lit 280)))) [])))
    (done (.a (.c (.int .i64 (.lit 280)))) []))) := by kernel_rfl
theorem t_CheckHello : callTree C 300 15 [hl 0] [] 20 = some
  (.call 31 [(.a (.c (.int .i64 (.v 6)))), (.a (.c (.int .i64 (.lit 20))))] [] 21 [.b] (.a (.c (.bool (.v 21)))) []
  (.ite (.not (.v 21))
    (done (.a (.c (.int .i64 (.lit 280)))) [])
    (.call 14 [(.a (.agg [(.int .i64 (.v 0)), (.int .i64 (.v 1)), (.int .i64 (.v 2)), (.int .i64 (.v 3)), (.int .i64 (.v 4)), (.int .i64 (.v 5))]))] [] 22 [.i] (.a (.c (.int .i64 (.v 22)))) []
    (done (.a (.c (.int .i64 (.v 22)))) [])))) := by kernel_rfl
theorem t_Better : callTree C 300 16 [rk 0, rk 6] [] 20 = some
  (.ite (.cmp .neq (.v 0) (.v 6))
    (done (.a (.c (.bool (.cmp .lss (.v 0) (.v 6))))) [])
    (.ite (.cmp .neq (.v 1) (.v 7))
      (done (.a (.c (.bool (.cmp .lss (.v 1) (.v 7))))) [])
      (.ite (.cmp .neq (.v 2) (.v 8))
        (done (.a (.c (.bool (.cmp .lss (.v 2) (.v 8))))) [])
        (.ite (.cmp .neq (.v 3) (.v 9))
          (done (.a (.c (.bool (.cmp .lss (.v 3) (.v 9))))) [])
          (.ite (.cmp .neq (.v 4) (.v 10))
            (done (.a (.c (.bool (.cmp .lss (.v 4) (.v 10))))) [])
            (done (.a (.c (.bool (.cmp .lss (.v 5) (.v 11))))) [])))))) := by kernel_rfl
theorem t_Compare : callTree C 300 17 [rk 0, rk 6] [] 20 = some
  (.ite (.and (.and (.cmp .eql (.v 0) (.v 6)) (.cmp .eql (.v 1) (.v 7))) (.and (.cmp .eql (.v 2) (.v 8)) (.and (.and (.cmp .eql (.v 3) (.v 9)) (.cmp .eql (.v 4) (.v 10))) (.cmp .eql (.v 5) (.v 11)))))
    (done (.a (.c (.int .i64 (.lit 0)))) [])
    (.call 34 [(.a (.c (.int .i64 (.v 0)))), (.a (.c (.int .i64 (.v 6))))] [] 28 [.i] (.a (.c (.int .i64 (.v 28)))) []
    (.ite (.cmp .neq (.v 28) (.lit 0))
      (done (.a (.c (.int .i64 (.v 28)))) [])
      (.call 34 [(.a (.c (.int .i64 (.v 1)))), (.a (.c (.int .i64 (.v 7))))] [] 29 [.i] (.a (.c (.int .i64 (.v 29)))) []
      (.ite (.cmp .neq (.v 29) (.lit 0))
        (done (.a (.c (.int .i64 (.v 29)))) [])
        (.call 34 [(.a (.c (.int .i64 (.v 2)))), (.a (.c (.int .i64 (.v 8))))] [] 30 [.i] (.a (.c (.int .i64 (.v 30)))) []
        (.ite (.cmp .neq (.v 30) (.lit 0))
          (done (.a (.c (.int .i64 (.v 30)))) [])
          (.call 34 [(.a (.c (.int .i64 (.v 3)))), (.a (.c (.int .i64 (.v 9))))] [] 31 [.i] (.a (.c (.int .i64 (.v 31)))) []
          (.ite (.cmp .neq (.v 31) (.lit 0))
            (done (.a (.c (.int .i64 (.v 31)))) [])
            (.call 34 [(.a (.c (.int .i64 (.v 4)))), (.a (.c (.int .i64 (.v 10))))] [] 32 [.i] (.a (.c (.int .i64 (.v 32)))) []
            (.ite (.cmp .neq (.v 32) (.lit 0))
              (done (.a (.c (.int .i64 (.v 32)))) [])
              (.call 34 [(.a (.c (.int .i64 (.v 5)))), (.a (.c (.int .i64 (.v 11))))] [] 33 [.i] (.a (.c (.int .i64 (.v 33)))) []
              (.ite (.cmp .neq (.v 33) (.lit 0))
                (done (.a (.c (.int .i64 (.v 33)))) [])
                (done (.a (.c (.int .i64 (.lit 0)))) [])))))))))))))) := by kernel_rfl
theorem t_Extend : callTree C 300 18 [rk 0, i64 6, bd 7, i64 9] [] 20 = some
  (.call 14 [(.a (.agg [(.int .i64 (.v 0)), (.int .i64 (.v 1)), (.int .i64 (.v 2)), (.int .i64 (.v 3)), (.int .i64 (.v 4)), (.int .i64 (.v 5))]))] [] 23 [.i] (.a (.c (.int .i64 (.v 23)))) []
  (.ite (.cmp .neq (.v 23) (.lit 0))
    (done (.tup [(.agg [(.int .i64 (.lit 0)), (.int .i64 (.lit 0)), (.int .i64 (.lit 0)), (.int .i64 (.lit 0)), (.int .i64 (.lit 0)), (.int .i64 (.lit 0))]), (.c (.int .i64 (.lit 280)))]) [])
    (.ite (.not (.or (.cmp .lss (.v 6) (.lit 1)) (.cmp .gtr (.v 6) (.lit 1000))))
      (.call 30 [(.a (.agg [(.int .i64 (.v 7)), (.int .i64 (.v 8))]))] [] 24 [.b] (.a (.c (.bool (.v 24)))) []
      (.ite (.v 24)
        (.call 32 [(.a (.c (.int .i64 (.v 9))))] [] 25 [.b] (.a (.c (.bool (.v 25)))) []
        (.ite (.not (.v 25))
          (done (.tup [(.agg [(.int .i64 (.lit 0)), (.int .i64 (.lit 0)), (.int .i64 (.lit 0)), (.int .i64 (.lit 0)), (.int .i64 (.lit 0)), (.int .i64 (.lit 0))]), (.c (.int .i64 (.lit 2)))]) [])
          (.ite (.cmp .gtr (.v 2) (.bin .sub .i64 (.lit 1048576) (.v 6)))
            (done (.tup [(.agg [(.int .i64 (.lit 0)), (.int .i64 (.lit 0)), (.int .i64 (.lit 0)), (.int .i64 (.lit 0)), (.int .i64 (.lit 0)), (.int .i64 (.lit 0))]), (.c (.int .i64 (.lit 6)))]) [])
            (done (.tup [(.agg [(.int .i64 (.v 0)), (.int .i64 (.v 1)), (.int .i64 (.bin .add .i64 (.v 2) (.v 6))), (.int .i64 (.v 7)), (.int .i64 (.v 8)), (.int .i64 (.v 9))]), (.c (.int .i64 (.lit 0)))]) []))))
        (done (.tup [(.agg [(.int .i64 (.lit 0)), (.int .i64 (.lit 0)), (.int .i64 (.lit 0)), (.int .i64 (.lit 0)), (.int .i64 (.lit 0)), (.int .i64 (.lit 0))]), (.c (.int .i64 (.lit 2)))]) [])))
      (done (.tup [(.agg [(.int .i64 (.lit 0)), (.int .i64 (.lit 0)), (.int .i64 (.lit 0)), (.int .i64 (.lit 0)), (.int .i64 (.lit 0)), (.int .i64 (.lit 0))]), (.c (.int .i64 (.lit 2)))]) [])))) := by kernel_rfl
theorem t_Bid : callTree C 300 19 [bd 0] [] 20 = some
  (done (.a (.c (.bool (.and (.and (.and (.cmp .geq (.v 0) (.lit 0)) (.cmp .leq (.v 0) (.lit 15))) (.cmp .geq (.v 1) (.lit 0))) (.cmp .leq (.v 1) (.lit 11)))))) []) := by kernel_rfl
theorem t_some : callTree C 300 29 [] [] 20 = some
  (done (.a (.agg [(.int .i64 (.lit 1)), (.int .i64 (.lit 2)), (.int .i64 (.lit 10)), (.int .i64 (.lit 3)), (.int .i64 (.lit 4)), (.int .i64 (.lit 5))])) []) := by kernel_rfl
theorem t_VectorChecks : callTree C 300 3 [rk 0, rk 6, i64 12] [] 20 = some
  (.call 11 [] [] 22 [.b] (.a (.c (.bool (.v 22)))) []
  (.ite (.not (.v 22))
    (done (.a (.c (.bool (.lit false)))) [])
    (.call 12 [(.a (.agg [(.int .i64 (.v 0)), (.int .i64 (.v 1)), (.int .i64 (.v 2)), (.int .i64 (.v 3)), (.int .i64 (.v 4)), (.int .i64 (.v 5))]))] [] 24 [.b] (.a (.c (.bool (.v 24)))) []
    (.call 13 [(.a (.agg [(.int .i64 (.v 0)), (.int .i64 (.v 1)), (.int .i64 (.v 2)), (.int .i64 (.v 3)), (.int .i64 (.v 4)), (.int .i64 (.v 5)), (.int .i64 (.v 12))]))] [] 25 [.b] (.a (.c (.bool (.v 25)))) []
    (.call 14 [(.a (.agg [(.int .i64 (.v 0)), (.int .i64 (.v 1)), (.int .i64 (.v 2)), (.int .i64 (.v 3)), (.int .i64 (.v 4)), (.int .i64 (.v 5))]))] [] 26 [.i] (.a (.c (.int .i64 (.v 26)))) []
    (.ite (.or (.not (.eq (.v 24) (.cmp .eql (.v 26) (.lit 0)))) (.and (.not (.v 24)) (.cmp .neq (.v 26) (.lit 280))))
      (done (.a (.c (.bool (.lit false)))) [])
      (.call 15 [(.a (.agg [(.int .i64 (.v 0)), (.int .i64 (.v 1)), (.int .i64 (.v 2)), (.int .i64 (.v 3)), (.int .i64 (.v 4)), (.int .i64 (.v 5)), (.int .i64 (.v 12))]))] [] 27 [.i] (.a (.c (.int .i64 (.v 27)))) []
      (.ite (.or (.not (.eq (.v 25) (.cmp .eql (.v 27) (.lit 0)))) (.and (.not (.v 25)) (.cmp .neq (.v 27) (.lit 280))))
        (done (.a (.c (.bool (.lit false)))) [])
        (.call 16 [(.a (.agg [(.int .i64 (.v 0)), (.int .i64 (.v 1)), (.int .i64 (.v 2)), (.int .i64 (.v 3)), (.int .i64 (.v 4)), (.int .i64 (.v 5))])), (.a (.agg [(.int .i64 (.v 6)), (.int .i64 (.v 7)), (.int .i64 (.v 8)), (.int .i64 (.v 9)), (.int .i64 (.v 10)), (.int .i64 (.v 11))]))] [] 28 [.b] (.a (.c (.bool (.v 28)))) []
        (.ite (.v 28)
          (.call 17 [(.a (.agg [(.int .i64 (.v 0)), (.int .i64 (.v 1)), (.int .i64 (.v 2)), (.int .i64 (.v 3)), (.int .i64 (.v 4)), (.int .i64 (.v 5))])), (.a (.agg [(.int .i64 (.v 6)), (.int .i64 (.v 7)), (.int .i64 (.v 8)), (.int .i64 (.v 9)), (.int .i64 (.v 10)), (.int .i64 (.v 11))]))] [] 29 [.i] (.a (.c (.int .i64 (.v 29)))) []
          (.ite (.cmp .eql (.v 29) (.lit (-1)))
            (.call 17 [(.a (.agg [(.int .i64 (.v 6)), (.int .i64 (.v 7)), (.int .i64 (.v 8)), (.int .i64 (.v 9)), (.int .i64 (.v 10)), (.int .i64 (.v 11))])), (.a (.agg [(.int .i64 (.v 0)), (.int .i64 (.v 1)), (.int .i64 (.v 2)), (.int .i64 (.v 3)), (.int .i64 (.v 4)), (.int .i64 (.v 5))]))] [] 30 [.i] (.a (.c (.int .i64 (.v 30)))) []
            (.ite (.cmp .eql (.v 30) (.lit 1))
              (.call 17 [(.a (.agg [(.int .i64 (.v 0)), (.int .i64 (.v 1)), (.int .i64 (.v 2)), (.int .i64 (.v 3)), (.int .i64 (.v 4)), (.int .i64 (.v 5))])), (.a (.agg [(.int .i64 (.v 0)), (.int .i64 (.v 1)), (.int .i64 (.v 2)), (.int .i64 (.v 3)), (.int .i64 (.v 4)), (.int .i64 (.v 5))]))] [] 31 [.i] (.a (.c (.int .i64 (.v 31)))) []
              (done (.a (.c (.bool (.cmp .eql (.v 31) (.lit 0))))) []))
              (done (.a (.c (.bool (.lit false)))) [])))
            (done (.a (.c (.bool (.lit false)))) [])))
          (.call 16 [(.a (.agg [(.int .i64 (.v 6)), (.int .i64 (.v 7)), (.int .i64 (.v 8)), (.int .i64 (.v 9)), (.int .i64 (.v 10)), (.int .i64 (.v 11))])), (.a (.agg [(.int .i64 (.v 0)), (.int .i64 (.v 1)), (.int .i64 (.v 2)), (.int .i64 (.v 3)), (.int .i64 (.v 4)), (.int .i64 (.v 5))]))] [] 29 [.b] (.a (.c (.bool (.v 29)))) []
          (.ite (.v 29)
            (.call 17 [(.a (.agg [(.int .i64 (.v 0)), (.int .i64 (.v 1)), (.int .i64 (.v 2)), (.int .i64 (.v 3)), (.int .i64 (.v 4)), (.int .i64 (.v 5))])), (.a (.agg [(.int .i64 (.v 6)), (.int .i64 (.v 7)), (.int .i64 (.v 8)), (.int .i64 (.v 9)), (.int .i64 (.v 10)), (.int .i64 (.v 11))]))] [] 30 [.i] (.a (.c (.int .i64 (.v 30)))) []
            (.ite (.cmp .eql (.v 30) (.lit 1))
              (.call 17 [(.a (.agg [(.int .i64 (.v 6)), (.int .i64 (.v 7)), (.int .i64 (.v 8)), (.int .i64 (.v 9)), (.int .i64 (.v 10)), (.int .i64 (.v 11))])), (.a (.agg [(.int .i64 (.v 0)), (.int .i64 (.v 1)), (.int .i64 (.v 2)), (.int .i64 (.v 3)), (.int .i64 (.v 4)), (.int .i64 (.v 5))]))] [] 31 [.i] (.a (.c (.int .i64 (.v 31)))) []
              (.ite (.cmp .eql (.v 31) (.lit (-1)))
                (.call 17 [(.a (.agg [(.int .i64 (.v 0)), (.int .i64 (.v 1)), (.int .i64 (.v 2)), (.int .i64 (.v 3)), (.int .i64 (.v 4)), (.int .i64 (.v 5))])), (.a (.agg [(.int .i64 (.v 0)), (.int .i64 (.v 1)), (.int .i64 (.v 2)), (.int .i64 (.v 3)), (.int .i64 (.v 4)), (.int .i64 (.v 5))]))] [] 32 [.i] (.a (.c (.int .i64 (.v 32)))) []
                (done (.a (.c (.bool (.cmp .eql (.v 32) (.lit 0))))) []))
                (done (.a (.c (.bool (.lit false)))) [])))
              (done (.a (.c (.bool (.lit false)))) [])))
            (.call 17 [(.a (.agg [(.int .i64 (.v 0)), (.int .i64 (.v 1)), (.int .i64 (.v 2)), (.int .i64 (.v 3)), (.int .i64 (.v 4)), (.int .i64 (.v 5))])), (.a (.agg [(.int .i64 (.v 6)), (.int .i64 (.v 7)), (.int .i64 (.v 8)), (.int .i64 (.v 9)), (.int .i64 (.v 10)), (.int .i64 (.v 11))]))] [] 30 [.i] (.a (.c (.int .i64 (.v 30)))) []
            (.ite (.cmp .eql (.v 30) (.lit 0))
              (.call 17 [(.a (.agg [(.int .i64 (.v 6)), (.int .i64 (.v 7)), (.int .i64 (.v 8)), (.int .i64 (.v 9)), (.int .i64 (.v 10)), (.int .i64 (.v 11))])), (.a (.agg [(.int .i64 (.v 0)), (.int .i64 (.v 1)), (.int .i64 (.v 2)), (.int .i64 (.v 3)), (.int .i64 (.v 4)), (.int .i64 (.v 5))]))] [] 31 [.i] (.a (.c (.int .i64 (.v 31)))) []
              (.ite (.cmp .eql (.v 31) (.lit 0))
                (.call 17 [(.a (.agg [(.int .i64 (.v 0)), (.int .i64 (.v 1)), (.int .i64 (.v 2)), (.int .i64 (.v 3)), (.int .i64 (.v 4)), (.int .i64 (.v 5))])), (.a (.agg [(.int .i64 (.v 0)), (.int .i64 (.v 1)), (.int .i64 (.v 2)), (.int .i64 (.v 3)), (.int .i64 (.v 4)), (.int .i64 (.v 5))]))] [] 32 [.i] (.a (.c (.int .i64 (.v 32)))) []
                (done (.a (.c (.bool (.cmp .eql (.v 32) (.lit 0))))) []))
                (done (.a (.c (.bool (.lit false)))) [])))
              (done (.a (.c (.bool (.lit false)))) []))))))))))))))) := by kernel_rfl
theorem t_VectorExtends : callTree C 300 4 [rk 0, i64 6, bd 7, i64 9] [] 20 = some
  (.call 11 [] [] 22 [.b] (.a (.c (.bool (.v 22)))) []
  (.ite (.not (.v 22))
    (done (.a (.c (.bool (.lit false)))) [])
    (.call 18 [(.a (.agg [(.int .i64 (.v 0)), (.int .i64 (.v 1)), (.int .i64 (.v 2)), (.int .i64 (.v 3)), (.int .i64 (.v 4)), (.int .i64 (.v 5))])), (.a (.c (.int .i64 (.v 6)))), (.a (.agg [(.int .i64 (.v 7)), (.int .i64 (.v 8))])), (.a (.c (.int .i64 (.v 9))))] [] 23 [.i, .i, .i, .i, .i, .i, .i] (.tup [(.agg [(.int .i64 (.v 23)), (.int .i64 (.v 24)), (.int .i64 (.v 25)), (.int .i64 (.v 26)), (.int .i64 (.v 27)), (.int .i64 (.v 28))]), (.c (.int .i64 (.v 29)))]) []
    (.call 12 [(.a (.agg [(.int .i64 (.v 0)), (.int .i64 (.v 1)), (.int .i64 (.v 2)), (.int .i64 (.v 3)), (.int .i64 (.v 4)), (.int .i64 (.v 5))]))] [] 31 [.b] (.a (.c (.bool (.v 31)))) []
    (.ite (.not (.v 31))
      (done (.a (.c (.bool (.and (.and (.and (.cmp .eql (.v 23) (.lit 0)) (.cmp .eql (.v 24) (.lit 0))) (.and (.cmp .eql (.v 25) (.lit 0)) (.and (.and (.cmp .eql (.v 26) (.lit 0)) (.cmp .eql (.v 27) (.lit 0))) (.cmp .eql (.v 28) (.lit 0))))) (.cmp .eql (.v 29) (.lit 280)))))) [])
      (.ite (.not (.or (.cmp .lss (.v 6) (.lit 1)) (.cmp .gtr (.v 6) (.lit 1000))))
        (.call 19 [(.a (.agg [(.int .i64 (.v 7)), (.int .i64 (.v 8))]))] [] 32 [.b] (.a (.c (.bool (.v 32)))) []
        (.ite (.or (.or (.not (.v 32)) (.cmp .lss (.v 9) (.lit 0))) (.cmp .gtr (.v 9) (.lit 47)))
          (done (.a (.c (.bool (.and (.and (.and (.cmp .eql (.v 23) (.lit 0)) (.cmp .eql (.v 24) (.lit 0))) (.and (.cmp .eql (.v 25) (.lit 0)) (.and (.and (.cmp .eql (.v 26) (.lit 0)) (.cmp .eql (.v 27) (.lit 0))) (.cmp .eql (.v 28) (.lit 0))))) (.cmp .eql (.v 29) (.lit 2)))))) [])
          (.ite (.cmp .gtr (.bin .add .i64 (.v 2) (.v 6)) (.lit 1048576))
            (done (.a (.c (.bool (.and (.and (.and (.cmp .eql (.v 23) (.lit 0)) (.cmp .eql (.v 24) (.lit 0))) (.and (.cmp .eql (.v 25) (.lit 0)) (.and (.and (.cmp .eql (.v 26) (.lit 0)) (.cmp .eql (.v 27) (.lit 0))) (.cmp .eql (.v 28) (.lit 0))))) (.cmp .eql (.v 29) (.lit 6)))))) [])
            (done (.a (.c (.bool (.and (.cmp .eql (.v 29) (.lit 0)) (.and (.and (.cmp .eql (.v 23) (.v 0)) (.cmp .eql (.v 24) (.v 1))) (.and (.cmp .eql (.v 25) (.bin .add .i64 (.v 2) (.v 6))) (.and (.and (.cmp .eql (.v 26) (.v 7)) (.cmp .eql (.v 27) (.v 8))) (.cmp .eql (.v 28) (.v 9))))))))) []))))
        (done (.a (.c (.bool (.and (.and (.and (.cmp .eql (.v 23) (.lit 0)) (.cmp .eql (.v 24) (.lit 0))) (.and (.cmp .eql (.v 25) (.lit 0)) (.and (.and (.cmp .eql (.v 26) (.lit 0)) (.cmp .eql (.v 27) (.lit 0))) (.cmp .eql (.v 28) (.lit 0))))) (.cmp .eql (.v 29) (.lit 2)))))) []))))))) := by kernel_rfl
theorem t_VectorOrders : callTree C 300 6 [rk 0, rk 6, rk 12] [] 20 = some
  (.call 11 [] [] 23 [.b] (.a (.c (.bool (.v 23)))) []
  (.ite (.not (.v 23))
    (done (.a (.c (.bool (.lit false)))) [])
    (.call 17 [(.a (.agg [(.int .i64 (.v 0)), (.int .i64 (.v 1)), (.int .i64 (.v 2)), (.int .i64 (.v 3)), (.int .i64 (.v 4)), (.int .i64 (.v 5))])), (.a (.agg [(.int .i64 (.v 6)), (.int .i64 (.v 7)), (.int .i64 (.v 8)), (.int .i64 (.v 9)), (.int .i64 (.v 10)), (.int .i64 (.v 11))]))] [] 24 [.i] (.a (.c (.int .i64 (.v 24)))) []
    (.call 17 [(.a (.agg [(.int .i64 (.v 6)), (.int .i64 (.v 7)), (.int .i64 (.v 8)), (.int .i64 (.v 9)), (.int .i64 (.v 10)), (.int .i64 (.v 11))])), (.a (.agg [(.int .i64 (.v 12)), (.int .i64 (.v 13)), (.int .i64 (.v 14)), (.int .i64 (.v 15)), (.int .i64 (.v 16)), (.int .i64 (.v 17))]))] [] 25 [.i] (.a (.c (.int .i64 (.v 25)))) []
    (.call 17 [(.a (.agg [(.int .i64 (.v 0)), (.int .i64 (.v 1)), (.int .i64 (.v 2)), (.int .i64 (.v 3)), (.int .i64 (.v 4)), (.int .i64 (.v 5))])), (.a (.agg [(.int .i64 (.v 12)), (.int .i64 (.v 13)), (.int .i64 (.v 14)), (.int .i64 (.v 15)), (.int .i64 (.v 16)), (.int .i64 (.v 17))]))] [] 26 [.i] (.a (.c (.int .i64 (.v 26)))) []
    (.call 17 [(.a (.agg [(.int .i64 (.v 6)), (.int .i64 (.v 7)), (.int .i64 (.v 8)), (.int .i64 (.v 9)), (.int .i64 (.v 10)), (.int .i64 (.v 11))])), (.a (.agg [(.int .i64 (.v 0)), (.int .i64 (.v 1)), (.int .i64 (.v 2)), (.int .i64 (.v 3)), (.int .i64 (.v 4)), (.int .i64 (.v 5))]))] [] 27 [.i] (.a (.c (.int .i64 (.v 27)))) []
    (.ite (.or (.cmp .neq (.v 27) (.bin .sub .i64 (.lit 0) (.v 24))) (.not (.eq (.cmp .eql (.v 24) (.lit 0)) (.and (.and (.cmp .eql (.v 0) (.v 6)) (.cmp .eql (.v 1) (.v 7))) (.and (.cmp .eql (.v 2) (.v 8)) (.and (.and (.cmp .eql (.v 3) (.v 9)) (.cmp .eql (.v 4) (.v 10))) (.cmp .eql (.v 5) (.v 11))))))))
      (done (.a (.c (.bool (.lit false)))) [])
      (done (.a (.c (.bool (.or (.or (.cmp .gtr (.v 24) (.lit 0)) (.cmp .gtr (.v 25) (.lit 0))) (.and (.cmp .leq (.v 26) (.lit 0)) (.or (.cmp .lss (.v 26) (.lit 0)) (.and (.cmp .eql (.v 24) (.lit 0)) (.cmp .eql (.v 25) (.lit 0))))))))) [])))))))) := by kernel_rfl
theorem t_VectorGrows : callTree C 300 7 [rk 0, rk 6, i64 12, bd 13, i64 15] [] 20 = some
  (.call 11 [] [] 23 [.b] (.a (.c (.bool (.v 23)))) []
  (.ite (.not (.v 23))
    (done (.a (.c (.bool (.lit false)))) [])
    (.call 18 [(.a (.agg [(.int .i64 (.conv .i64 (.bin .rem .u64 (.conv .u64 (.v 0)) (.lit 16)))), (.int .i64 (.conv .i64 (.bin .rem .u64 (.conv .u64 (.v 1)) (.lit 12)))), (.int .i64 (.conv .i64 (.bin .rem .u64 (.conv .u64 (.v 2)) (.lit 1000001)))), (.int .i64 (.conv .i64 (.bin .rem .u64 (.conv .u64 (.v 3)) (.lit 16)))), (.int .i64 (.conv .i64 (.bin .rem .u64 (.conv .u64 (.v 4)) (.lit 12)))), (.int .i64 (.conv .i64 (.bin .rem .u64 (.conv .u64 (.v 5)) (.lit 48))))])), (.a (.c (.int .i64 (.bin .add .i64 (.lit 1) (.conv .i64 (.bin .rem .u64 (.conv .u64 (.v 12)) (.lit 1000))))))), (.a (.agg [(.int .i64 (.conv .i64 (.bin .rem .u64 (.conv .u64 (.v 13)) (.lit 16)))), (.int .i64 (.conv .i64 (.bin .rem .u64 (.conv .u64 (.v 14)) (.lit 12))))])), (.a (.c (.int .i64 (.conv .i64 (.bin .rem .u64 (.conv .u64 (.v 15)) (.lit 48))))))] [] 45 [.i, .i, .i, .i, .i, .i, .i] (.tup [(.agg [(.int .i64 (.v 45)), (.int .i64 (.v 46)), (.int .i64 (.v 47)), (.int .i64 (.v 48)), (.int .i64 (.v 49)), (.int .i64 (.v 50))]), (.c (.int .i64 (.v 51)))]) []
    (.call 18 [(.a (.agg [(.int .i64 (.conv .i64 (.bin .rem .u64 (.conv .u64 (.v 6)) (.lit 16)))), (.int .i64 (.conv .i64 (.bin .rem .u64 (.conv .u64 (.v 7)) (.lit 12)))), (.int .i64 (.conv .i64 (.bin .rem .u64 (.conv .u64 (.v 8)) (.lit 1000001)))), (.int .i64 (.conv .i64 (.bin .rem .u64 (.conv .u64 (.v 9)) (.lit 16)))), (.int .i64 (.conv .i64 (.bin .rem .u64 (.conv .u64 (.v 10)) (.lit 12)))), (.int .i64 (.conv .i64 (.bin .rem .u64 (.conv .u64 (.v 11)) (.lit 48))))])), (.a (.c (.int .i64 (.bin .add .i64 (.lit 1) (.conv .i64 (.bin .rem .u64 (.conv .u64 (.v 12)) (.lit 1000))))))), (.a (.agg [(.int .i64 (.conv .i64 (.bin .rem .u64 (.conv .u64 (.v 13)) (.lit 16)))), (.int .i64 (.conv .i64 (.bin .rem .u64 (.conv .u64 (.v 14)) (.lit 12))))])), (.a (.c (.int .i64 (.conv .i64 (.bin .rem .u64 (.conv .u64 (.v 15)) (.lit 48))))))] [] 53 [.i, .i, .i, .i, .i, .i, .i] (.tup [(.agg [(.int .i64 (.v 53)), (.int .i64 (.v 54)), (.int .i64 (.v 55)), (.int .i64 (.v 56)), (.int .i64 (.v 57)), (.int .i64 (.v 58))]), (.c (.int .i64 (.v 59)))]) []
    (.ite (.not (.or (.cmp .neq (.v 51) (.lit 0)) (.cmp .neq (.v 59) (.lit 0))))
      (.call 17 [(.a (.agg [(.int .i64 (.conv .i64 (.bin .rem .u64 (.conv .u64 (.v 0)) (.lit 16)))), (.int .i64 (.conv .i64 (.bin .rem .u64 (.conv .u64 (.v 1)) (.lit 12)))), (.int .i64 (.conv .i64 (.bin .rem .u64 (.conv .u64 (.v 2)) (.lit 1000001)))), (.int .i64 (.conv .i64 (.bin .rem .u64 (.conv .u64 (.v 3)) (.lit 16)))), (.int .i64 (.conv .i64 (.bin .rem .u64 (.conv .u64 (.v 4)) (.lit 12)))), (.int .i64 (.conv .i64 (.bin .rem .u64 (.conv .u64 (.v 5)) (.lit 48))))])), (.a (.agg [(.int .i64 (.v 45)), (.int .i64 (.v 46)), (.int .i64 (.v 47)), (.int .i64 (.v 48)), (.int .i64 (.v 49)), (.int .i64 (.v 50))]))] [] 61 [.i] (.a (.c (.int .i64 (.v 61)))) []
      (.ite (.cmp .neq (.v 61) (.lit (-1)))
        (done (.a (.c (.bool (.lit false)))) [])
        (.ite (.or (.not (.and (.cmp .eql (.conv .i64 (.bin .rem .u64 (.conv .u64 (.v 0)) (.lit 16))) (.conv .i64 (.bin .rem .u64 (.conv .u64 (.v 6)) (.lit 16)))) (.cmp .eql (.conv .i64 (.bin .rem .u64 (.conv .u64 (.v 1)) (.lit 12))) (.conv .i64 (.bin .rem .u64 (.conv .u64 (.v 7)) (.lit 12)))))) (.cmp .neq (.conv .i64 (.bin .rem .u64 (.conv .u64 (.v 2)) (.lit 1000001))) (.conv .i64 (.bin .rem .u64 (.conv .u64 (.v 8)) (.lit 1000001)))))
          (.call 17 [(.a (.agg [(.int .i64 (.v 45)), (.int .i64 (.v 46)), (.int .i64 (.v 47)), (.int .i64 (.v 48)), (.int .i64 (.v 49)), (.int .i64 (.v 50))])), (.a (.agg [(.int .i64 (.v 53)), (.int .i64 (.v 54)), (.int .i64 (.v 55)), (.int .i64 (.v 56)), (.int .i64 (.v 57)), (.int .i64 (.v 58))]))] [] 62 [.i] (.a (.c (.int .i64 (.v 62)))) []
          (.call 17 [(.a (.agg [(.int .i64 (.conv .i64 (.bin .rem .u64 (.conv .u64 (.v 0)) (.lit 16)))), (.int .i64 (.conv .i64 (.bin .rem .u64 (.conv .u64 (.v 1)) (.lit 12)))), (.int .i64 (.conv .i64 (.bin .rem .u64 (.conv .u64 (.v 2)) (.lit 1000001)))), (.int .i64 (.conv .i64 (.bin .rem .u64 (.conv .u64 (.v 3)) (.lit 16)))), (.int .i64 (.conv .i64 (.bin .rem .u64 (.conv .u64 (.v 4)) (.lit 12)))), (.int .i64 (.conv .i64 (.bin .rem .u64 (.conv .u64 (.v 5)) (.lit 48))))])), (.a (.agg [(.int .i64 (.conv .i64 (.bin .rem .u64 (.conv .u64 (.v 6)) (.lit 16)))), (.int .i64 (.conv .i64 (.bin .rem .u64 (.conv .u64 (.v 7)) (.lit 12)))), (.int .i64 (.conv .i64 (.bin .rem .u64 (.conv .u64 (.v 8)) (.lit 1000001)))), (.int .i64 (.conv .i64 (.bin .rem .u64 (.conv .u64 (.v 9)) (.lit 16)))), (.int .i64 (.conv .i64 (.bin .rem .u64 (.conv .u64 (.v 10)) (.lit 12)))), (.int .i64 (.conv .i64 (.bin .rem .u64 (.conv .u64 (.v 11)) (.lit 48))))]))] [] 63 [.i] (.a (.c (.int .i64 (.v 63)))) []
          (done (.a (.c (.bool (.cmp .eql (.v 62) (.v 63))))) [])))
          (done (.a (.c (.bool (.and (.and (.cmp .eql (.v 45) (.v 53)) (.cmp .eql (.v 46) (.v 54))) (.and (.cmp .eql (.v 47) (.v 55)) (.and (.and (.cmp .eql (.v 48) (.v 56)) (.cmp .eql (.v 49) (.v 57))) (.cmp .eql (.v 50) (.v 58)))))))) []))))
      (done (.a (.c (.bool (.lit false)))) [])))))) := by kernel_rfl

noncomputable def C0 : Cfg := { P := Try.prog, ct := ctOf [], ann := annOf [] }
@[simp] theorem C0_P : C0.P = Try.prog := rfl
theorem t_wakes : callTree C0 300 11 [] [] 20 = some
  (done (.a (.c (.bool (.lit true)))) []) := by kernel_rfl

end Go.Proofs.Y18
