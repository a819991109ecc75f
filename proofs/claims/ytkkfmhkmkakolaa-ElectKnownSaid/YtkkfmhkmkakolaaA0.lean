/- A part of the proof: see the text that states the theorem. -/
import Derived.Test.YtkkfmhkmkakolaaSyM5
import Derived.Test.YtkkfmhkmkakolaaProg
set_option linter.unusedSimpArgs false
set_option linter.unusedVariables false
set_option linter.unusedSectionVars false
noncomputable section
namespace Go.Proofs.Y11
open Go Go.SX Go.RowKit
def i64s (n k : Nat) : SV := .agg ((List.range k).map fun i => .int .i64 (.v (n+i)))
noncomputable def C0 : Cfg := { P := Try.prog, ct := ctOf [], ann := annF [] }
@[simp] theorem C0_P : C0.P = Try.prog := rfl
noncomputable def C1 : Cfg := { P := Try.prog, ct := ctOf [(8, rB), (15, rI)], ann := annF [] }
@[simp] theorem C1_P : C1.P = Try.prog := rfl
theorem t_Compare : callTree C0 300 15 [i64s 0 9, i64s 9 9] [] 20 = some
  (.ite (.and (.and (.cmp .eql (.v 0) (.v 9)) (.and (.cmp .eql (.v 1) (.v 10)) (.and (.cmp .eql (.v 2) (.v 11)) (.and (.cmp .eql (.v 3) (.v 12)) (.and (.cmp .eql (.v 4) (.v 13)) (.cmp .eql (.v 5) (.v 14))))))) (.and (.cmp .eql (.v 6) (.v 15)) (.and (.cmp .eql (.v 7) (.v 16)) (.cmp .eql (.v 8) (.v 17)))))
    (done (.a (.c (.int .i64 (.lit 0)))) [])
    (.ite (.cmp .lss (.v 0) (.v 9))
      (done (.a (.c (.int .i64 (.lit (-1))))) [])
      (.ite (.cmp .gtr (.v 0) (.v 9))
        (done (.a (.c (.int .i64 (.lit 1)))) [])
        (.ite (.cmp .lss (.v 1) (.v 10))
          (done (.a (.c (.int .i64 (.lit (-1))))) [])
          (.ite (.cmp .gtr (.v 1) (.v 10))
            (done (.a (.c (.int .i64 (.lit 1)))) [])
            (.ite (.cmp .lss (.v 2) (.v 11))
              (done (.a (.c (.int .i64 (.lit (-1))))) [])
              (.ite (.cmp .gtr (.v 2) (.v 11))
                (done (.a (.c (.int .i64 (.lit 1)))) [])
                (.ite (.cmp .lss (.v 3) (.v 12))
                  (done (.a (.c (.int .i64 (.lit (-1))))) [])
                  (.ite (.cmp .gtr (.v 3) (.v 12))
                    (done (.a (.c (.int .i64 (.lit 1)))) [])
                    (.ite (.cmp .lss (.v 4) (.v 13))
                      (done (.a (.c (.int .i64 (.lit (-1))))) [])
                      (.ite (.cmp .gtr (.v 4) (.v 13))
                        (done (.a (.c (.int .i64 (.lit 1)))) [])
                        (.ite (.cmp .lss (.v 5) (.v 14))
                          (done (.a (.c (.int .i64 (.lit (-1))))) [])
                          (.ite (.cmp .gtr (.v 5) (.v 14))
                            (done (.a (.c (.int .i64 (.lit 1)))) [])
                            (.ite (.cmp .lss (.v 6) (.v 15))
                              (done (.a (.c (.int .i64 (.lit (-1))))) [])
                              (.ite (.cmp .gtr (.v 6) (.v 15))
                                (done (.a (.c (.int .i64 (.lit 1)))) [])
                                (.ite (.cmp .lss (.v 7) (.v 16))
                                  (done (.a (.c (.int .i64 (.lit (-1))))) [])
                                  (.ite (.cmp .gtr (.v 7) (.v 16))
                                    (done (.a (.c (.int .i64 (.lit 1)))) [])
                                    (.ite (.cmp .lss (.v 8) (.v 17))
                                      (done (.a (.c (.int .i64 (.lit (-1))))) [])
                                      (.ite (.cmp .gtr (.v 8) (.v 17))
                                        (done (.a (.c (.int .i64 (.lit 1)))) [])
                                        (done (.a (.c (.int .i64 (.lit 0)))) [])))))))))))))))))))) := by kernel_rfl
theorem t_order : callTree C0 300 26 [i64s 0 9, i64s 9 9] [] 20 = some
  (.ite (.and (.and (.cmp .eql (.v 0) (.v 9)) (.and (.cmp .eql (.v 1) (.v 10)) (.and (.cmp .eql (.v 2) (.v 11)) (.and (.cmp .eql (.v 3) (.v 12)) (.and (.cmp .eql (.v 4) (.v 13)) (.cmp .eql (.v 5) (.v 14))))))) (.and (.cmp .eql (.v 6) (.v 15)) (.and (.cmp .eql (.v 7) (.v 16)) (.cmp .eql (.v 8) (.v 17)))))
    (done (.a (.c (.int .i64 (.lit 0)))) [])
    (.ite (.cmp .lss (.v 0) (.v 9))
      (done (.a (.c (.int .i64 (.lit (-1))))) [])
      (.ite (.cmp .gtr (.v 0) (.v 9))
        (done (.a (.c (.int .i64 (.lit 1)))) [])
        (.ite (.cmp .lss (.v 1) (.v 10))
          (done (.a (.c (.int .i64 (.lit (-1))))) [])
          (.ite (.cmp .gtr (.v 1) (.v 10))
            (done (.a (.c (.int .i64 (.lit 1)))) [])
            (.ite (.cmp .lss (.v 2) (.v 11))
              (done (.a (.c (.int .i64 (.lit (-1))))) [])
              (.ite (.cmp .gtr (.v 2) (.v 11))
                (done (.a (.c (.int .i64 (.lit 1)))) [])
                (.ite (.cmp .lss (.v 3) (.v 12))
                  (done (.a (.c (.int .i64 (.lit (-1))))) [])
                  (.ite (.cmp .gtr (.v 3) (.v 12))
                    (done (.a (.c (.int .i64 (.lit 1)))) [])
                    (.ite (.cmp .lss (.v 4) (.v 13))
                      (done (.a (.c (.int .i64 (.lit (-1))))) [])
                      (.ite (.cmp .gtr (.v 4) (.v 13))
                        (done (.a (.c (.int .i64 (.lit 1)))) [])
                        (.ite (.cmp .lss (.v 5) (.v 14))
                          (done (.a (.c (.int .i64 (.lit (-1))))) [])
                          (.ite (.cmp .gtr (.v 5) (.v 14))
                            (done (.a (.c (.int .i64 (.lit 1)))) [])
                            (.ite (.cmp .lss (.v 6) (.v 15))
                              (done (.a (.c (.int .i64 (.lit (-1))))) [])
                              (.ite (.cmp .gtr (.v 6) (.v 15))
                                (done (.a (.c (.int .i64 (.lit 1)))) [])
                                (.ite (.cmp .lss (.v 7) (.v 16))
                                  (done (.a (.c (.int .i64 (.lit (-1))))) [])
                                  (.ite (.cmp .gtr (.v 7) (.v 16))
                                    (done (.a (.c (.int .i64 (.lit 1)))) [])
                                    (.ite (.cmp .lss (.v 8) (.v 17))
                                      (done (.a (.c (.int .i64 (.lit (-1))))) [])
                                      (.ite (.cmp .gtr (.v 8) (.v 17))
                                        (done (.a (.c (.int .i64 (.lit 1)))) [])
                                        (done (.a (.c (.int .i64 (.lit 0)))) [])))))))))))))))))))) := by kernel_rfl
theorem t_CheckMaster : callTree C0 300 30 [i64s 0 6] [] 20 = some
  (.ite (.not (.and (.and (.and (.and (.and (.and (.and (.and (.and (.and (.and (.cmp .geq (.v 0) (.lit 0)) (.cmp .leq (.v 0) (.lit 255))) (.cmp .geq (.v 1) (.lit 0))) (.cmp .leq (.v 1) (.lit 255))) (.cmp .geq (.v 2) (.lit 0))) (.cmp .leq (.v 2) (.lit 255))) (.cmp .geq (.v 3) (.lit 0))) (.cmp .leq (.v 3) (.lit 65535))) (.cmp .geq (.v 4) (.lit 0))) (.cmp .leq (.v 4) (.lit 255))) (.cmp .geq (.v 5) (.lit 0))) (.cmp .leq (.v 5) (.lit 281474976710655))))
    (done (.a (.c (.int .i64 (.lit 201)))) [])
    (done (.a (.c (.int .i64 (.lit 0)))) [])) := by kernel_rfl
theorem t_ranked : callTree C0 300 25 [i64s 0 9] [] 20 = some
  (done (.a (.agg [(.int .i64 (.v 0)), (.int .i64 (.v 1)), (.int .i64 (.v 2)), (.int .i64 (.v 3)), (.int .i64 (.v 4)), (.int .i64 (.v 5)), (.int .i64 (.v 6)), (.int .i64 (.v 7)), (.int .i64 (.v 8))])) []) := by kernel_rfl
def fnC (g : Nat) : SV := .a (.c (.fn ⟨.func g, [], []⟩ [] []))
noncomputable def C2 : Cfg := { P := Try.prog, ct := ctOf [(25, .one (.agg (List.replicate 9 (.int .i64)))), (26, rI)], ann := annF [] }
@[simp] theorem C2_P : C2.P = Try.prog := rfl
theorem t_least : callTree C2 300 31 [i64s 0 9, i64s 9 9, fnC 25, fnC 26] [] 30 = some
  (.call 25 [(.a (.agg [(.int .i64 (.v 9)), (.int .i64 (.v 10)), (.int .i64 (.v 11)), (.int .i64 (.v 12)), (.int .i64 (.v 13)), (.int .i64 (.v 14)), (.int .i64 (.v 15)), (.int .i64 (.v 16)), (.int .i64 (.v 17))]))] [] 33 [.i, .i, .i, .i, .i, .i, .i, .i, .i] (.a (.agg [(.int .i64 (.v 33)), (.int .i64 (.v 34)), (.int .i64 (.v 35)), (.int .i64 (.v 36)), (.int .i64 (.v 37)), (.int .i64 (.v 38)), (.int .i64 (.v 39)), (.int .i64 (.v 40)), (.int .i64 (.v 41))])) []
  (.call 25 [(.a (.agg [(.int .i64 (.v 0)), (.int .i64 (.v 1)), (.int .i64 (.v 2)), (.int .i64 (.v 3)), (.int .i64 (.v 4)), (.int .i64 (.v 5)), (.int .i64 (.v 6)), (.int .i64 (.v 7)), (.int .i64 (.v 8))]))] [] 42 [.i, .i, .i, .i, .i, .i, .i, .i, .i] (.a (.agg [(.int .i64 (.v 42)), (.int .i64 (.v 43)), (.int .i64 (.v 44)), (.int .i64 (.v 45)), (.int .i64 (.v 46)), (.int .i64 (.v 47)), (.int .i64 (.v 48)), (.int .i64 (.v 49)), (.int .i64 (.v 50))])) []
  (.call 26 [(.a (.agg [(.int .i64 (.v 33)), (.int .i64 (.v 34)), (.int .i64 (.v 35)), (.int .i64 (.v 36)), (.int .i64 (.v 37)), (.int .i64 (.v 38)), (.int .i64 (.v 39)), (.int .i64 (.v 40)), (.int .i64 (.v 41))])), (.a (.agg [(.int .i64 (.v 42)), (.int .i64 (.v 43)), (.int .i64 (.v 44)), (.int .i64 (.v 45)), (.int .i64 (.v 46)), (.int .i64 (.v 47)), (.int .i64 (.v 48)), (.int .i64 (.v 49)), (.int .i64 (.v 50))]))] [] 51 [.i] (.a (.c (.int .i64 (.v 51)))) []
  (.ite (.cmp .lss (.v 51) (.lit 0))
    (done (.a (.agg [(.int .i64 (.v 9)), (.int .i64 (.v 10)), (.int .i64 (.v 11)), (.int .i64 (.v 12)), (.int .i64 (.v 13)), (.int .i64 (.v 14)), (.int .i64 (.v 15)), (.int .i64 (.v 16)), (.int .i64 (.v 17))])) [])
    (done (.a (.agg [(.int .i64 (.v 0)), (.int .i64 (.v 1)), (.int .i64 (.v 2)), (.int .i64 (.v 3)), (.int .i64 (.v 4)), (.int .i64 (.v 5)), (.int .i64 (.v 6)), (.int .i64 (.v 7)), (.int .i64 (.v 8))])) []))))) := by kernel_rfl
end Go.Proofs.Y11
