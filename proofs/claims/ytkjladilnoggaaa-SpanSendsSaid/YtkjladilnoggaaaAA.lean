/- A part of the proof: see the text that states the theorem. -/
import Derived.Test.YtkjladilnoggaaaSyM5
import Derived.Test.YtkjladilnoggaaaProg
set_option linter.unusedSimpArgs false
set_option linter.unusedVariables false
set_option linter.unusedSectionVars false
noncomputable section
namespace Go.Proofs.Y19
open Go Go.SX Go.RowKit
def i64s (n k : Nat) : SV := .agg ((List.range k).map fun i => .int .i64 (.v (n+i)))
def i64c (n k : Nat) : List SC := (List.range k).map fun i => .int .i64 (.v (n+i))
def pI : List CK := [.int .i64]
def pH : List CK := [.bool, .int .i64, .int .i64, .int .i64, .int .i64, .int .i64, .int .i64, .int .i64]
def slC0 (n s : Nat) : SC := .slice (n + 1) s 0 (.lit 0) (.alen n) (.e (.v (n + 2)))
def brg (n : Nat) : SV := .agg [.int .i64 (.v n), .int .i64 (.v (n+1)), slC0 (n+2) 1, slC0 (n+5) 1, slC0 (n+8) 8]
def brH (n : Nat) : Heap := [.arr (n+3) (n+2) pI none, .arr (n+6) (n+5) pI none, .arr (n+9) (n+8) pH none]
def rank (n : Nat) : SV := i64s n 6
noncomputable def C0 : Cfg := { P := Try.prog, ct := ctOf [], ann := annF [] }
@[simp] theorem C0_P : C0.P = Try.prog := rfl
noncomputable def C1 : Cfg := { P := Try.prog, ct := ctOf [(40, rB), (32, rB), (35, rI), (36, rI)], ann := annF [((13, 5), [.slot 4]), ((14, 4), [.slot 38])] }
@[simp] theorem C1_P : C1.P = Try.prog := rfl
noncomputable def C2 : Cfg := { P := Try.prog, ct := ctOf [(11, rB), (13, rB), (14, rI), (41, rB)], ann := annF [] }
@[simp] theorem C2_P : C2.P = Try.prog := rfl
noncomputable def C3 : Cfg := { P := Try.prog, ct := ctOf [], ann := annF [((41, 4), [.slot 5]), ((41, 9), [.slot 6]), ((41, 14), [.slot 7])] }
@[simp] theorem C3_P : C3.P = Try.prog := rfl
noncomputable def C4 : Cfg := { P := Try.prog, ct := ctOf [(11, rB), (13, rB), (14, rI), (42, .tup [.c (.int .i64), (.agg (List.replicate 6 (.int .i64)))]), (21, rI), (22, .one (.agg (List.replicate 6 (.int .i64)))), (23, rI), (24, .one (.agg (.bool :: List.replicate 7 (.int .i64)))), (19, .tup [.c (.row 3 pI), .c (.int .i64)]), (20, .tup [.c (.row 51 pH), .c (.int .i64)])], ann := annF [((4, 12), [.slot 106])] }
@[simp] theorem C4_P : C4.P = Try.prog := rfl
noncomputable def C7 : Cfg := { P := Try.prog, ct := ctOf [(37, rI)], ann := annF [((63, 1), [.slot 10, .cell 22 0, .cell 23 0, .cell 23 1, .cell 23 2, .cell 23 3, .cell 23 4, .cell 23 5])] }
@[simp] theorem C7_P : C7.P = Try.prog := rfl
noncomputable def C8 : Cfg := { P := Try.prog, ct := ctOf [(49, rB)], ann := annF [((21, 3), [.slot 3, .slot 4])] }
@[simp] theorem C8_P : C8.P = Try.prog := rfl
noncomputable def C9 : Cfg := { P := Try.prog, ct := ctOf [(37, rI), (42, .tup [.c (.int .i64), (.agg (List.replicate 6 (.int .i64)))]), (47, .one (.agg (List.replicate 6 (.int .i64))))], ann := annF [] }
@[simp] theorem C9_P : C9.P = Try.prog := rfl
noncomputable def C10 : Cfg := { P := Try.prog, ct := ctOf [(49, rB), (21, rI), (22, .one (.agg (List.replicate 6 (.int .i64))))], ann := annF [] }
@[simp] theorem C10_P : C10.P = Try.prog := rfl
noncomputable def C11 : Cfg := { P := Try.prog, ct := ctOf [(21, rI), (22, .one (.agg (List.replicate 6 (.int .i64)))), (23, rI)], ann := annF [] }
@[simp] theorem C11_P : C11.P = Try.prog := rfl
noncomputable def C12 : Cfg := { P := Try.prog, ct := ctOf [(14, rI), (44, rI)], ann := annF [((43, 6), [.slot 17, .row 7 3])] }
@[simp] theorem C12_P : C12.P = Try.prog := rfl
noncomputable def C13 : Cfg := { P := Try.prog, ct := ctOf [(14, rI), (44, rI), (47, .one (.agg (List.replicate 6 (.int .i64)))), (42, .tup [.c (.int .i64), (.agg (List.replicate 6 (.int .i64)))])], ann := annF [((45, 6), [.slot 17, .row 7 51])] }
@[simp] theorem C13_P : C13.P = Try.prog := rfl
end Go.Proofs.Y19
