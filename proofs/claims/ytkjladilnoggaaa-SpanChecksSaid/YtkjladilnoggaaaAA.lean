/- A part of the proof: see the text that states the theorem. -/
import Derived.Test.YtkjladilnoggaaaSyM5
import Derived.Test.YtkjladilnoggaaaProg
set_option linter.unusedSimpArgs false
set_option linter.unusedVariables false
set_option linter.unusedSectionVars false
noncomputable section
namespace Go.Proofs.Y19
open Go Go.SX Go.RowKit
def i64s (n k : Nat) : SV := .agg ((List.range k).map fun i => .int .i64 (.v (n+i)))
def i64c (n k : Nat) : List SC := (List.range k).map fun i => .int .i64 (.v (n+i))
def pI : List CK := [.int .i64]
def pH : List CK := [.bool, .int .i64, .int .i64, .int .i64, .int .i64, .int .i64, .int .i64, .int .i64]
def slC0 (n s : Nat) : SC := .slice (n + 1) s 0 (.lit 0) (.alen n) (.e (.v (n + 2)))
def brg (n : Nat) : SV := .agg [.int .i64 (.v n), .int .i64 (.v (n+1)), slC0 (n+2) 1, slC0 (n+5) 1, slC0 (n+8) 8]
def brH (n : Nat) : Heap := [.arr (n+3) (n+2) pI none, .arr (n+6) (n+5) pI none, .arr (n+9) (n+8) pH none]
def rank (n : Nat) : SV := i64s n 6
noncomputable def C0 : Cfg := { P := Try.prog, ct := ctOf [], ann := annF [] }
@[simp] theorem C0_P : C0.P = Try.prog := rfl
noncomputable def C1 : Cfg := { P := Try.prog, ct := ctOf [(40, rB), (32, rB), (35, rI), (36, rI)], ann := annF [((13, 5), [.slot 4]), ((14, 4), [.slot 38])] }
@[simp] theorem C1_P : C1.P = Try.prog := rfl
noncomputable def C2 : Cfg := { P := Try.prog, ct := ctOf [(11, rB), (13, rB), (14, rI), (41, rB)], ann := annF [] }
@[simp] theorem C2_P : C2.P = Try.prog := rfl
noncomputable def C3 : Cfg := { P := Try.prog, ct := ctOf [], ann := annF [((41, 4), [.slot 5]), ((41, 9), [.slot 6]), ((41, 14), [.slot 7])] }
@[simp] theorem C3_P : C3.P = Try.prog := rfl
end Go.Proofs.Y19
