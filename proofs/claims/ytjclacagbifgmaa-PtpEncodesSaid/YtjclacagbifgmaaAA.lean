/- A part of the proof: see the text that states the theorem. -/
import Derived.Test.YtjclacagbifgmaaSyM5
import Derived.Test.YtjclacagbifgmaaProg
set_option linter.unusedSimpArgs false
set_option linter.unusedVariables false
set_option linter.unusedSectionVars false
noncomputable section
namespace Go.Proofs.Y10
open Go Go.SX Go.RowKit
def i64s (n k : Nat) : SV := .agg ((List.range k).map fun i => .int .i64 (.v (n+i)))
def msg (n : Nat) : SV := i64s n 17
def pu : List CK := [.int .u8]
def rMsg : AS := .agg (List.replicate 17 (.int .i64))
def dft (n : Nat) : SV := .agg [.int .u8 (.v n), .int .u8 (.v (n+1)), .int .i64 (.v (n+2)), .int .i64 (.v (n+3)), .int .u64 (.v (n+4)), .int .u64 (.v (n+5)), .int .u16 (.v (n+6)), .int .u16 (.v (n+7)), .int .u16 (.v (n+8)), .int .i32 (.v (n+9)), .int .u8 (.v (n+10)), .int .u8 (.v (n+11)), .int .u8 (.v (n+12)), .int .u8 (.v (n+13)), .int .u16 (.v (n+14))]
def msgK (k : Int) : SV := .agg (.int .i64 (.lit k) :: (List.range 16).map fun i => .int .i64 (.v (i+1)))

noncomputable def C0 : Cfg := { P := Try.prog, ct := ctOf [], ann := annF [] }
@[simp] theorem C0_P : C0.P = Try.prog := rfl
noncomputable def C1 : Cfg := { P := Try.prog, ct := ctOf [(24, rI), (19, rB)], ann := annF [] }
@[simp] theorem C1_P : C1.P = Try.prog := rfl
noncomputable def C2 : Cfg := { P := Try.prog, ct := ctOf [(13, rI), (14, rI), (24, rI), (19, rB), (11, rB), (12, rI), (10, rB), (17, rB), (16, .one rMsg), (18, .tup [.c (.row 5 pu), .c (.int .i64)]), (21, .one (.c (.row 5 pu))), (20, rB), (22, .tup [rMsg, .c (.int .i64)]), (23, .tup [rMsg, .c .bool])], ann := annF [((3, 7), [.slot 10]), ((3, 12), [.slot 51]), ((4, 5), [.slot 25]), ((9, 12), [.slot 61])] }
@[simp] theorem C2_P : C2.P = Try.prog := rfl
noncomputable def C3 : Cfg := { P := Try.prog, ct := ctOf [(24, rI), (13, rI)], ann := annF [] }
@[simp] theorem C3_P : C3.P = Try.prog := rfl
noncomputable def C4 : Cfg := { P := Try.prog, ct := ctOf [(34, rI)], ann := annF [] }
@[simp] theorem C4_P : C4.P = Try.prog := rfl
noncomputable def C5 : Cfg := { P := Try.prog, ct := ctOf [(24, rI), (19, rB), (14, rI)], ann := annF [] }
@[simp] theorem C5_P : C5.P = Try.prog := rfl
noncomputable def C6 : Cfg := { P := Try.prog, ct := ctOf [(24, rI), (13, rI), (34, rI)], ann := annF [] }
@[simp] theorem C6_P : C6.P = Try.prog := rfl
noncomputable def C7 : Cfg := { P := Try.prog, ct := ctOf [(13, rI), (34, rI)], ann := annF [] }
@[simp] theorem C7_P : C7.P = Try.prog := rfl
noncomputable def C8 : Cfg := { P := Try.prog, ct := ctOf [(14, rI), (40, .tup []), (39, .tup [])], ann := annF [] }
@[simp] theorem C8_P : C8.P = Try.prog := rfl
noncomputable def CWk : Cfg := { P := Try.prog, ct := ctOf [], ann := annF [] }
@[simp] theorem CWk_P : CWk.P = Try.prog := rfl
noncomputable def CKn : Cfg := { P := Try.prog, ct := ctOf [(13, rI), (14, rI), (24, rI), (19, rB), (11, rB), (12, rI), (10, rB), (17, rB), (16, .one rMsg), (18, .tup [.c (.row 5 pu), .c (.int .i64)]), (21, .one (.c (.row 5 pu))), (20, rB), (22, .tup [rMsg, .c (.int .i64)]), (23, .tup [rMsg, .c .bool])], ann := annF [((3, 7), [.slot 10]), ((3, 12), [.slot 51]), ((4, 5), [.slot 25]), ((9, 12), [.slot 61])] }
@[simp] theorem CKn_P : CKn.P = Try.prog := rfl
end Go.Proofs.Y10
