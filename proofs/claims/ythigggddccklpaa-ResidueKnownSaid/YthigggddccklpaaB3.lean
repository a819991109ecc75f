/- What the statements' texts share: the tables, and arguments of integers in structs and lists. -/
import Derived.Test.YthigggddccklpaaSyV
import Derived.Test.YthigggddccklpaaB2
import Derived.Test.YthigggddccklpaaRows
import Derived.WalkKit
import Derived.ProofKit
import Derived.OpenShut
import Derived.ShutString
import Derived.ChangeOld
import Derived.Below
set_option linter.unusedSimpArgs false
set_option linter.unusedVariables false
set_option linter.unusedSectionVars false
noncomputable section
namespace Go.Proofs.Ythigggddccklpaa
open Go.ChangeShapes Go.WideShapes Go.ChangeAt Go.RowKit Go.SX
set_option linter.unusedVariables false
theorem own : ownKnob Try.prog.godebug = none := by kernel_rfl
theorem laidOut : laidOutB Try.prog = true := by kernel_rfl
theorem flat23 : flatT Try.prog 20 23 = some [.int .i64, .int .i64, .int .i64] := by kernel_rfl
theorem flat24 : flatT Try.prog 20 24 = some [.int .u8, .int .u8, .int .u8] := by kernel_rfl
theorem fits3 {k : IntKind} {r : List Dat} (h : FitsP [.int k, .int k, .int k] r) : ∃ a b c, r = [.i a, .i b, .i c] ∧ (Lit.int k a).wf = true ∧ (Lit.int k b).wf = true ∧ (Lit.int k c).wf = true := by
  match r, h with
  | [.i a, .i b, .i c], ⟨h1, h2, h3, _⟩ => exact ⟨a, b, c, rfl, h1, h2, h3⟩
theorem wf_u8 {n : Int} (h : (Lit.int .u8 n).wf = true) : 0 ≤ n ∧ n < 256 := by
  have := bounds_u8 h; omega
theorem rows3 : ∀ {rows : List (List Dat)}, (∀ r ∈ rows, FitsP [.int .u8, .int .u8, .int .u8] r) → ∃ us : List Y23.Sp, rows = Y23.rowsOf us ∧ ∀ s ∈ us, Y23.byteSp s
  | [], _ => ⟨[], rfl, fun s hs => (by cases hs)⟩
  | r :: rows, h => by
    obtain ⟨us, rfl, hus⟩ := rows3 fun r hr => h r (List.mem_cons_of_mem _ hr)
    obtain ⟨a, b, c, rfl, wa, wb, wc⟩ := fits3 (h r (List.mem_cons_self ..))
    refine ⟨(a, b, c) :: us, rfl, fun s hs => ?_⟩
    rcases List.mem_cons.1 hs with rfl | hs
    · exact ⟨wf_u8 wa, wf_u8 wb, wf_u8 wc⟩
    · exact hus s hs
end Go.Proofs.Ythigggddccklpaa
