/- What the statements' texts share: the tables, and arguments of integers in structs. -/
import Derived.Test.YtaomijkjdkimcaaSyV
import Derived.Test.YtaomijkjdkimcaaRows
import Derived.WalkKit
import Derived.ProofKit
import Derived.OpenShut
import Derived.ShutString
import Derived.ChangeOld
import Derived.Below
set_option linter.unusedSimpArgs false
set_option linter.unusedVariables false
set_option linter.unusedSectionVars false
namespace Go.Proofs.Ytaomijkjdkimcaa
open Go.ChangeShapes Go.WideShapes Go.ChangeAt Go.RowKit Go.SX
set_option linter.unusedVariables false
theorem own : ownKnob Try.prog.godebug = none := by kernel_rfl
theorem laidOut : laidOutB Try.prog = true := by kernel_rfl
theorem flat5 : flatT Try.prog 20 5 = some [.int .u8] := by kernel_rfl
theorem flat23 : flatT Try.prog 20 23 = some (List.replicate 2 (.int .i64)) := by kernel_rfl
theorem flat25 : flatT Try.prog 20 25 = some (List.replicate 6 (.int .i64)) := by kernel_rfl
theorem flat28 : flatT Try.prog 20 28 = some (List.replicate 7 (.int .i64)) := by kernel_rfl
theorem fits2 {k : IntKind} {r : List Dat} (h : FitsP (List.replicate 2 (.int k)) r) : ∃ a b, r = [.i a, .i b] ∧ (Lit.int k a).wf = true ∧ (Lit.int k b).wf = true := by
  match r, h with
  | [.i a, .i b], ⟨h1, h2, _⟩ => exact ⟨a, b, rfl, h1, h2⟩
theorem fits6 {k : IntKind} {r : List Dat} (h : FitsP (List.replicate 6 (.int k)) r) : ∃ a b c d e f, r = [.i a, .i b, .i c, .i d, .i e, .i f] ∧ (Lit.int k a).wf = true ∧ (Lit.int k b).wf = true ∧ (Lit.int k c).wf = true ∧ (Lit.int k d).wf = true ∧ (Lit.int k e).wf = true ∧ (Lit.int k f).wf = true := by
  match r, h with
  | [.i a, .i b, .i c, .i d, .i e, .i f], ⟨h1, h2, h3, h4, h5, h6, _⟩ => exact ⟨a, b, c, d, e, f, rfl, h1, h2, h3, h4, h5, h6⟩
theorem fits7 {k : IntKind} {r : List Dat} (h : FitsP (List.replicate 7 (.int k)) r) : ∃ a b c d e f g, r = [.i a, .i b, .i c, .i d, .i e, .i f, .i g] ∧ (Lit.int k a).wf = true ∧ (Lit.int k b).wf = true ∧ (Lit.int k c).wf = true ∧ (Lit.int k d).wf = true ∧ (Lit.int k e).wf = true ∧ (Lit.int k f).wf = true ∧ (Lit.int k g).wf = true := by
  match r, h with
  | [.i a, .i b, .i c, .i d, .i e, .i f, .i g], ⟨h1, h2, h3, h4, h5, h6, h7, _⟩ => exact ⟨a, b, c, d, e, f, g, rfl, h1, h2, h3, h4, h5, h6, h7⟩
theorem wf_u8 {n : Int} (h : (Lit.int .u8 n).wf = true) : 0 ≤ n ∧ n < 256 := by
  have := bounds_u8 h; omega
end Go.Proofs.Ytaomijkjdkimcaa
