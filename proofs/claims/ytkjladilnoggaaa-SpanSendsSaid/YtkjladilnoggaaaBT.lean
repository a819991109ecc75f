/- What the statements' texts share: bridges as arguments. -/
import Derived.Test.YtkjladilnoggaaaBS
import Derived.Test.YtkjladilnoggaaaSyM5
import Derived.Test.YtkjladilnoggaaaB1
set_option linter.unusedSimpArgs false
set_option linter.unusedVariables false
set_option linter.unusedSectionVars false
noncomputable section
namespace Go.Proofs.Ytkjladilnoggaaa
open Go.ChangeShapes Go.WideShapes Go.ChangeAt Go.RowKit Go.SX
set_option linter.unusedVariables false
theorem fm27 : flatM Try.prog 20 27 = some [.ck (.int .i64), .ck (.int .i64), .sl 24, .sl 24, .sl 25] := by kernel_rfl
theorem ct27 : Try.prog.cellTypes Try.prog.depth 27 = some [3, 3, 24, 24, 25] := by kernel_rfl
theorem flat3 : flatT Try.prog 20 3 = some Y19.pI := by kernel_rfl
theorem flat51 : flatT Try.prog 20 51 = some Y19.pH := by kernel_rfl
theorem fitsB {H : Type} {enc : TypeId × Value → H} {P : Program} {w : World} {base : Nat} {spare : Nat → Bool} {held : Bool} {cs : List Value} (h : FitsM enc P w base spare held [.ck (.int .i64), .ck (.int .i64), .sl 24, .sl 24, .sl 25] cs) :
    ∃ a b v1 v2 v3, cs = [.int .i64 a, .int .i64 b, v1, v2, v3] ∧ (∃ fuel x, DataW.trod enc P w base spare held fuel 24 [v1] = some x) ∧ (∃ fuel x, DataW.trod enc P w base spare held fuel 24 [v2] = some x) ∧ (∃ fuel x, DataW.trod enc P w base spare held fuel 25 [v3] = some x) := by
  match cs, h with
  | [c0, c1, v1, v2, v3], ⟨⟨d0, f0, e0⟩, ⟨d1, f1, e1⟩, h2, h3, h4, _⟩ =>
    match d0, f0, d1, f1 with
    | .i a, _, .i b, _ => exact ⟨a, b, v1, v2, v3, by rw [e0, e1]; rfl, h2, h3, h4⟩
theorem rowsInts : ∀ {rows : List (List Dat)}, (∀ r ∈ rows, FitsP Y19.pI r) → ∃ l : List Int, rows = Y19.rowsI l
  | [], _ => ⟨[], rfl⟩
  | r :: rows, h => by
    obtain ⟨us, rfl⟩ := rowsInts fun r hr => h r (List.mem_cons_of_mem _ hr)
    match r, h r (List.mem_cons_self ..) with
    | [.i a], _ => exact ⟨a :: us, rfl⟩
theorem rowsHds : ∀ {rows : List (List Dat)}, (∀ r ∈ rows, FitsP Y19.pH r) → ∃ l : List Y19.Hd, rows = Y19.rowsH l
  | [], _ => ⟨[], rfl⟩
  | r :: rows, h => by
    obtain ⟨us, rfl⟩ := rowsHds fun r hr => h r (List.mem_cons_of_mem _ hr)
    match r, h r (List.mem_cons_self ..) with
    | [.b a, .i x1, .i x2, .i x3, .i x4, .i x5, .i x6, .i x7], _ => exact ⟨⟨a, x1, x2, x3, x4, x5, x6, x7⟩ :: us, rfl⟩
end Go.Proofs.Ytkjladilnoggaaa
