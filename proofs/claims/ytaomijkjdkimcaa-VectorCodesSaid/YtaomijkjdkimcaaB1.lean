/- Bytes of a slice that is handed in. -/
import Derived.Test.YtaomijkjdkimcaaB0
import Derived.Test.YtaomijkjdkimcaaD1
set_option linter.unusedSimpArgs false
set_option linter.unusedVariables false
set_option linter.unusedSectionVars false
namespace Go.Proofs.Ytaomijkjdkimcaa
open Go.ChangeShapes Go.WideShapes Go.ChangeAt Go.RowKit Go.SX
theorem inB_fits {rows : List (List Dat)} (h : ∀ r ∈ rows, FitsP [.int .u8] r) : Y18.inB rows := by
  intro k
  unfold Y18.byt
  rw [List.getD_eq_getElem?_getD]
  cases hk : rows[k]? with
  | none => simp [hk]
  | some r =>
    have := h r (List.mem_of_getElem? hk)
    match r, this, hk with
    | [.i n], ⟨hw, _⟩, hk => simpa [hk] using wf_u8 hw
end Go.Proofs.Ytaomijkjdkimcaa
