/-
  No cell of these rows narrows 'for every input' (looked for: loops, veiled, ifaces, maps, wideKeys, modest, calm, conditions, laid).
  DERIVED. THE GIVEN ROWS OF THIS SEAT. 7 by the template 'for every input the law returns true; each argument reads behind the call as it read before'; 0 by the template 'total and deterministic' (their statements: YthigggddccklpaaTotals.lean).
  GIVEN WITH THE SEED: the statements are not yours to turn. If you find one false, say at which input.
  Laid BY PROGRAM, IN A SANDBOX (cutbox-rows.mjs): the forced cells as the released guide's own fill.sh prints them over the translation f8d5fa7943d2587d… (all of the seat's roots in one cut). By AI agents, Wed Nov 11 2026. No macro, syntax, notation, axiom, sorry.
-/
import Derived.Test.YthigggddccklpaaChecked
import GoSem.Claim
import GoSem.ClaimJoined
import GoSem.ClaimMapViews
import Derived.JoinedTies
import Derived.KernelRfl
namespace Go.Proofs.Ythigggddccklpaa
/- THE CELL 'sum', in the pinned program and in every row, IS THE sha256 OF THE DUMP (.gsa) THAT YthigggddccklpaaProg.lean LOADS. Nothing in Lean hashes anything: it is a label: what it is worth is what the hold of that sum in a sandbox is worth. -/
noncomputable def Try.pinned : Pinned := { name := "ythigggddccklpaa", sum := "f8d5fa7943d2587dd517c19e7365c9aee45b1ccf40883907dcf0253e81c95f09", checked := Try.checked }
namespace Rows
def none {H : Type} : Left H := { results := [], args := [] }

/-- 'isochronlaw23.ResidueChecks': WHATEVER THE INPUT: true; the input reads as it did. -/
def residueChecksSpec : ChangeSpec := { name := "residueChecks", fn := fun _ => fun
  | [d1, d2, d3] => { results := [.lit (.bool true)], args := [d1, d2, d3] }
  | _ => none }
def residueChecksRow : OpenClaim := { program := "ythigggddccklpaa", sum := "f8d5fa7943d2587dd517c19e7365c9aee45b1ccf40883907dcf0253e81c95f09", func := "isochron/isochronlaw23.ResidueChecks", spec := "residueChecks", apart := false }
def ResidueChecksSaid : Prop := residueChecksRow.holds Try.pinned (OpenSpec.ofChange residueChecksSpec)

/-- ITS FALSE NEIGHBOUR: 'it returns false'. Refute it at one input. -/
def residueChecksWrong : ChangeSpec := { name := "residueChecks", fn := fun _ => fun
  | [d1, d2, d3] => { results := [.lit (.bool false)], args := [d1, d2, d3] }
  | _ => none }
def ResidueChecksWrongFalsely : Prop := residueChecksRow.holds Try.pinned (OpenSpec.ofChange residueChecksWrong)

/-- 'isochronlaw23.ResidueAparts': WHATEVER THE INPUT: true; the input reads as it did. -/
def residueApartsSpec : ChangeSpec := { name := "residueAparts", fn := fun _ => fun
  | [d1, d2, d3] => { results := [.lit (.bool true)], args := [d1, d2, d3] }
  | _ => none }
def residueApartsRow : OpenClaim := { program := "ythigggddccklpaa", sum := "f8d5fa7943d2587dd517c19e7365c9aee45b1ccf40883907dcf0253e81c95f09", func := "isochron/isochronlaw23.ResidueAparts", spec := "residueAparts", apart := false }
def ResidueApartsSaid : Prop := residueApartsRow.holds Try.pinned (OpenSpec.ofChange residueApartsSpec)

/-- ITS FALSE NEIGHBOUR: 'it returns false'. Refute it at one input. -/
def residueApartsWrong : ChangeSpec := { name := "residueAparts", fn := fun _ => fun
  | [d1, d2, d3] => { results := [.lit (.bool false)], args := [d1, d2, d3] }
  | _ => none }
def ResidueApartsWrongFalsely : Prop := residueApartsRow.holds Try.pinned (OpenSpec.ofChange residueApartsWrong)

/-- 'isochronlaw23.ResidueNexts': WHATEVER THE INPUT: true; the input reads as it did. -/
def residueNextsSpec : ChangeSpec := { name := "residueNexts", fn := fun _ => fun
  | [d1, d2, d3, d4, d5] => { results := [.lit (.bool true)], args := [d1, d2, d3, d4, d5] }
  | _ => none }
def residueNextsRow : OpenClaim := { program := "ythigggddccklpaa", sum := "f8d5fa7943d2587dd517c19e7365c9aee45b1ccf40883907dcf0253e81c95f09", func := "isochron/isochronlaw23.ResidueNexts", spec := "residueNexts", apart := false }
def ResidueNextsSaid : Prop := residueNextsRow.holds Try.pinned (OpenSpec.ofChange residueNextsSpec)

/-- ITS FALSE NEIGHBOUR: 'it returns false'. Refute it at one input. -/
def residueNextsWrong : ChangeSpec := { name := "residueNexts", fn := fun _ => fun
  | [d1, d2, d3, d4, d5] => { results := [.lit (.bool false)], args := [d1, d2, d3, d4, d5] }
  | _ => none }
def ResidueNextsWrongFalsely : Prop := residueNextsRow.holds Try.pinned (OpenSpec.ofChange residueNextsWrong)

/-- 'isochronlaw23.ResidueMeans': WHATEVER THE INPUT: true; the input reads as it did. -/
def residueMeansSpec : ChangeSpec := { name := "residueMeans", fn := fun _ => fun
  | [d1, d2] => { results := [.lit (.bool true)], args := [d1, d2] }
  | _ => none }
def residueMeansRow : OpenClaim := { program := "ythigggddccklpaa", sum := "f8d5fa7943d2587dd517c19e7365c9aee45b1ccf40883907dcf0253e81c95f09", func := "isochron/isochronlaw23.ResidueMeans", spec := "residueMeans", apart := false }
def ResidueMeansSaid : Prop := residueMeansRow.holds Try.pinned (OpenSpec.ofChange residueMeansSpec)

/-- ITS FALSE NEIGHBOUR: 'it returns false'. Refute it at one input. -/
def residueMeansWrong : ChangeSpec := { name := "residueMeans", fn := fun _ => fun
  | [d1, d2] => { results := [.lit (.bool false)], args := [d1, d2] }
  | _ => none }
def ResidueMeansWrongFalsely : Prop := residueMeansRow.holds Try.pinned (OpenSpec.ofChange residueMeansWrong)

/-- 'isochronlaw23.ResidueMoves': WHATEVER THE INPUT: true; the input reads as it did. -/
def residueMovesSpec : ChangeSpec := { name := "residueMoves", fn := fun _ => fun
  | [d1, d2] => { results := [.lit (.bool true)], args := [d1, d2] }
  | _ => none }
def residueMovesRow : OpenClaim := { program := "ythigggddccklpaa", sum := "f8d5fa7943d2587dd517c19e7365c9aee45b1ccf40883907dcf0253e81c95f09", func := "isochron/isochronlaw23.ResidueMoves", spec := "residueMoves", apart := false }
def ResidueMovesSaid : Prop := residueMovesRow.holds Try.pinned (OpenSpec.ofChange residueMovesSpec)

/-- ITS FALSE NEIGHBOUR: 'it returns false'. Refute it at one input. -/
def residueMovesWrong : ChangeSpec := { name := "residueMoves", fn := fun _ => fun
  | [d1, d2] => { results := [.lit (.bool false)], args := [d1, d2] }
  | _ => none }
def ResidueMovesWrongFalsely : Prop := residueMovesRow.holds Try.pinned (OpenSpec.ofChange residueMovesWrong)

/-- 'isochronlaw23.ResidueLeast': WHATEVER THE INPUT: true; the input reads as it did. -/
def residueLeastSpec : ChangeSpec := { name := "residueLeast", fn := fun _ => fun
  | [d1, d2] => { results := [.lit (.bool true)], args := [d1, d2] }
  | _ => none }
def residueLeastRow : OpenClaim := { program := "ythigggddccklpaa", sum := "f8d5fa7943d2587dd517c19e7365c9aee45b1ccf40883907dcf0253e81c95f09", func := "isochron/isochronlaw23.ResidueLeast", spec := "residueLeast", apart := false }
def ResidueLeastSaid : Prop := residueLeastRow.holds Try.pinned (OpenSpec.ofChange residueLeastSpec)

/-- ITS FALSE NEIGHBOUR: 'it returns false'. Refute it at one input. -/
def residueLeastWrong : ChangeSpec := { name := "residueLeast", fn := fun _ => fun
  | [d1, d2] => { results := [.lit (.bool false)], args := [d1, d2] }
  | _ => none }
def ResidueLeastWrongFalsely : Prop := residueLeastRow.holds Try.pinned (OpenSpec.ofChange residueLeastWrong)

/-- 'isochronlaw23.ResidueKnown': WHATEVER THE INPUT: true; the input reads as it did. -/
def residueKnownSpec : ChangeSpec := { name := "residueKnown", fn := fun _ => fun
  | [] => { results := [.lit (.bool true)], args := [] }
  | _ => none }
def residueKnownRow : OpenClaim := { program := "ythigggddccklpaa", sum := "f8d5fa7943d2587dd517c19e7365c9aee45b1ccf40883907dcf0253e81c95f09", func := "isochron/isochronlaw23.ResidueKnown", spec := "residueKnown", apart := false }
def ResidueKnownSaid : Prop := residueKnownRow.holds Try.pinned (OpenSpec.ofChange residueKnownSpec)

/-- ITS FALSE NEIGHBOUR: 'it returns false'. Refute it at one input. -/
def residueKnownWrong : ChangeSpec := { name := "residueKnown", fn := fun _ => fun
  | [] => { results := [.lit (.bool false)], args := [] }
  | _ => none }
def ResidueKnownWrongFalsely : Prop := residueKnownRow.holds Try.pinned (OpenSpec.ofChange residueKnownWrong)

/- THE SECOND FORM. 'bulk': how many values and letters a reading holds, each counted each time it is reached (what is shared counts as often as it is met; a slice's spare places count too). A statement '..UptoSaid' is the law's where the arguments, and the package variables that the reading takes, are together of bulk at most 1048576: NARROWER than '..Said'. Prove '..Said' where nothing that the law and all that it calls make is longer than what came in: it says more and counts as full. Else prove '..UptoSaid'. A law counts once. -/
mutual
def uptoBulk {H : Type} : DataW H → Nat
  | .lit (.string bytes) => bytes.length + 1
  | .lit _ => 1
  | .nil => 1
  | .ptr d => uptoBulk d + 1
  | .slice elems spare => uptoBulkAll elems + uptoBulkAll spare + 1
  | .agg parts => uptoBulkAll parts + 1
  | .iface _ d => uptoBulk d + 1
  | .map entries => uptoBulkEntries entries + 1
  | .held _ => 1
def uptoBulkAll {H : Type} : List (DataW H) → Nat
  | [] => 0
  | d :: r => uptoBulk d + uptoBulkAll r
def uptoBulkEntries {H : Type} : List (Lit × DataW H) → Nat
  | [] => 0
  | x :: r => uptoBulkEntry x + uptoBulkEntries r
def uptoBulkEntry {H : Type} : Lit × DataW H → Nat
  | (.string bytes, d) => bytes.length + uptoBulk d + 1
  | (_, d) => uptoBulk d + 1
 end
def uptoSmall : (H : Type) → List (DataW H) → Bool := fun _ ds => decide (uptoBulkAll ds ≤ 1048576)
def OpenSpec.upto (s : _root_.Go.ChangeSpec) : _root_.Go.OpenSpec := { _root_.Go.OpenSpec.ofChange s with cond := some uptoSmall }

/-- 'isochronlaw23.ResidueChecks', WHERE WHAT IT READS IS OF BULK AT MOST 1048576: true; the input reads as it did. -/
def residueChecksUptoRow : OpenClaim := { program := "ythigggddccklpaa", sum := "f8d5fa7943d2587dd517c19e7365c9aee45b1ccf40883907dcf0253e81c95f09", func := "isochron/isochronlaw23.ResidueChecks", spec := "residueChecks", apart := false, narrowed := true }
def ResidueChecksUptoSaid : Prop := residueChecksUptoRow.holds Try.pinned (OpenSpec.upto residueChecksSpec)

/-- 'isochronlaw23.ResidueAparts', WHERE WHAT IT READS IS OF BULK AT MOST 1048576: true; the input reads as it did. -/
def residueApartsUptoRow : OpenClaim := { program := "ythigggddccklpaa", sum := "f8d5fa7943d2587dd517c19e7365c9aee45b1ccf40883907dcf0253e81c95f09", func := "isochron/isochronlaw23.ResidueAparts", spec := "residueAparts", apart := false, narrowed := true }
def ResidueApartsUptoSaid : Prop := residueApartsUptoRow.holds Try.pinned (OpenSpec.upto residueApartsSpec)

/-- 'isochronlaw23.ResidueNexts', WHERE WHAT IT READS IS OF BULK AT MOST 1048576: true; the input reads as it did. -/
def residueNextsUptoRow : OpenClaim := { program := "ythigggddccklpaa", sum := "f8d5fa7943d2587dd517c19e7365c9aee45b1ccf40883907dcf0253e81c95f09", func := "isochron/isochronlaw23.ResidueNexts", spec := "residueNexts", apart := false, narrowed := true }
def ResidueNextsUptoSaid : Prop := residueNextsUptoRow.holds Try.pinned (OpenSpec.upto residueNextsSpec)

/-- 'isochronlaw23.ResidueMeans', WHERE WHAT IT READS IS OF BULK AT MOST 1048576: true; the input reads as it did. -/
def residueMeansUptoRow : OpenClaim := { program := "ythigggddccklpaa", sum := "f8d5fa7943d2587dd517c19e7365c9aee45b1ccf40883907dcf0253e81c95f09", func := "isochron/isochronlaw23.ResidueMeans", spec := "residueMeans", apart := false, narrowed := true }
def ResidueMeansUptoSaid : Prop := residueMeansUptoRow.holds Try.pinned (OpenSpec.upto residueMeansSpec)

/-- 'isochronlaw23.ResidueMoves', WHERE WHAT IT READS IS OF BULK AT MOST 1048576: true; the input reads as it did. -/
def residueMovesUptoRow : OpenClaim := { program := "ythigggddccklpaa", sum := "f8d5fa7943d2587dd517c19e7365c9aee45b1ccf40883907dcf0253e81c95f09", func := "isochron/isochronlaw23.ResidueMoves", spec := "residueMoves", apart := false, narrowed := true }
def ResidueMovesUptoSaid : Prop := residueMovesUptoRow.holds Try.pinned (OpenSpec.upto residueMovesSpec)

/-- 'isochronlaw23.ResidueLeast', WHERE WHAT IT READS IS OF BULK AT MOST 1048576: true; the input reads as it did. -/
def residueLeastUptoRow : OpenClaim := { program := "ythigggddccklpaa", sum := "f8d5fa7943d2587dd517c19e7365c9aee45b1ccf40883907dcf0253e81c95f09", func := "isochron/isochronlaw23.ResidueLeast", spec := "residueLeast", apart := false, narrowed := true }
def ResidueLeastUptoSaid : Prop := residueLeastUptoRow.holds Try.pinned (OpenSpec.upto residueLeastSpec)

/-- 'isochronlaw23.ResidueKnown', WHERE WHAT IT READS IS OF BULK AT MOST 1048576: true; the input reads as it did. -/
def residueKnownUptoRow : OpenClaim := { program := "ythigggddccklpaa", sum := "f8d5fa7943d2587dd517c19e7365c9aee45b1ccf40883907dcf0253e81c95f09", func := "isochron/isochronlaw23.ResidueKnown", spec := "residueKnown", apart := false, narrowed := true }
def ResidueKnownUptoSaid : Prop := residueKnownUptoRow.holds Try.pinned (OpenSpec.upto residueKnownSpec)

end Rows
end Go.Proofs.Ythigggddccklpaa
