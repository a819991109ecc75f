/-
  No cell of these rows narrows 'for every input' (looked for: loops, veiled, ifaces, maps, wideKeys, modest, calm, conditions, laid).
  DERIVED. THE GIVEN ROWS OF THIS SEAT. 5 by the template 'for every input the law returns true; each argument reads behind the call as it read before'; 0 by the template 'total and deterministic' (their statements: YtkkfmhkmkakolaaTotals.lean).
  GIVEN WITH THE SEED: the statements are not yours to turn. If you find one false, say at which input.
  Laid BY PROGRAM, IN A SANDBOX (cutbox-rows.mjs): the forced cells as the released guide's own fill.sh prints them over the translation 28663818f4578c39… (all of the seat's roots in one cut). By AI agents, Wed Nov 11 2026. No macro, syntax, notation, axiom, sorry.
-/
import Derived.Test.YtkkfmhkmkakolaaChecked
import GoSem.Claim
import GoSem.ClaimJoined
import GoSem.ClaimMapViews
import Derived.JoinedTies
import Derived.KernelRfl
namespace Go.Proofs.Ytkkfmhkmkakolaa
/- THE CELL 'sum', in the pinned program and in every row, IS THE sha256 OF THE DUMP (.gsa) THAT YtkkfmhkmkakolaaProg.lean LOADS. Nothing in Lean hashes anything: it is a label: what it is worth is what the hold of that sum in a sandbox is worth. -/
noncomputable def Try.pinned : Pinned := { name := "ytkkfmhkmkakolaa", sum := "28663818f4578c39708ffebd2ed57a549c39a7ae3585bd7ecd054a3ea9e66a43", checked := Try.checked }
namespace Rows
def none {H : Type} : Left H := { results := [], args := [] }

/-- 'isochronlaw11.ElectSettles': WHATEVER THE INPUT: true; the input reads as it did. -/
def electSettlesSpec : ChangeSpec := { name := "electSettles", fn := fun _ => fun
  | [d1, d2, d3] => { results := [.lit (.bool true)], args := [d1, d2, d3] }
  | _ => none }
def electSettlesRow : OpenClaim := { program := "ytkkfmhkmkakolaa", sum := "28663818f4578c39708ffebd2ed57a549c39a7ae3585bd7ecd054a3ea9e66a43", func := "isochron/isochronlaw11.ElectSettles", spec := "electSettles", unfollowed := true, recurses := true, apart := false }
def ElectSettlesSaid : Prop := electSettlesRow.holds Try.pinned (OpenSpec.ofChange electSettlesSpec)

/-- ITS FALSE NEIGHBOUR: 'it returns false'. Refute it at one input. -/
def electSettlesWrong : ChangeSpec := { name := "electSettles", fn := fun _ => fun
  | [d1, d2, d3] => { results := [.lit (.bool false)], args := [d1, d2, d3] }
  | _ => none }
def ElectSettlesWrongFalsely : Prop := electSettlesRow.holds Try.pinned (OpenSpec.ofChange electSettlesWrong)

/-- 'isochronlaw11.ElectTree': WHATEVER THE INPUT: true; the input reads as it did. -/
def electTreeSpec : ChangeSpec := { name := "electTree", fn := fun _ => fun
  | [d] => { results := [.lit (.bool true)], args := [d] }
  | _ => none }
def electTreeRow : OpenClaim := { program := "ytkkfmhkmkakolaa", sum := "28663818f4578c39708ffebd2ed57a549c39a7ae3585bd7ecd054a3ea9e66a43", func := "isochron/isochronlaw11.ElectTree", spec := "electTree", unfollowed := true, recurses := true, apart := false }
def ElectTreeSaid : Prop := electTreeRow.holds Try.pinned (OpenSpec.ofChange electTreeSpec)

/-- ITS FALSE NEIGHBOUR: 'it returns false'. Refute it at one input. -/
def electTreeWrong : ChangeSpec := { name := "electTree", fn := fun _ => fun
  | [d] => { results := [.lit (.bool false)], args := [d] }
  | _ => none }
def ElectTreeWrongFalsely : Prop := electTreeRow.holds Try.pinned (OpenSpec.ofChange electTreeWrong)

/-- 'isochronlaw11.ElectPorts': WHATEVER THE INPUT: true; the input reads as it did. -/
def electPortsSpec : ChangeSpec := { name := "electPorts", fn := fun _ => fun
  | [d] => { results := [.lit (.bool true)], args := [d] }
  | _ => none }
def electPortsRow : OpenClaim := { program := "ytkkfmhkmkakolaa", sum := "28663818f4578c39708ffebd2ed57a549c39a7ae3585bd7ecd054a3ea9e66a43", func := "isochron/isochronlaw11.ElectPorts", spec := "electPorts", unfollowed := true, recurses := true, apart := false }
def ElectPortsSaid : Prop := electPortsRow.holds Try.pinned (OpenSpec.ofChange electPortsSpec)

/-- ITS FALSE NEIGHBOUR: 'it returns false'. Refute it at one input. -/
def electPortsWrong : ChangeSpec := { name := "electPorts", fn := fun _ => fun
  | [d] => { results := [.lit (.bool false)], args := [d] }
  | _ => none }
def ElectPortsWrongFalsely : Prop := electPortsRow.holds Try.pinned (OpenSpec.ofChange electPortsWrong)

/-- 'isochronlaw11.ElectOrders': WHATEVER THE INPUT: true; the input reads as it did. -/
def electOrdersSpec : ChangeSpec := { name := "electOrders", fn := fun _ => fun
  | [d1, d2, d3] => { results := [.lit (.bool true)], args := [d1, d2, d3] }
  | _ => none }
def electOrdersRow : OpenClaim := { program := "ytkkfmhkmkakolaa", sum := "28663818f4578c39708ffebd2ed57a549c39a7ae3585bd7ecd054a3ea9e66a43", func := "isochron/isochronlaw11.ElectOrders", spec := "electOrders", unfollowed := true, recurses := true, apart := false }
def ElectOrdersSaid : Prop := electOrdersRow.holds Try.pinned (OpenSpec.ofChange electOrdersSpec)

/-- ITS FALSE NEIGHBOUR: 'it returns false'. Refute it at one input. -/
def electOrdersWrong : ChangeSpec := { name := "electOrders", fn := fun _ => fun
  | [d1, d2, d3] => { results := [.lit (.bool false)], args := [d1, d2, d3] }
  | _ => none }
def ElectOrdersWrongFalsely : Prop := electOrdersRow.holds Try.pinned (OpenSpec.ofChange electOrdersWrong)

/-- 'isochronlaw11.ElectKnown': WHATEVER THE INPUT: true; the input reads as it did. -/
def electKnownSpec : ChangeSpec := { name := "electKnown", fn := fun _ => fun
  | [] => { results := [.lit (.bool true)], args := [] }
  | _ => none }
def electKnownRow : OpenClaim := { program := "ytkkfmhkmkakolaa", sum := "28663818f4578c39708ffebd2ed57a549c39a7ae3585bd7ecd054a3ea9e66a43", func := "isochron/isochronlaw11.ElectKnown", spec := "electKnown", unfollowed := true, recurses := true, apart := false }
def ElectKnownSaid : Prop := electKnownRow.holds Try.pinned (OpenSpec.ofChange electKnownSpec)

/-- ITS FALSE NEIGHBOUR: 'it returns false'. Refute it at one input. -/
def electKnownWrong : ChangeSpec := { name := "electKnown", fn := fun _ => fun
  | [] => { results := [.lit (.bool false)], args := [] }
  | _ => none }
def ElectKnownWrongFalsely : Prop := electKnownRow.holds Try.pinned (OpenSpec.ofChange electKnownWrong)

/- THE SECOND FORM. 'bulk': how many values and letters a reading holds, each counted each time it is reached (what is shared counts as often as it is met; a slice's spare places count too). A statement '..UptoSaid' is the law's where the arguments, and the package variables that the reading takes, are together of bulk at most 1048576: NARROWER than '..Said'. Prove '..Said' where nothing that the law and all that it calls make is longer than what came in: it says more and counts as full. Else prove '..UptoSaid'. A law counts once. -/
mutual
def uptoBulk {H : Type} : DataW H → Nat
  | .lit (.string bytes) => bytes.length + 1
  | .lit _ => 1
  | .nil => 1
  | .ptr d => uptoBulk d + 1
  | .slice elems spare => uptoBulkAll elems + uptoBulkAll spare + 1
  | .agg parts => uptoBulkAll parts + 1
  | .iface _ d => uptoBulk d + 1
  | .map entries => uptoBulkEntries entries + 1
  | .held _ => 1
def uptoBulkAll {H : Type} : List (DataW H) → Nat
  | [] => 0
  | d :: r => uptoBulk d + uptoBulkAll r
def uptoBulkEntries {H : Type} : List (Lit × DataW H) → Nat
  | [] => 0
  | x :: r => uptoBulkEntry x + uptoBulkEntries r
def uptoBulkEntry {H : Type} : Lit × DataW H → Nat
  | (.string bytes, d) => bytes.length + uptoBulk d + 1
  | (_, d) => uptoBulk d + 1
 end
def uptoSmall : (H : Type) → List (DataW H) → Bool := fun _ ds => decide (uptoBulkAll ds ≤ 1048576)
def OpenSpec.upto (s : _root_.Go.ChangeSpec) : _root_.Go.OpenSpec := { _root_.Go.OpenSpec.ofChange s with cond := some uptoSmall }

/-- 'isochronlaw11.ElectSettles', WHERE WHAT IT READS IS OF BULK AT MOST 1048576: true; the input reads as it did. -/
def electSettlesUptoRow : OpenClaim := { program := "ytkkfmhkmkakolaa", sum := "28663818f4578c39708ffebd2ed57a549c39a7ae3585bd7ecd054a3ea9e66a43", func := "isochron/isochronlaw11.ElectSettles", spec := "electSettles", unfollowed := true, recurses := true, apart := false, narrowed := true }
def ElectSettlesUptoSaid : Prop := electSettlesUptoRow.holds Try.pinned (OpenSpec.upto electSettlesSpec)

/-- 'isochronlaw11.ElectTree', WHERE WHAT IT READS IS OF BULK AT MOST 1048576: true; the input reads as it did. -/
def electTreeUptoRow : OpenClaim := { program := "ytkkfmhkmkakolaa", sum := "28663818f4578c39708ffebd2ed57a549c39a7ae3585bd7ecd054a3ea9e66a43", func := "isochron/isochronlaw11.ElectTree", spec := "electTree", unfollowed := true, recurses := true, apart := false, narrowed := true }
def ElectTreeUptoSaid : Prop := electTreeUptoRow.holds Try.pinned (OpenSpec.upto electTreeSpec)

/-- 'isochronlaw11.ElectPorts', WHERE WHAT IT READS IS OF BULK AT MOST 1048576: true; the input reads as it did. -/
def electPortsUptoRow : OpenClaim := { program := "ytkkfmhkmkakolaa", sum := "28663818f4578c39708ffebd2ed57a549c39a7ae3585bd7ecd054a3ea9e66a43", func := "isochron/isochronlaw11.ElectPorts", spec := "electPorts", unfollowed := true, recurses := true, apart := false, narrowed := true }
def ElectPortsUptoSaid : Prop := electPortsUptoRow.holds Try.pinned (OpenSpec.upto electPortsSpec)

/-- 'isochronlaw11.ElectOrders', WHERE WHAT IT READS IS OF BULK AT MOST 1048576: true; the input reads as it did. -/
def electOrdersUptoRow : OpenClaim := { program := "ytkkfmhkmkakolaa", sum := "28663818f4578c39708ffebd2ed57a549c39a7ae3585bd7ecd054a3ea9e66a43", func := "isochron/isochronlaw11.ElectOrders", spec := "electOrders", unfollowed := true, recurses := true, apart := false, narrowed := true }
def ElectOrdersUptoSaid : Prop := electOrdersUptoRow.holds Try.pinned (OpenSpec.upto electOrdersSpec)

/-- 'isochronlaw11.ElectKnown', WHERE WHAT IT READS IS OF BULK AT MOST 1048576: true; the input reads as it did. -/
def electKnownUptoRow : OpenClaim := { program := "ytkkfmhkmkakolaa", sum := "28663818f4578c39708ffebd2ed57a549c39a7ae3585bd7ecd054a3ea9e66a43", func := "isochron/isochronlaw11.ElectKnown", spec := "electKnown", unfollowed := true, recurses := true, apart := false, narrowed := true }
def ElectKnownUptoSaid : Prop := electKnownUptoRow.holds Try.pinned (OpenSpec.upto electKnownSpec)

end Rows
end Go.Proofs.Ytkkfmhkmkakolaa
