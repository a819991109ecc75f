/-
  No cell of these rows narrows 'for every input' (looked for: loops, veiled, ifaces, maps, wideKeys, modest, calm, conditions, laid).
  DERIVED. THE GIVEN ROWS OF THIS SEAT. 7 by the template 'for every input the law returns true; each argument reads behind the call as it read before'; 0 by the template 'total and deterministic' (their statements: YtjclacagbifgmaaTotals.lean).
  GIVEN WITH THE SEED: the statements are not yours to turn. If you find one false, say at which input.
  Laid BY PROGRAM, IN A SANDBOX (cutbox-rows.mjs): the forced cells as the released guide's own fill.sh prints them over the translation 1ab854acb7ccd2bb… (all of the seat's roots in one cut). By AI agents, Wed Nov 11 2026. No macro, syntax, notation, axiom, sorry.
-/
import Derived.Test.YtjclacagbifgmaaChecked
import GoSem.Claim
import GoSem.ClaimJoined
import GoSem.ClaimMapViews
import Derived.JoinedTies
import Derived.KernelRfl
namespace Go.Proofs.Ytjclacagbifgmaa
/- THE CELL 'sum', in the pinned program and in every row, IS THE sha256 OF THE DUMP (.gsa) THAT YtjclacagbifgmaaProg.lean LOADS. Nothing in Lean hashes anything: it is a label: what it is worth is what the hold of that sum in a sandbox is worth. -/
noncomputable def Try.pinned : Pinned := { name := "ytjclacagbifgmaa", sum := "1ab854acb7ccd2bb026687a934500fc6504e29d8b6d8c8aad5403e8429860079", checked := Try.checked }
namespace Rows
def none {H : Type} : Left H := { results := [], args := [] }

/-- 'isochronlaw10.PtpChecks': WHATEVER THE INPUT: true; the input reads as it did. -/
def ptpChecksSpec : ChangeSpec := { name := "ptpChecks", fn := fun _ => fun
  | [d1, d2, d3, d4] => { results := [.lit (.bool true)], args := [d1, d2, d3, d4] }
  | _ => none }
def ptpChecksRow : OpenClaim := { program := "ytjclacagbifgmaa", sum := "1ab854acb7ccd2bb026687a934500fc6504e29d8b6d8c8aad5403e8429860079", func := "isochron/isochronlaw10.PtpChecks", spec := "ptpChecks", unfollowed := true, recurses := true, apart := false }
def PtpChecksSaid : Prop := ptpChecksRow.holds Try.pinned (OpenSpec.ofChange ptpChecksSpec)

/-- ITS FALSE NEIGHBOUR: 'it returns false'. Refute it at one input. -/
def ptpChecksWrong : ChangeSpec := { name := "ptpChecks", fn := fun _ => fun
  | [d1, d2, d3, d4] => { results := [.lit (.bool false)], args := [d1, d2, d3, d4] }
  | _ => none }
def PtpChecksWrongFalsely : Prop := ptpChecksRow.holds Try.pinned (OpenSpec.ofChange ptpChecksWrong)

/-- 'isochronlaw10.PtpEncodes': WHATEVER THE INPUT: true; the input reads as it did. -/
def ptpEncodesSpec : ChangeSpec := { name := "ptpEncodes", fn := fun _ => fun
  | [d1, d2, d3] => { results := [.lit (.bool true)], args := [d1, d2, d3] }
  | _ => none }
def ptpEncodesRow : OpenClaim := { program := "ytjclacagbifgmaa", sum := "1ab854acb7ccd2bb026687a934500fc6504e29d8b6d8c8aad5403e8429860079", func := "isochron/isochronlaw10.PtpEncodes", spec := "ptpEncodes", unfollowed := true, recurses := true, apart := false }
def PtpEncodesSaid : Prop := ptpEncodesRow.holds Try.pinned (OpenSpec.ofChange ptpEncodesSpec)

/-- ITS FALSE NEIGHBOUR: 'it returns false'. Refute it at one input. -/
def ptpEncodesWrong : ChangeSpec := { name := "ptpEncodes", fn := fun _ => fun
  | [d1, d2, d3] => { results := [.lit (.bool false)], args := [d1, d2, d3] }
  | _ => none }
def PtpEncodesWrongFalsely : Prop := ptpEncodesRow.holds Try.pinned (OpenSpec.ofChange ptpEncodesWrong)

/-- 'isochronlaw10.PtpDecodes': WHATEVER THE INPUT: true; the input reads as it did. -/
def ptpDecodesSpec : ChangeSpec := { name := "ptpDecodes", fn := fun _ => fun
  | [d1, d2, d3, d4] => { results := [.lit (.bool true)], args := [d1, d2, d3, d4] }
  | _ => none }
def ptpDecodesRow : OpenClaim := { program := "ytjclacagbifgmaa", sum := "1ab854acb7ccd2bb026687a934500fc6504e29d8b6d8c8aad5403e8429860079", func := "isochron/isochronlaw10.PtpDecodes", spec := "ptpDecodes", unfollowed := true, recurses := true, apart := false }
def PtpDecodesSaid : Prop := ptpDecodesRow.holds Try.pinned (OpenSpec.ofChange ptpDecodesSpec)

/-- ITS FALSE NEIGHBOUR: 'it returns false'. Refute it at one input. -/
def ptpDecodesWrong : ChangeSpec := { name := "ptpDecodes", fn := fun _ => fun
  | [d1, d2, d3, d4] => { results := [.lit (.bool false)], args := [d1, d2, d3, d4] }
  | _ => none }
def PtpDecodesWrongFalsely : Prop := ptpDecodesRow.holds Try.pinned (OpenSpec.ofChange ptpDecodesWrong)

/-- 'isochronlaw10.PtpOnce': WHATEVER THE INPUT: true; the input reads as it did. -/
def ptpOnceSpec : ChangeSpec := { name := "ptpOnce", fn := fun _ => fun
  | [d1, d2, d3, d4] => { results := [.lit (.bool true)], args := [d1, d2, d3, d4] }
  | _ => none }
def ptpOnceRow : OpenClaim := { program := "ytjclacagbifgmaa", sum := "1ab854acb7ccd2bb026687a934500fc6504e29d8b6d8c8aad5403e8429860079", func := "isochron/isochronlaw10.PtpOnce", spec := "ptpOnce", unfollowed := true, recurses := true, apart := false }
def PtpOnceSaid : Prop := ptpOnceRow.holds Try.pinned (OpenSpec.ofChange ptpOnceSpec)

/-- ITS FALSE NEIGHBOUR: 'it returns false'. Refute it at one input. -/
def ptpOnceWrong : ChangeSpec := { name := "ptpOnce", fn := fun _ => fun
  | [d1, d2, d3, d4] => { results := [.lit (.bool false)], args := [d1, d2, d3, d4] }
  | _ => none }
def PtpOnceWrongFalsely : Prop := ptpOnceRow.holds Try.pinned (OpenSpec.ofChange ptpOnceWrong)

/-- 'isochronlaw10.PtpApart': WHATEVER THE INPUT: true; the input reads as it did. -/
def ptpApartSpec : ChangeSpec := { name := "ptpApart", fn := fun _ => fun
  | [d1, d2] => { results := [.lit (.bool true)], args := [d1, d2] }
  | _ => none }
def ptpApartRow : OpenClaim := { program := "ytjclacagbifgmaa", sum := "1ab854acb7ccd2bb026687a934500fc6504e29d8b6d8c8aad5403e8429860079", func := "isochron/isochronlaw10.PtpApart", spec := "ptpApart", unfollowed := true, recurses := true, apart := false }
def PtpApartSaid : Prop := ptpApartRow.holds Try.pinned (OpenSpec.ofChange ptpApartSpec)

/-- ITS FALSE NEIGHBOUR: 'it returns false'. Refute it at one input. -/
def ptpApartWrong : ChangeSpec := { name := "ptpApart", fn := fun _ => fun
  | [d1, d2] => { results := [.lit (.bool false)], args := [d1, d2] }
  | _ => none }
def PtpApartWrongFalsely : Prop := ptpApartRow.holds Try.pinned (OpenSpec.ofChange ptpApartWrong)

/-- 'isochronlaw10.PtpKnown': WHATEVER THE INPUT: true; the input reads as it did. -/
def ptpKnownSpec : ChangeSpec := { name := "ptpKnown", fn := fun _ => fun
  | [] => { results := [.lit (.bool true)], args := [] }
  | _ => none }
def ptpKnownRow : OpenClaim := { program := "ytjclacagbifgmaa", sum := "1ab854acb7ccd2bb026687a934500fc6504e29d8b6d8c8aad5403e8429860079", func := "isochron/isochronlaw10.PtpKnown", spec := "ptpKnown", unfollowed := true, recurses := true, apart := false }
def PtpKnownSaid : Prop := ptpKnownRow.holds Try.pinned (OpenSpec.ofChange ptpKnownSpec)

/-- ITS FALSE NEIGHBOUR: 'it returns false'. Refute it at one input. -/
def ptpKnownWrong : ChangeSpec := { name := "ptpKnown", fn := fun _ => fun
  | [] => { results := [.lit (.bool false)], args := [] }
  | _ => none }
def PtpKnownWrongFalsely : Prop := ptpKnownRow.holds Try.pinned (OpenSpec.ofChange ptpKnownWrong)

/-- 'isochronlaw10.PtpBack': WHATEVER THE INPUT: true; the input reads as it did. -/
def ptpBackSpec : ChangeSpec := { name := "ptpBack", fn := fun _ => fun
  | [d1, d2] => { results := [.lit (.bool true)], args := [d1, d2] }
  | _ => none }
def ptpBackRow : OpenClaim := { program := "ytjclacagbifgmaa", sum := "1ab854acb7ccd2bb026687a934500fc6504e29d8b6d8c8aad5403e8429860079", func := "isochron/isochronlaw10.PtpBack", spec := "ptpBack", unfollowed := true, recurses := true, apart := false }
def PtpBackSaid : Prop := ptpBackRow.holds Try.pinned (OpenSpec.ofChange ptpBackSpec)

/-- ITS FALSE NEIGHBOUR: 'it returns false'. Refute it at one input. -/
def ptpBackWrong : ChangeSpec := { name := "ptpBack", fn := fun _ => fun
  | [d1, d2] => { results := [.lit (.bool false)], args := [d1, d2] }
  | _ => none }
def PtpBackWrongFalsely : Prop := ptpBackRow.holds Try.pinned (OpenSpec.ofChange ptpBackWrong)

/- THE SECOND FORM. 'bulk': how many values and letters a reading holds, each counted each time it is reached (what is shared counts as often as it is met; a slice's spare places count too). A statement '..UptoSaid' is the law's where the arguments, and the package variables that the reading takes, are together of bulk at most 1048576: NARROWER than '..Said'. Prove '..Said' where nothing that the law and all that it calls make is longer than what came in: it says more and counts as full. Else prove '..UptoSaid'. A law counts once. -/
mutual
def uptoBulk {H : Type} : DataW H → Nat
  | .lit (.string bytes) => bytes.length + 1
  | .lit _ => 1
  | .nil => 1
  | .ptr d => uptoBulk d + 1
  | .slice elems spare => uptoBulkAll elems + uptoBulkAll spare + 1
  | .agg parts => uptoBulkAll parts + 1
  | .iface _ d => uptoBulk d + 1
  | .map entries => uptoBulkEntries entries + 1
  | .held _ => 1
def uptoBulkAll {H : Type} : List (DataW H) → Nat
  | [] => 0
  | d :: r => uptoBulk d + uptoBulkAll r
def uptoBulkEntries {H : Type} : List (Lit × DataW H) → Nat
  | [] => 0
  | x :: r => uptoBulkEntry x + uptoBulkEntries r
def uptoBulkEntry {H : Type} : Lit × DataW H → Nat
  | (.string bytes, d) => bytes.length + uptoBulk d + 1
  | (_, d) => uptoBulk d + 1
 end
def uptoSmall : (H : Type) → List (DataW H) → Bool := fun _ ds => decide (uptoBulkAll ds ≤ 1048576)
def OpenSpec.upto (s : _root_.Go.ChangeSpec) : _root_.Go.OpenSpec := { _root_.Go.OpenSpec.ofChange s with cond := some uptoSmall }

/-- 'isochronlaw10.PtpChecks', WHERE WHAT IT READS IS OF BULK AT MOST 1048576: true; the input reads as it did. -/
def ptpChecksUptoRow : OpenClaim := { program := "ytjclacagbifgmaa", sum := "1ab854acb7ccd2bb026687a934500fc6504e29d8b6d8c8aad5403e8429860079", func := "isochron/isochronlaw10.PtpChecks", spec := "ptpChecks", unfollowed := true, recurses := true, apart := false, narrowed := true }
def PtpChecksUptoSaid : Prop := ptpChecksUptoRow.holds Try.pinned (OpenSpec.upto ptpChecksSpec)

/-- 'isochronlaw10.PtpEncodes', WHERE WHAT IT READS IS OF BULK AT MOST 1048576: true; the input reads as it did. -/
def ptpEncodesUptoRow : OpenClaim := { program := "ytjclacagbifgmaa", sum := "1ab854acb7ccd2bb026687a934500fc6504e29d8b6d8c8aad5403e8429860079", func := "isochron/isochronlaw10.PtpEncodes", spec := "ptpEncodes", unfollowed := true, recurses := true, apart := false, narrowed := true }
def PtpEncodesUptoSaid : Prop := ptpEncodesUptoRow.holds Try.pinned (OpenSpec.upto ptpEncodesSpec)

/-- 'isochronlaw10.PtpDecodes', WHERE WHAT IT READS IS OF BULK AT MOST 1048576: true; the input reads as it did. -/
def ptpDecodesUptoRow : OpenClaim := { program := "ytjclacagbifgmaa", sum := "1ab854acb7ccd2bb026687a934500fc6504e29d8b6d8c8aad5403e8429860079", func := "isochron/isochronlaw10.PtpDecodes", spec := "ptpDecodes", unfollowed := true, recurses := true, apart := false, narrowed := true }
def PtpDecodesUptoSaid : Prop := ptpDecodesUptoRow.holds Try.pinned (OpenSpec.upto ptpDecodesSpec)

/-- 'isochronlaw10.PtpOnce', WHERE WHAT IT READS IS OF BULK AT MOST 1048576: true; the input reads as it did. -/
def ptpOnceUptoRow : OpenClaim := { program := "ytjclacagbifgmaa", sum := "1ab854acb7ccd2bb026687a934500fc6504e29d8b6d8c8aad5403e8429860079", func := "isochron/isochronlaw10.PtpOnce", spec := "ptpOnce", unfollowed := true, recurses := true, apart := false, narrowed := true }
def PtpOnceUptoSaid : Prop := ptpOnceUptoRow.holds Try.pinned (OpenSpec.upto ptpOnceSpec)

/-- 'isochronlaw10.PtpApart', WHERE WHAT IT READS IS OF BULK AT MOST 1048576: true; the input reads as it did. -/
def ptpApartUptoRow : OpenClaim := { program := "ytjclacagbifgmaa", sum := "1ab854acb7ccd2bb026687a934500fc6504e29d8b6d8c8aad5403e8429860079", func := "isochron/isochronlaw10.PtpApart", spec := "ptpApart", unfollowed := true, recurses := true, apart := false, narrowed := true }
def PtpApartUptoSaid : Prop := ptpApartUptoRow.holds Try.pinned (OpenSpec.upto ptpApartSpec)

/-- 'isochronlaw10.PtpKnown', WHERE WHAT IT READS IS OF BULK AT MOST 1048576: true; the input reads as it did. -/
def ptpKnownUptoRow : OpenClaim := { program := "ytjclacagbifgmaa", sum := "1ab854acb7ccd2bb026687a934500fc6504e29d8b6d8c8aad5403e8429860079", func := "isochron/isochronlaw10.PtpKnown", spec := "ptpKnown", unfollowed := true, recurses := true, apart := false, narrowed := true }
def PtpKnownUptoSaid : Prop := ptpKnownUptoRow.holds Try.pinned (OpenSpec.upto ptpKnownSpec)

/-- 'isochronlaw10.PtpBack', WHERE WHAT IT READS IS OF BULK AT MOST 1048576: true; the input reads as it did. -/
def ptpBackUptoRow : OpenClaim := { program := "ytjclacagbifgmaa", sum := "1ab854acb7ccd2bb026687a934500fc6504e29d8b6d8c8aad5403e8429860079", func := "isochron/isochronlaw10.PtpBack", spec := "ptpBack", unfollowed := true, recurses := true, apart := false, narrowed := true }
def PtpBackUptoSaid : Prop := ptpBackUptoRow.holds Try.pinned (OpenSpec.upto ptpBackSpec)

end Rows
end Go.Proofs.Ytjclacagbifgmaa
