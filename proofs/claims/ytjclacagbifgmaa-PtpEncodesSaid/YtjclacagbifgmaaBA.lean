/- A part of the proof: see the text that states the theorem. -/
import Derived.Test.YtjclacagbifgmaaB1
import Derived.Laws.BitsAllLaws
set_option linter.unusedSimpArgs false
set_option linter.unusedVariables false
set_option linter.unusedSectionVars false
noncomputable section
namespace Go.Proofs.Y10
open Go Go.SX Go.RowKit
theorem w64 (x : Int) : IntKind.i64.wrap x = if x % 18446744073709551616 < 9223372036854775808 then x % 18446744073709551616 else x % 18446744073709551616 - 18446744073709551616 := by
  simp only [IntKind.wrap, IntKind.bits, IntKind.signed]; simp; omega
/-- a number, and one byte more -/
def ow (X y : Int) : Int := bits .or .i64 (IntKind.i64.wrap (X * 2 ^ min 8 IntKind.i64.bits)) (IntKind.i64.wrap y)
theorem ow_eq {X y : Int} (h1 : -36028797018963968 ≤ X) (h2 : X < 36028797018963968) (h3 : 0 ≤ y) (h4 : y < 256) : ow X y = X * 256 + y := by
  have e : X * 2 ^ min 8 IntKind.i64.bits = X * 256 := rfl
  rw [ow, e, wrap64 (x := y) (by omega) (by omega), wrap64 (by omega) (by omega)]
  show IntKind.i64.wrap ((BitVec.ofInt 64 (X * 256) ||| BitVec.ofInt 64 y : BitVec 64).toNat : Int) = _
  simp only [BitVec.toNat_or, BitVec.toNat_ofInt]
  have hx : ((X * 256) % ((2 ^ 64 : Nat) : Int)).toNat % 2 ^ 8 = 0 := by
    have : ((2 ^ 64 : Nat) : Int) = 18446744073709551616 := rfl
    rw [this]; omega
  have hy : (y % ((2 ^ 64 : Nat) : Int)).toNat < 2 ^ 8 := by
    have : ((2 ^ 64 : Nat) : Int) = 18446744073709551616 := rfl
    rw [this]; omega
  rw [Go.nat_join 8 _ _ hx hy]
  have : ((2 ^ 64 : Nat) : Int) = 18446744073709551616 := rfl
  rw [this, w64]
  split <;> omega
end Go.Proofs.Y10
