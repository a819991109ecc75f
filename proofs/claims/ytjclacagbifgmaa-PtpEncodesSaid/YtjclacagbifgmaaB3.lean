/- A part of the proof: see the text that states the theorem. -/
import Derived.Test.YtjclacagbifgmaaB2
set_option linter.unusedSimpArgs false
set_option linter.unusedVariables false
set_option linter.unusedSectionVars false
noncomputable section
namespace Go.Proofs.Y10
open Go Go.SX Go.RowKit
theorem wi {x : Int} (h1 : -9223372036854775808 ≤ x) (h2 : x < 9223372036854775808) : IntKind.i64.wrap x = x := wrap64 h1 h2
theorem wu {x : Int} (h1 : 0 ≤ x) (h2 : x < 18446744073709551616) : IntKind.u64.wrap x = x := by
  simp only [IntKind.wrap, IntKind.bits, IntKind.signed]; simp; omega
theorem wn {a b c d e f g h : Int} (x1 : 128 ≤ a ∧ a < 256) (x2 : 0 ≤ b ∧ b < 256) (x3 : 0 ≤ c ∧ c < 256) (x4 : 0 ≤ d ∧ d < 256) (x5 : 0 ≤ e ∧ e < 256) (x6 : 0 ≤ f ∧ f < 256) (x7 : 0 ≤ g ∧ g < 256) (x8 : 0 ≤ h ∧ h < 256) :
    IntKind.i64.wrap (((((((a * 256 + b) * 256 + c) * 256 + d) * 256 + e) * 256 + f) * 256 + g) * 256 + h) = (((((((-256 + a) * 256 + b) * 256 + c) * 256 + d) * 256 + e) * 256 + f) * 256 + g) * 256 + h := by
  rw [w64]; split <;> omega
theorem fd56 {Y h : Int} (h1 : 0 ≤ h) (h2 : h < 256) : (Y * 256 + h).fdiv (2 ^ min 56 IntKind.i64.bits) = Y.fdiv (2 ^ min 48 IntKind.i64.bits) := by
  rw [Int.fdiv_eq_ediv_of_nonneg _ (by decide), Int.fdiv_eq_ediv_of_nonneg _ (by decide)]
  simp only [IntKind.bits]
  have e1 : (2 : Int) ^ min 56 64 = 72057594037927936 := by decide
  have e2 : (2 : Int) ^ min 48 64 = 281474976710656 := by decide
  rw [e1, e2]; omega
theorem fd48 {Y h : Int} (h1 : 0 ≤ h) (h2 : h < 256) : (Y * 256 + h).fdiv (2 ^ min 48 IntKind.i64.bits) = Y.fdiv (2 ^ min 40 IntKind.i64.bits) := by
  rw [Int.fdiv_eq_ediv_of_nonneg _ (by decide), Int.fdiv_eq_ediv_of_nonneg _ (by decide)]
  simp only [IntKind.bits]
  have e1 : (2 : Int) ^ min 48 64 = 281474976710656 := by decide
  have e2 : (2 : Int) ^ min 40 64 = 1099511627776 := by decide
  rw [e1, e2]; omega
theorem fd40 {Y h : Int} (h1 : 0 ≤ h) (h2 : h < 256) : (Y * 256 + h).fdiv (2 ^ min 40 IntKind.i64.bits) = Y.fdiv (2 ^ min 32 IntKind.i64.bits) := by
  rw [Int.fdiv_eq_ediv_of_nonneg _ (by decide), Int.fdiv_eq_ediv_of_nonneg _ (by decide)]
  simp only [IntKind.bits]
  have e1 : (2 : Int) ^ min 40 64 = 1099511627776 := by decide
  have e2 : (2 : Int) ^ min 32 64 = 4294967296 := by decide
  rw [e1, e2]; omega
theorem fd32 {Y h : Int} (h1 : 0 ≤ h) (h2 : h < 256) : (Y * 256 + h).fdiv (2 ^ min 32 IntKind.i64.bits) = Y.fdiv (2 ^ min 24 IntKind.i64.bits) := by
  rw [Int.fdiv_eq_ediv_of_nonneg _ (by decide), Int.fdiv_eq_ediv_of_nonneg _ (by decide)]
  simp only [IntKind.bits]
  have e1 : (2 : Int) ^ min 32 64 = 4294967296 := by decide
  have e2 : (2 : Int) ^ min 24 64 = 16777216 := by decide
  rw [e1, e2]; omega
theorem fd24 {Y h : Int} (h1 : 0 ≤ h) (h2 : h < 256) : (Y * 256 + h).fdiv (2 ^ min 24 IntKind.i64.bits) = Y.fdiv (2 ^ min 16 IntKind.i64.bits) := by
  rw [Int.fdiv_eq_ediv_of_nonneg _ (by decide), Int.fdiv_eq_ediv_of_nonneg _ (by decide)]
  simp only [IntKind.bits]
  have e1 : (2 : Int) ^ min 24 64 = 16777216 := by decide
  have e2 : (2 : Int) ^ min 16 64 = 65536 := by decide
  rw [e1, e2]; omega
theorem fd16 {Y h : Int} (h1 : 0 ≤ h) (h2 : h < 256) : (Y * 256 + h).fdiv (2 ^ min 16 IntKind.i64.bits) = Y.fdiv (2 ^ min 8 IntKind.i64.bits) := by
  rw [Int.fdiv_eq_ediv_of_nonneg _ (by decide), Int.fdiv_eq_ediv_of_nonneg _ (by decide)]
  simp only [IntKind.bits]
  have e1 : (2 : Int) ^ min 16 64 = 65536 := by decide
  have e2 : (2 : Int) ^ min 8 64 = 256 := by decide
  rw [e1, e2]; omega
theorem fd8 {Y h : Int} (h1 : 0 ≤ h) (h2 : h < 256) : (Y * 256 + h).fdiv (2 ^ min 8 IntKind.i64.bits) = Y := by
  rw [Int.fdiv_eq_ediv_of_nonneg _ (by decide)]
  have e1 : (2 : Int) ^ min 8 IntKind.i64.bits = 256 := by decide
  rw [e1]; omega
theorem u8h {Y h : Int} (h1 : 0 ≤ h) (h2 : h < 256) : IntKind.u8.wrap (Y * 256 + h) = h := by rw [u8w]; omega
theorem u8n {h : Int} (h1 : 0 ≤ h) (h2 : h < 256) : IntKind.u8.wrap (-256 + h) = h := by rw [u8w]; omega
theorem u8s {h : Int} (h1 : 0 ≤ h) (h2 : h < 256) : IntKind.u8.wrap h = h := by rw [u8w]; omega
end Go.Proofs.Y10
