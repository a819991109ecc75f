/- Proves that ResidueChecks returns true for every span, every three bytes and every time, and that its arguments read as before. No condition. -/
import Derived.Test.YthigggddccklpaaA6
import Derived.Test.YthigggddccklpaaSxV
import Derived.Test.YthigggddccklpaaRows
import Derived.WalkKit
import Derived.ProofKit
import Derived.OpenShut
import Derived.ShutString
import Derived.ChangeOld
import Derived.Below
set_option linter.unusedSimpArgs false
set_option linter.unusedVariables false
set_option linter.unusedSectionVars false
namespace Go.Proofs.Ythigggddccklpaa
open Go.ChangeShapes Go.WideShapes Go.ChangeAt Go.RowKit Go.SX
set_option linter.unusedVariables false
theorem own : ownKnob Try.prog.godebug = none := by kernel_rfl
theorem laidOut : laidOutB Try.prog = true := by kernel_rfl
theorem flat23 : flatT Try.prog 20 23 = some [.int .i64, .int .i64, .int .i64] := by kernel_rfl
theorem flat24 : flatT Try.prog 20 24 = some [.int .u8, .int .u8, .int .u8] := by kernel_rfl
theorem flat34 : flatT Try.prog 20 34 = some [.int .u8, .int .u8, .int .u8, .int .u8, .int .u8, .int .u8] := by kernel_rfl
theorem fits3 {k : IntKind} {r : List Dat} (h : FitsP [.int k, .int k, .int k] r) : ∃ a b c, r = [.i a, .i b, .i c] ∧ (Lit.int k a).wf = true ∧ (Lit.int k b).wf = true ∧ (Lit.int k c).wf = true := by
  match r, h with
  | [.i a, .i b, .i c], ⟨h1, h2, h3, _⟩ => exact ⟨a, b, c, rfl, h1, h2, h3⟩
theorem fits6 {k : IntKind} {r : List Dat} (h : FitsP [.int k, .int k, .int k, .int k, .int k, .int k] r) : ∃ a b c d e f, r = [.i a, .i b, .i c, .i d, .i e, .i f] ∧ (Lit.int k a).wf = true ∧ (Lit.int k b).wf = true ∧ (Lit.int k c).wf = true ∧ (Lit.int k d).wf = true ∧ (Lit.int k e).wf = true ∧ (Lit.int k f).wf = true := by
  match r, h with
  | [.i a, .i b, .i c, .i d, .i e, .i f], ⟨h1, h2, h3, h4, h5, h6, _⟩ => exact ⟨a, b, c, d, e, f, rfl, h1, h2, h3, h4, h5, h6⟩
theorem wf_u8 {n : Int} (h : (Lit.int .u8 n).wf = true) : 0 ≤ n ∧ n < 256 := by
  have := bounds_u8 h; omega
set_option maxRecDepth 100000 in
theorem checks_lifted (os : Os) (started : os.Started) (H : Type) (enc : TypeId × Value → H) :
    ReturnsInHanded {} Try.checked os 3 .any (Rows.residueChecksSpec.pre6 enc Try.prog Try.f3 Rows.residueChecksRow.domain false) (Rows.residueChecksSpec.post enc Try.prog Try.f3 false true false false) := by
  refine returnsInHanded_of_change (C := Try.checked) own started (by kernel_rfl) Try.func3
    (ChangeSpec.witness6 (enc := enc) (C := Try.checked) false ⟨#[], #[.agg #[.int .i64 0, .int .i64 0, .int .i64 0], .agg #[.int .u8 0, .int .u8 0, .int .u8 0], .int .i64 0], []⟩ 8 (by kernel_rfl) (by kernel_rfl) (by kernel_rfl) (by kernel_rfl)) ?_
  intro W base args ds gs before hval0 hW hcnd _
  have hval : ∀ (j : Nat) t v, Try.f3.params[j]? = some t → args[j]? = some v → Value.okWide Try.prog W .any base t v := hval0
  have hW' := hW
  obtain ⟨p, q, hA0, hV, rfl, hfz, hnd⟩ := hW
  have hA : DataW.TrodAll enc Try.prog W 0 (fun _ => true) true Try.f3.params.toList args.toList ds p := hA0
  rw [Try.params3] at hA hval
  obtain ⟨v0, vs0, d0, ds0, p0, q0, hargs, rfl, rfl, h0, r0⟩ := trodAll_cons hA
  obtain ⟨v1, vs1, d1, ds1, p1, q1, rfl, rfl, rfl, h1, r1⟩ := trodAll_cons r0
  obtain ⟨v2, vs2, d2, ds2, p2, q2, rfl, rfl, rfl, h2, r2⟩ := trodAll_cons r1
  obtain ⟨rfl, rfl, rfl⟩ := trodAll_nil r2
  obtain rfl : args = #[v0, v1, v2] := by cases args; simp_all
  obtain ⟨rfl, rfl⟩ := trodVars_none hV
  have lt0 : ∀ x ∈ p0, x.block < W.heap.size := by obtain ⟨m, hm⟩ := h0; exact DataW.trod_lt m _ _ _ hm
  have lt1 : ∀ x ∈ p1, x.block < W.heap.size := by obtain ⟨m, hm⟩ := h1; exact DataW.trod_lt m _ _ _ hm
  have lt2 : ∀ x ∈ p2, x.block < W.heap.size := by obtain ⟨m, hm⟩ := h2; exact DataW.trod_lt m _ _ _ hm
  obtain ⟨s0, f0, rfl⟩ := open_flat (by kernel_rfl) flat23 (hval 0 23 v0 rfl rfl) h0
  obtain ⟨s1, f1, rfl⟩ := open_flat (by kernel_rfl) flat24 (hval 1 24 v1 rfl rfl) h1
  obtain ⟨t, rfl, _, _, _⟩ := open_int Try.underlying3 (hval 2 3 v2 rfl rfl) h2
  obtain ⟨a0, a1, a2, rfl, -, -, -⟩ := fits3 f0
  obtain ⟨b0, b1, b2, rfl, w0, w1, w2⟩ := fits3 f1
  clear hA0 hval0
  refine (Y23.l_Checks a0 a1 a2 b0 b1 b2 t (wf_u8 w0) (wf_u8 w1) (wf_u8 w2) W).mono fun e W' ⟨he, bel⟩ => ?_
  subst he
  exact ⟨_, rfl, _, _, _, [], _, [], hW', trodAll_mk1 (shut_bool Try.underlying4 _), (trodAll_cons_mk (Below.trod laidOut (by kernel_rfl) (of_decide_eq_true (by kernel_rfl)) h0 bel lt0) (trodAll_cons_mk (Below.trod laidOut (by kernel_rfl) (of_decide_eq_true (by kernel_rfl)) h1 bel lt1) (trodAll_cons_mk (Below.trod laidOut (by kernel_rfl) (of_decide_eq_true (by kernel_rfl)) h2 bel lt2) trodAll_mk0))), rfl, bel.frame _, fun h => by cases h⟩
theorem checks_over : Rows.residueChecksRow.holds Try.pinned (OpenSpec.ofChange Rows.residueChecksSpec) :=
  OpenClaim.holds_of_wide 3 Try.f3 rfl rfl rfl rfl rfl rfl rfl ⟨rfl, rfl, rfl, rfl, rfl⟩ rfl rfl rfl rfl rfl (by kernel_rfl) Try.func3 (by kernel_rfl)
    (of_decide_eq_true (by kernel_rfl)) (by unfold Func.isWrapper; first | (rw [if_pos (by decide +kernel)]; kernel_rfl) | (rw [if_neg (by decide +kernel)]; exact ⟨rfl, rfl⟩))
    (fun os started H enc _ => checks_lifted os started H enc)
theorem checks_proved : Rows.ResidueChecksSaid := checks_over
#print axioms checks_proved
end Go.Proofs.Ythigggddccklpaa
