/- Proves that SpanSends returns true for every bridge, and that its arguments read as before. No condition. -/
import Derived.Test.YtkjladilnoggaaaBT
import Derived.Test.YtkjladilnoggaaaL4
import Derived.WalkKit
import Derived.ProofKit
import Derived.OpenShut
import Derived.ShutString
import Derived.ChangeOld
import Derived.Below
set_option linter.unusedSimpArgs false
set_option linter.unusedVariables false
set_option linter.unusedSectionVars false
noncomputable section
namespace Go.Proofs.Ytkjladilnoggaaa
open Go.ChangeShapes Go.WideShapes Go.ChangeAt Go.RowKit Go.SX
set_option linter.unusedVariables false
set_option maxRecDepth 100000 in
theorem spanSends_lifted (os : Os) (started : os.Started) (H : Type) (enc : TypeId × Value → H) :
    ReturnsInHanded {} Try.checked os 4 .any (Rows.spanSendsSpec.pre6 enc Try.prog Try.f4 Rows.spanSendsRow.domain false) (Rows.spanSendsSpec.post enc Try.prog Try.f4 false true false false) := by
  refine returnsInHanded_of_change (C := Try.checked) own started (by kernel_rfl) Try.func4
    (ChangeSpec.witness6 (enc := enc) (C := Try.checked) false ⟨#[], #[.agg #[.int .i64 0, .int .i64 0, .slice none 0 0, .slice none 0 0, .slice none 0 0]], []⟩ 8 (by kernel_rfl) (by kernel_rfl) (by kernel_rfl) (by kernel_rfl)) ?_
  intro W base args ds gs before hval0 hW hcnd _
  have hval : ∀ (j : Nat) t v, Try.f4.params[j]? = some t → args[j]? = some v → Value.okWide Try.prog W .any base t v := hval0
  have hW' := hW
  obtain ⟨p, q, hA0, hV, rfl, hfz, hnd⟩ := hW
  have hA : DataW.TrodAll enc Try.prog W 0 (fun _ => true) true Try.f4.params.toList args.toList ds p := hA0
  rw [Try.params4] at hA hval
  obtain ⟨v0, vs0, d0, ds0, p0, q0, hargs, rfl, rfl, h0, r0⟩ := trodAll_cons hA
  obtain ⟨rfl, rfl, rfl⟩ := trodAll_nil r0
  obtain rfl : args = #[v0] := by cases args; simp_all
  obtain ⟨rfl, rfl⟩ := trodVars_none hV
  have lt0 : ∀ x ∈ p0, x.block < W.heap.size := by obtain ⟨m, hm⟩ := h0; exact DataW.trod_lt m _ _ _ hm
  obtain ⟨cs0, rfl, fm0, ok0⟩ := open_mixed (by kernel_rfl) fm27 ct27 (hval 0 27 v0 rfl rfl) h0
  obtain ⟨op, on, c1, c2, c3, rfl, t1, t2, t3⟩ := fitsB fm0
  obtain ⟨r1, n1, b1, o1, k1, f1, rfl, x1, y1, z1, m1⟩ := open_cell_slice Try.underlying24 flat3 (by kernel_rfl) (ok0 2 c1 24 rfl rfl) t1
  obtain ⟨r2, n2, b2, o2, k2, f2, rfl, x2, y2, z2, m2⟩ := open_cell_slice Try.underlying24 flat3 (by kernel_rfl) (ok0 3 c2 24 rfl rfl) t2
  obtain ⟨r3, n3, b3, o3, k3, f3, rfl, x3, y3, z3, m3⟩ := open_cell_slice Try.underlying25 flat51 (by kernel_rfl) (ok0 4 c3 25 rfl rfl) t3
  obtain ⟨ps, rfl⟩ := rowsInts f1
  obtain ⟨cs, rfl⟩ := rowsInts f2
  obtain ⟨hs, rfl⟩ := rowsHds f3
  clear hA0 hval0
  refine ((fun _ => Y19.l_Sends ⟨op, on, ps, cs, hs⟩ _ W n1 n2 n3 b1 o1 k1 b2 o2 k2 b3 o3 k3 (by simp [Y19.rowsI_len, Y19.rowsH_len]) ⟨x1, by simpa using y1, m1⟩ ⟨x2, by simpa using y2, m2⟩ ⟨x3, by simpa using y3, m3⟩) W).mono fun e W' ⟨he, bel⟩ => ?_
  subst he
  exact ⟨_, rfl, _, _, _, [], _, [], hW', trodAll_mk1 (shut_bool Try.underlying4 _), (trodAll_cons_mk (Below.trod laidOut (by kernel_rfl) (of_decide_eq_true (by kernel_rfl)) h0 bel lt0) trodAll_mk0), rfl, bel.frame _, fun h => by cases h⟩
theorem spanSends_over : Rows.spanSendsRow.holds Try.pinned (OpenSpec.ofChange Rows.spanSendsSpec) :=
  OpenClaim.holds_of_wide 4 Try.f4 rfl rfl rfl rfl rfl rfl rfl ⟨rfl, rfl, rfl, rfl, rfl⟩ rfl rfl rfl rfl rfl (by kernel_rfl) Try.func4 (by kernel_rfl)
    (of_decide_eq_true (by kernel_rfl)) (by unfold Func.isWrapper; first | (rw [if_pos (by decide +kernel)]; kernel_rfl) | (rw [if_neg (by decide +kernel)]; exact ⟨rfl, rfl⟩))
    (fun os started H enc _ => spanSends_lifted os started H enc)
theorem spanSends_proved : Rows.SpanSendsSaid := spanSends_over
#print axioms spanSends_proved
end Go.Proofs.Ytkjladilnoggaaa
