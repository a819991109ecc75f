/- Proves that PtpEncodes returns true for every message, draft and number, and that its arguments read as before. No condition. -/
import Derived.Test.YtjclacagbifgmaaB6
import Derived.Test.YtjclacagbifgmaaL4
import Derived.WalkKit
import Derived.ProofKit
import Derived.OpenShut
import Derived.ShutString
import Derived.ChangeOld
import Derived.Below
set_option linter.unusedSimpArgs false
set_option linter.unusedVariables false
set_option linter.unusedSectionVars false
noncomputable section
namespace Go.Proofs.Ytjclacagbifgmaa
open Go.ChangeShapes Go.WideShapes Go.ChangeAt Go.RowKit Go.SX
set_option linter.unusedVariables false
set_option maxRecDepth 100000 in
theorem ptpEncodes_lifted (os : Os) (started : os.Started) (H : Type) (enc : TypeId × Value → H) :
    ReturnsInHanded {} Try.checked os 4 .any (Rows.ptpEncodesSpec.pre6 enc Try.prog Try.f4 Rows.ptpEncodesRow.domain false) (Rows.ptpEncodesSpec.post enc Try.prog Try.f4 false true false false) := by
  refine returnsInHanded_of_change (C := Try.checked) own started (by kernel_rfl) Try.func4
    (ChangeSpec.witness6 (enc := enc) (C := Try.checked) false ⟨#[], #[.agg #[.int .i64 0, .int .i64 0, .int .i64 0, .int .i64 0, .int .i64 0, .int .i64 0, .int .i64 0, .int .i64 0, .int .i64 0, .int .i64 0, .int .i64 0, .int .i64 0, .int .i64 0, .int .i64 0, .int .i64 0, .int .i64 0, .int .i64 0], .agg #[.int .u8 0, .int .u8 0, .int .i64 0, .int .i64 0, .int .u64 0, .int .u64 0, .int .u16 0, .int .u16 0, .int .u16 0, .int .i32 0, .int .u8 0, .int .u8 0, .int .u8 0, .int .u8 0, .int .u16 0], .int .i64 0], []⟩ 8 (by kernel_rfl) (by kernel_rfl) (by kernel_rfl) (by kernel_rfl)) ?_
  intro W base args ds gs before hval0 hW hcnd _
  have hval : ∀ (j : Nat) t v, Try.f4.params[j]? = some t → args[j]? = some v → Value.okWide Try.prog W .any base t v := hval0
  have hW' := hW
  obtain ⟨p, q, hA0, hV, rfl, hfz, hnd⟩ := hW
  have hA : DataW.TrodAll enc Try.prog W 0 (fun _ => true) true Try.f4.params.toList args.toList ds p := hA0
  rw [Try.params4] at hA hval
  obtain ⟨v0, vs0, d0, ds0, p0, q0, hargs, rfl, rfl, h0, r0⟩ := trodAll_cons hA
  obtain ⟨v1, vs1, d1, ds1, p1, q1, rfl, rfl, rfl, h1, r1⟩ := trodAll_cons r0
  obtain ⟨v2, vs2, d2, ds2, p2, q2, rfl, rfl, rfl, h2, r2⟩ := trodAll_cons r1
  obtain ⟨rfl, rfl, rfl⟩ := trodAll_nil r2
  obtain rfl : args = #[v0, v1, v2] := by cases args; simp_all
  obtain ⟨rfl, rfl⟩ := trodVars_none hV
  have lt0 : ∀ x ∈ p0, x.block < W.heap.size := by obtain ⟨m, hm⟩ := h0; exact DataW.trod_lt m _ _ _ hm
  have lt1 : ∀ x ∈ p1, x.block < W.heap.size := by obtain ⟨m, hm⟩ := h1; exact DataW.trod_lt m _ _ _ hm
  have lt2 : ∀ x ∈ p2, x.block < W.heap.size := by obtain ⟨m, hm⟩ := h2; exact DataW.trod_lt m _ _ _ hm
  obtain ⟨s0, f0, rfl⟩ := open_flat (by kernel_rfl) flat27 (hval 0 27 v0 rfl rfl) h0
  obtain ⟨mkd, mdom, mcor, msid, msp, mseq, mtim, mppb, mrid, mrp, mp1, mcl, mac, mva, mp2, mmid, mst, rfl, wmkd, wmdom, wmcor, wmsid, wmsp, wmseq, wmtim, wmppb, wmrid, wmrp, wmp1, wmcl, wmac, wmva, wmp2, wmmid, wmst⟩ := fits17 f0
  obtain ⟨s1, f1, rfl⟩ := open_flat (by kernel_rfl) flat32 (hval 1 32 v1 rfl rfl) h1
  obtain ⟨dk, ddom, dcor, dtim, did, doth, dport, dseq, dst, dppb, dr0, dr1, dr2, dr3, dva, rfl, wdk, wddom, wdcor, wdtim, wdid, wdoth, wdport, wdseq, wdst, wdppb, wdr0, wdr1, wdr2, wdr3, wdva⟩ := fitsD f1
  obtain ⟨n, rfl, _, _, _⟩ := open_int Try.underlying3 (hval 2 3 v2 rfl rfl) h2
  clear hA0 hval0
  refine (Y10.l_Encodes ⟨mkd, mdom, mcor, msid, msp, mseq, mtim, mppb, mrid, mrp, mp1, mcl, mac, mva, mp2, mmid, mst⟩ ⟨dk, ddom, dcor, dtim, did, doth, dport, dseq, dst, dppb, dr0, dr1, dr2, dr3, dva⟩ ⟨wf_u8 wdk, wf_u8 wddom, wf_u64 wdid, wf_u64 wdoth, wf_u16 wdport, wf_u16 wdseq, wf_u16 wdst, wf_u8 wdr0, wf_u8 wdr1, wf_u8 wdr2, wf_u8 wdr3, wf_u16 wdva⟩ n W).mono fun e W' ⟨he, bel⟩ => ?_
  subst he
  exact ⟨_, rfl, _, _, _, [], _, [], hW', trodAll_mk1 (shut_bool Try.underlying4 _), (trodAll_cons_mk (Below.trod laidOut (by kernel_rfl) (of_decide_eq_true (by kernel_rfl)) h0 bel lt0) (trodAll_cons_mk (Below.trod laidOut (by kernel_rfl) (of_decide_eq_true (by kernel_rfl)) h1 bel lt1) (trodAll_cons_mk (Below.trod laidOut (by kernel_rfl) (of_decide_eq_true (by kernel_rfl)) h2 bel lt2) trodAll_mk0))), rfl, bel.frame _, fun h => by cases h⟩
theorem ptpEncodes_over : Rows.ptpEncodesRow.holds Try.pinned (OpenSpec.ofChange Rows.ptpEncodesSpec) :=
  OpenClaim.holds_of_wide 4 Try.f4 rfl rfl rfl rfl rfl rfl rfl ⟨rfl, rfl, rfl, rfl, rfl⟩ rfl rfl rfl rfl rfl (by kernel_rfl) Try.func4 (by kernel_rfl)
    (of_decide_eq_true (by kernel_rfl)) (by unfold Func.isWrapper; first | (rw [if_pos (by decide +kernel)]; kernel_rfl) | (rw [if_neg (by decide +kernel)]; exact ⟨rfl, rfl⟩))
    (fun os started H enc _ => ptpEncodes_lifted os started H enc)
theorem ptpEncodes_proved : Rows.PtpEncodesSaid := ptpEncodes_over
#print axioms ptpEncodes_proved
end Go.Proofs.Ytjclacagbifgmaa
