/- Proves that PtpApart returns true for every two drafts, and that its arguments read as before. No condition. -/
import Derived.Test.YtjclacagbifgmaaB6
import Derived.Test.YtjclacagbifgmaaL7
import Derived.WalkKit
import Derived.ProofKit
import Derived.OpenShut
import Derived.ShutString
import Derived.ChangeOld
import Derived.Below
set_option linter.unusedSimpArgs false
set_option linter.unusedVariables false
set_option linter.unusedSectionVars false
noncomputable section
namespace Go.Proofs.Ytjclacagbifgmaa
open Go.ChangeShapes Go.WideShapes Go.ChangeAt Go.RowKit Go.SX
set_option linter.unusedVariables false
set_option maxRecDepth 100000 in
theorem ptpApart_lifted (os : Os) (started : os.Started) (H : Type) (enc : TypeId × Value → H) :
    ReturnsInHanded {} Try.checked os 7 .any (Rows.ptpApartSpec.pre6 enc Try.prog Try.f7 Rows.ptpApartRow.domain false) (Rows.ptpApartSpec.post enc Try.prog Try.f7 false true false false) := by
  refine returnsInHanded_of_change (C := Try.checked) own started (by kernel_rfl) Try.func7
    (ChangeSpec.witness6 (enc := enc) (C := Try.checked) false ⟨#[], #[.agg #[.int .u8 0, .int .u8 0, .int .i64 0, .int .i64 0, .int .u64 0, .int .u64 0, .int .u16 0, .int .u16 0, .int .u16 0, .int .i32 0, .int .u8 0, .int .u8 0, .int .u8 0, .int .u8 0, .int .u16 0], .agg #[.int .u8 0, .int .u8 0, .int .i64 0, .int .i64 0, .int .u64 0, .int .u64 0, .int .u16 0, .int .u16 0, .int .u16 0, .int .i32 0, .int .u8 0, .int .u8 0, .int .u8 0, .int .u8 0, .int .u16 0]], []⟩ 8 (by kernel_rfl) (by kernel_rfl) (by kernel_rfl) (by kernel_rfl)) ?_
  intro W base args ds gs before hval0 hW hcnd _
  have hval : ∀ (j : Nat) t v, Try.f7.params[j]? = some t → args[j]? = some v → Value.okWide Try.prog W .any base t v := hval0
  have hW' := hW
  obtain ⟨p, q, hA0, hV, rfl, hfz, hnd⟩ := hW
  have hA : DataW.TrodAll enc Try.prog W 0 (fun _ => true) true Try.f7.params.toList args.toList ds p := hA0
  rw [Try.params7] at hA hval
  obtain ⟨v0, vs0, d0, ds0, p0, q0, hargs, rfl, rfl, h0, r0⟩ := trodAll_cons hA
  obtain ⟨v1, vs1, d1, ds1, p1, q1, rfl, rfl, rfl, h1, r1⟩ := trodAll_cons r0
  obtain ⟨rfl, rfl, rfl⟩ := trodAll_nil r1
  obtain rfl : args = #[v0, v1] := by cases args; simp_all
  obtain ⟨rfl, rfl⟩ := trodVars_none hV
  have lt0 : ∀ x ∈ p0, x.block < W.heap.size := by obtain ⟨m, hm⟩ := h0; exact DataW.trod_lt m _ _ _ hm
  have lt1 : ∀ x ∈ p1, x.block < W.heap.size := by obtain ⟨m, hm⟩ := h1; exact DataW.trod_lt m _ _ _ hm
  obtain ⟨s0, f0, rfl⟩ := open_flat (by kernel_rfl) flat32 (hval 0 32 v0 rfl rfl) h0
  obtain ⟨dk, ddom, dcor, dtim, did, doth, dport, dseq, dst, dppb, dr0, dr1, dr2, dr3, dva, rfl, wdk, wddom, wdcor, wdtim, wdid, wdoth, wdport, wdseq, wdst, wdppb, wdr0, wdr1, wdr2, wdr3, wdva⟩ := fitsD f0
  obtain ⟨s1, f1, rfl⟩ := open_flat (by kernel_rfl) flat32 (hval 1 32 v1 rfl rfl) h1
  obtain ⟨gk, gdom, gcor, gtim, gid, goth, gport, gseq, gst, gppb, gr0, gr1, gr2, gr3, gva, rfl, wgk, wgdom, wgcor, wgtim, wgid, wgoth, wgport, wgseq, wgst, wgppb, wgr0, wgr1, wgr2, wgr3, wgva⟩ := fitsD f1
  clear hA0 hval0
  refine (Y10.l_Apart ⟨dk, ddom, dcor, dtim, did, doth, dport, dseq, dst, dppb, dr0, dr1, dr2, dr3, dva⟩ ⟨wf_u8 wdk, wf_u8 wddom, wf_u64 wdid, wf_u64 wdoth, wf_u16 wdport, wf_u16 wdseq, wf_u16 wdst, wf_u8 wdr0, wf_u8 wdr1, wf_u8 wdr2, wf_u8 wdr3, wf_u16 wdva⟩ ⟨gk, gdom, gcor, gtim, gid, goth, gport, gseq, gst, gppb, gr0, gr1, gr2, gr3, gva⟩ ⟨wf_u8 wgk, wf_u8 wgdom, wf_u64 wgid, wf_u64 wgoth, wf_u16 wgport, wf_u16 wgseq, wf_u16 wgst, wf_u8 wgr0, wf_u8 wgr1, wf_u8 wgr2, wf_u8 wgr3, wf_u16 wgva⟩ W).mono fun e W' ⟨he, bel⟩ => ?_
  subst he
  exact ⟨_, rfl, _, _, _, [], _, [], hW', trodAll_mk1 (shut_bool Try.underlying4 _), (trodAll_cons_mk (Below.trod laidOut (by kernel_rfl) (of_decide_eq_true (by kernel_rfl)) h0 bel lt0) (trodAll_cons_mk (Below.trod laidOut (by kernel_rfl) (of_decide_eq_true (by kernel_rfl)) h1 bel lt1) trodAll_mk0)), rfl, bel.frame _, fun h => by cases h⟩
theorem ptpApart_over : Rows.ptpApartRow.holds Try.pinned (OpenSpec.ofChange Rows.ptpApartSpec) :=
  OpenClaim.holds_of_wide 7 Try.f7 rfl rfl rfl rfl rfl rfl rfl ⟨rfl, rfl, rfl, rfl, rfl⟩ rfl rfl rfl rfl rfl (by kernel_rfl) Try.func7 (by kernel_rfl)
    (of_decide_eq_true (by kernel_rfl)) (by unfold Func.isWrapper; first | (rw [if_pos (by decide +kernel)]; kernel_rfl) | (rw [if_neg (by decide +kernel)]; exact ⟨rfl, rfl⟩))
    (fun os started H enc _ => ptpApart_lifted os started H enc)
theorem ptpApart_proved : Rows.PtpApartSaid := ptpApart_over
#print axioms ptpApart_proved
end Go.Proofs.Ytjclacagbifgmaa
