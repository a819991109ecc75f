/- A part of the proof: see the text that states the theorem. -/
import Derived.Test.YtjclacagbifgmaaL1
import Derived.Test.YtjclacagbifgmaaAS7
set_option linter.unusedSimpArgs false
set_option linter.unusedVariables false
set_option linter.unusedSectionVars false
noncomputable section
set_option maxHeartbeats 4000000
set_option maxRecDepth 100000
namespace Go.Proofs.Y10
open Go Go.SX Go.RowKit
theorem l_Apart (d : Dr) (hd : d.ok) (g : Dr) (hg : g.ok) : Ret Try.prog 7 #[vD d, vD g] (vB true) := by
  have kM := c_Message d hd
  have kN := c_Message g hg
  have r1 := right_msgOf d hd
  have r2 := right_msgOf g hg
  have e1 := fun w => c_Encode (msgOf d) r1 w
  have e2 := fun w => c_Encode (msgOf g) r2 w
  have kw := c_works
  have b1 := bytesM_range _ r1
  have b2 := bytesM_range _ r2
  have bi := bytesM_inj r1 r2
  rw [M.ext_iff'] at bi
  generalize bytesM (msgOf d) = x at *
  generalize bytesM (msgOf g) = y at *
  generalize msgOf d = q at *
  generalize msgOf g = p at *
  obtain ⟨qkd, qdom, qcor, qsid, qsp, qseq, qtim, qppb, qrid, qrp, qp1, qcl, qac, qva, qp2, qmid, qst⟩ := q
  obtain ⟨pkd, pdom, pcor, psid, psp, pseq, ptim, pppb, prid, prp, pp1, pcl, pac, pva, pp2, pmid, pst⟩ := p
  obtain ⟨dk, ddom, dcor, dtim, did, doth, dport, dseq, dst, dppb, dr0, dr1, dr2, dr3, dva⟩ := d
  obtain ⟨gk, gdom, gcor, gtim, gid, goth, gport, gseq, gst, gppb, gr0, gr1, gr2, gr3, gva⟩ := g
  refine ret_at t_PtpApart (mkEnv [.i dk, .i ddom, .i dcor, .i dtim, .i did, .i doth, .i dport, .i dseq, .i dst, .i dppb, .i dr0, .i dr1, .i dr2, .i dr3, .i dva, .i gk, .i gdom, .i gcor, .i gtim, .i gid, .i goth, .i gport, .i gseq, .i gst, .i gppb, .i gr0, .i gr1, .i gr2, .i gr3, .i gva]) (by simp [dft]) fun w => ?_
  simp [-Bool.exists_bool]
  refine ⟨true, kw, rfl, fun _ => ⟨_, _, _, _, _, _, _, _, _, _, _, _, _, _, _, _, _, kM, rowsB x, false, 0, callOk_row (by simp) (by omega) (fun κ w1 hH _ _ => ?_), _, _, _, _, _, _, _, _, _, _, _, _, _, _, _, _, _, kN, rowsB y, false, 0, callOk_row (by simp) (by omega) (fun κ w1 hH _ _ => ?_), ?_⟩⟩
  · simp
    refine (e1 w1).mono fun e w' ⟨v', g1, g2, g3⟩ => ⟨v', ?_, fun κ' hv => ?_, g3⟩
    · simpa [pu] using g2
    · rw [g1, ← hv]
  · simp
    refine (e2 w1).mono fun e w' ⟨v', g1, g2, g3⟩ => ⟨v', ?_, fun κ' hv => ?_, g3⟩
    · simpa [pu] using g2
    · rw [g1, ← hv]
  refine ⟨fun _ _ => ⟨decide (x = y), fun κ w1 ha hb _ _ => c_Equal x y b1 b2 _ _ w1 (hb.slice rfl _) (ha.slice rfl _), _, _, _, _, _, _, _, _, _, _, _, _, _, _, _, _, _, kM, _, _, _, _, _, _, _, _, _, _, _, _, _, _, _, _, _, kN, ?_⟩, rfl, rfl⟩
  simp only [] at bi ⊢
  rw [Bool.eq_iff_iff]
  simp only [decide_eq_true_eq, Bool.and_eq_true, beq_iff_eq]
  exact bi
end Go.Proofs.Y10
