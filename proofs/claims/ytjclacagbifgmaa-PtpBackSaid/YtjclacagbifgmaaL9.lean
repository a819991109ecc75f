/- A part of the proof: see the text that states the theorem. -/
import Derived.Test.YtjclacagbifgmaaL1
import Derived.Test.YtjclacagbifgmaaAS9
set_option linter.unusedSimpArgs false
set_option linter.unusedVariables false
set_option linter.unusedSectionVars false
noncomputable section
set_option maxHeartbeats 4000000
set_option maxRecDepth 100000
namespace Go.Proofs.Y10
open Go Go.SX Go.RowKit
theorem l_Back (d : Dr) (hd : d.ok) (n : Int) (hn : 0 ≤ n ∧ n < 256) : Ret Try.prog 9 #[vD d, .int .u8 n] (vB true) := by
  have kM := c_Message d hd
  have r1 := right_msgOf d hd
  have e1 := fun w => c_Encode (msgOf d) r1 w
  have kw := c_works
  have b1 := bytesM_range _ r1
  have dp := parse_bytesM _ r1
  have ks := c_Size (msgOf d).kd
  have ex : ((bytesM (msgOf d)).length : Int) = szOf (msgOf d).kd := by
    have h1 := dp.2.2.1
    rw [← h1]
    rfl
  generalize bytesM (msgOf d) = x at *
  generalize msgOf d = q at *
  obtain ⟨qkd, qdom, qcor, qsid, qsp, qseq, qtim, qppb, qrid, qrp, qp1, qcl, qac, qva, qp2, qmid, qst⟩ := q
  obtain ⟨dk, ddom, dcor, dtim, did, doth, dport, dseq, dst, dppb, dr0, dr1, dr2, dr3, dva⟩ := d
  refine ret_at t_PtpBack (mkEnv [.i dk, .i ddom, .i dcor, .i dtim, .i did, .i doth, .i dport, .i dseq, .i dst, .i dppb, .i dr0, .i dr1, .i dr2, .i dr3, .i dva, .i n]) (by simp [dft, u8]) fun w => ?_
  simp [-Bool.exists_bool]
  refine ⟨true, kw, rfl, fun _ => ⟨_, _, _, _, _, _, _, _, _, _, _, _, _, _, _, _, _, kM, rowsB x, false, callOk_row (by simp) (by omega) (fun κ w1 hH _ _ => ?_), _, ks, ?_, fun _ => ?_⟩⟩
  · simp
    refine (e1 w1).mono fun e w' ⟨v', g1, g2, g3⟩ => ⟨v', ?_, fun κ' hv => ?_, g3⟩
    · simpa [pu] using g2
    · rw [g1, ← hv]
  · rw [← ex]; simp [rowsB]
  refine ⟨_, _, _, _, _, _, _, _, _, _, _, _, _, _, _, _, _, 0, fun κ w1 ha _ _ => c_DecodeOk b1 dp _ w1 (bs_own ha rfl), fun h => (by cases h), fun _ => ?_⟩
  have hz : szOf qkd ≤ 38 := by unfold szOf; grind
  have nd : ¬decP (x ++ [n]) := not_dec dp.2 (.inr (by have := dp.2.1; cases x with | nil => simp at this | cons a l => rfl)) (by simp)
  have b2 : ∀ y ∈ x ++ [n], 0 ≤ y ∧ y < 256 := fun y hy => by
    rcases List.mem_append.1 hy with hy | hy
    · exact b1 y hy
    · simp at hy; subst hy; exact hn
  have er : rowsB x ++ [[Dat.i n]] = rowsB (x ++ [n]) := by simp [rowsB]
  simp only [] at ex
  refine ⟨by simp only []; omega, by rw [rowsB_len]; omega, ?_⟩
  rw [er]
  refine ⟨0, 0, 0, 0, 0, 0, 0, 0, 0, 0, 0, 0, 0, 0, 0, 0, 0, 5, fun κ w1 ha _ _ => c_DecodeNo b2 nd _ w1 (bs_own (nl := false) ha (by simp [rowsB])), ?_⟩
  simp [-Bool.exists_bool]
  refine ⟨fun l => 0 ≤ (l.getD 0 (.i 0)).int ∧ (l.getD 0 (.i 0)).int ≤ szOf qkd, by simp; omega, fun l => (szOf qkd - (l.getD 0 (.i 0)).int).toNat, fun k hI hlt => ⟨⟨hI.1, by omega⟩, 0, 0, 0, 0, 0, 0, 0, 0, 0, 0, 0, 0, 0, 0, 0, 0, 0, 5, fun κ w1 ha _ _ => ?_, rfl, fun _ => ?_⟩⟩
  · have hk : 0 ≤ k := hI.1
    have nd : ¬decP (x.take k.toNat) := by
      refine not_dec dp.2 ?_ (by rw [List.length_take]; omega)
      by_cases h0 : k = 0
      · left; rw [h0]; simp
      · right
        cases x with
        | nil => simp
        | cons a l => rw [show k.toNat = (k.toNat - 1) + 1 by omega]; rfl
    exact c_DecodeNo (fun y hy => b1 y (List.mem_of_mem_take hy)) nd _ w1 (bs_pre (nl := false) ha (by omega))
  · simp only [List.getD_cons_zero, Dat.int] at hI ⊢
    rw [wrap64 (by omega) (by omega)]
    omega
end Go.Proofs.Y10
