/- A part of the proof: see the text that states the theorem. -/
import Derived.Test.YtjclacagbifgmaaL0
import Derived.Test.YtjclacagbifgmaaAS3
set_option linter.unusedSimpArgs false
set_option linter.unusedVariables false
set_option linter.unusedSectionVars false
noncomputable section
set_option maxHeartbeats 4000000
set_option maxRecDepth 100000
namespace Go.Proofs.Y10
open Go Go.SX Go.RowKit
theorem c_checksA (kd dom cor sid sp seq tim ppb rid rp p1 cl ac va p2 mid st : Int) : Ret Try.prog 17 #[.agg #[vI kd, vI dom, vI cor, vI sid, vI sp, vI seq, vI tim, vI ppb, vI rid, vI rp, vI p1, vI cl, vI ac, vI va, vI p2, vI mid, vI st]] (vB true) := c_checks ⟨kd, dom, cor, sid, sp, seq, tim, ppb, rid, rp, p1, cl, ac, va, p2, mid, st⟩
/-- a master, as the statement has it -/
abbrev vX (p1 cl ac va p2 mid : Int) : Value := .agg #[vI p1, vI cl, vI ac, vI va, vI p2, vI mid]
theorem l_Checks (m : M) (d : Dr) (hd : d.ok) (p1 cl ac va p2 mid n : Int) : Ret Try.prog 3 #[vM m, vD d, vX p1 cl ac va p2 mid, vI n] (vB true) := by
  have kM := c_Message d hd
  have k1 := c_Master p1 cl ac va p2 mid
  have k2 := c_CheckMaster p1 cl ac va p2 mid
  have kw := c_works
  generalize msgOf d = q at kM
  obtain ⟨mkd, mdom, mcor, msid, msp, mseq, mtim, mppb, mrid, mrp, mp1, mcl, mac, mva, mp2, mmid, mst⟩ := m
  obtain ⟨qkd, qdom, qcor, qsid, qsp, qseq, qtim, qppb, qrid, qrp, qp1, qcl, qac, qva, qp2, qmid, qst⟩ := q
  obtain ⟨dk, ddom, dcor, dtim, did, doth, dport, dseq, dst, dppb, dr0, dr1, dr2, dr3, dva⟩ := d
  refine ret_at t_PtpChecks (mkEnv [.i mkd, .i mdom, .i mcor, .i msid, .i msp, .i mseq, .i mtim, .i mppb, .i mrid, .i mrp, .i mp1, .i mcl, .i mac, .i mva, .i mp2, .i mmid, .i mst, .i dk, .i ddom, .i dcor, .i dtim, .i did, .i doth, .i dport, .i dseq, .i dst, .i dppb, .i dr0, .i dr1, .i dr2, .i dr3, .i dva, .i p1, .i cl, .i ac, .i va, .i p2, .i mid, .i n]) (by simp [msg, dft, i64s, i64, List.range, List.range.loop]) fun w => ?_
  by_cases hm : masterP p1 cl ac va p2 mid <;> simp only [hm, decide_true, decide_false, if_true, if_false] at k1 k2 <;> simp [-Bool.exists_bool]
  · refine ⟨true, kw, rfl, fun _ => ⟨true, k1, 0, k2, ?_⟩⟩
    simp [-Bool.exists_bool]
    refine ⟨_, c_Size _, _, c_refSize _, rfl, fun _ => ?_⟩
    refine ⟨fun l => -1 ≤ (l.getD 0 (.i 0)).int ∧ (l.getD 0 (.i 0)).int ≤ 16, by simp, fun l => (16 - (l.getD 0 (.i 0)).int).toNat, fun k hI => ⟨fun hlt => ⟨_, c_Size _, _, c_refSize _, rfl, fun _ => ?_⟩, fun hge => ⟨_, _, _, _, _, _, _, _, _, _, _, _, _, _, _, _, _, kM, ?_⟩⟩⟩
    · simp only [List.getD_cons_zero, Dat.int] at hI ⊢
      rw [wrap64 (by omega) (by omega)]
      omega
    refine ⟨fun l => 0 ≤ (l.getD 0 (.i 0)).int ∧ (l.getD 0 (.i 0)).int ≤ 12, by simp, fun l => (12 - (l.getD 0 (.i 0)).int).toNat, fun k hI => ?_⟩
    simp only [List.getD_cons_zero, Dat.int] at hI ⊢
    repeat' first | (with_reducible intro _) | rfl | omega | (exact c_checksA _ _ _ _ _ _ _ _ _ _ _ _ _ _ _ _ _ ) | (exact kM) | (refine ⟨_, c_checksA _ _ _ _ _ _ _ _ _ _ _ _ _ _ _ _ _ , ?_⟩) | (refine ⟨_, _, _, _, _, _, _, _, _, _, _, _, _, _, _, _, _, kM, ?_⟩) | (refine And.intro ?_ ?_)
  · refine ⟨true, kw, rfl, fun _ => ⟨false, k1, 201, k2, ?_⟩⟩
    simp [-Bool.exists_bool]
    refine ⟨k2, _, c_Size _, _, c_refSize _, rfl, fun _ => ?_⟩
    refine ⟨fun l => -1 ≤ (l.getD 0 (.i 0)).int ∧ (l.getD 0 (.i 0)).int ≤ 16, by simp, fun l => (16 - (l.getD 0 (.i 0)).int).toNat, fun k hI => ⟨fun hlt => ⟨_, c_Size _, _, c_refSize _, rfl, fun _ => ?_⟩, fun hge => ⟨_, _, _, _, _, _, _, _, _, _, _, _, _, _, _, _, _, kM, ?_⟩⟩⟩
    · simp only [List.getD_cons_zero, Dat.int] at hI ⊢
      rw [wrap64 (by omega) (by omega)]
      omega
    refine ⟨fun l => 0 ≤ (l.getD 0 (.i 0)).int ∧ (l.getD 0 (.i 0)).int ≤ 12, by simp, fun l => (12 - (l.getD 0 (.i 0)).int).toNat, fun k hI => ?_⟩
    simp only [List.getD_cons_zero, Dat.int] at hI ⊢
    repeat' first | (with_reducible intro _) | rfl | omega | (exact c_checksA _ _ _ _ _ _ _ _ _ _ _ _ _ _ _ _ _ ) | (exact kM) | (refine ⟨_, c_checksA _ _ _ _ _ _ _ _ _ _ _ _ _ _ _ _ _ , ?_⟩) | (refine ⟨_, _, _, _, _, _, _, _, _, _, _, _, _, _, _, _, _, kM, ?_⟩) | (refine And.intro ?_ ?_)
end Go.Proofs.Y10
