/- A part of the proof: see the text that states the theorem. -/
import Derived.Test.YtjclacagbifgmaaL1
import Derived.Test.YtjclacagbifgmaaAS4
set_option linter.unusedSimpArgs false
set_option linter.unusedVariables false
set_option linter.unusedSectionVars false
noncomputable section
set_option maxHeartbeats 8000000
set_option maxRecDepth 100000
namespace Go.Proofs.Y10
open Go Go.SX Go.RowKit
theorem l_Encodes (m : M) (d : Dr) (hd : d.ok) (n : Int) : Ret Try.prog 4 #[vM m, vD d, vI n] (vB true) := by
  have kM := c_Message d hd
  have kw := c_works
  generalize msgOf d = q at *
  obtain ⟨qkd, qdom, qcor, qsid, qsp, qseq, qtim, qppb, qrid, qrp, qp1, qcl, qac, qva, qp2, qmid, qst⟩ := q
  obtain ⟨mkd, mdom, mcor, msid, msp, mseq, mtim, mppb, mrid, mrp, mp1, mcl, mac, mva, mp2, mmid, mst⟩ := m
  obtain ⟨dk, ddom, dcor, dtim, did, doth, dport, dseq, dst, dppb, dr0, dr1, dr2, dr3, dva⟩ := d
  refine ret_at t_PtpEncodes (mkEnv [.i mkd, .i mdom, .i mcor, .i msid, .i msp, .i mseq, .i mtim, .i mppb, .i mrid, .i mrp, .i mp1, .i mcl, .i mac, .i mva, .i mp2, .i mmid, .i mst, .i dk, .i ddom, .i dcor, .i dtim, .i did, .i doth, .i dport, .i dseq, .i dst, .i dppb, .i dr0, .i dr1, .i dr2, .i dr3, .i dva, .i n]) (by simp [msg, dft, i64s, i64, List.range, List.range.loop]) fun w => ?_
  refine stepR [.b true] rfl (fun κ => by simp; exact kw) ?_
  refine stepI (fun hc => by simp at hc) (fun _ => ?_)
  refine stepR [.i qkd, .i qdom, .i qcor, .i qsid, .i qsp, .i qseq, .i qtim, .i qppb, .i qrid, .i qrp, .i qp1, .i qcl, .i qac, .i qva, .i qp2, .i qmid, .i qst] rfl (fun κ => by simp; exact kM) ?_
  refine stepR [.i qkd, .i qdom, .i qcor, .i qsid, .i qsp, .i qseq, .i qtim, .i qppb, .i qrid, .i qrp, .i qp1, .i qcl, .i qac, .i qva, .i qp2, .i qmid, .i qst] rfl (fun κ => by simp; exact kM) ?_
  refine stepL (fun l => 0 ≤ (l.getD 0 (.i 0)).int ∧ (l.getD 0 (.i 0)).int ≤ 14) (fun l => (14 - (l.getD 0 (.i 0)).int).toNat) (by simp) (fun k hI => ?_)
  simp only [List.getD_cons_zero, Dat.int] at hI
  refine stepI (fun hlt => ?_) (fun _ => by simp)
  simp at hlt
  refine stepI (fun hk => ?_) (fun hk0 => ?_)
  · simp at hk
    by_cases hr : right ⟨n, qdom, qcor, qsid, qsp, qseq, qtim, qppb, qrid, qrp, qp1, qcl, qac, qva, qp2, qmid, qst⟩
    · have kr := c_Right1 _ hr
      have hb := bytesM_range _ hr
      have ke := fun w => c_Encode _ hr w
      have kb := fun w => c_Bytes _ hr w
      generalize bytesM ⟨n, qdom, qcor, qsid, qsp, qseq, qtim, qppb, qrid, qrp, qp1, qcl, qac, qva, qp2, qmid, qst⟩ = x at *
      simp [-Bool.exists_bool, -Bool.forall_bool]
      refine ⟨rowsB x, false, 0, callOk_row (by simp) (by omega) (fun κ w1 hH _ _ => ?_), true, kr, ?_⟩
      · simp
        refine (ke w1).mono fun e w' ⟨v', g1, g2, g3⟩ => ⟨v', ?_, fun κ' hv => ?_, g3⟩
        · simpa [pu] using g2
        · rw [g1, ← hv]
      refine ⟨fun h => absurd h (by decide), fun _ => ⟨fun _ => ⟨rowsB x, false, callOk_row (by simp) (by omega) (fun κ w1 hH _ _ => ?_), true, fun κ w1 ha hb' _ _ => c_EqualT x hb _ _ w1 (hb'.slice (nl := false) rfl _) (ha.slice (nl := false) rfl _), rfl, fun _ => by omega⟩, rfl⟩⟩
      simp
      refine (kb w1).mono fun e w' ⟨v', g1, g2, g3⟩ => ⟨v', ?_, fun κ' hv => ?_, g3⟩
      · simpa [pu] using g2
      · rw [g1, ← hv]
    · have kr := c_Right0 _ hr
      have ke := fun w => c_Encode0 _ hr w
      simp [-Bool.exists_bool, -Bool.forall_bool]
      refine ⟨[], true, 200, callOk_row (by simp) (by omega) (fun κ w1 hH _ _ => ?_), false, kr, ?_⟩
      · simp
        refine (ke w1).mono fun e w' ⟨g1, g3⟩ => ⟨.slice none 0 0, ⟨⟨by simp [arrCells], .inl ⟨rfl, rfl⟩⟩, by simp⟩, fun κ' hv => ?_, g3⟩
        rw [g1, ← hv]
      exact ⟨fun _ => ⟨⟨rfl, rfl⟩, fun _ _ => by omega⟩, fun h => absurd h (by decide)⟩
  refine stepI (fun hk => ?_) (fun hk1 => ?_)
  · simp at hk
    by_cases hr : right ⟨qkd, n, qcor, qsid, qsp, qseq, qtim, qppb, qrid, qrp, qp1, qcl, qac, qva, qp2, qmid, qst⟩
    · have kr := c_Right1 _ hr
      have hb := bytesM_range _ hr
      have ke := fun w => c_Encode _ hr w
      have kb := fun w => c_Bytes _ hr w
      generalize bytesM ⟨qkd, n, qcor, qsid, qsp, qseq, qtim, qppb, qrid, qrp, qp1, qcl, qac, qva, qp2, qmid, qst⟩ = x at *
      simp [-Bool.exists_bool, -Bool.forall_bool]
      refine ⟨rowsB x, false, 0, callOk_row (by simp) (by omega) (fun κ w1 hH _ _ => ?_), true, kr, ?_⟩
      · simp
        refine (ke w1).mono fun e w' ⟨v', g1, g2, g3⟩ => ⟨v', ?_, fun κ' hv => ?_, g3⟩
        · simpa [pu] using g2
        · rw [g1, ← hv]
      refine ⟨fun h => absurd h (by decide), fun _ => ⟨fun _ => ⟨rowsB x, false, callOk_row (by simp) (by omega) (fun κ w1 hH _ _ => ?_), true, fun κ w1 ha hb' _ _ => c_EqualT x hb _ _ w1 (hb'.slice (nl := false) rfl _) (ha.slice (nl := false) rfl _), rfl, fun _ => by omega⟩, rfl⟩⟩
      simp
      refine (kb w1).mono fun e w' ⟨v', g1, g2, g3⟩ => ⟨v', ?_, fun κ' hv => ?_, g3⟩
      · simpa [pu] using g2
      · rw [g1, ← hv]
    · have kr := c_Right0 _ hr
      have ke := fun w => c_Encode0 _ hr w
      simp [-Bool.exists_bool, -Bool.forall_bool]
      refine ⟨[], true, 200, callOk_row (by simp) (by omega) (fun κ w1 hH _ _ => ?_), false, kr, ?_⟩
      · simp
        refine (ke w1).mono fun e w' ⟨g1, g3⟩ => ⟨.slice none 0 0, ⟨⟨by simp [arrCells], .inl ⟨rfl, rfl⟩⟩, by simp⟩, fun κ' hv => ?_, g3⟩
        rw [g1, ← hv]
      exact ⟨fun _ => ⟨⟨rfl, rfl⟩, fun _ _ => by omega⟩, fun h => absurd h (by decide)⟩
  refine stepI (fun hk => ?_) (fun hk2 => ?_)
  · simp at hk
    by_cases hr : right ⟨qkd, qdom, n, qsid, qsp, qseq, qtim, qppb, qrid, qrp, qp1, qcl, qac, qva, qp2, qmid, qst⟩
    · have kr := c_Right1 _ hr
      have hb := bytesM_range _ hr
      have ke := fun w => c_Encode _ hr w
      have kb := fun w => c_Bytes _ hr w
      generalize bytesM ⟨qkd, qdom, n, qsid, qsp, qseq, qtim, qppb, qrid, qrp, qp1, qcl, qac, qva, qp2, qmid, qst⟩ = x at *
      simp [-Bool.exists_bool, -Bool.forall_bool]
      refine ⟨rowsB x, false, 0, callOk_row (by simp) (by omega) (fun κ w1 hH _ _ => ?_), true, kr, ?_⟩
      · simp
        refine (ke w1).mono fun e w' ⟨v', g1, g2, g3⟩ => ⟨v', ?_, fun κ' hv => ?_, g3⟩
        · simpa [pu] using g2
        · rw [g1, ← hv]
      refine ⟨fun h => absurd h (by decide), fun _ => ⟨fun _ => ⟨rowsB x, false, callOk_row (by simp) (by omega) (fun κ w1 hH _ _ => ?_), true, fun κ w1 ha hb' _ _ => c_EqualT x hb _ _ w1 (hb'.slice (nl := false) rfl _) (ha.slice (nl := false) rfl _), rfl, fun _ => by omega⟩, rfl⟩⟩
      simp
      refine (kb w1).mono fun e w' ⟨v', g1, g2, g3⟩ => ⟨v', ?_, fun κ' hv => ?_, g3⟩
      · simpa [pu] using g2
      · rw [g1, ← hv]
    · have kr := c_Right0 _ hr
      have ke := fun w => c_Encode0 _ hr w
      simp [-Bool.exists_bool, -Bool.forall_bool]
      refine ⟨[], true, 200, callOk_row (by simp) (by omega) (fun κ w1 hH _ _ => ?_), false, kr, ?_⟩
      · simp
        refine (ke w1).mono fun e w' ⟨g1, g3⟩ => ⟨.slice none 0 0, ⟨⟨by simp [arrCells], .inl ⟨rfl, rfl⟩⟩, by simp⟩, fun κ' hv => ?_, g3⟩
        rw [g1, ← hv]
      exact ⟨fun _ => ⟨⟨rfl, rfl⟩, fun _ _ => by omega⟩, fun h => absurd h (by decide)⟩
  refine stepI (fun hk => ?_) (fun hk3 => ?_)
  · simp at hk
    by_cases hr : right ⟨qkd, qdom, qcor, n, qsp, qseq, qtim, qppb, qrid, qrp, qp1, qcl, qac, qva, qp2, qmid, qst⟩
    · have kr := c_Right1 _ hr
      have hb := bytesM_range _ hr
      have ke := fun w => c_Encode _ hr w
      have kb := fun w => c_Bytes _ hr w
      generalize bytesM ⟨qkd, qdom, qcor, n, qsp, qseq, qtim, qppb, qrid, qrp, qp1, qcl, qac, qva, qp2, qmid, qst⟩ = x at *
      simp [-Bool.exists_bool, -Bool.forall_bool]
      refine ⟨rowsB x, false, 0, callOk_row (by simp) (by omega) (fun κ w1 hH _ _ => ?_), true, kr, ?_⟩
      · simp
        refine (ke w1).mono fun e w' ⟨v', g1, g2, g3⟩ => ⟨v', ?_, fun κ' hv => ?_, g3⟩
        · simpa [pu] using g2
        · rw [g1, ← hv]
      refine ⟨fun h => absurd h (by decide), fun _ => ⟨fun _ => ⟨rowsB x, false, callOk_row (by simp) (by omega) (fun κ w1 hH _ _ => ?_), true, fun κ w1 ha hb' _ _ => c_EqualT x hb _ _ w1 (hb'.slice (nl := false) rfl _) (ha.slice (nl := false) rfl _), rfl, fun _ => by omega⟩, rfl⟩⟩
      simp
      refine (kb w1).mono fun e w' ⟨v', g1, g2, g3⟩ => ⟨v', ?_, fun κ' hv => ?_, g3⟩
      · simpa [pu] using g2
      · rw [g1, ← hv]
    · have kr := c_Right0 _ hr
      have ke := fun w => c_Encode0 _ hr w
      simp [-Bool.exists_bool, -Bool.forall_bool]
      refine ⟨[], true, 200, callOk_row (by simp) (by omega) (fun κ w1 hH _ _ => ?_), false, kr, ?_⟩
      · simp
        refine (ke w1).mono fun e w' ⟨g1, g3⟩ => ⟨.slice none 0 0, ⟨⟨by simp [arrCells], .inl ⟨rfl, rfl⟩⟩, by simp⟩, fun κ' hv => ?_, g3⟩
        rw [g1, ← hv]
      exact ⟨fun _ => ⟨⟨rfl, rfl⟩, fun _ _ => by omega⟩, fun h => absurd h (by decide)⟩
  refine stepI (fun hk => ?_) (fun hk4 => ?_)
  · simp at hk
    by_cases hr : right ⟨qkd, qdom, qcor, qsid, n, qseq, qtim, qppb, qrid, qrp, qp1, qcl, qac, qva, qp2, qmid, qst⟩
    · have kr := c_Right1 _ hr
      have hb := bytesM_range _ hr
      have ke := fun w => c_Encode _ hr w
      have kb := fun w => c_Bytes _ hr w
      generalize bytesM ⟨qkd, qdom, qcor, qsid, n, qseq, qtim, qppb, qrid, qrp, qp1, qcl, qac, qva, qp2, qmid, qst⟩ = x at *
      simp [-Bool.exists_bool, -Bool.forall_bool]
      refine ⟨rowsB x, false, 0, callOk_row (by simp) (by omega) (fun κ w1 hH _ _ => ?_), true, kr, ?_⟩
      · simp
        refine (ke w1).mono fun e w' ⟨v', g1, g2, g3⟩ => ⟨v', ?_, fun κ' hv => ?_, g3⟩
        · simpa [pu] using g2
        · rw [g1, ← hv]
      refine ⟨fun h => absurd h (by decide), fun _ => ⟨fun _ => ⟨rowsB x, false, callOk_row (by simp) (by omega) (fun κ w1 hH _ _ => ?_), true, fun κ w1 ha hb' _ _ => c_EqualT x hb _ _ w1 (hb'.slice (nl := false) rfl _) (ha.slice (nl := false) rfl _), rfl, fun _ => by omega⟩, rfl⟩⟩
      simp
      refine (kb w1).mono fun e w' ⟨v', g1, g2, g3⟩ => ⟨v', ?_, fun κ' hv => ?_, g3⟩
      · simpa [pu] using g2
      · rw [g1, ← hv]
    · have kr := c_Right0 _ hr
      have ke := fun w => c_Encode0 _ hr w
      simp [-Bool.exists_bool, -Bool.forall_bool]
      refine ⟨[], true, 200, callOk_row (by simp) (by omega) (fun κ w1 hH _ _ => ?_), false, kr, ?_⟩
      · simp
        refine (ke w1).mono fun e w' ⟨g1, g3⟩ => ⟨.slice none 0 0, ⟨⟨by simp [arrCells], .inl ⟨rfl, rfl⟩⟩, by simp⟩, fun κ' hv => ?_, g3⟩
        rw [g1, ← hv]
      exact ⟨fun _ => ⟨⟨rfl, rfl⟩, fun _ _ => by omega⟩, fun h => absurd h (by decide)⟩
  refine stepI (fun hk => ?_) (fun hk5 => ?_)
  · simp at hk
    by_cases hr : right ⟨qkd, qdom, qcor, qsid, qsp, n, qtim, qppb, qrid, qrp, qp1, qcl, qac, qva, qp2, qmid, qst⟩
    · have kr := c_Right1 _ hr
      have hb := bytesM_range _ hr
      have ke := fun w => c_Encode _ hr w
      have kb := fun w => c_Bytes _ hr w
      generalize bytesM ⟨qkd, qdom, qcor, qsid, qsp, n, qtim, qppb, qrid, qrp, qp1, qcl, qac, qva, qp2, qmid, qst⟩ = x at *
      simp [-Bool.exists_bool, -Bool.forall_bool]
      refine ⟨rowsB x, false, 0, callOk_row (by simp) (by omega) (fun κ w1 hH _ _ => ?_), true, kr, ?_⟩
      · simp
        refine (ke w1).mono fun e w' ⟨v', g1, g2, g3⟩ => ⟨v', ?_, fun κ' hv => ?_, g3⟩
        · simpa [pu] using g2
        · rw [g1, ← hv]
      refine ⟨fun h => absurd h (by decide), fun _ => ⟨fun _ => ⟨rowsB x, false, callOk_row (by simp) (by omega) (fun κ w1 hH _ _ => ?_), true, fun κ w1 ha hb' _ _ => c_EqualT x hb _ _ w1 (hb'.slice (nl := false) rfl _) (ha.slice (nl := false) rfl _), rfl, fun _ => by omega⟩, rfl⟩⟩
      simp
      refine (kb w1).mono fun e w' ⟨v', g1, g2, g3⟩ => ⟨v', ?_, fun κ' hv => ?_, g3⟩
      · simpa [pu] using g2
      · rw [g1, ← hv]
    · have kr := c_Right0 _ hr
      have ke := fun w => c_Encode0 _ hr w
      simp [-Bool.exists_bool, -Bool.forall_bool]
      refine ⟨[], true, 200, callOk_row (by simp) (by omega) (fun κ w1 hH _ _ => ?_), false, kr, ?_⟩
      · simp
        refine (ke w1).mono fun e w' ⟨g1, g3⟩ => ⟨.slice none 0 0, ⟨⟨by simp [arrCells], .inl ⟨rfl, rfl⟩⟩, by simp⟩, fun κ' hv => ?_, g3⟩
        rw [g1, ← hv]
      exact ⟨fun _ => ⟨⟨rfl, rfl⟩, fun _ _ => by omega⟩, fun h => absurd h (by decide)⟩
  refine stepI (fun hk => ?_) (fun hk6 => ?_)
  · simp at hk
    by_cases hr : right ⟨qkd, qdom, qcor, qsid, qsp, qseq, n, qppb, qrid, qrp, qp1, qcl, qac, qva, qp2, qmid, qst⟩
    · have kr := c_Right1 _ hr
      have hb := bytesM_range _ hr
      have ke := fun w => c_Encode _ hr w
      have kb := fun w => c_Bytes _ hr w
      generalize bytesM ⟨qkd, qdom, qcor, qsid, qsp, qseq, n, qppb, qrid, qrp, qp1, qcl, qac, qva, qp2, qmid, qst⟩ = x at *
      simp [-Bool.exists_bool, -Bool.forall_bool]
      refine ⟨rowsB x, false, 0, callOk_row (by simp) (by omega) (fun κ w1 hH _ _ => ?_), true, kr, ?_⟩
      · simp
        refine (ke w1).mono fun e w' ⟨v', g1, g2, g3⟩ => ⟨v', ?_, fun κ' hv => ?_, g3⟩
        · simpa [pu] using g2
        · rw [g1, ← hv]
      refine ⟨fun h => absurd h (by decide), fun _ => ⟨fun _ => ⟨rowsB x, false, callOk_row (by simp) (by omega) (fun κ w1 hH _ _ => ?_), true, fun κ w1 ha hb' _ _ => c_EqualT x hb _ _ w1 (hb'.slice (nl := false) rfl _) (ha.slice (nl := false) rfl _), rfl, fun _ => by omega⟩, rfl⟩⟩
      simp
      refine (kb w1).mono fun e w' ⟨v', g1, g2, g3⟩ => ⟨v', ?_, fun κ' hv => ?_, g3⟩
      · simpa [pu] using g2
      · rw [g1, ← hv]
    · have kr := c_Right0 _ hr
      have ke := fun w => c_Encode0 _ hr w
      simp [-Bool.exists_bool, -Bool.forall_bool]
      refine ⟨[], true, 200, callOk_row (by simp) (by omega) (fun κ w1 hH _ _ => ?_), false, kr, ?_⟩
      · simp
        refine (ke w1).mono fun e w' ⟨g1, g3⟩ => ⟨.slice none 0 0, ⟨⟨by simp [arrCells], .inl ⟨rfl, rfl⟩⟩, by simp⟩, fun κ' hv => ?_, g3⟩
        rw [g1, ← hv]
      exact ⟨fun _ => ⟨⟨rfl, rfl⟩, fun _ _ => by omega⟩, fun h => absurd h (by decide)⟩
  refine stepI (fun hk => ?_) (fun hk7 => ?_)
  · simp at hk
    by_cases hr : right ⟨qkd, qdom, qcor, qsid, qsp, qseq, qtim, n, qrid, qrp, qp1, qcl, qac, qva, qp2, qmid, qst⟩
    · have kr := c_Right1 _ hr
      have hb := bytesM_range _ hr
      have ke := fun w => c_Encode _ hr w
      have kb := fun w => c_Bytes _ hr w
      generalize bytesM ⟨qkd, qdom, qcor, qsid, qsp, qseq, qtim, n, qrid, qrp, qp1, qcl, qac, qva, qp2, qmid, qst⟩ = x at *
      simp [-Bool.exists_bool, -Bool.forall_bool]
      refine ⟨rowsB x, false, 0, callOk_row (by simp) (by omega) (fun κ w1 hH _ _ => ?_), true, kr, ?_⟩
      · simp
        refine (ke w1).mono fun e w' ⟨v', g1, g2, g3⟩ => ⟨v', ?_, fun κ' hv => ?_, g3⟩
        · simpa [pu] using g2
        · rw [g1, ← hv]
      refine ⟨fun h => absurd h (by decide), fun _ => ⟨fun _ => ⟨rowsB x, false, callOk_row (by simp) (by omega) (fun κ w1 hH _ _ => ?_), true, fun κ w1 ha hb' _ _ => c_EqualT x hb _ _ w1 (hb'.slice (nl := false) rfl _) (ha.slice (nl := false) rfl _), rfl, fun _ => by omega⟩, rfl⟩⟩
      simp
      refine (kb w1).mono fun e w' ⟨v', g1, g2, g3⟩ => ⟨v', ?_, fun κ' hv => ?_, g3⟩
      · simpa [pu] using g2
      · rw [g1, ← hv]
    · have kr := c_Right0 _ hr
      have ke := fun w => c_Encode0 _ hr w
      simp [-Bool.exists_bool, -Bool.forall_bool]
      refine ⟨[], true, 200, callOk_row (by simp) (by omega) (fun κ w1 hH _ _ => ?_), false, kr, ?_⟩
      · simp
        refine (ke w1).mono fun e w' ⟨g1, g3⟩ => ⟨.slice none 0 0, ⟨⟨by simp [arrCells], .inl ⟨rfl, rfl⟩⟩, by simp⟩, fun κ' hv => ?_, g3⟩
        rw [g1, ← hv]
      exact ⟨fun _ => ⟨⟨rfl, rfl⟩, fun _ _ => by omega⟩, fun h => absurd h (by decide)⟩
  refine stepI (fun hk => ?_) (fun hk8 => ?_)
  · simp at hk
    by_cases hr : right ⟨qkd, qdom, qcor, qsid, qsp, qseq, qtim, qppb, qrid, n, qp1, qcl, qac, qva, qp2, qmid, qst⟩
    · have kr := c_Right1 _ hr
      have hb := bytesM_range _ hr
      have ke := fun w => c_Encode _ hr w
      have kb := fun w => c_Bytes _ hr w
      generalize bytesM ⟨qkd, qdom, qcor, qsid, qsp, qseq, qtim, qppb, qrid, n, qp1, qcl, qac, qva, qp2, qmid, qst⟩ = x at *
      simp [-Bool.exists_bool, -Bool.forall_bool]
      refine ⟨rowsB x, false, 0, callOk_row (by simp) (by omega) (fun κ w1 hH _ _ => ?_), true, kr, ?_⟩
      · simp
        refine (ke w1).mono fun e w' ⟨v', g1, g2, g3⟩ => ⟨v', ?_, fun κ' hv => ?_, g3⟩
        · simpa [pu] using g2
        · rw [g1, ← hv]
      refine ⟨fun h => absurd h (by decide), fun _ => ⟨fun _ => ⟨rowsB x, false, callOk_row (by simp) (by omega) (fun κ w1 hH _ _ => ?_), true, fun κ w1 ha hb' _ _ => c_EqualT x hb _ _ w1 (hb'.slice (nl := false) rfl _) (ha.slice (nl := false) rfl _), rfl, fun _ => by omega⟩, rfl⟩⟩
      simp
      refine (kb w1).mono fun e w' ⟨v', g1, g2, g3⟩ => ⟨v', ?_, fun κ' hv => ?_, g3⟩
      · simpa [pu] using g2
      · rw [g1, ← hv]
    · have kr := c_Right0 _ hr
      have ke := fun w => c_Encode0 _ hr w
      simp [-Bool.exists_bool, -Bool.forall_bool]
      refine ⟨[], true, 200, callOk_row (by simp) (by omega) (fun κ w1 hH _ _ => ?_), false, kr, ?_⟩
      · simp
        refine (ke w1).mono fun e w' ⟨g1, g3⟩ => ⟨.slice none 0 0, ⟨⟨by simp [arrCells], .inl ⟨rfl, rfl⟩⟩, by simp⟩, fun κ' hv => ?_, g3⟩
        rw [g1, ← hv]
      exact ⟨fun _ => ⟨⟨rfl, rfl⟩, fun _ _ => by omega⟩, fun h => absurd h (by decide)⟩
  refine stepI (fun hk => ?_) (fun hk9 => ?_)
  · simp at hk
    by_cases hr : right ⟨qkd, qdom, qcor, qsid, qsp, qseq, qtim, qppb, qrid, qrp, qp1, qcl, qac, n, qp2, qmid, qst⟩
    · have kr := c_Right1 _ hr
      have hb := bytesM_range _ hr
      have ke := fun w => c_Encode _ hr w
      have kb := fun w => c_Bytes _ hr w
      generalize bytesM ⟨qkd, qdom, qcor, qsid, qsp, qseq, qtim, qppb, qrid, qrp, qp1, qcl, qac, n, qp2, qmid, qst⟩ = x at *
      simp [-Bool.exists_bool, -Bool.forall_bool]
      refine ⟨rowsB x, false, 0, callOk_row (by simp) (by omega) (fun κ w1 hH _ _ => ?_), true, kr, ?_⟩
      · simp
        refine (ke w1).mono fun e w' ⟨v', g1, g2, g3⟩ => ⟨v', ?_, fun κ' hv => ?_, g3⟩
        · simpa [pu] using g2
        · rw [g1, ← hv]
      refine ⟨fun h => absurd h (by decide), fun _ => ⟨fun _ => ⟨rowsB x, false, callOk_row (by simp) (by omega) (fun κ w1 hH _ _ => ?_), true, fun κ w1 ha hb' _ _ => c_EqualT x hb _ _ w1 (hb'.slice (nl := false) rfl _) (ha.slice (nl := false) rfl _), rfl, fun _ => by omega⟩, rfl⟩⟩
      simp
      refine (kb w1).mono fun e w' ⟨v', g1, g2, g3⟩ => ⟨v', ?_, fun κ' hv => ?_, g3⟩
      · simpa [pu] using g2
      · rw [g1, ← hv]
    · have kr := c_Right0 _ hr
      have ke := fun w => c_Encode0 _ hr w
      simp [-Bool.exists_bool, -Bool.forall_bool]
      refine ⟨[], true, 200, callOk_row (by simp) (by omega) (fun κ w1 hH _ _ => ?_), false, kr, ?_⟩
      · simp
        refine (ke w1).mono fun e w' ⟨g1, g3⟩ => ⟨.slice none 0 0, ⟨⟨by simp [arrCells], .inl ⟨rfl, rfl⟩⟩, by simp⟩, fun κ' hv => ?_, g3⟩
        rw [g1, ← hv]
      exact ⟨fun _ => ⟨⟨rfl, rfl⟩, fun _ _ => by omega⟩, fun h => absurd h (by decide)⟩
  refine stepI (fun hk => ?_) (fun hk10 => ?_)
  · simp at hk
    by_cases hr : right ⟨qkd, qdom, qcor, qsid, qsp, qseq, qtim, qppb, qrid, qrp, qp1, qcl, qac, qva, qp2, qmid, n⟩
    · have kr := c_Right1 _ hr
      have hb := bytesM_range _ hr
      have ke := fun w => c_Encode _ hr w
      have kb := fun w => c_Bytes _ hr w
      generalize bytesM ⟨qkd, qdom, qcor, qsid, qsp, qseq, qtim, qppb, qrid, qrp, qp1, qcl, qac, qva, qp2, qmid, n⟩ = x at *
      simp [-Bool.exists_bool, -Bool.forall_bool]
      refine ⟨rowsB x, false, 0, callOk_row (by simp) (by omega) (fun κ w1 hH _ _ => ?_), true, kr, ?_⟩
      · simp
        refine (ke w1).mono fun e w' ⟨v', g1, g2, g3⟩ => ⟨v', ?_, fun κ' hv => ?_, g3⟩
        · simpa [pu] using g2
        · rw [g1, ← hv]
      refine ⟨fun h => absurd h (by decide), fun _ => ⟨fun _ => ⟨rowsB x, false, callOk_row (by simp) (by omega) (fun κ w1 hH _ _ => ?_), true, fun κ w1 ha hb' _ _ => c_EqualT x hb _ _ w1 (hb'.slice (nl := false) rfl _) (ha.slice (nl := false) rfl _), rfl, fun _ => by omega⟩, rfl⟩⟩
      simp
      refine (kb w1).mono fun e w' ⟨v', g1, g2, g3⟩ => ⟨v', ?_, fun κ' hv => ?_, g3⟩
      · simpa [pu] using g2
      · rw [g1, ← hv]
    · have kr := c_Right0 _ hr
      have ke := fun w => c_Encode0 _ hr w
      simp [-Bool.exists_bool, -Bool.forall_bool]
      refine ⟨[], true, 200, callOk_row (by simp) (by omega) (fun κ w1 hH _ _ => ?_), false, kr, ?_⟩
      · simp
        refine (ke w1).mono fun e w' ⟨g1, g3⟩ => ⟨.slice none 0 0, ⟨⟨by simp [arrCells], .inl ⟨rfl, rfl⟩⟩, by simp⟩, fun κ' hv => ?_, g3⟩
        rw [g1, ← hv]
      exact ⟨fun _ => ⟨⟨rfl, rfl⟩, fun _ _ => by omega⟩, fun h => absurd h (by decide)⟩
  refine stepI (fun hk => ?_) (fun hk11 => ?_)
  · simp at hk
    by_cases hr : right ⟨qkd, qdom, qcor, qsid, qsp, qseq, qtim, qppb, n, qrp, qp1, qcl, qac, qva, qp2, qmid, qst⟩
    · have kr := c_Right1 _ hr
      have hb := bytesM_range _ hr
      have ke := fun w => c_Encode _ hr w
      have kb := fun w => c_Bytes _ hr w
      generalize bytesM ⟨qkd, qdom, qcor, qsid, qsp, qseq, qtim, qppb, n, qrp, qp1, qcl, qac, qva, qp2, qmid, qst⟩ = x at *
      simp [-Bool.exists_bool, -Bool.forall_bool]
      refine ⟨rowsB x, false, 0, callOk_row (by simp) (by omega) (fun κ w1 hH _ _ => ?_), true, kr, ?_⟩
      · simp
        refine (ke w1).mono fun e w' ⟨v', g1, g2, g3⟩ => ⟨v', ?_, fun κ' hv => ?_, g3⟩
        · simpa [pu] using g2
        · rw [g1, ← hv]
      refine ⟨fun h => absurd h (by decide), fun _ => ⟨fun _ => ⟨rowsB x, false, callOk_row (by simp) (by omega) (fun κ w1 hH _ _ => ?_), true, fun κ w1 ha hb' _ _ => c_EqualT x hb _ _ w1 (hb'.slice (nl := false) rfl _) (ha.slice (nl := false) rfl _), rfl, fun _ => by omega⟩, rfl⟩⟩
      simp
      refine (kb w1).mono fun e w' ⟨v', g1, g2, g3⟩ => ⟨v', ?_, fun κ' hv => ?_, g3⟩
      · simpa [pu] using g2
      · rw [g1, ← hv]
    · have kr := c_Right0 _ hr
      have ke := fun w => c_Encode0 _ hr w
      simp [-Bool.exists_bool, -Bool.forall_bool]
      refine ⟨[], true, 200, callOk_row (by simp) (by omega) (fun κ w1 hH _ _ => ?_), false, kr, ?_⟩
      · simp
        refine (ke w1).mono fun e w' ⟨g1, g3⟩ => ⟨.slice none 0 0, ⟨⟨by simp [arrCells], .inl ⟨rfl, rfl⟩⟩, by simp⟩, fun κ' hv => ?_, g3⟩
        rw [g1, ← hv]
      exact ⟨fun _ => ⟨⟨rfl, rfl⟩, fun _ _ => by omega⟩, fun h => absurd h (by decide)⟩
  refine stepI (fun hk => ?_) (fun hk12 => ?_)
  · simp at hk
    by_cases hr : right ⟨mkd, mdom, mcor, msid, msp, mseq, mtim, mppb, mrid, mrp, mp1, mcl, mac, mva, mp2, mmid, mst⟩
    · have kr := c_Right1 _ hr
      have hb := bytesM_range _ hr
      have ke := fun w => c_Encode _ hr w
      have kb := fun w => c_Bytes _ hr w
      generalize bytesM ⟨mkd, mdom, mcor, msid, msp, mseq, mtim, mppb, mrid, mrp, mp1, mcl, mac, mva, mp2, mmid, mst⟩ = x at *
      simp [-Bool.exists_bool, -Bool.forall_bool]
      refine ⟨rowsB x, false, 0, callOk_row (by simp) (by omega) (fun κ w1 hH _ _ => ?_), true, kr, ?_⟩
      · simp
        refine (ke w1).mono fun e w' ⟨v', g1, g2, g3⟩ => ⟨v', ?_, fun κ' hv => ?_, g3⟩
        · simpa [pu] using g2
        · rw [g1, ← hv]
      refine ⟨fun h => absurd h (by decide), fun _ => ⟨fun _ => ⟨rowsB x, false, callOk_row (by simp) (by omega) (fun κ w1 hH _ _ => ?_), true, fun κ w1 ha hb' _ _ => c_EqualT x hb _ _ w1 (hb'.slice (nl := false) rfl _) (ha.slice (nl := false) rfl _), rfl, fun _ => by omega⟩, rfl⟩⟩
      simp
      refine (kb w1).mono fun e w' ⟨v', g1, g2, g3⟩ => ⟨v', ?_, fun κ' hv => ?_, g3⟩
      · simpa [pu] using g2
      · rw [g1, ← hv]
    · have kr := c_Right0 _ hr
      have ke := fun w => c_Encode0 _ hr w
      simp [-Bool.exists_bool, -Bool.forall_bool]
      refine ⟨[], true, 200, callOk_row (by simp) (by omega) (fun κ w1 hH _ _ => ?_), false, kr, ?_⟩
      · simp
        refine (ke w1).mono fun e w' ⟨g1, g3⟩ => ⟨.slice none 0 0, ⟨⟨by simp [arrCells], .inl ⟨rfl, rfl⟩⟩, by simp⟩, fun κ' hv => ?_, g3⟩
        rw [g1, ← hv]
      exact ⟨fun _ => ⟨⟨rfl, rfl⟩, fun _ _ => by omega⟩, fun h => absurd h (by decide)⟩
  have hk : k = 13 := by simp at hk0 hk1 hk2 hk3 hk4 hk5 hk6 hk7 hk8 hk9 hk10 hk11 hk12; omega
  refine ⟨by simp [allN, hk], ?_⟩
  · skip
    by_cases hr : right ⟨qkd, qdom, qcor, qsid, qsp, qseq, qtim, qppb, qrid, qrp, qp1, qcl, qac, qva, qp2, qmid, qst⟩
    · have kr := c_Right1 _ hr
      have hb := bytesM_range _ hr
      have ke := fun w => c_Encode _ hr w
      have kb := fun w => c_Bytes _ hr w
      generalize bytesM ⟨qkd, qdom, qcor, qsid, qsp, qseq, qtim, qppb, qrid, qrp, qp1, qcl, qac, qva, qp2, qmid, qst⟩ = x at *
      simp [-Bool.exists_bool, -Bool.forall_bool]
      refine ⟨rowsB x, false, 0, callOk_row (by simp) (by omega) (fun κ w1 hH _ _ => ?_), true, kr, ?_⟩
      · simp
        refine (ke w1).mono fun e w' ⟨v', g1, g2, g3⟩ => ⟨v', ?_, fun κ' hv => ?_, g3⟩
        · simpa [pu] using g2
        · rw [g1, ← hv]
      refine ⟨fun h => absurd h (by decide), fun _ => ⟨fun _ => ⟨rowsB x, false, callOk_row (by simp) (by omega) (fun κ w1 hH _ _ => ?_), true, fun κ w1 ha hb' _ _ => c_EqualT x hb _ _ w1 (hb'.slice (nl := false) rfl _) (ha.slice (nl := false) rfl _), rfl, fun _ => by omega⟩, rfl⟩⟩
      simp
      refine (kb w1).mono fun e w' ⟨v', g1, g2, g3⟩ => ⟨v', ?_, fun κ' hv => ?_, g3⟩
      · simpa [pu] using g2
      · rw [g1, ← hv]
    · have kr := c_Right0 _ hr
      have ke := fun w => c_Encode0 _ hr w
      simp [-Bool.exists_bool, -Bool.forall_bool]
      refine ⟨[], true, 200, callOk_row (by simp) (by omega) (fun κ w1 hH _ _ => ?_), false, kr, ?_⟩
      · simp
        refine (ke w1).mono fun e w' ⟨g1, g3⟩ => ⟨.slice none 0 0, ⟨⟨by simp [arrCells], .inl ⟨rfl, rfl⟩⟩, by simp⟩, fun κ' hv => ?_, g3⟩
        rw [g1, ← hv]
      exact ⟨fun _ => ⟨⟨rfl, rfl⟩, fun _ _ => by omega⟩, fun h => absurd h (by decide)⟩
end Go.Proofs.Y10
