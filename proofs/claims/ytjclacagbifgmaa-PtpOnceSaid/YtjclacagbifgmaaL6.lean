/- A part of the proof: see the text that states the theorem. -/
import Derived.Test.YtjclacagbifgmaaL1
import Derived.Test.YtjclacagbifgmaaAS6
set_option linter.unusedSimpArgs false
set_option linter.unusedVariables false
set_option linter.unusedSectionVars false
noncomputable section
set_option maxHeartbeats 4000000
set_option maxRecDepth 100000
namespace Go.Proofs.Y10
open Go Go.SX Go.RowKit
theorem l_Once (us : List Int) (hus : ∀ x ∈ us, 0 ≤ x ∧ x < 256) (d : Dr) (hd : d.ok) (a n : Int) (ha : 0 ≤ a ∧ a < 256) (hn : 0 ≤ n ∧ n < 256) (v : Value) (w : World) (h : BSlice w us v) :
    Calls Try.prog 6 #[v, vD d, .int .u8 a, .int .u8 n] w fun e w' => e = .returned (vB true) ∧ Below w.heap.size w w' := by
  obtain ⟨⟨nl, bl, o, cap, rfl, h1, h2⟩, hc⟩ := h
  have hc := hc _ _ _ rfl
  rw [rowsB_len] at hc
  have kM := c_Message d hd
  have r1 := right_msgOf d hd
  have e1 := fun w => c_Encode (msgOf d) r1 w
  have kw := c_works
  have b1 := bytesM_range _ r1
  have dp := (parse_bytesM _ r1).2.1
  generalize bytesM (msgOf d) = x at *
  generalize msgOf d = q at *
  obtain ⟨qkd, qdom, qcor, qsid, qsp, qseq, qtim, qppb, qrid, qrp, qp1, qcl, qac, qva, qp2, qmid, qst⟩ := q
  obtain ⟨dk, ddom, dcor, dtim, did, doth, dport, dseq, dst, dppb, dr0, dr1, dr2, dr3, dva⟩ := d
  have := calls_of t_PtpOnce (ρ := mkEnv [.l (rowsB us), .n nl, .i cap, .i dk, .i ddom, .i dcor, .i dtim, .i did, .i doth, .i dport, .i dseq, .i dst, .i dppb, .i dr0, .i dr1, .i dr2, .i dr3, .i dva, .i a, .i n]) (κ := kap1 bl o) (w := w) (res := vB true) (heapOk_slice h1 h2) ?_
  · simp only [List.map_cons, List.map_nil] at this
    rw [slArg_den (rows := rowsB us) (nl := nl) (cap := cap) rfl rfl rfl] at this
    exact this
  simp [-Bool.exists_bool, -Bool.forall_bool]
  have el : (rowsB x).length = x.length := rowsB_len x
  have eu : (rowsB us).length = us.length := rowsB_len us
  have ew : IntKind.i64.wrap a = a := wrap64 (by omega) (by omega)
  have em : a.tmod x.length = a % x.length := Int.tmod_eq_emod_of_nonneg ha.1
  have e2 := Int.emod_nonneg a (b := x.length) (by omega)
  have e3 := Int.emod_lt_of_pos a (b := x.length) (by omega)
  refine ⟨true, kw, rfl, fun _ => ⟨_, _, _, _, _, _, _, _, _, _, _, _, _, _, _, _, _, kM, rowsB x, false, 0, callOk_row (by simp) (by omega) (fun κ w1 hH _ _ => ?_), ⟨rfl, ?_⟩, fun _ _ => ⟨?_, ?_, ?_⟩⟩⟩
  · simp
    refine (e1 w1).mono fun e w' ⟨v', g1, g2, g3⟩ => ⟨v', ?_, fun κ' hv => ?_, g3⟩
    · simpa [pu] using g2
    · rw [g1, ← hv]
  · intro h; have := congrArg List.length h; rw [el] at this; simp only [List.length_nil] at this; omega
  · rw [el, ew, em]; exact ⟨e2, e3⟩
  · rw [eu]; split <;> omega
  simp only [el, eu, ew, em]
  rw [rowsB_set]
  have hk : (if 60 < (us.length : Int) then (60 : Int) else us.length).toNat ≤ us.length := by split <;> omega
  generalize (if 60 < (us.length : Int) then (60 : Int) else us.length).toNat = k at *
  have hr : ∀ z, ∀ y ∈ x.set (a % x.length).toNat (bits .xor .u8 z n), 0 ≤ y ∧ y < 256 := fun z y hy => by
    rcases List.mem_or_eq_of_mem_set hy with hy | rfl
    · exact b1 y hy
    · exact xor_range _ _
  have hu : ∀ y ∈ us.take k, 0 ≤ y ∧ y < 256 := fun y hy => hus y (List.mem_of_mem_take hy)
  generalize (((rowsB x)[(a % (x.length : Int)).toNat]?.getD [])[0]?.getD (Dat.i 0)).int = z
  have hy := hr z
  have ly : (x.set (a % (x.length : Int)).toNat (bits .xor .u8 z n)).length = x.length := by simp
  generalize x.set (a % (x.length : Int)).toNat (bits .xor .u8 z n) = y at *
  by_cases d1 : decP (us.take k)
  · refine ⟨_, _, _, _, _, _, _, _, _, _, _, _, _, _, _, _, _, 0, fun κ w1 ha _ _ => c_DecodeOk hu ⟨rfl, d1⟩ _ w1 (bs_take ha _ hk (by omega)), fun h => absurd rfl h, fun _ => ?_⟩
    refine ⟨rowsB (us.take k), false, callOk_row (by simp) (by omega) (fun κ w1 hH _ _ => ?_), true, fun κ w1 ha hb _ _ => c_EqualT _ hu _ _ w1 (ha.slice rfl _) (bs_take hb _ hk (by omega)).1, rfl, fun _ => ?_⟩
    · simp
      refine (c_EncodeL hu d1 w1).mono fun e w' ⟨v', g1, g2, g3⟩ => ⟨v', ?_, fun κ' hv => ?_, g3⟩
      · simpa [pu] using g2
      · rw [g1, ← hv]
    by_cases d2 : decP y
    · refine ⟨_, _, _, _, _, _, _, _, _, _, _, _, _, _, _, _, _, 0, fun κ w1 ha _ _ => c_DecodeOk hy ⟨rfl, d2⟩ _ w1 (bs_own (nl := false) ha (by rw [rowsB_len, ly])), fun h => absurd rfl h, fun _ => ⟨rowsB y, false, callOk_row (by simp) (by omega) (fun κ w1 hH _ _ => ?_), fun κ w1 ha hb _ _ => c_EqualT y hy _ _ w1 (ha.slice (nl := false) (by simp [rowsB]) _) (hb.slice (nl := false) (by rw [rowsB_len, ly]) _)⟩⟩
      simp
      refine (c_EncodeL hy d2 w1).mono fun e w' ⟨v', g1, g2, g3⟩ => ⟨v', ?_, fun κ' hv => ?_, g3⟩
      · simpa [pu] using g2
      · rw [g1, ← hv]
    · exact ⟨_, _, _, _, _, _, _, _, _, _, _, _, _, _, _, _, _, 5, fun κ w1 ha _ _ => c_DecodeNo hy d2 _ w1 (bs_own (nl := false) ha (by rw [rowsB_len, ly])), fun _ => (by and_intros <;> rfl), fun h => absurd h (by decide)⟩
  · refine ⟨_, _, _, _, _, _, _, _, _, _, _, _, _, _, _, _, _, 5, fun κ w1 ha _ _ => c_DecodeNo hu d1 _ w1 (bs_take ha _ hk (by omega)), fun _ => ?_, fun h => absurd h (by decide)⟩
    simp [-Bool.exists_bool, -Bool.forall_bool]
    by_cases d2 : decP y
    · refine ⟨_, _, _, _, _, _, _, _, _, _, _, _, _, _, _, _, _, 0, fun κ w1 ha _ _ => c_DecodeOk hy ⟨rfl, d2⟩ _ w1 (bs_own (nl := false) ha (by rw [rowsB_len, ly])), fun h => absurd rfl h, fun _ => ⟨rowsB y, false, callOk_row (by simp) (by omega) (fun κ w1 hH _ _ => ?_), fun κ w1 ha hb _ _ => c_EqualT y hy _ _ w1 (ha.slice (nl := false) (by simp [rowsB]) _) (hb.slice (nl := false) (by rw [rowsB_len, ly]) _)⟩⟩
      simp
      refine (c_EncodeL hy d2 w1).mono fun e w' ⟨v', g1, g2, g3⟩ => ⟨v', ?_, fun κ' hv => ?_, g3⟩
      · simpa [pu] using g2
      · rw [g1, ← hv]
    · exact ⟨_, _, _, _, _, _, _, _, _, _, _, _, _, _, _, _, _, 5, fun κ w1 ha _ _ => c_DecodeNo hy d2 _ w1 (bs_own (nl := false) ha (by rw [rowsB_len, ly])), fun _ => (by and_intros <;> rfl), fun h => absurd h (by decide)⟩
end Go.Proofs.Y10
