/- A part of the proof: see the text that states the theorem. -/
import Derived.Test.YtjclacagbifgmaaL1
import Derived.Test.YtjclacagbifgmaaK0
set_option linter.unusedSimpArgs false
set_option linter.unusedVariables false
set_option linter.unusedSectionVars false
noncomputable section
set_option maxHeartbeats 4000000
set_option maxRecDepth 100000
namespace Go.Proofs.Y10
open Go Go.SX Go.RowKit
def lA : List Int := 11 :: 127 :: 0 :: 36 :: 0 :: 0 :: 4 :: 0 :: 0 :: 0 :: 0 :: 0 :: 255 :: 255 :: 255 :: 255 :: 255 :: 255 :: 255 :: 255 :: 255 :: 255 :: 255 :: 254 :: 253 :: 255 :: 255 :: 252 :: 255 :: 255 :: 255 :: 255 :: 255 :: 255 :: 255 :: 255 :: []
def lB : List Int := 10 :: 0 :: 0 :: 38 :: 255 :: 255 :: 252 :: 0 :: 0 :: 0 :: 0 :: 0 :: 0 :: 0 :: 0 :: 0 :: 0 :: 0 :: 0 :: 1 :: 0 :: 0 :: 255 :: 255 :: 252 :: 0 :: 0 :: 0 :: 0 :: 0 :: 0 :: 0 :: 0 :: 0 :: 0 :: 0 :: 0 :: 1 :: []
theorem c_Chk (m : M) (e : Int) (h : right m ∧ e = 0 ∨ ¬right m ∧ e = 200) : Ret Try.prog 24 #[vM m] (vI e) := by
  rcases h with ⟨h, rfl⟩ | ⟨h, rfl⟩
  · exact c_Check1 m h
  · exact c_Check0 m h
theorem c_Enc (m : M) (l : List Int) (h : right m ∧ bytesM m = l) (w : World) : Calls Try.prog 18 #[vM m] w fun e w' => ∃ v, e = .returned (vE v 0) ∧ OwnRow w w' 5 pu (rowsB l) false v ∧ Below w.heap.size w w' := by
  obtain ⟨h, rfl⟩ := h; exact c_Encode m h w
theorem k_ann (w : World) : Calls Try.prog 18 #[vM ⟨11, 127, 4398046511104, 281474976710655, 65535, 65535, 0, 0, 0, 0, 255, 254, 253, 65535, 252, 281474976710655, 65535⟩] w fun e w' => ∃ v, e = .returned (vE v 0) ∧ OwnRow w w' 5 pu (rowsB lA) false v ∧ Below w.heap.size w w' := c_Enc ⟨11, 127, 4398046511104, 281474976710655, 65535, 65535, 0, 0, 0, 0, 255, 254, 253, 65535, 252, 281474976710655, 65535⟩ lA ⟨by simp [right, headP, tailP, noM, timP, masterP], by decide⟩ w
theorem k_resp (w : World) : Calls Try.prog 18 #[vM ⟨10, 0, -4398046511104, 0, 1, 0, -4398046511104, 0, 0, 1, 0, 0, 0, 0, 0, 0, 0⟩] w fun e w' => ∃ v, e = .returned (vE v 0) ∧ OwnRow w w' 5 pu (rowsB lB) false v ∧ Below w.heap.size w w' := c_Enc ⟨10, 0, -4398046511104, 0, 1, 0, -4398046511104, 0, 0, 1, 0, 0, 0, 0, 0, 0, 0⟩ lB ⟨by simp [right, headP, tailP, noM, timP, masterP], by decide⟩ w
theorem k_nil (w : World) : Calls Try.prog 18 #[vM ⟨0, 0, 0, 0, 0, 0, 0, 0, 0, 0, 0, 0, 0, 0, 0, 0, 0⟩] w fun e w' => e = .returned (vE (.slice none 0 0) 200) ∧ Below w.heap.size w w' := c_Encode0 ⟨0, 0, 0, 0, 0, 0, 0, 0, 0, 0, 0, 0, 0, 0, 0, 0, 0⟩ (by simp [right, headP, tailP, noM, timP, masterP]) w
theorem k_none : Ret Try.prog 22 #[bigCell (.slice none 0 0)] (.tuple #[vM M0, vI 5]) := fun w => by
  have e : ¬decP [] := fun h => by have := h.1; simp at this
  have k := c_Decode [] (fun _ h => by cases h) (.slice none 0 0) w ⟨⟨true, 0, 0, 0, rfl, fun _ => rfl, fun x f r k h => by simp [rowsB] at h⟩, fun p n c e => by cases e; exact Nat.le_refl _⟩
  rw [decM, if_neg e, if_neg e] at k
  exact k
theorem obj_slice {w : World} {b n c : Nat} (l : List Int) {E : TypeId} (h : w.heap[b]? = some (.cells (l.map (Value.int .u8)).toArray E)) (hn : l.length = n) : SliceIs w pu (rowsB l) (.slice (some ⟨b, 0, none⟩) n c) := by
  refine ⟨false, b, 0, c, by simp [rowsB, hn], fun h => (by cases h), fun x f r k hx hk => ?_⟩
  have hf : f = 0 ∧ k = .int .u8 := by
    match f, hk with
    | 0, hk => simp [pu] at hk; exact ⟨rfl, hk.symm⟩
  obtain ⟨rfl, rfl⟩ := hf
  simp only [rowsB, List.getElem?_map, Option.map_eq_some_iff] at hx
  obtain ⟨a, ha, rfl⟩ := hx
  simp [World.cell?, h, pu, CK.den, ha]
theorem c_EqualT (l : List Int) (hl : ∀ x ∈ l, 0 ≤ x ∧ x < 256) (v v' : Value) (w : World) (h : SliceIs w pu (rowsB l) v) (h' : SliceIs w pu (rowsB l) v') :
    Calls Try.prog 20 #[v, v'] w fun e w' => e = .returned (vB true) ∧ Below w.heap.size w w' := by
  have := c_Equal l l hl hl v v' w h h'
  rw [decide_eq_true rfl] at this; exact this
theorem inA : ∀ x ∈ lA, 0 ≤ x ∧ x < 256 := by unfold lA; decide
theorem inB : ∀ x ∈ lB, 0 ≤ x ∧ x < 256 := by unfold lB; decide
theorem l_Known : Ret Try.prog 8 #[] (vB true) := by
  refine ret_of t_Known (mkEnv []) fun w => ?_
  have kw := c_works
  have kd := c_Chk ⟨11, 127, 4398046511104, 281474976710655, 65535, 65535, 0, 0, 0, 1, 255, 254, 253, 65535, 252, 281474976710655, 65535⟩ 200 (by simp [right, headP, tailP, noM, timP, masterP])
  have ke := c_Chk ⟨11, 127, 4398046511104, 281474976710655, 65535, 65535, 0, 0, 0, 0, 255, 254, 253, 65535, 252, 281474976710656, 65535⟩ 200 (by simp [right, headP, tailP, noM, timP, masterP])
  have kf := c_Chk ⟨10, 0, -4398046511104, 0, 1, 0, -4398046511104, 0, 0, 0, 0, 0, 0, 0, 0, 0, 0⟩ 200 (by simp [right, headP, tailP, noM, timP, masterP])
  have kg := c_CheckMaster 0 0 0 0 0 0
  have kh := c_CheckMaster 0 0 0 0 0 (-1)
  simp [masterP] at kg kh
  simp [-Bool.exists_bool]
  refine ⟨true, kw, rfl, fun _ => ⟨rowsB lA, false, 0, callOk_row (by simp) (by omega) (fun κ w1 hH _ _ => ?_), rowsB lB, false, 0, callOk_row (by simp) (by omega) (fun κ w1 hH _ _ => ?_), ?_⟩⟩
  · simp
    refine (k_ann w1).mono fun e w' ⟨v', g1, g2, g3⟩ => ⟨v', ?_, fun κ' hv => ?_, g3⟩
    · simpa [pu] using g2
    · rw [g1, ← hv]
  · simp
    refine (k_resp w1).mono fun e w' ⟨v', g1, g2, g3⟩ => ⟨v', ?_, fun κ' hv => ?_, g3⟩
    · simpa [pu] using g2
    · rw [g1, ← hv]
  refine ⟨fun _ _ => ?_, rfl, rfl⟩
  refine ⟨true, fun κ w1 ho ha _ _ => c_EqualT lA inA _ _ w1 (ha.slice rfl _) (obj_slice lA ho rfl), rfl, fun _ => ⟨true, fun κ w1 ho ha _ _ => c_EqualT lB inB _ _ w1 (ha.slice rfl _) (obj_slice lB ho rfl), rfl, fun _ => ⟨_, _, _, _, _, _, _, _, _, _, _, _, _, _, _, _, _, _, k_none, [], true, 200, callOk_row (by simp) (by omega) (fun κ w1 hH _ _ => ?_), ?_⟩⟩⟩
  · simp
    refine (k_nil w1).mono fun e w' ⟨g1, g3⟩ => ⟨.slice none 0 0, ⟨⟨by simp [arrCells], .inl ⟨rfl, rfl⟩⟩, by simp⟩, fun κ' hv => ?_, g3⟩
    rw [g1, ← hv]
  exact ⟨kd, ke, 200, kf, fun _ _ _ => ⟨kg, kh⟩, rfl, rfl, rfl⟩
end Go.Proofs.Y10
