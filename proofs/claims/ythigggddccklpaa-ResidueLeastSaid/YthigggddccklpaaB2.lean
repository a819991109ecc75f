/- A part of the proof: see the text that states the theorem. -/
import Derived.Test.YthigggddccklpaaB1
set_option linter.unusedSimpArgs false
set_option linter.unusedVariables false
set_option linter.unusedSectionVars false
noncomputable section
namespace Go.Proofs.Y23
open Go Go.SX Go.RowKit
theorem apart_at {ap af al bp bf bl : Int} (ha : okS ap af al = true) (hb : okS bp bf bl = true) : (apartB ap af al bp bf bl && apartE ap af al bp bf bl == 0) = sepB ap af al bp bf bl := by
  simp [apartB, apartE, ha, hb]
theorem ok_shift {p f l : Int} (k : Int) (h : okS p f l = true) : okS p ((f + k) % p) l = true := by
  rw [okS_iff] at h ⊢
  have h1 := Int.emod_nonneg (f + k) (show p ≠ 0 by omega)
  have h2 := Int.emod_lt_of_pos (f + k) (show 0 < p by omega)
  omega
/-- what Next's result says -/
theorem nextF_cases {l : List Sp} {p f g : Int} (h1 : listE l = 0) (h2 : okS p f g = true) :
    (∃ k : Int, nextF l p f g = (k, 0) ∧ 0 ≤ k ∧ k < p ∧ clearB l p ((f + k) % p) g = true ∧ ∀ m : Int, 0 ≤ m → m < k → clearB l p ((f + m) % p) g = false) ∨
    (nextF l p f g = (0, 4) ∧ ∀ m : Int, 0 ≤ m → m < p → clearB l p ((f + m) % p) g = false) := by
  unfold nextF
  rw [if_pos h1, if_pos h2]
  split
  · rename_i k hk
    rw [List.find?_range_eq_some] at hk
    obtain ⟨k1, k2, k3⟩ := hk
    simp at k2
    refine .inl ⟨k, rfl, by omega, by omega, k1, fun m m1 m2 => ?_⟩
    have := k3 m.toNat (by omega)
    rw [Int.toNat_of_nonneg m1] at this
    simpa using this
  · rename_i hk
    rw [List.find?_eq_none] at hk
    refine .inr ⟨rfl, fun m m1 m2 => ?_⟩
    have := hk m.toNat (by simp; omega)
    rw [Int.toNat_of_nonneg m1] at this
    simpa using this
set_option maxHeartbeats 1000000 in
theorem l_Least (us : List Sp) (hu : ∀ s ∈ us, byteSp s) (a b c : Int) (ha : 0 ≤ a ∧ a < 256) (hb : 0 ≤ b ∧ b < 256) (hc : 0 ≤ c ∧ c < 256) (v : Value) (w : World) (h : SliceIs w pu3 (rowsOf us) v) :
    Calls Try.prog 8 #[v, .agg #[vU a, vU b, vU c]] w fun e w' => e = .returned (vB true) ∧ Below w.heap.size w w' := by
  obtain ⟨nl, bl, o, cap, rfl, h1, h2⟩ := h
  have := calls_of t_Least (ρ := mkEnv [.l (rowsOf us), .n nl, .i cap, .i a, .i b, .i c]) (κ := kap1 bl o) (w := w) (res := vB true) (heapOk_slice h1 h2) ?_
  · simp only [List.map_cons, List.map_nil] at this
    rw [slArg_den (rows := rowsOf us) (nl := nl) (cap := cap) rfl rfl rfl] at this
    exact this
  simp [-Bool.forall_bool, -Bool.exists_bool]
  generalize hL : (us.take 12).map ofSp = L
  refine ⟨true, c_works, rfl, fun _ => ⟨rowsOf L, decide (us.take 12 = []), callOk_row (by simp) (by omega) (fun κ w1 hH _ _ => ?_), ?_⟩⟩
  · have hs := SliceIs.of_arr (j := 1) (c := 0) hH rfl (CE.e (IE.v 2))
    simp at hs
    have k := c_drafts us hu 12 (by omega) (by omega) w1 hs
    have k2 : (us.take (12 : Int).toNat).map ofSp = L := hL
    rw [k2] at k
    simp
    refine k.mono fun e w' ⟨v', e1, e2, e3⟩ => ⟨v', ?_, fun κ' hv => ?_, e3⟩
    · simpa [p3] using e2
    · rw [e1, ← hv]
  · have hok : ∀ s ∈ L, okSp s = true := fun s hs => by
      rw [← hL] at hs
      obtain ⟨u, _, rfl⟩ := List.mem_map.1 hs
      exact ok_of _ _ _
    have hl : L.length ≤ 12 := by rw [← hL]; simp; omega
    refine ⟨_, _, _, c_Of ha hb hc, (nextF L (ofP a) (ofF a b) (ofL a c)).1, (nextF L (ofP a) (ofF a b) (ofL a c)).2, fun κ w1 hH _ _ => c_Next L _ _ _ _ w1 (hH.slice (by simp) _), ?_⟩
    have hb := ok_of a b c
    generalize ofP a = p at hb ⊢
    generalize ofF a b = f at hb ⊢
    generalize ofL a c = g at hb ⊢
    have hp := okS_iff.1 hb
    have hlE : listE L = 0 := by
      rw [listE, if_neg (by omega), validE, if_pos (List.all_eq_true.2 hok)]
    have step : ∀ j : Int, 0 ≤ j → j < L.length → IntKind.i64.wrap (j + 1) = j + 1 ∧ L.take (j + 1).toNat = L.take j.toNat ++ [spAt L j.toNat] := fun j j1 j2 => by
      refine ⟨wrap64 (by omega) (by omega), ?_⟩
      rw [show (j + 1).toNat = j.toNat + 1 by omega, List.take_add_one]
      have : L[j.toNat]? = some (spAt L j.toNat) := by
        rw [spAt, List.getD_eq_getElem?_getD, List.getElem?_eq_getElem (by omega)]; rfl
      rw [this]; rfl
    simp only [rows_0, rows_1, rows_2, rowsOf_len]
    rcases nextF_cases hlE hb with ⟨k, hk, k1, k2, k3, k4⟩ | ⟨hk, k4⟩
    · rw [hk]
      refine ⟨fun h => (by cases h), fun _ => ⟨⟨⟨rfl, k1⟩, k2⟩, fun _ _ _ => ?_⟩⟩
      refine ⟨fun l' => match l' with
        | [.i i] => 0 ≤ i ∧ i ≤ k + 1
        | _ => False, ⟨by omega, by omega⟩, fun l' => match l' with
        | [.i i] => (k + 1 - i).toNat
        | _ => 0, fun i ⟨i1, i2⟩ hi1 hi2 => ?_⟩
      · refine ⟨fun l' => match l' with
          | [.b cl, .i j] => 0 ≤ j ∧ j ≤ L.length ∧ (cl = true ↔ ∀ s ∈ L.take j.toNat, sepB s.1 s.2.1 s.2.2 p ((f + i) % p) g = true)
          | _ => False, ⟨by omega, by omega, by simp⟩, fun l' => match l' with
          | [_, .i j] => (L.length - j).toNat
          | _ => 0, fun cl j ⟨j1, j2, j3⟩ => ⟨fun hj => ⟨.inr j1, fun hcl => ⟨_, _, _, c_Shifted (by omega) (by omega) (by omega), _, c_apart _ _ _ _ _ _, ?_⟩, fun hcl => ?_⟩, fun hj => ?_⟩⟩
        · rw [apart_at (hok _ (spAt_mem (by omega))) (ok_shift i hb)]
          obtain ⟨e1, e2⟩ := step j j1 (by omega)
          rw [e1]
          refine ⟨⟨by omega, by omega, ?_⟩, by simp only; omega⟩
          rw [e2]
          constructor
          · intro h s hs
            rcases List.mem_append.1 hs with hs | hs
            · exact j3.1 hcl s hs
            · rw [List.mem_singleton.1 hs]; exact h
          · intro h; exact h _ (List.mem_append.2 (.inr (List.mem_singleton.2 rfl)))
        · obtain ⟨e1, e2⟩ := step j j1 (by omega)
          rw [e1]
          refine ⟨⟨by omega, by omega, ?_⟩, by simp only; omega⟩
          rw [e2]
          constructor
          · intro h; cases h
          · intro h
            have := j3.2 fun s hs => h s (List.mem_append.2 (.inl hs))
            rw [hcl] at this; cases this
        · rw [List.take_of_length_le (by omega)] at j3
          have hcl : cl = clearB L p ((f + i) % p) g := by
            rw [Bool.eq_iff_iff, j3, clearB, List.all_eq_true]
          rw [hcl]
          rw [wrap64 (by omega) (by omega)]
          have hi1 : i ≤ k := hi1
          refine ⟨?_, fun _ => ⟨⟨by omega, by omega⟩, by simp only; omega⟩⟩
          show _ = (i == k)
          by_cases hik : i = k
          · subst hik; rw [k3]; simp
          · rw [k4 i i1 (by omega)]; symm; simpa using hik
    · rw [hk]
      refine ⟨fun _ => ?_, fun h => absurd rfl h⟩
      refine ⟨fun l' => match l' with
        | [.i i] => 0 ≤ i ∧ i ≤ p
        | _ => False, ⟨by omega, by omega⟩, fun l' => match l' with
        | [.i i] => (p - i).toNat
        | _ => 0, fun i ⟨i1, i2⟩ hi1 hi2 => ?_⟩
      · refine ⟨fun l' => match l' with
          | [.b cl, .i j] => 0 ≤ j ∧ j ≤ L.length ∧ (cl = true ↔ ∀ s ∈ L.take j.toNat, sepB s.1 s.2.1 s.2.2 p ((f + i) % p) g = true)
          | _ => False, ⟨by omega, by omega, by simp⟩, fun l' => match l' with
          | [_, .i j] => (L.length - j).toNat
          | _ => 0, fun cl j ⟨j1, j2, j3⟩ => ⟨fun hj => ⟨.inr j1, fun hcl => ⟨_, _, _, c_Shifted (by omega) (by omega) (by omega), _, c_apart _ _ _ _ _ _, ?_⟩, fun hcl => ?_⟩, fun hj => ?_⟩⟩
        · rw [apart_at (hok _ (spAt_mem (by omega))) (ok_shift i hb)]
          obtain ⟨e1, e2⟩ := step j j1 (by omega)
          rw [e1]
          refine ⟨⟨by omega, by omega, ?_⟩, by simp only; omega⟩
          rw [e2]
          constructor
          · intro h s hs
            rcases List.mem_append.1 hs with hs | hs
            · exact j3.1 hcl s hs
            · rw [List.mem_singleton.1 hs]; exact h
          · intro h; exact h _ (List.mem_append.2 (.inr (List.mem_singleton.2 rfl)))
        · obtain ⟨e1, e2⟩ := step j j1 (by omega)
          rw [e1]
          refine ⟨⟨by omega, by omega, ?_⟩, by simp only; omega⟩
          rw [e2]
          constructor
          · intro h; cases h
          · intro h
            have := j3.2 fun s hs => h s (List.mem_append.2 (.inl hs))
            rw [hcl] at this; cases this
        · rw [List.take_of_length_le (by omega)] at j3
          have hcl : cl = clearB L p ((f + i) % p) g := by
            rw [Bool.eq_iff_iff, j3, clearB, List.all_eq_true]
          rw [hcl, k4 i i1 hi2, wrap64 (by omega) (by omega)]
          exact ⟨rfl, fun _ => ⟨⟨by omega, by omega⟩, by simp only; omega⟩⟩
end Go.Proofs.Y23
