/- A part of the proof: see the text that states the theorem. -/
import Derived.Test.YtkjladilnoggaaaB8
set_option linter.unusedSimpArgs false
set_option linter.unusedVariables false
set_option linter.unusedSectionVars false
noncomputable section
set_option maxHeartbeats 2000000
namespace Go.Proofs.Y19
open Go Go.SX Go.RowKit
theorem c_Send (B : Br) (v : Value) (w : World) (h : BrIs w B v) : Calls Try.prog 20 #[v] w fun e w' => ∃ v', e = .returned (.tuple #[v', vI (if okBr B then 0 else 290)]) ∧ OwnRow w w' 51 pH (rowsH (if okBr B then (List.range B.ps.length).map B.snd else [])) (decide (¬(okBr B ∧ B.ps.length ≠ 0))) v' ∧ Below w.heap.size w w' := by
  by_cases hB : okBr B
  · have hdn : decide (¬(okBr B ∧ B.ps.length ≠ 0)) = decide (B.ps.length = 0) := by simp [hB]
    rw [if_pos hB, if_pos hB, hdn]
    obtain ⟨n1, n2, n3, k1, k2, k3, κ, hH, hv⟩ := brg_argT h []
    have := calls_of_tree t_Send (κ := κ) (w := w)
      (Φ := fun l _ ρ => l.v = .tup [.c (rowS 27 26 8), .c (.int .i64 (.lit 0))] ∧ l.st.H = [.arr 27 26 pH (some 51)] ∧ ρ.a 26 = rowsH ((List.range B.ps.length).map B.snd) ∧ ρ.nl 27 = decide (B.ps.length = 0)) (hH _) ?_
    · simp only [List.map_cons, List.map_nil] at this
      rw [hv] at this
      refine Calls.mono this fun e w' ⟨l, L', ρ', κ', he, ⟨e1, e2, e3, e4⟩, _, hh, hb⟩ => ?_
      rw [e2] at hh
      have ho := OwnRow.of_heap (w := w) hh (j := 27) (c := 26) rfl
      rw [e1] at he
      rw [e3, e4] at ho
      exact ⟨_, he, ho, hb⟩
    simp only [C13_P]
    simp [-Bool.exists_bool, -Bool.forall_bool]
    have kk := fun (v : Value) (w : World) h => c_Check B v w h
    have kr := fun (i : Nat) (hi : i < B.ps.length) (v : Value) (w : World) h => c_role B hB i hi v w h
    have kc := fun (i : Nat) (hi : i < B.ps.length) (v : Value) (w : World) h => c_claim B hB i hi v w h
    have ko := fun (v : Value) (w : World) h => c_root B hB v w h
    have rr := rootN_range B B.ps.length
    simp only [if_pos hB] at kk
    have l1 := hB.2.1
    refine ⟨0, fun κ w1 hh _ _ => kk _ w1 (brIs_heap hh rfl rfl rfl rfl rfl rfl rfl rfl rfl), rfl, fun _ => ⟨fun l => match l with
      | [.i k, .l r, .n b] => 0 ≤ k ∧ k ≤ B.ps.length ∧ r = rowsH ((List.range k.toNat).map B.snd) ∧ b = decide (k = 0)
      | _ => False, ⟨by omega, by omega, rfl, rfl⟩, fun l => match l with
      | .i k :: _ => (B.ps.length - k).toNat
      | _ => 0, fun k r b ⟨i1, i2, i3, i4⟩ => ⟨fun hlt => ?_, fun hge => ⟨rfl, ?_, ?_⟩⟩⟩⟩
    · have hk : k.toNat < B.ps.length := by omega
      have hkk : (k.toNat : Int) = k := by omega
      have w2 : IntKind.i64.wrap (k + 1) = k + 1 := wrap64 (by omega) (by omega)
      have hk1 : (k + 1).toNat = k.toNat + 1 := by omega
      have krr := kr k.toNat hk
      have kcc := kc k.toNat hk
      rw [hkk] at krr kcc
      have nx : ∀ row, row = rowH (B.snd k.toNat) → (0 ≤ k + 1 ∧ k + 1 ≤ B.ps.length ∧ r ++ [row] = rowsH ((List.range (k + 1).toNat).map B.snd) ∧ false = decide (k + 1 = 0)) := fun row e => by
        refine ⟨by omega, by omega, ?_, by simp; omega⟩
        rw [hk1, i3, e, List.range_succ, List.map_append]; simp [rowsH]
      have hlen : (r.length : Int) + 1 ≤ 2199023255552 := by rw [i3]; simp; omega
      refine ⟨_, fun κ w1 hh _ _ => krr _ w1 (brIs_heap hh rfl rfl rfl rfl rfl rfl rfl rfl rfl), ?_⟩
      have l3 : B.hs.length = B.ps.length := hB.2.2.2.1
      refine ⟨fun h => ⟨hlen, ?_, ?_⟩, fun h => ⟨_, _, _, _, _, _, fun κ w1 hh _ _ => kcc _ w1 (brIs_heap hh rfl rfl rfl rfl rfl rfl rfl rfl rfl), _, ⟨_, _, _, _, _, _, fun κ w1 hh _ _ => ko _ w1 (brIs_heap hh rfl rfl rfl rfl rfl rfl rfl rfl rfl)⟩, fun h0 => ⟨⟨h0, by omega⟩, hlen, ?_, ?_⟩, fun h0 => ⟨hlen, ?_, ?_⟩⟩⟩
      · simp only [w2]
        exact nx _ (by simp [Br.snd, h, Hd.zero, rowH])
      · simp only [w2]; omega
      · simp only [w2]
        refine nx _ ?_
        have hn : ¬B.root < 0 := by unfold Br.root; omega
        have hj3 : (B.rootN B.ps.length).toNat < B.hs.length := by omega
        rw [rowsH_get hj3]
        simp [Br.snd, h, Br.clm, hn, rowH, Br.root]
        omega
      · simp only [w2]; omega
      · simp only [w2]
        refine nx _ ?_
        have hn : B.root < 0 := h0
        simp [Br.snd, h, Br.clm, hn, rowH]
      · simp only [w2]; omega
    · have hk : k.toNat = B.ps.length := by omega
      rw [i3, hk]
    · have hq : (k = 0) ↔ (B.ps.length = 0) := by omega
      rw [i4]; exact decide_eq_decide.2 (hq.trans List.length_eq_zero_iff)
  · have hdn : decide (¬(okBr B ∧ B.ps.length ≠ 0)) = true := by simp [hB]
    rw [if_neg hB, if_neg hB, hdn]
    obtain ⟨n1, n2, n3, k1, k2, k3, κ, hH, hv⟩ := brg_argT h []
    have := calls_of t_Send (κ := κ) (w := w) (res := .tuple #[.slice none 0 0, vI 290]) (hH _) ?_
    · simp only [List.map_cons, List.map_nil] at this
      rw [hv] at this
      exact this.mono fun e w' ⟨h1, h2⟩ => ⟨_, h1, ⟨⟨by simp [rowsH, arrCells], .inl ⟨rfl, rfl⟩⟩, by simp⟩, h2⟩
    simp only [C13_P]
    have kk := fun (v : Value) (w : World) h => c_Check B v w h
    simp only [if_neg hB] at kk
    simp [-Bool.exists_bool, -Bool.forall_bool]
    exact ⟨290, fun κ w1 x1 x2 x3 _ _ => kk _ w1 (brIs_view x1 x2 x3 rfl rfl rfl), fun _ => ⟨rfl, rfl⟩, fun h => absurd h (by decide)⟩
end Go.Proofs.Y19
