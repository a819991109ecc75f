/- A part of the proof: see the text that states the theorem. -/
import Derived.Test.YtkjladilnoggaaaB5
set_option linter.unusedSimpArgs false
set_option linter.unusedVariables false
set_option linter.unusedSectionVars false
noncomputable section
set_option maxHeartbeats 2000000
namespace Go.Proofs.Y19
open Go Go.SX Go.RowKit
theorem c_refRoot (B : Br) (hB : okBr B) (v : Value) (w : World) (h : BrIs w B v) : Calls Try.prog 21 #[v] w fun e w' => e = .returned (vI (B.rootN B.ps.length)) ∧ Below w.heap.size w w' := by
  obtain ⟨n1, n2, n3, b1, o1, k1, b2, o2, k2, b3, o3, k3, κ, hH, hv⟩ := brg_arg h
  have := calls_of t_refRoot (κ := κ) (w := w) (res := vI (B.rootN B.ps.length)) (hH _) ?_
  · simp only [List.map_cons, List.map_nil] at this
    rw [hv] at this
    exact this
  clear hH hv h
  obtain ⟨hb, l1, l2, l3, hp⟩ := hB
  simp only [C8_P]
  simp [-Bool.exists_bool, -Bool.forall_bool, l2, l3]
  refine ⟨fun l => match l with
    | [.i a, .i k] => 0 ≤ k ∧ k ≤ B.ps.length ∧ a = B.rootN k.toNat
    | _ => False, ⟨by simp, by simp, rfl⟩, fun l => match l with
    | [_, .i k] => (B.ps.length - k).toNat
    | _ => 0, fun a k ⟨i1, i2, i3⟩ => ⟨fun hlt => ?_, fun hge => ?_⟩⟩
  · have rr := rootN_range B k.toNat
    have hoff : ∀ i, i < B.ps.length → (0 ≤ (B.hd i).co ∧ (B.hd i).co ≤ 1048576) ∧ 1 ≤ B.cs.getD i 0 ∧ B.cs.getD i 0 ≤ 1000 := fun i hi => by
      obtain ⟨-, -, hc, hh⟩ := hp i hi
      refine ⟨?_, hc⟩
      split at hh
      · exact hh.1.2.2.1
      · rw [Br.hd, hh]; exact ⟨by decide, by decide⟩
    have hj : k.toNat < B.ps.length := by omega
    have hj2 : k.toNat < B.cs.length := by omega
    have hj3 : k.toNat < B.hs.length := by omega
    have hco := hoff _ hj
    have w2 : IntKind.i64.wrap (k + 1) = k + 1 := wrap64 (by omega) (by omega)
    have w3 : IntKind.i64.wrap ((B.hd k.toNat).co + B.cs.getD k.toNat 0) = (B.hd k.toNat).co + B.cs.getD k.toNat 0 := wrap64 (by omega) (by omega)
    have hk1 : (k + 1).toNat = k.toNat + 1 := by omega
    have hkk : (k.toNat : Int) = k := by omega
    have er := rootN_succ B k.toNat
    rw [rowsH_get hj3, rowsI_get hj2]
    simp only [Option.getD_some, rowH, List.getElem?_cons_zero, Dat.int, Dat.bool, List.getElem?_cons_succ, w2]
    rw [w3]
    have stay : ¬(B.leads k.toNat ∧ (B.rootN k.toNat < 0 ∨ cmpV (B.off k.toNat) (B.off (B.rootN k.toNat).toNat) < 0)) → (0 ≤ k + 1 ∧ k + 1 ≤ B.ps.length ∧ a = B.rootN (k + 1).toNat) ∧ (B.ps.length - (k + 1)).toNat < (B.ps.length - k).toNat := fun h => by
      rw [if_neg h] at er
      rw [hk1, er]
      exact ⟨⟨by omega, by omega, i3⟩, by omega⟩
    have upd : B.leads k.toNat ∧ (B.rootN k.toNat < 0 ∨ cmpV (B.off k.toNat) (B.off (B.rootN k.toNat).toNat) < 0) → (0 ≤ k + 1 ∧ k + 1 ≤ B.ps.length ∧ k = B.rootN (k + 1).toNat) ∧ (B.ps.length - (k + 1)).toNat < (B.ps.length - k).toNat := fun h => by
      rw [if_pos h] at er
      rw [hk1, er]
      exact ⟨⟨by omega, by omega, by omega⟩, by omega⟩
    refine ⟨⟨i1, hlt⟩, hlt, fun z => stay ?_, fun z1 z2 z3 => ?_⟩
    · rintro ⟨⟨h1, h2, h3⟩, -⟩
      change (B.hd k.toNat).is = true at h1
      rcases z with (z | z) | ⟨z, z'⟩
      · rw [h1] at z; cases z
      · omega
      · change B.op ≤ (B.hd k.toNat).rp at z
        change ¬(B.hd k.toNat).rp = B.op ∨ B.on ≤ (B.hd k.toNat).rn at z'
        omega
    · have hl : B.leads k.toNat := ⟨z1, z2, by
        by_cases hr : (B.hd k.toNat).rp < B.op
        · exact .inl hr
        · exact .inr (z3 (Int.not_lt.1 hr))⟩
      refine ⟨fun z4 => upd ⟨hl, .inl (by omega)⟩, fun z4 => ⟨by omega, ?_⟩⟩
      have ha : a.toNat < B.ps.length := by omega
      have ha2 : a.toNat < B.cs.length := by omega
      have ha3 : a.toNat < B.hs.length := by omega
      have hca := hoff _ ha
      have w4 : IntKind.i64.wrap ((B.hd a.toNat).co + B.cs.getD a.toNat 0) = (B.hd a.toNat).co + B.cs.getD a.toNat 0 := wrap64 (by omega) (by omega)
      have kb := c_Better (B.hd k.toNat).rp (B.hd k.toNat).rn ((B.hd k.toNat).co + B.cs.getD k.toNat 0) (B.hd k.toNat).fp (B.hd k.toNat).fn (B.hd k.toNat).po (B.hd a.toNat).rp (B.hd a.toNat).rn ((B.hd a.toNat).co + B.cs.getD a.toNat 0) (B.hd a.toNat).fp (B.hd a.toNat).fn (B.hd a.toNat).po
      rw [rowsH_get ha3, rowsI_get ha2]
      simp only [Option.getD_some, rowH, List.getElem?_cons_zero, List.getElem?_cons_succ]
      rw [w4]
      refine ⟨_, kb, fun z5 => upd ⟨hl, .inr ?_⟩, fun z5 => stay ?_⟩
      · rw [← i3]; exact of_decide_eq_true z5
      · rintro ⟨-, h | h⟩
        · omega
        · rw [← i3] at h; exact absurd h (of_decide_eq_false z5)
  · have hk : k.toNat = B.ps.length := by omega
    rw [hk] at i3
    exact i3
end Go.Proofs.Y19
