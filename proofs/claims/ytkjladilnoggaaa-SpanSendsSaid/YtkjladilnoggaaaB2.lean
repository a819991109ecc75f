/- A part of the proof: see the text that states the theorem. -/
import Derived.Test.YtkjladilnoggaaaB1
set_option linter.unusedSimpArgs false
set_option linter.unusedVariables false
set_option linter.unusedSectionVars false
noncomputable section
set_option maxHeartbeats 2000000
namespace Go.Proofs.Y19
open Go Go.SX Go.RowKit
theorem c_Check (B : Br) (v : Value) (w : World) (h : BrIs w B v) : Calls Try.prog 14 #[v] w fun e w' => e = .returned (vI (if okBr B then 0 else 290)) ∧ Below w.heap.size w w' := by
  obtain ⟨n1, n2, n3, b1, o1, k1, b2, o2, k2, b3, o3, k3, κ, hH, hv⟩ := brg_arg h
  have := calls_of t_Check (κ := κ) (w := w) (res := vI (if okBr B then 0 else 290)) (hH _) ?_
  · simp only [List.map_cons, List.map_nil] at this
    rw [hv] at this
    exact this
  clear hH hv h
  obtain ⟨op, on, ps, cs, hs⟩ := B
  have kb := c_vCheck op on 0 0 0 0
  have hrk : okRk op on 0 0 0 0 ↔ okBid op on := by simp [okRk, okBid]
  simp only [hrk] at kb
  simp only [C1_P]
  by_cases hb : okBid op on
  · by_cases hl : ps.length ≤ 24 ∧ cs.length = ps.length ∧ hs.length = ps.length
    · obtain ⟨l1, l2, l3⟩ := hl
      simp only [hb, if_true] at kb
      simp [-Bool.exists_bool, -Bool.forall_bool, l2, l3]
      refine ⟨0, kb, fun h => (by rcases h with h | h; exact absurd rfl h; omega), fun _ _ => ⟨fun l => 0 ≤ (l.getD 0 (.i 0)).int ∧ (l.getD 0 (.i 0)).int ≤ ps.length ∧ ∀ j < (l.getD 0 (.i 0)).int.toNat, okPort ps cs hs j, ⟨by simp, by simp, fun j hj => by simp at hj⟩, fun l => (ps.length - (l.getD 0 (.i 0)).int).toNat, fun k hI => ?_⟩⟩
      simp only [List.getD_cons_zero, Dat.int] at hI ⊢
      obtain ⟨i1, i2, i3⟩ := hI
      refine ⟨fun hlt => ?_, fun hge => ⟨hb, l1, l2, l3, fun j hj => i3 j (by have hj : j < ps.length := hj; omega)⟩⟩
      have hj : k.toNat < ps.length := by omega
      have hj2 : k.toNat < cs.length := by omega
      have hj3 : k.toNat < hs.length := by omega
      have w1 : IntKind.i64.wrap (k - 1) = k - 1 := wrap64 (by omega) (by omega)
      have w2 : IntKind.i64.wrap (k + 1) = k + 1 := wrap64 (by omega) (by omega)
      have w3 : (k - 1).toNat = k.toNat - 1 := by omega
      have hj4 : k.toNat - 1 < ps.length := by omega
      have nb : ¬okPort ps cs hs k.toNat → ¬okBr ⟨op, on, ps, cs, hs⟩ := fun h hB => h (hB.2.2.2.2 _ hj)
      have nx : okPort ps cs hs k.toNat → (0 ≤ k + 1 ∧ k + 1 ≤ ps.length ∧ ∀ j < (k + 1).toNat, okPort ps cs hs j) ∧ (ps.length - (k + 1)).toNat < (ps.length - k).toNat := fun h => ⟨⟨by omega, by omega, fun j hjj => by
        by_cases e : j = k.toNat
        · rw [e]; exact h
        · exact i3 j (by omega)⟩, by omega⟩
      rw [w1, w2, w3, rowsI_get hj, rowsI_get hj2, rowsH_get hj3, rowsI_get hj4]
      have ch := c_CheckHello (hs.getD k.toNat .zero).rp (hs.getD k.toNat .zero).rn (hs.getD k.toNat .zero).co (hs.getD k.toNat .zero).fp (hs.getD k.toNat .zero).fn (hs.getD k.toNat .zero).po (hs.getD k.toNat .zero).ag
      have dz : hs.getD k.toNat .zero = .zero ↔ (hs.getD k.toNat .zero).is = false ∧ (hs.getD k.toNat .zero).rp = 0 ∧ (hs.getD k.toNat .zero).rn = 0 ∧ (hs.getD k.toNat .zero).co = 0 ∧ (hs.getD k.toNat .zero).fp = 0 ∧ (hs.getD k.toNat .zero).fn = 0 ∧ (hs.getD k.toNat .zero).po = 0 ∧ (hs.getD k.toNat .zero).ag = 0 := by
        generalize hs.getD k.toNat .zero = q
        cases q; simp [Hd.zero]
      unfold okPort at nb nx
      generalize hs.getD k.toNat .zero = q at *
      generalize ps.getD k.toNat 0 = x at *
      generalize ps.getD (k.toNat - 1) 0 = y at *
      generalize cs.getD k.toNat 0 = z at *
      simp only [Option.getD_some, rowH, List.getElem?_cons_zero, Dat.int, Dat.bool, List.getElem?_cons_succ]
      refine ⟨i1, ⟨?_, ?_⟩, fun hf => nb ?_, fun a1 a2 a3 a4 a5 => ⟨fun hq => ?_, fun hq => ⟨fun hf => nb ?_, fun z1 z2 z3 z4 z5 z6 z7 => nx ?_⟩⟩⟩
      · by_cases hk : k ≤ 0
        · exact .inl (.inr hk)
        · exact .inr (by omega)
      · by_cases hk : k ≤ 0
        · exact .inl (.inr hk)
        · exact .inr (by omega)
      · rintro ⟨⟨p1, p2⟩, p3, ⟨p4, p5⟩, -⟩
        rcases hf with (((h | h) | ⟨h, h'⟩) | h) | h
        · omega
        · omega
        · have := p3 (by omega); omega
        · omega
        · omega
      · by_cases ho : okHl q.rp q.rn q.co q.fp q.fn q.po q.ag
        · rw [if_pos ho] at ch
          exact ⟨0, ch, fun h => absurd rfl h, fun _ => nx ⟨⟨a1, by omega⟩, fun hk => a3 (by omega), ⟨a4, a5⟩, by rw [if_pos hq]; exact ho⟩⟩
        · rw [if_neg ho] at ch
          exact ⟨280, ch, fun _ => nb (by rintro ⟨-, -, -, h⟩; rw [if_pos hq] at h; exact ho h), fun h => absurd h (by decide)⟩
      · rintro ⟨-, -, -, h⟩
        rw [if_neg (by simp [hq]), dz] at h
        obtain ⟨-, h1, h2, h3, h4, h5, h6, h7⟩ := h
        simp [h1, h2, h3, h4, h5, h6, h7] at hf
      · exact ⟨⟨a1, by omega⟩, fun hk => a3 (by omega), ⟨a4, a5⟩, by rw [if_neg (by simp [hq]), dz]; exact ⟨hq, z1, z2, z3, z4, z5, z6, z7⟩⟩
    · have hn : ¬okBr ⟨op, on, ps, cs, hs⟩ := fun h => hl ⟨h.2.1, h.2.2.1, h.2.2.2.1⟩
      simp only [hb, if_true] at kb
      simp only [hn, if_false]
      simp [-Bool.exists_bool, -Bool.forall_bool]
      refine ⟨0, kb, fun _ h1 h2 h3 => absurd ⟨by omega, by omega, by omega⟩ hl⟩
  · have hn : ¬okBr ⟨op, on, ps, cs, hs⟩ := fun h => hb h.1
    simp only [hb, if_false] at kb
    simp only [hn, if_false]
    simp [-Bool.exists_bool, -Bool.forall_bool]
    refine ⟨280, kb, fun h => absurd h (by decide)⟩
end Go.Proofs.Y19
