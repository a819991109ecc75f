/- A part of the proof: see the text that states the theorem. -/
import Derived.Test.YtkjladilnoggaaaB2
set_option linter.unusedSimpArgs false
set_option linter.unusedVariables false
set_option linter.unusedSectionVars false
noncomputable section
set_option maxHeartbeats 2000000
namespace Go.Proofs.Y19
open Go Go.SX Go.RowKit
theorem brg_args {w : World} {A B : Br} {v v' : Value} (h : BrIs w A v) (h' : BrIs w B v') : ∃ (n1 n2 n3 m1 m2 m3 : Bool) (k1 k2 k3 j1 j2 j3 : Nat) (κ : Kap),
    (∀ base, HeapOk (mkEnv [.i A.op, .i A.on, .l (rowsI A.ps), .n n1, .i k1, .l (rowsI A.cs), .n n2, .i k2, .l (rowsH A.hs), .n n3, .i k3, .i B.op, .i B.on, .l (rowsI B.ps), .n m1, .i j1, .l (rowsI B.cs), .n m2, .i j2, .l (rowsH B.hs), .n m3, .i j3]) κ base (brH 0 ++ brH 11) w) ∧
    (brg 0).den (mkEnv [.i A.op, .i A.on, .l (rowsI A.ps), .n n1, .i k1, .l (rowsI A.cs), .n n2, .i k2, .l (rowsH A.hs), .n n3, .i k3, .i B.op, .i B.on, .l (rowsI B.ps), .n m1, .i j1, .l (rowsI B.cs), .n m2, .i j2, .l (rowsH B.hs), .n m3, .i j3]) κ = v ∧
    (brg 11).den (mkEnv [.i A.op, .i A.on, .l (rowsI A.ps), .n n1, .i k1, .l (rowsI A.cs), .n n2, .i k2, .l (rowsH A.hs), .n n3, .i k3, .i B.op, .i B.on, .l (rowsI B.ps), .n m1, .i j1, .l (rowsI B.cs), .n m2, .i j2, .l (rowsH B.hs), .n m3, .i j3]) κ = v' := by
  obtain ⟨vp, vc, vh, rfl, ⟨n1, b1, o1, k1, rfl, h11, h12⟩, ⟨n2, b2, o2, k2, rfl, h21, h22⟩, n3, b3, o3, k3, rfl, h31, h32⟩ := h
  obtain ⟨vp, vc, vh, rfl, ⟨m1, c1, p1, j1, rfl, g11, g12⟩, ⟨m2, c2, p2, j2, rfl, g21, g22⟩, m3, c3, p3, j3, rfl, g31, g32⟩ := h'
  refine ⟨n1, n2, n3, m1, m2, m3, k1, k2, k3, j1, j2, j3, kapL [(3, b1, o1), (6, b2, o2), (9, b3, o3), (14, c1, p1), (17, c2, p2), (20, c3, p3)], fun base => ?_, ?_, ?_⟩
  · refine heapOk_slices [⟨2, pI⟩, ⟨5, pI⟩, ⟨8, pH⟩, ⟨13, pI⟩, ⟨16, pI⟩, ⟨19, pH⟩] fun a ha => ?_
    simp only [List.mem_cons, List.not_mem_nil, or_false] at ha
    rcases ha with rfl | rfl | rfl | rfl | rfl | rfl
    · exact ⟨h11, h12⟩
    · exact ⟨h21, h22⟩
    · exact ⟨h31, h32⟩
    · exact ⟨g11, g12⟩
    · exact ⟨g21, g22⟩
    · exact ⟨g31, g32⟩
  · simp [brg, SV.den, SA.den, SC.den, slC0, slAddr, kapL, IE.den, CE.den, List.lookup]
  · simp [brg, SV.den, SA.den, SC.den, slC0, slAddr, kapL, IE.den, CE.den, List.lookup]
theorem ext_getD {α : Type} (d : α) {l m : List α} (h : l.length = m.length) (he : ∀ j < m.length, l.getD j d = m.getD j d) : l = m := by
  refine List.ext_getElem h fun j h1 h2 => ?_
  have := he j h2
  simpa [List.getD, List.getElem?_eq_getElem h1, List.getElem?_eq_getElem h2] using this
theorem c_Same (A B : Br) (v v' : Value) (w : World) (h : BrIs w A v) (h' : BrIs w B v') (hl : A.ps.length ≤ 1000000 ∧ A.cs.length ≤ 1000000 ∧ A.hs.length ≤ 1000000) : Calls Try.prog 41 #[v, v'] w fun e w' => e = .returned (vB (decide (A.op = B.op ∧ A.on = B.on ∧ A.ps = B.ps ∧ A.cs = B.cs ∧ A.hs = B.hs))) ∧ Below w.heap.size w w' := by
  obtain ⟨n1, n2, n3, m1, m2, m3, k1, k2, k3, j1, j2, j3, κ, hH, hv, hv'⟩ := brg_args h h'
  have := calls_of t_Same (κ := κ) (w := w) (res := vB (decide (A.op = B.op ∧ A.on = B.on ∧ A.ps = B.ps ∧ A.cs = B.cs ∧ A.hs = B.hs))) (hH _) ?_
  · simp only [List.map_cons, List.map_nil] at this
    rw [hv, hv'] at this
    exact this
  clear hH hv hv' h h'
  obtain ⟨op, on, ps, cs, hs⟩ := A
  obtain ⟨op', on', ps', cs', hs'⟩ := B
  simp only [] at hl
  simp only [C3_P]
  by_cases hq : op = op' ∧ on = on' ∧ ps.length = ps'.length ∧ cs.length = cs'.length ∧ hs.length = hs'.length
  · obtain ⟨rfl, rfl, l1, l2, l3⟩ := hq
    simp [-Bool.exists_bool, -Bool.forall_bool, l1, l2, l3]
    refine ⟨fun l => 0 ≤ (l.getD 0 (.i 0)).int ∧ (l.getD 0 (.i 0)).int ≤ ps'.length ∧ ∀ j < (l.getD 0 (.i 0)).int.toNat, ps.getD j 0 = ps'.getD j 0, ⟨by simp, by simp, fun j hj => by simp at hj⟩, fun l => (ps'.length - (l.getD 0 (.i 0)).int).toNat, fun k hI => ?_⟩
    simp only [List.getD_cons_zero, Dat.int] at hI ⊢
    obtain ⟨i1, i2, i3⟩ := hI
    refine ⟨fun hlt => ?_, fun hge => ?_⟩
    · have hj : k.toNat < ps.length := by omega
      have hj' : k.toNat < ps'.length := by omega
      have w2 : IntKind.i64.wrap (k + 1) = k + 1 := wrap64 (by omega) (by omega)
      have nx : ps.getD k.toNat 0 = ps'.getD k.toNat 0 → (0 ≤ k + 1 ∧ k + 1 ≤ ps'.length ∧ ∀ j < (k + 1).toNat, ps.getD j 0 = ps'.getD j 0) ∧ (ps'.length - (k + 1)).toNat < (ps'.length - k).toNat := fun h => ⟨⟨by omega, by omega, fun j hjj => by
        by_cases e : j = k.toNat
        · rw [e]; exact h
        · exact i3 j (by omega)⟩, by omega⟩
      have nb : ps.getD k.toNat 0 ≠ ps'.getD k.toNat 0 → ps ≠ ps' := fun h e => h (by rw [e])
      rw [w2, rowsI_get hj, rowsI_get hj']
      simp only [Option.getD_some, List.getElem?_cons_zero, Dat.int]
      exact ⟨i1, fun hf e _ => absurd e (nb hf), nx⟩
    have q1 : ps = ps' := ext_getD 0 (by omega) fun j hj => i3 j (by omega)
    refine ⟨fun l => 0 ≤ (l.getD 0 (.i 0)).int ∧ (l.getD 0 (.i 0)).int ≤ cs'.length ∧ ∀ j < (l.getD 0 (.i 0)).int.toNat, cs.getD j 0 = cs'.getD j 0, ⟨by simp, by simp, fun j hj => by simp at hj⟩, fun l => (cs'.length - (l.getD 0 (.i 0)).int).toNat, fun k hI => ?_⟩
    simp only [List.getD_cons_zero, Dat.int] at hI ⊢
    obtain ⟨i1, i2, i3⟩ := hI
    refine ⟨fun hlt => ?_, fun hge => ?_⟩
    · have hj : k.toNat < cs.length := by omega
      have hj' : k.toNat < cs'.length := by omega
      have w2 : IntKind.i64.wrap (k + 1) = k + 1 := wrap64 (by omega) (by omega)
      have nx : cs.getD k.toNat 0 = cs'.getD k.toNat 0 → (0 ≤ k + 1 ∧ k + 1 ≤ cs'.length ∧ ∀ j < (k + 1).toNat, cs.getD j 0 = cs'.getD j 0) ∧ (cs'.length - (k + 1)).toNat < (cs'.length - k).toNat := fun h => ⟨⟨by omega, by omega, fun j hjj => by
        by_cases e : j = k.toNat
        · rw [e]; exact h
        · exact i3 j (by omega)⟩, by omega⟩
      have nb : cs.getD k.toNat 0 ≠ cs'.getD k.toNat 0 → cs ≠ cs' := fun h e => h (by rw [e])
      rw [w2, rowsI_get hj, rowsI_get hj']
      simp only [Option.getD_some, List.getElem?_cons_zero, Dat.int]
      exact ⟨i1, fun hf _ e => absurd e (nb hf), nx⟩
    have q2 : cs = cs' := ext_getD 0 (by omega) fun j hj => i3 j (by omega)
    refine ⟨fun l => 0 ≤ (l.getD 0 (.i 0)).int ∧ (l.getD 0 (.i 0)).int ≤ hs'.length ∧ ∀ j < (l.getD 0 (.i 0)).int.toNat, hs.getD j Hd.zero = hs'.getD j Hd.zero, ⟨by simp, by simp, fun j hj => by simp at hj⟩, fun l => (hs'.length - (l.getD 0 (.i 0)).int).toNat, fun k hI => ?_⟩
    simp only [List.getD_cons_zero, Dat.int] at hI ⊢
    obtain ⟨i1, i2, i3⟩ := hI
    refine ⟨fun hlt => ?_, fun hge => ?_⟩
    · have hj : k.toNat < hs.length := by omega
      have hj' : k.toNat < hs'.length := by omega
      have w2 : IntKind.i64.wrap (k + 1) = k + 1 := wrap64 (by omega) (by omega)
      have nx : hs.getD k.toNat Hd.zero = hs'.getD k.toNat Hd.zero → (0 ≤ k + 1 ∧ k + 1 ≤ hs'.length ∧ ∀ j < (k + 1).toNat, hs.getD j Hd.zero = hs'.getD j Hd.zero) ∧ (hs'.length - (k + 1)).toNat < (hs'.length - k).toNat := fun h => ⟨⟨by omega, by omega, fun j hjj => by
        by_cases e : j = k.toNat
        · rw [e]; exact h
        · exact i3 j (by omega)⟩, by omega⟩
      have nb : hs.getD k.toNat Hd.zero ≠ hs'.getD k.toNat Hd.zero → hs ≠ hs' := fun h e => h (by rw [e])
      rw [w2, rowsH_get hj, rowsH_get hj']
      generalize hs.getD k.toNat Hd.zero = q at *
      generalize hs'.getD k.toNat Hd.zero = r at *
      have dz : q = r ↔ q.is = r.is ∧ q.rp = r.rp ∧ q.rn = r.rn ∧ q.co = r.co ∧ q.fp = r.fp ∧ q.fn = r.fn ∧ q.po = r.po ∧ q.ag = r.ag := by
        cases q; cases r; simp
      simp only [Option.getD_some, rowH, List.getElem?_cons_zero, Dat.int, Dat.bool, List.getElem?_cons_succ]
      refine ⟨i1, fun hf _ _ => nb ?_, fun z0 z1 z2 z3 z4 z5 z6 z7 => nx (dz.2 ⟨z0, z1, z2, z3, z4, z5, z6, z7⟩)⟩
      intro e
      obtain ⟨h0, h1, h2, h3, h4, h5, h6, h7⟩ := dz.1 e
      simp [h0, h1, h2, h3, h4, h5, h6, h7] at hf
    have q3 : hs = hs' := ext_getD Hd.zero (by omega) fun j hj => i3 j (by omega)
    exact ⟨q1, q2, q3⟩
  · have hn : ¬(op = op' ∧ on = on' ∧ ps = ps' ∧ cs = cs' ∧ hs = hs') := fun h => hq ⟨h.1, h.2.1, by rw [h.2.2.1], by rw [h.2.2.2.1], by rw [h.2.2.2.2]⟩
    simp only [hn, decide_false]
    simp [-Bool.exists_bool, -Bool.forall_bool]
    intro h1 h2 h3 h4 h5
    exact absurd ⟨h1, h2, by omega, by omega, by omega⟩ hq
end Go.Proofs.Y19
