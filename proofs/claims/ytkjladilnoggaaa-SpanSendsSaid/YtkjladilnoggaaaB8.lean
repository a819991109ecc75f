/- A part of the proof: see the text that states the theorem. -/
import Derived.Test.YtkjladilnoggaaaB7
import Derived.Test.YtkjladilnoggaaaA3
set_option linter.unusedSimpArgs false
set_option linter.unusedVariables false
set_option linter.unusedSectionVars false
noncomputable section
set_option maxHeartbeats 2000000
namespace Go.Proofs.Y19
open Go Go.SX Go.RowKit
theorem c_refRole (B : Br) (hB : okBr B) (i : Nat) (hi : i < B.ps.length) (v : Value) (w : World) (h : BrIs w B v) : Calls Try.prog 23 #[v, vI i] w fun e w' => e = .returned (vI (B.rol i)) ∧ Below w.heap.size w w' := by
  obtain ⟨n1, n2, n3, k1, k2, k3, κ, hH, hv⟩ := brg_argT h [.i i]
  have := calls_of t_refRole (κ := κ) (w := w) (res := vI (B.rol i)) (hH _) ?_
  · simp only [List.map_cons, List.map_nil] at this
    rw [hv] at this
    exact this
  clear hH hv h
  have kr := fun (v : Value) (w : World) h => c_refRoot B hB v w h
  have kc := fun (v : Value) (w : World) h => c_refClaim B hB i hi v w h
  obtain ⟨hb, l1, l2, l3, hp⟩ := hB
  simp only [C10_P]
  simp [-Bool.exists_bool, -Bool.forall_bool, l2, l3]
  have kq := c_Better (B.best.getD 0 0) (B.best.getD 1 0) (B.best.getD 2 0) B.op B.on (B.ps.getD i 0) (B.hd i).rp (B.hd i).rn (B.hd i).co (B.hd i).fp (B.hd i).fn (B.hd i).po
  have hi3 : i < B.hs.length := by omega
  rw [rowsH_get hi3]
  simp only [Option.getD_some, rowH, List.getElem?_cons_zero, Dat.int, Dat.bool, List.getElem?_cons_succ]
  refine ⟨_, fun κ w1 x1 x2 x3 _ _ => kr _ w1 (brIs_view x1 x2 x3 rfl l2 l3), fun h => ?_, fun h => ?_⟩
  · rw [Br.rol, Br.root, if_pos h]
  refine ⟨hi, fun hs => ⟨_, _, _, _, _, _, fun κ w1 x1 x2 x3 _ _ => kc _ w1 (brIs_view x1 x2 x3 rfl l2 l3), _, kq, fun z => ?_, fun z => ?_⟩, fun hs => ?_⟩
  · rw [Br.rol, Br.root, if_neg h, if_neg]
    rintro ⟨-, h2⟩
    exact absurd (of_decide_eq_true z) (Int.not_lt.2 h2)
  · rw [Br.rol, Br.root, if_neg h, if_pos ⟨hs, Int.not_lt.1 (of_decide_eq_false z)⟩]
  · rw [Br.rol, Br.root, if_neg h, if_neg]
    rintro ⟨h2, -⟩
    rw [hs] at h2; cases h2
/-- what a port sends -/
def Br.snd (B : Br) (i : Nat) : Hd := if B.rol i = 2 then ⟨true, B.best.getD 0 0, B.best.getD 1 0, B.best.getD 2 0, B.op, B.on, B.ps.getD i 0, if B.root < 0 then 0 else (B.hd B.root.toNat).ag⟩ else .zero
abbrev vHd (h : Hd) : Value := .agg #[vB h.is, vI h.rp, vI h.rn, vI h.co, vI h.fp, vI h.fn, vI h.po, vI h.ag]
theorem c_refSend (B : Br) (hB : okBr B) (i : Nat) (hi : i < B.ps.length) (v : Value) (w : World) (h : BrIs w B v) : Calls Try.prog 24 #[v, vI i] w fun e w' => e = .returned (vHd (B.snd i)) ∧ Below w.heap.size w w' := by
  obtain ⟨n1, n2, n3, k1, k2, k3, κ, hH, hv⟩ := brg_argT h [.i i]
  have := calls_of t_refSend (κ := κ) (w := w) (res := vHd (B.snd i)) (hH _) ?_
  · simp only [List.map_cons, List.map_nil] at this
    rw [hv] at this
    exact this
  clear hH hv h
  have kr := fun (v : Value) (w : World) h => c_refRoot B hB v w h
  have kc := fun (v : Value) (w : World) h => c_refClaim B hB i hi v w h
  have kl := fun (v : Value) (w : World) h => c_refRole B hB i hi v w h
  have rr := rootN_range B B.ps.length
  obtain ⟨hb, l1, l2, l3, hp⟩ := hB
  simp only [C11_P]
  simp [-Bool.exists_bool, -Bool.forall_bool, l2, l3]
  refine ⟨_, fun κ w1 x1 x2 x3 _ _ => kl _ w1 (brIs_view x1 x2 x3 rfl l2 l3), fun h => ?_, fun h => ⟨_, _, _, _, _, _, fun κ w1 x1 x2 x3 _ _ => kc _ w1 (brIs_view x1 x2 x3 rfl l2 l3), _, fun κ w1 x1 x2 x3 _ _ => kr _ w1 (brIs_view x1 x2 x3 rfl l2 l3), ?_⟩⟩
  · simp [Br.snd, h, Hd.zero]
  refine ⟨fun h0 => ⟨⟨h0, rr.2⟩, ?_⟩, fun h0 => ?_⟩
  · have hj3 : (B.rootN B.ps.length).toNat < B.hs.length := by omega
    have hn : ¬B.root < 0 := by unfold Br.root; omega
    rw [rowsH_get hj3]
    simp [Br.snd, h, Br.clm, hn, rowH, Br.root]
    omega
  · have hn : B.root < 0 := h0
    simp [Br.snd, h, Br.clm, hn]
theorem brIs_heap {ρ : Env} {κ : Kap} {base : Bk} {w : World} {B : Br} {n1 n2 n3 : Bool} {k1 k2 k3 l1 l2 l3 : Nat} (hH : HeapOk ρ κ base (brH 0) w) (e1 : ρ.nl 3 = n1) (e2 : ρ.nl 6 = n2) (e3 : ρ.nl 9 = n3) (a1 : ρ.a 2 = rowsI B.ps) (a2 : ρ.a 5 = rowsI B.cs) (a3 : ρ.a 8 = rowsH B.hs) (q1 : B.ps.length = l1) (q2 : B.cs.length = l2) (q3 : B.hs.length = l3) :
    BrIs w B (.agg #[vI B.op, vI B.on, .slice (if n1 = true then none else some ⟨κ.ab 3, κ.ao 3, none⟩) l1 k1, .slice (if n2 = true then none else some ⟨κ.ab 6, κ.ao 6, none⟩) l2 k2, .slice (if n3 = true then none else some ⟨κ.ab 9, κ.ao 9, none⟩) l3 k3]) := by
  subst e1 e2 e3 q1 q2 q3
  have h1 := hH.arr 3 2 pI none rfl
  have h2 := hH.arr 6 5 pI none rfl
  have h3 := hH.arr 9 8 pH none rfl
  rw [a1] at h1; rw [a2] at h2; rw [a3] at h3
  exact ⟨_, _, _, rfl, ⟨_, _, _, _, by rw [rowsI_len], h1.2, h1.1⟩, ⟨_, _, _, _, by rw [rowsI_len], h2.2, h2.1⟩, ⟨_, _, _, _, by rw [rowsH_len], h3.2, h3.1⟩⟩
theorem rowsI_snoc (l : List Int) (x : Int) : rowsI l ++ [[.i x]] = rowsI (l ++ [x]) := by simp [rowsI]
theorem c_Roles (B : Br) (v : Value) (w : World) (h : BrIs w B v) : Calls Try.prog 19 #[v] w fun e w' => ∃ v', e = .returned (.tuple #[v', vI (if okBr B then 0 else 290)]) ∧ OwnRow w w' 3 pI (rowsI (if okBr B then (List.range B.ps.length).map B.rol else [])) (decide (¬(okBr B ∧ B.ps.length ≠ 0))) v' ∧ Below w.heap.size w w' := by
  by_cases hB : okBr B
  · have hdn : decide (¬(okBr B ∧ B.ps.length ≠ 0)) = decide (B.ps.length = 0) := by simp [hB]
    rw [if_pos hB, if_pos hB, hdn]
    obtain ⟨n1, n2, n3, k1, k2, k3, κ, hH, hv⟩ := brg_argT h []
    have := calls_of_tree t_Roles (κ := κ) (w := w)
      (Φ := fun l _ ρ => l.v = .tup [.c (rowS 26 25 1), .c (.int .i64 (.lit 0))] ∧ l.st.H = [.arr 26 25 pI (some 3)] ∧ ρ.a 25 = rowsI ((List.range B.ps.length).map B.rol) ∧ ρ.nl 26 = decide (B.ps.length = 0)) (hH _) ?_
    · simp only [List.map_cons, List.map_nil] at this
      rw [hv] at this
      refine Calls.mono this fun e w' ⟨l, L', ρ', κ', he, ⟨e1, e2, e3, e4⟩, _, hh, hb⟩ => ?_
      rw [e2] at hh
      have ho := OwnRow.of_heap (w := w) hh (j := 26) (c := 25) rfl
      rw [e1] at he
      rw [e3, e4] at ho
      exact ⟨_, he, ho, hb⟩
    simp only [C12_P]
    simp [-Bool.exists_bool, -Bool.forall_bool]
    have kk := fun (v : Value) (w : World) h => c_Check B v w h
    have kr := fun (i : Nat) (hi : i < B.ps.length) (v : Value) (w : World) h => c_role B hB i hi v w h
    simp only [if_pos hB] at kk
    have l1 := hB.2.1
    refine ⟨0, fun κ w1 hh _ _ => kk _ w1 (brIs_heap hh rfl rfl rfl rfl rfl rfl rfl rfl rfl), rfl, fun _ => ⟨fun l => match l with
      | [.i k, .l r, .n b] => 0 ≤ k ∧ k ≤ B.ps.length ∧ r = rowsI ((List.range k.toNat).map B.rol) ∧ b = decide (k = 0)
      | _ => False, ⟨by omega, by omega, rfl, rfl⟩, fun l => match l with
      | .i k :: _ => (B.ps.length - k).toNat
      | _ => 0, fun k r b ⟨i1, i2, i3, i4⟩ => ⟨fun hlt => ?_, fun hge => ⟨rfl, ?_, ?_⟩⟩⟩⟩
    · have hk : k.toNat < B.ps.length := by omega
      have hkk : (k.toNat : Int) = k := by omega
      have w2 : IntKind.i64.wrap (k + 1) = k + 1 := wrap64 (by omega) (by omega)
      have hk1 : (k + 1).toNat = k.toNat + 1 := by omega
      have krr := kr k.toNat hk
      rw [hkk] at krr
      refine ⟨_, fun κ w1 hh _ _ => krr _ w1 (brIs_heap hh rfl rfl rfl rfl rfl rfl rfl rfl rfl), ?_, ?_, ?_⟩
      · rw [i3]; simp; omega
      · rw [w2]
        refine ⟨by omega, by omega, ?_, by simp; omega⟩
        rw [hk1, i3, rowsI_snoc, List.range_succ, List.map_append]; rfl
      · simp only [w2]; omega
    · have hk : k.toNat = B.ps.length := by omega
      rw [i3, hk]
    · have hq : (k = 0) ↔ (B.ps.length = 0) := by omega
      rw [i4]; exact decide_eq_decide.2 (hq.trans List.length_eq_zero_iff)
  · have hdn : decide (¬(okBr B ∧ B.ps.length ≠ 0)) = true := by simp [hB]
    rw [if_neg hB, if_neg hB, hdn]
    obtain ⟨n1, n2, n3, k1, k2, k3, κ, hH, hv⟩ := brg_argT h []
    have := calls_of t_Roles (κ := κ) (w := w) (res := .tuple #[.slice none 0 0, vI 290]) (hH _) ?_
    · simp only [List.map_cons, List.map_nil] at this
      rw [hv] at this
      exact this.mono fun e w' ⟨h1, h2⟩ => ⟨_, h1, ⟨⟨by simp [rowsI, arrCells], .inl ⟨rfl, rfl⟩⟩, by simp⟩, h2⟩
    simp only [C12_P]
    have kk := fun (v : Value) (w : World) h => c_Check B v w h
    simp only [if_neg hB] at kk
    simp [-Bool.exists_bool, -Bool.forall_bool]
    exact ⟨290, fun κ w1 x1 x2 x3 _ _ => kk _ w1 (brIs_view x1 x2 x3 rfl rfl rfl), fun _ => ⟨rfl, rfl⟩, fun h => absurd h (by decide)⟩
end Go.Proofs.Y19
