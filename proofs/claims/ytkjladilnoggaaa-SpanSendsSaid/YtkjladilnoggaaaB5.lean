/- A part of the proof: see the text that states the theorem. -/
import Derived.Test.YtkjladilnoggaaaB2
import Derived.Test.YtkjladilnoggaaaB4
import Derived.Test.YtkjladilnoggaaaA2
set_option linter.unusedSimpArgs false
set_option linter.unusedVariables false
set_option linter.unusedSectionVars false
noncomputable section
set_option maxHeartbeats 2000000
namespace Go.Proofs.Y19
open Go Go.SX Go.RowKit
abbrev Br.hd (B : Br) (i : Nat) : Hd := B.hs.getD i .zero
/-- what a port offers -/
def Br.off (B : Br) (i : Nat) : List Int := [(B.hd i).rp, (B.hd i).rn, (B.hd i).co + B.cs.getD i 0, (B.hd i).fp, (B.hd i).fn, (B.hd i).po]
def Br.leads (B : Br) (i : Nat) : Prop := (B.hd i).is = true ∧ (B.hd i).co + B.cs.getD i 0 ≤ 1048576 ∧ ((B.hd i).rp < B.op ∨ (B.hd i).rp = B.op ∧ (B.hd i).rn < B.on)
instance (B : Br) (i : Nat) : Decidable (B.leads i) := by unfold Br.leads; infer_instance
/-- the best of the first ports -/
def Br.rootN (B : Br) : Nat → Int
  | 0 => -1
  | k + 1 => if B.leads k ∧ (B.rootN k < 0 ∨ cmpV (B.off k) (B.off (B.rootN k).toNat) < 0) then k else B.rootN k
def Br.bestN (B : Br) (k : Nat) : List Int := if B.rootN k < 0 then [B.op, B.on, 0, 0, 0, 0] else B.off (B.rootN k).toNat
theorem rootN_range (B : Br) : ∀ k, -1 ≤ B.rootN k ∧ B.rootN k < k
  | 0 => ⟨Int.le_refl _, by show (-1 : Int) < 0; decide⟩
  | k + 1 => by
    have := rootN_range B k
    simp only [Br.rootN]
    split <;> omega
theorem rootN_succ (B : Br) (k : Nat) : B.rootN (k + 1) = if B.leads k ∧ (B.rootN k < 0 ∨ cmpV (B.off k) (B.off (B.rootN k).toNat) < 0) then (k : Int) else B.rootN k := rfl
theorem bestN_succ (B : Br) (k : Nat) : B.bestN (k + 1) = if B.leads k ∧ (B.rootN k < 0 ∨ cmpV (B.off k) (B.off (B.rootN k).toNat) < 0) then B.off k else B.bestN k := by
  unfold Br.bestN
  rw [rootN_succ]
  split
  · rw [if_neg (by omega)]; simp
  · rfl
abbrev vRkO (l : List Int) : Value := vRk (l.getD 0 0) (l.getD 1 0) (l.getD 2 0) (l.getD 3 0) (l.getD 4 0) (l.getD 5 0)
theorem c_root (B : Br) (hB : okBr B) (v : Value) (w : World) (h : BrIs w B v) : Calls Try.prog 42 #[v] w fun e w' => e = .returned (.tuple #[vI (B.rootN B.ps.length), vRkO (B.bestN B.ps.length)]) ∧ Below w.heap.size w w' := by
  obtain ⟨n1, n2, n3, b1, o1, k1, b2, o2, k2, b3, o3, k3, κ, hH, hv⟩ := brg_arg h
  have := calls_of t_root (κ := κ) (w := w) (res := .tuple #[vI (B.rootN B.ps.length), vRkO (B.bestN B.ps.length)]) (hH _) ?_
  · simp only [List.map_cons, List.map_nil] at this
    rw [hv] at this
    exact this
  clear hH hv h
  obtain ⟨hb, l1, l2, l3, hp⟩ := hB
  simp only [C7_P]
  simp [-Bool.exists_bool, -Bool.forall_bool, l2, l3]
  refine ⟨fun l => match l with
    | [.i k, .i a, .i x0, .i x1, .i x2, .i x3, .i x4, .i x5] => 0 ≤ k ∧ k ≤ B.ps.length ∧ a = B.rootN k.toNat ∧ [x0, x1, x2, x3, x4, x5] = B.bestN k.toNat
    | _ => False, ⟨by simp, by simp, rfl, rfl⟩, fun l => match l with
    | .i k :: _ => (B.ps.length - k).toNat
    | _ => 0, fun k a x0 x1 x2 x3 x4 x5 ⟨i1, i2, i3, i4⟩ => ⟨fun hlt => ?_, fun hge => ?_⟩⟩
  · have hj : k.toNat < B.ps.length := by omega
    have hj2 : k.toNat < B.cs.length := by omega
    have hj3 : k.toNat < B.hs.length := by omega
    have hq := hp _ hj
    have hco : (0 ≤ (B.hd k.toNat).co ∧ (B.hd k.toNat).co ≤ 1048576) ∧ 1 ≤ B.cs.getD k.toNat 0 ∧ B.cs.getD k.toNat 0 ≤ 1000 := by
      obtain ⟨-, -, hc, hh⟩ := hq
      refine ⟨?_, hc⟩
      split at hh
      · exact hh.1.2.2.1
      · rw [Br.hd, hh]; exact ⟨by decide, by decide⟩
    have w2 : IntKind.i64.wrap (k + 1) = k + 1 := wrap64 (by omega) (by omega)
    have w3 : IntKind.i64.wrap ((B.hd k.toNat).co + B.cs.getD k.toNat 0) = (B.hd k.toNat).co + B.cs.getD k.toNat 0 := wrap64 (by omega) (by omega)
    have hk1 : (k + 1).toNat = k.toNat + 1 := by omega
    have hkk : (k.toNat : Int) = k := by omega
    have er := rootN_succ B k.toNat
    have eb := bestN_succ B k.toNat
    have kc := c_Compare (B.hd k.toNat).rp (B.hd k.toNat).rn ((B.hd k.toNat).co + B.cs.getD k.toNat 0) (B.hd k.toNat).fp (B.hd k.toNat).fn (B.hd k.toNat).po x0 x1 x2 x3 x4 x5
    rw [rowsH_get hj3, rowsI_get hj2]
    simp only [Option.getD_some, rowH, List.getElem?_cons_zero, Dat.int, Dat.bool, List.getElem?_cons_succ, w2]
    rw [w3]
    rw [i4] at kc
    have hbest : 0 ≤ a → B.bestN k.toNat = B.off (B.rootN k.toNat).toNat := fun h => by unfold Br.bestN; rw [if_neg (by omega)]
    have stay : ¬(B.leads k.toNat ∧ (B.rootN k.toNat < 0 ∨ cmpV (B.off k.toNat) (B.off (B.rootN k.toNat).toNat) < 0)) → (0 ≤ k + 1 ∧ k + 1 ≤ B.ps.length ∧ a = B.rootN (k + 1).toNat ∧ [x0, x1, x2, x3, x4, x5] = B.bestN (k + 1).toNat) ∧ (B.ps.length - (k + 1)).toNat < (B.ps.length - k).toNat := fun h => by
      rw [if_neg h] at er eb
      rw [hk1, er, eb]
      exact ⟨⟨by omega, by omega, i3, i4⟩, by omega⟩
    have upd : B.leads k.toNat ∧ (B.rootN k.toNat < 0 ∨ cmpV (B.off k.toNat) (B.off (B.rootN k.toNat).toNat) < 0) → (0 ≤ k + 1 ∧ k + 1 ≤ B.ps.length ∧ k = B.rootN (k + 1).toNat ∧ B.off k.toNat = B.bestN (k + 1).toNat) ∧ (B.ps.length - (k + 1)).toNat < (B.ps.length - k).toNat := fun h => by
      rw [if_pos h] at er eb
      rw [hk1, er, eb]
      exact ⟨⟨by omega, by omega, by omega, rfl⟩, by omega⟩
    refine ⟨i1, hlt, fun z1 z2 => ⟨fun z3 => ⟨fun z4 => ⟨_, kc, fun z5 => stay ?_, fun z5 => upd ⟨⟨z1, z2, z3⟩, .inr ?_⟩⟩, fun z4 => upd ⟨⟨z1, z2, z3⟩, .inl (by omega)⟩⟩, fun z3 z4 => stay ?_⟩, fun z1 => stay ?_⟩
    · rintro ⟨-, h | h⟩
      · omega
      · rw [hbest z4] at z5; exact absurd h (Int.not_lt.2 z5)
    · rw [hbest z4] at z5; exact z5
    · rintro ⟨⟨-, -, h | ⟨h, h'⟩⟩, -⟩
      · exact absurd h (Int.not_lt.2 z3)
      · exact absurd h' (Int.not_lt.2 (z4 h))
    · rintro ⟨⟨h1, h2, -⟩, -⟩
      exact absurd h2 (Int.not_le.2 (z1 h1))
  · have hk : k.toNat = B.ps.length := by omega
    rw [hk] at i3 i4
    rw [i3, ← i4]
    simp
end Go.Proofs.Y19
