/- A part of the proof: see the text that states the theorem. -/
import Derived.Test.YtkjladilnoggaaaB6
set_option linter.unusedSimpArgs false
set_option linter.unusedVariables false
set_option linter.unusedSectionVars false
noncomputable section
set_option maxHeartbeats 2000000
namespace Go.Proofs.Y19
open Go Go.SX Go.RowKit
theorem brg_argT {w : World} {B : Br} {v : Value} (h : BrIs w B v) (t : List Dat) : ∃ (n1 n2 n3 : Bool) (k1 k2 k3 : Nat) (κ : Kap),
    (∀ base, HeapOk (mkEnv (.i B.op :: .i B.on :: .l (rowsI B.ps) :: .n n1 :: .i k1 :: .l (rowsI B.cs) :: .n n2 :: .i k2 :: .l (rowsH B.hs) :: .n n3 :: .i k3 :: t)) κ base (brH 0) w) ∧
    (brg 0).den (mkEnv (.i B.op :: .i B.on :: .l (rowsI B.ps) :: .n n1 :: .i k1 :: .l (rowsI B.cs) :: .n n2 :: .i k2 :: .l (rowsH B.hs) :: .n n3 :: .i k3 :: t)) κ = v := by
  obtain ⟨vp, vc, vh, rfl, ⟨n1, b1, o1, k1, rfl, h11, h12⟩, ⟨n2, b2, o2, k2, rfl, h21, h22⟩, n3, b3, o3, k3, rfl, h31, h32⟩ := h
  refine ⟨n1, n2, n3, k1, k2, k3, kapL [(3, b1, o1), (6, b2, o2), (9, b3, o3)], fun base => ?_, ?_⟩
  · refine heapOk_slices [⟨2, pI⟩, ⟨5, pI⟩, ⟨8, pH⟩] fun a ha => ?_
    simp only [List.mem_cons, List.not_mem_nil, or_false] at ha
    rcases ha with rfl | rfl | rfl
    · exact ⟨h11, h12⟩
    · exact ⟨h21, h22⟩
    · exact ⟨h31, h32⟩
  · simp [brg, SV.den, SA.den, SC.den, slC0, slAddr, kapL, IE.den, CE.den, List.lookup]
/-- what a call sees of the bridge that the walk's argument stands for -/
theorem brIs_view {w : World} {B : Br} {n1 n2 n3 : Bool} {b1 o1 p1 k1 b2 o2 p2 k2 b3 o3 p3 k3 : Nat} {w1 w2 w3 : Bool} (h1 : ArrAt w pI (rowsI B.ps) n1 b1 o1 p1 w1) (h2 : ArrAt w pI (rowsI B.cs) n2 b2 o2 p2 w2) (h3 : ArrAt w pH (rowsH B.hs) n3 b3 o3 p3 w3) {l1 l2 l3 : Nat} (e1 : B.ps.length = l1) (e2 : B.cs.length = l2) (e3 : B.hs.length = l3) :
    BrIs w B (.agg #[vI B.op, vI B.on, .slice (if n1 = true then none else some ⟨b1, o1, none⟩) l1 k1, .slice (if n2 = true then none else some ⟨b2, o2, none⟩) l2 k2, .slice (if n3 = true then none else some ⟨b3, o3, none⟩) l3 k3]) :=
  ⟨_, _, _, rfl, h1.slice (by simpa using e1) _, h2.slice (by simpa using e2) _, h3.slice (by simpa using e3) _⟩
def Br.best (B : Br) : List Int := B.bestN B.ps.length
def Br.root (B : Br) : Int := B.rootN B.ps.length
/-- the claim of a port -/
def Br.clm (B : Br) (i : Nat) : List Int := [B.best.getD 0 0, B.best.getD 1 0, B.best.getD 2 0, B.op, B.on, B.ps.getD i 0]
theorem c_claim (B : Br) (hB : okBr B) (i : Nat) (hi : i < B.ps.length) (v : Value) (w : World) (h : BrIs w B v) : Calls Try.prog 47 #[v, vI i] w fun e w' => e = .returned (vRkO (B.clm i)) ∧ Below w.heap.size w w' := by
  obtain ⟨n1, n2, n3, k1, k2, k3, κ, hH, hv⟩ := brg_argT h [.i i]
  have := calls_of t_claim (κ := κ) (w := w) (res := vRkO (B.clm i)) (hH _) ?_
  · simp only [List.map_cons, List.map_nil] at this
    rw [hv] at this
    exact this
  clear hH hv h
  have kr := fun (v : Value) (w : World) h => c_root B hB v w h
  obtain ⟨hb, l1, l2, l3, hp⟩ := hB
  simp only [C9_P]
  simp [-Bool.exists_bool, -Bool.forall_bool, l2, l3]
  refine ⟨_, _, _, _, ⟨_, _, _, fun κ w1 x1 x2 x3 _ _ => kr _ w1 (brIs_view x1 x2 x3 rfl l2 l3)⟩, hi, ?_, ?_, ?_, ?_, ?_, ?_⟩
  · simp [Br.clm, Br.best]
  · simp [Br.clm, Br.best]
  · simp [Br.clm, Br.best]
  · simp [Br.clm]
  · simp [Br.clm]
  · rw [rowsI_get hi]; simp [Br.clm]
theorem c_refClaim (B : Br) (hB : okBr B) (i : Nat) (hi : i < B.ps.length) (v : Value) (w : World) (h : BrIs w B v) : Calls Try.prog 22 #[v, vI i] w fun e w' => e = .returned (vRkO (B.clm i)) ∧ Below w.heap.size w w' := by
  obtain ⟨n1, n2, n3, k1, k2, k3, κ, hH, hv⟩ := brg_argT h [.i i]
  have := calls_of t_refClaim (κ := κ) (w := w) (res := vRkO (B.clm i)) (hH _) ?_
  · simp only [List.map_cons, List.map_nil] at this
    rw [hv] at this
    exact this
  clear hH hv h
  have kr := fun (v : Value) (w : World) h => c_refRoot B hB v w h
  have rr := rootN_range B B.ps.length
  obtain ⟨hb, l1, l2, l3, hp⟩ := hB
  simp only [C10_P]
  simp [-Bool.exists_bool, -Bool.forall_bool, l2, l3]
  refine ⟨hi, _, fun κ w1 x1 x2 x3 _ _ => kr _ w1 (brIs_view x1 x2 x3 rfl l2 l3), fun h0 => ⟨⟨h0, rr.2⟩, rr.2, ?_⟩, fun h0 => ?_⟩
  · have hj : (B.rootN B.ps.length).toNat < B.ps.length := by omega
    have hj2 : (B.rootN B.ps.length).toNat < B.cs.length := by omega
    have hj3 : (B.rootN B.ps.length).toNat < B.hs.length := by omega
    have hco : (0 ≤ (B.hd (B.rootN B.ps.length).toNat).co ∧ (B.hd (B.rootN B.ps.length).toNat).co ≤ 1048576) ∧ 1 ≤ B.cs.getD (B.rootN B.ps.length).toNat 0 ∧ B.cs.getD (B.rootN B.ps.length).toNat 0 ≤ 1000 := by
      obtain ⟨-, -, hc, hh⟩ := hp _ hj
      refine ⟨?_, hc⟩
      split at hh
      · exact hh.1.2.2.1
      · rw [Br.hd, hh]; exact ⟨by decide, by decide⟩
    have w4 : IntKind.i64.wrap ((B.hd (B.rootN B.ps.length).toNat).co + B.cs.getD (B.rootN B.ps.length).toNat 0) = (B.hd (B.rootN B.ps.length).toNat).co + B.cs.getD (B.rootN B.ps.length).toNat 0 := wrap64 (by omega) (by omega)
    have eb : B.best = B.off (B.rootN B.ps.length).toNat := by rw [Br.best, Br.bestN, if_neg (by omega)]
    rw [rowsH_get hj3, rowsI_get hj2, rowsI_get hi]
    simp only [Option.getD_some, rowH, List.getElem?_cons_zero, Dat.int, List.getElem?_cons_succ]
    rw [w4]
    simp [Br.clm, eb, Br.off]
  · have eb : B.best = [B.op, B.on, 0, 0, 0, 0] := by rw [Br.best, Br.bestN, if_pos h0]
    rw [rowsI_get hi]
    simp [Br.clm, eb]
def Hd.lst (h : Hd) : List Int := [h.rp, h.rn, h.co, h.fp, h.fn, h.po]
/-- the role of a port -/
def Br.rol (B : Br) (i : Nat) : Int := if B.root = i then 1 else if (B.hd i).is = true ∧ 0 ≤ cmpV (B.clm i) (B.hd i).lst then 3 else 2
theorem c_role (B : Br) (hB : okBr B) (i : Nat) (hi : i < B.ps.length) (v : Value) (w : World) (h : BrIs w B v) : Calls Try.prog 44 #[v, vI i] w fun e w' => e = .returned (vI (B.rol i)) ∧ Below w.heap.size w w' := by
  obtain ⟨n1, n2, n3, k1, k2, k3, κ, hH, hv⟩ := brg_argT h [.i i]
  have := calls_of t_role (κ := κ) (w := w) (res := vI (B.rol i)) (hH _) ?_
  · simp only [List.map_cons, List.map_nil] at this
    rw [hv] at this
    exact this
  clear hH hv h
  have kr := fun (v : Value) (w : World) h => c_root B hB v w h
  have kc := fun (v : Value) (w : World) h => c_claim B hB i hi v w h
  obtain ⟨hb, l1, l2, l3, hp⟩ := hB
  simp only [C9_P]
  simp [-Bool.exists_bool, -Bool.forall_bool, l2, l3]
  have kq := c_Compare (B.best.getD 0 0) (B.best.getD 1 0) (B.best.getD 2 0) B.op B.on (B.ps.getD i 0) (B.hd i).rp (B.hd i).rn (B.hd i).co (B.hd i).fp (B.hd i).fn (B.hd i).po
  have hi3 : i < B.hs.length := by omega
  rw [rowsH_get hi3]
  simp only [Option.getD_some, rowH, List.getElem?_cons_zero, Dat.int, Dat.bool, List.getElem?_cons_succ]
  refine ⟨_, ⟨_, _, _, _, _, _, fun κ w1 x1 x2 x3 _ _ => kr _ w1 (brIs_view x1 x2 x3 rfl l2 l3)⟩, hi, fun h => ?_, fun h => ⟨fun hs => ⟨_, _, _, _, _, _, fun κ w1 x1 x2 x3 _ _ => kc _ w1 (brIs_view x1 x2 x3 rfl l2 l3), _, kq, fun z => ?_, fun z => ?_⟩, fun hs => ?_⟩⟩
  · rw [Br.rol, Br.root, if_pos h.symm]
  · rw [Br.rol, Br.root, if_neg (fun e => h e.symm), if_neg]
    rintro ⟨-, h2⟩
    exact absurd z (Int.not_lt.2 h2)
  · rw [Br.rol, Br.root, if_neg (fun e => h e.symm), if_pos ⟨hs, z⟩]
  · rw [Br.rol, Br.root, if_neg (fun e => h e.symm), if_neg]
    rintro ⟨h2, -⟩
    rw [hs] at h2; cases h2
end Go.Proofs.Y19
