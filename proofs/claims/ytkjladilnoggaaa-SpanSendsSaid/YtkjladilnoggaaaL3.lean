/- A part of the proof: see the text that states the theorem. -/
import Derived.Test.YtkjladilnoggaaaB3
import Derived.Test.YtkjladilnoggaaaLW
import Derived.Test.YtkjladilnoggaaaAS3
set_option linter.unusedSimpArgs false
set_option linter.unusedVariables false
set_option linter.unusedSectionVars false
noncomputable section
set_option maxHeartbeats 4000000
set_option maxRecDepth 100000
namespace Go.Proofs.Y19
open Go Go.SX Go.RowKit
theorem sl_take {w : World} {pat : List CK} {rows : List (List Dat)} {nl : Bool} {b o cap n : Nat} {own : Bool} (h : ArrAt w pat rows nl b o cap own) (c : Nat) (hn : n ≤ rows.length) : SliceIs w pat (rows.take n) (.slice (if nl = true then none else some ⟨b, o, none⟩) n c) := by
  refine ⟨nl, b, o, c, ?_, fun e => ?_, fun x f r k hx hk => ?_⟩
  · rw [List.length_take, Nat.min_eq_left hn]
  · rw [h.nil e]; simp
  · refine h.cells x f r k ?_ hk
    rw [List.getElem?_take] at hx
    split at hx
    · exact hx
    · cases hx
theorem rowsI_take (l : List Int) (n : Nat) : rowsI (l.take n) = (rowsI l).take n := by simp [rowsI, List.map_take]
theorem rowsH_take (l : List Hd) (n : Nat) : rowsH (l.take n) = (rowsH l).take n := by simp [rowsH, List.map_take]
theorem brIs_take {w : World} {B : Br} {n1 n2 n3 : Bool} {b1 o1 p1 k1 b2 o2 p2 k2 b3 o3 p3 k3 a b c : Nat} {w1 w2 w3 : Bool} (h1 : ArrAt w pI (rowsI B.ps) n1 b1 o1 p1 w1) (h2 : ArrAt w pI (rowsI B.cs) n2 b2 o2 p2 w2) (h3 : ArrAt w pH (rowsH B.hs) n3 b3 o3 p3 w3)
    (ha : a ≤ B.ps.length) (hb : b ≤ B.cs.length) (hc : c ≤ B.hs.length) : BrIs w ⟨B.op, B.on, B.ps.take a, B.cs.take b, B.hs.take c⟩ (.agg #[vI B.op, vI B.on, .slice (if n1 = true then none else some ⟨b1, o1, none⟩) a k1, .slice (if n2 = true then none else some ⟨b2, o2, none⟩) b k2, .slice (if n3 = true then none else some ⟨b3, o3, none⟩) c k3]) :=
  ⟨_, _, _, rfl, by rw [rowsI_take]; exact sl_take h1 _ (by simpa using ha), by rw [rowsI_take]; exact sl_take h2 _ (by simpa using hb), by rw [rowsH_take]; exact sl_take h3 _ (by simpa using hc)⟩
def zeros (a : Nat) : List Hd := List.replicate a .zero
theorem zeros_rows (a : Nat) : List.replicate a [Dat.b false, Dat.i 0, Dat.i 0, Dat.i 0, Dat.i 0, Dat.i 0, Dat.i 0, Dat.i 0] = rowsH (zeros a) := by simp [zeros, rowsH, rowH, Hd.zero]
theorem brIs_emp {w : World} {op on : Int} {ps cs : List Int} {n1 n2 : Bool} {b1 o1 p1 k1 b2 o2 p2 k2 b3 o3 p3 k3 a b : Nat} {w1 w2 w3 : Bool} (h1 : ArrAt w pI (rowsI ps) n1 b1 o1 p1 w1) (h2 : ArrAt w pI (rowsI cs) n2 b2 o2 p2 w2) (h3 : ArrAt w pH (rowsH (zeros a)) false b3 o3 p3 w3)
    (ha : a ≤ ps.length) (hb : b ≤ cs.length) : BrIs w ⟨op, on, ps.take a, cs.take b, zeros a⟩ (.agg #[vI op, vI on, .slice (if n1 = true then none else some ⟨b1, o1, none⟩) a k1, .slice (if n2 = true then none else some ⟨b2, o2, none⟩) b k2, .slice (some ⟨b3, o3, none⟩) a k3]) :=
  ⟨_, _, _, rfl, by rw [rowsI_take]; exact sl_take h1 _ (by simpa using ha), by rw [rowsI_take]; exact sl_take h2 _ (by simpa using hb), h3.slice (nl := false) (by simp [zeros]) _⟩
theorem nilIs (w : World) (pat : List CK) : SliceIs w pat [] (bigCell (.slice none 0 0)) := ⟨true, 0, 0, 0, rfl, fun _ => rfl, fun x f r k h => by simp at h⟩
theorem brIs_nil (w : World) : BrIs w ⟨0, 0, [], [], []⟩ (.agg #[vI 0, vI 0, bigCell (.slice none 0 0), bigCell (.slice none 0 0), bigCell (.slice none 0 0)]) := ⟨_, _, _, rfl, nilIs w _, nilIs w _, nilIs w _⟩
theorem c_SameT (A : Br) (v v' : Value) (w : World) (h : BrIs w A v) (h' : BrIs w A v') (hl : A.ps.length ≤ 1000000 ∧ A.cs.length ≤ 1000000 ∧ A.hs.length ≤ 1000000) : Calls Try.prog 41 #[v, v'] w fun e w' => e = .returned (vB true) ∧ Below w.heap.size w w' := by
  have := c_Same A A v v' w h h' hl
  rw [decide_eq_true ⟨rfl, rfl, rfl, rfl, rfl⟩] at this; exact this
theorem min_nat (n : Nat) : ∃ a : Nat, (if 30 < (n : Int) then (30 : Int) else n) = a ∧ a ≤ n ∧ a ≤ 30 := by
  by_cases h : 30 < (n : Int)
  · exact ⟨30, by rw [if_pos h]; rfl, by omega, by omega⟩
  · exact ⟨n, by rw [if_neg h], by omega, by omega⟩
theorem l_Checks (B : Br) (v : Value) (w : World) (n1 n2 n3 : Bool) (b1 o1 k1 b2 o2 k2 b3 o3 k3 : Nat)
    (hv : v = .agg #[vI B.op, vI B.on, .slice (if n1 then none else some ⟨b1, o1, none⟩) B.ps.length k1, .slice (if n2 then none else some ⟨b2, o2, none⟩) B.cs.length k2, .slice (if n3 then none else some ⟨b3, o3, none⟩) B.hs.length k3])
    (h1 : (n1 = true → rowsI B.ps = []) ∧ B.ps.length ≤ k1 ∧ ∀ (x f : Nat) r k, (rowsI B.ps)[x]? = some r → pI[f]? = some k → w.cell? ⟨b1, o1 + x * pI.length + f, none⟩ = some (k.den (r.getD f (.i 0))))
    (h2 : (n2 = true → rowsI B.cs = []) ∧ B.cs.length ≤ k2 ∧ ∀ (x f : Nat) r k, (rowsI B.cs)[x]? = some r → pI[f]? = some k → w.cell? ⟨b2, o2 + x * pI.length + f, none⟩ = some (k.den (r.getD f (.i 0))))
    (h3 : (n3 = true → rowsH B.hs = []) ∧ B.hs.length ≤ k3 ∧ ∀ (x f : Nat) r k, (rowsH B.hs)[x]? = some r → pH[f]? = some k → w.cell? ⟨b3, o3 + x * pH.length + f, none⟩ = some (k.den (r.getD f (.i 0)))) :
    Calls Try.prog 3 #[v] w fun e w' => e = .returned (vB true) ∧ Below w.heap.size w w' := by
  have := calls_of t_SpanChecks (ρ := mkEnv [.i B.op, .i B.on, .l (rowsI B.ps), .n n1, .i k1, .l (rowsI B.cs), .n n2, .i k2, .l (rowsH B.hs), .n n3, .i k3]) (κ := kapL [(3, b1, o1), (6, b2, o2), (9, b3, o3)]) (w := w) (res := vB true) (H := brH 0)
    (heapOk_slices [⟨2, pI⟩, ⟨5, pI⟩, ⟨8, pH⟩] fun a ha => by
      simp only [List.mem_cons, List.not_mem_nil, or_false] at ha
      rcases ha with rfl | rfl | rfl
      · exact ⟨h1.1, h1.2.2⟩
      · exact ⟨h2.1, h2.2.2⟩
      · exact ⟨h3.1, h3.2.2⟩) ?_
  · simp only [List.map_cons, List.map_nil] at this
    have e : (brg 0).den (mkEnv [.i B.op, .i B.on, .l (rowsI B.ps), .n n1, .i k1, .l (rowsI B.cs), .n n2, .i k2, .l (rowsH B.hs), .n n3, .i k3]) (kapL [(3, b1, o1), (6, b2, o2), (9, b3, o3)]) = v := by
      rw [hv]; simp [brg, SV.den, SA.den, SC.den, slC0, slAddr, kapL, IE.den, CE.den, List.lookup]
    rw [e] at this
    exact this
  obtain ⟨op, on, ps, cs, hs⟩ := B
  have kw := c_works
  simp only [C2_P]
  simp [-Bool.exists_bool, -Bool.forall_bool]
  obtain ⟨a, ea, a1, a2⟩ := min_nat ps.length
  obtain ⟨b, eb, e1, e2⟩ := min_nat cs.length
  obtain ⟨c, ec, c1, c2⟩ := min_nat hs.length
  have em : max (a : Int) 0 = a := by omega
  simp only [ea, eb, ec, em, Int.toNat_natCast]
  have hk1 : a ≤ k1 := by have := h1.2.1; simp only [] at this; omega
  have hk2 : b ≤ k2 := by have := h2.2.1; simp only [] at this; omega
  have hk3 : c ≤ k3 := by have := h3.2.1; simp only [] at this; omega
  clear h1 h2 h3 hv
  have hx : ∀ p [Decidable p], decide p = ((if p then (0 : Int) else 290) == 0) := by intro p h; cases h <;> simp_all
  have hx2 : ∀ p [Decidable p], decide p = false → (if p then (0 : Int) else 290) = 290 := by intro p h; cases h <;> simp_all
  refine ⟨true, kw, rfl, fun _ => ⟨⟨by omega, by omega⟩, ⟨by omega, by omega⟩, ⟨by omega, by omega⟩, decide (okBr ⟨op, on, ps.take a, cs.take b, hs.take c⟩), fun κ w1 x1 x2 x3 _ _ => c_Right _ _ w1 (brIs_take (B := ⟨op, on, ps, cs, hs⟩) x1 x2 x3 a1 e1 c1),
    (if okBr ⟨op, on, ps.take a, cs.take b, hs.take c⟩ then 0 else 290), fun κ w1 x1 x2 x3 _ _ => c_Check _ _ w1 (brIs_take (B := ⟨op, on, ps, cs, hs⟩) x1 x2 x3 a1 e1 c1), ⟨hx _, hx2 _⟩, fun _ _ => ⟨⟨by omega, by omega⟩, ?_⟩⟩⟩
  rw [zeros_rows]
  refine ⟨(if okBr ⟨op, on, ps.take a, cs.take b, zeros a⟩ then 0 else 290), fun κ w1 x3 x1 x2 _ _ => c_Check _ _ w1 (brIs_emp x1 x2 x3 a1 e1), fun hne => ⟨fun κ w1 x3 x1 x2 _ _ => ?_, fun w1 => c_SameT _ _ _ w1 (brIs_nil w1) (brIs_nil w1) ⟨by decide, by decide, by decide⟩⟩,
    fun h0 => ⟨true, fun κ w1 x3 x1 x2 _ _ => ?_, rfl, fun _ κ w1 x3 x4 x1 x2 _ _ => ?_⟩⟩
  · have hE : ¬okBr ⟨op, on, ps.take a, cs.take b, zeros a⟩ := fun h => hne (if_pos h)
    have k := c_Right _ _ w1 (brIs_emp (op := op) (on := on) (k1 := k1) (k2 := k2) (k3 := κ.cap 33) x1 x2 x3 a1 e1)
    rw [decide_eq_false hE] at k
    exact k
  · have hE : okBr ⟨op, on, ps.take a, cs.take b, zeros a⟩ := by
      by_cases h : okBr ⟨op, on, ps.take a, cs.take b, zeros a⟩
      · exact h
      · rw [if_neg h] at h0; exact absurd h0 (by decide)
    have k := c_Right _ _ w1 (brIs_emp (op := op) (on := on) (k1 := k1) (k2 := k2) (k3 := κ.cap 33) x1 x2 x3 a1 e1)
    rw [decide_eq_true hE] at k
    exact k
  · exact c_SameT _ _ _ w1 (brIs_emp x1 x2 x4 a1 e1) (brIs_emp x1 x2 x3 a1 e1) ⟨by simp only [List.length_take]; omega, by simp only [List.length_take]; omega, by simp [zeros]; omega⟩
end Go.Proofs.Y19
