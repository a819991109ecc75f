/- A part of the proof: see the text that states the theorem. -/
import Derived.Test.YtkjladilnoggaaaB0
import Derived.Test.YtkjladilnoggaaaA1
set_option linter.unusedSimpArgs false
set_option linter.unusedVariables false
set_option linter.unusedSectionVars false
noncomputable section
set_option maxHeartbeats 2000000
namespace Go.Proofs.Y19
open Go Go.SX Go.RowKit
/-- what a port has heard -/
structure Hd where
  is : Bool
  (rp rn co fp fn po ag : Int)
deriving DecidableEq
def Hd.zero : Hd := ⟨false, 0, 0, 0, 0, 0, 0, 0⟩
def rowsI (l : List Int) : List (List Dat) := l.map fun x => [.i x]
def rowH (h : Hd) : List Dat := [.b h.is, .i h.rp, .i h.rn, .i h.co, .i h.fp, .i h.fn, .i h.po, .i h.ag]
def rowsH (l : List Hd) : List (List Dat) := l.map rowH
@[simp] theorem rowsI_len (l : List Int) : (rowsI l).length = l.length := by simp [rowsI]
@[simp] theorem rowsH_len (l : List Hd) : (rowsH l).length = l.length := by simp [rowsH]
theorem rowsI_get {l : List Int} {k : Nat} (h : k < l.length) : (rowsI l)[k]? = some [.i (l.getD k 0)] := by
  simp [rowsI, List.getElem?_eq_getElem h]
theorem rowsH_get {l : List Hd} {k : Nat} (h : k < l.length) : (rowsH l)[k]? = some (rowH (l.getD k .zero)) := by
  simp [rowsH, List.getElem?_eq_getElem h]
/-- a bridge -/
structure Br where
  (op on : Int)
  (ps cs : List Int)
  hs : List Hd
def BrIs (w : World) (B : Br) (v : Value) : Prop := ∃ vp vc vh, v = .agg #[vI B.op, vI B.on, vp, vc, vh] ∧ SliceIs w pI (rowsI B.ps) vp ∧ SliceIs w pI (rowsI B.cs) vc ∧ SliceIs w pH (rowsH B.hs) vh
/-- the walk's argument stands for a bridge -/
theorem brg_arg {w : World} {B : Br} {v : Value} (h : BrIs w B v) : ∃ (n1 n2 n3 : Bool) (b1 o1 k1 b2 o2 k2 b3 o3 k3 : Nat) (κ : Kap),
    (∀ base, HeapOk (mkEnv [.i B.op, .i B.on, .l (rowsI B.ps), .n n1, .i k1, .l (rowsI B.cs), .n n2, .i k2, .l (rowsH B.hs), .n n3, .i k3]) κ base (brH 0) w) ∧
    (brg 0).den (mkEnv [.i B.op, .i B.on, .l (rowsI B.ps), .n n1, .i k1, .l (rowsI B.cs), .n n2, .i k2, .l (rowsH B.hs), .n n3, .i k3]) κ = v := by
  obtain ⟨vp, vc, vh, rfl, ⟨n1, b1, o1, k1, rfl, h11, h12⟩, ⟨n2, b2, o2, k2, rfl, h21, h22⟩, n3, b3, o3, k3, rfl, h31, h32⟩ := h
  refine ⟨n1, n2, n3, b1, o1, k1, b2, o2, k2, b3, o3, k3, kapL [(3, b1, o1), (6, b2, o2), (9, b3, o3)], fun base => ?_, ?_⟩
  · refine heapOk_slices [⟨2, pI⟩, ⟨5, pI⟩, ⟨8, pH⟩] fun a ha => ?_
    simp only [List.mem_cons, List.not_mem_nil, or_false] at ha
    rcases ha with rfl | rfl | rfl
    · exact ⟨h11, h12⟩
    · exact ⟨h21, h22⟩
    · exact ⟨h31, h32⟩
  · simp [brg, SV.den, SA.den, SC.den, slC0, slAddr, kapL, IE.den, CE.den, List.lookup]
def okPort (ps cs : List Int) (hs : List Hd) (k : Nat) : Prop :=
  (0 ≤ ps.getD k 0 ∧ ps.getD k 0 ≤ 47) ∧ (0 < k → ps.getD (k - 1) 0 < ps.getD k 0) ∧ (1 ≤ cs.getD k 0 ∧ cs.getD k 0 ≤ 1000) ∧
    (if (hs.getD k .zero).is then okHl (hs.getD k .zero).rp (hs.getD k .zero).rn (hs.getD k .zero).co (hs.getD k .zero).fp (hs.getD k .zero).fn (hs.getD k .zero).po (hs.getD k .zero).ag else hs.getD k .zero = .zero)
def okBr (B : Br) : Prop := okBid B.op B.on ∧ B.ps.length ≤ 24 ∧ B.cs.length = B.ps.length ∧ B.hs.length = B.ps.length ∧ ∀ k < B.ps.length, okPort B.ps B.cs B.hs k
noncomputable instance (B : Br) : Decidable (okBr B) := Classical.propDecidable _
theorem c_Right (B : Br) (v : Value) (w : World) (h : BrIs w B v) : Calls Try.prog 13 #[v] w fun e w' => e = .returned (vB (decide (okBr B))) ∧ Below w.heap.size w w' := by
  obtain ⟨n1, n2, n3, b1, o1, k1, b2, o2, k2, b3, o3, k3, κ, hH, hv⟩ := brg_arg h
  have := calls_of t_Right (κ := κ) (w := w) (res := vB (decide (okBr B))) (hH _) ?_
  · simp only [List.map_cons, List.map_nil] at this
    rw [hv] at this
    exact this
  clear hH hv h
  obtain ⟨op, on, ps, cs, hs⟩ := B
  have kb := c_Bid op on
  simp only [C1_P]
  by_cases hb : okBid op on
  · by_cases hl : ps.length ≤ 24 ∧ cs.length = ps.length ∧ hs.length = ps.length
    · obtain ⟨l1, l2, l3⟩ := hl
      simp only [hb, decide_true] at kb
      simp [-Bool.exists_bool, -Bool.forall_bool, l2, l3]
      refine ⟨true, kb, fun h => (by rcases h with h | h; cases h; omega), fun _ _ => ⟨fun l => 0 ≤ (l.getD 0 (.i 0)).int ∧ (l.getD 0 (.i 0)).int ≤ ps.length ∧ ∀ j < (l.getD 0 (.i 0)).int.toNat, okPort ps cs hs j, ⟨by simp, by simp, fun j hj => by simp at hj⟩, fun l => (ps.length - (l.getD 0 (.i 0)).int).toNat, fun k hI => ?_⟩⟩
      simp only [List.getD_cons_zero, Dat.int] at hI ⊢
      obtain ⟨i1, i2, i3⟩ := hI
      refine ⟨fun hlt => ?_, fun hge => ⟨hb, l1, l2, l3, fun j hj => i3 j (by have hj : j < ps.length := hj; omega)⟩⟩
      have hj : k.toNat < ps.length := by omega
      have hj2 : k.toNat < cs.length := by omega
      have hj3 : k.toNat < hs.length := by omega
      have w1 : IntKind.i64.wrap (k - 1) = k - 1 := wrap64 (by omega) (by omega)
      have w2 : IntKind.i64.wrap (k + 1) = k + 1 := wrap64 (by omega) (by omega)
      have w3 : (k - 1).toNat = k.toNat - 1 := by omega
      have hj4 : k.toNat - 1 < ps.length := by omega
      have nb : ¬okPort ps cs hs k.toNat → ¬okBr ⟨op, on, ps, cs, hs⟩ := fun h hB => h (hB.2.2.2.2 _ hj)
      have nx : okPort ps cs hs k.toNat → (0 ≤ k + 1 ∧ k + 1 ≤ ps.length ∧ ∀ j < (k + 1).toNat, okPort ps cs hs j) ∧ (ps.length - (k + 1)).toNat < (ps.length - k).toNat := fun h => ⟨⟨by omega, by omega, fun j hjj => by
        by_cases e : j = k.toNat
        · rw [e]; exact h
        · exact i3 j (by omega)⟩, by omega⟩
      rw [w1, w2, w3, rowsI_get hj, rowsI_get hj2, rowsH_get hj3, rowsI_get hj4]
      have ch := c_Hello (hs.getD k.toNat .zero).rp (hs.getD k.toNat .zero).rn (hs.getD k.toNat .zero).co (hs.getD k.toNat .zero).fp (hs.getD k.toNat .zero).fn (hs.getD k.toNat .zero).po (hs.getD k.toNat .zero).ag
      have dz : hs.getD k.toNat .zero = .zero ↔ (hs.getD k.toNat .zero).is = false ∧ (hs.getD k.toNat .zero).rp = 0 ∧ (hs.getD k.toNat .zero).rn = 0 ∧ (hs.getD k.toNat .zero).co = 0 ∧ (hs.getD k.toNat .zero).fp = 0 ∧ (hs.getD k.toNat .zero).fn = 0 ∧ (hs.getD k.toNat .zero).po = 0 ∧ (hs.getD k.toNat .zero).ag = 0 := by
        generalize hs.getD k.toNat .zero = q
        cases q; simp [Hd.zero]
      unfold okPort at nb nx
      generalize hs.getD k.toNat .zero = q at *
      generalize ps.getD k.toNat 0 = x at *
      generalize ps.getD (k.toNat - 1) 0 = y at *
      generalize cs.getD k.toNat 0 = z at *
      simp only [Option.getD_some, rowH, List.getElem?_cons_zero, Dat.int, Dat.bool, List.getElem?_cons_succ]
      refine ⟨i1, ⟨?_, ?_⟩, fun hf => nb ?_, fun a1 a2 a3 a4 a5 => ⟨fun hq => ?_, fun hq => ⟨fun hf => nb ?_, fun z1 z2 z3 z4 z5 z6 z7 => nx ?_⟩⟩⟩
      · by_cases hk : k ≤ 0
        · exact .inl (.inr hk)
        · exact .inr (by omega)
      · by_cases hk : k ≤ 0
        · exact .inl (.inr hk)
        · exact .inr (by omega)
      · rintro ⟨⟨p1, p2⟩, p3, ⟨p4, p5⟩, -⟩
        rcases hf with (((h | h) | ⟨h, h'⟩) | h) | h
        · omega
        · omega
        · have := p3 (by omega); omega
        · omega
        · omega
      · by_cases ho : okHl q.rp q.rn q.co q.fp q.fn q.po q.ag
        · rw [decide_eq_true ho] at ch
          exact ⟨true, ch, fun h => (by cases h), fun _ => nx ⟨⟨a1, a2⟩, fun hk => a3 (by omega), ⟨a4, a5⟩, by rw [if_pos hq]; exact ho⟩⟩
        · rw [decide_eq_false ho] at ch
          exact ⟨false, ch, fun _ => nb (by rintro ⟨-, -, -, h⟩; rw [if_pos hq] at h; exact ho h), fun h => by cases h⟩
      · rintro ⟨-, -, -, h⟩
        rw [if_neg (by simp [hq]), dz] at h
        obtain ⟨-, h1, h2, h3, h4, h5, h6, h7⟩ := h
        simp [h1, h2, h3, h4, h5, h6, h7] at hf
      · exact ⟨⟨a1, a2⟩, fun hk => a3 (by omega), ⟨a4, a5⟩, by rw [if_neg (by simp [hq]), dz]; exact ⟨hq, z1, z2, z3, z4, z5, z6, z7⟩⟩
    · have hn : ¬okBr ⟨op, on, ps, cs, hs⟩ := fun h => hl ⟨h.2.1, h.2.2.1, h.2.2.2.1⟩
      simp only [hb, decide_true] at kb
      simp only [hn, decide_false]
      simp [-Bool.exists_bool, -Bool.forall_bool]
      refine ⟨true, kb, fun _ h1 h2 h3 => absurd ⟨by omega, by omega, by omega⟩ hl⟩
  · have hn : ¬okBr ⟨op, on, ps, cs, hs⟩ := fun h => hb h.1
    simp only [hb, decide_false] at kb
    simp only [hn, decide_false]
    simp [-Bool.exists_bool, -Bool.forall_bool]
    refine ⟨false, kb, fun h => by cases h⟩
end Go.Proofs.Y19
