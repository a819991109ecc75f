/- A part of the proof: see the text that states the theorem. -/
import Derived.Test.YtkjladilnoggaaaL3
import Derived.Test.YtkjladilnoggaaaB9
import Derived.Test.YtkjladilnoggaaaAS4
set_option linter.unusedSimpArgs false
set_option linter.unusedVariables false
set_option linter.unusedSectionVars false
noncomputable section
set_option maxHeartbeats 4000000
set_option maxRecDepth 100000
namespace Go.Proofs.Y19
open Go Go.SX Go.RowKit
theorem brIs_heapT {ρ : Env} {κ : Kap} {base : Bk} {w : World} {B : Br} {n1 n2 n3 : Bool} {k1 k2 k3 a b c : Nat} (hH : HeapOk ρ κ base (brH 0) w) (e1 : ρ.nl 3 = n1) (e2 : ρ.nl 6 = n2) (e3 : ρ.nl 9 = n3) (a1 : ρ.a 2 = rowsI B.ps) (a2 : ρ.a 5 = rowsI B.cs) (a3 : ρ.a 8 = rowsH B.hs) (ha : a ≤ B.ps.length) (hb : b ≤ B.cs.length) (hc : c ≤ B.hs.length) :
    BrIs w ⟨B.op, B.on, B.ps.take a, B.cs.take b, B.hs.take c⟩ (.agg #[vI B.op, vI B.on, .slice (if n1 = true then none else some ⟨κ.ab 3, κ.ao 3, none⟩) a k1, .slice (if n2 = true then none else some ⟨κ.ab 6, κ.ao 6, none⟩) b k2, .slice (if n3 = true then none else some ⟨κ.ab 9, κ.ao 9, none⟩) c k3]) := by
  subst e1 e2 e3
  have h1 := hH.arr 3 2 pI none rfl
  have h2 := hH.arr 6 5 pI none rfl
  have h3 := hH.arr 9 8 pH none rfl
  rw [a1] at h1; rw [a2] at h2; rw [a3] at h3
  exact brIs_take (p1 := 0) (p2 := 0) (p3 := 0) (w1 := false) (w2 := false) (w3 := false) ⟨h1.1, h1.2, fun h => by cases h⟩ ⟨h2.1, h2.2, fun h => by cases h⟩ ⟨h3.1, h3.2, fun h => by cases h⟩ ha hb hc
theorem l_Sends (B : Br) (v : Value) (w : World) (n1 n2 n3 : Bool) (b1 o1 k1 b2 o2 k2 b3 o3 k3 : Nat)
    (hv : v = .agg #[vI B.op, vI B.on, .slice (if n1 then none else some ⟨b1, o1, none⟩) B.ps.length k1, .slice (if n2 then none else some ⟨b2, o2, none⟩) B.cs.length k2, .slice (if n3 then none else some ⟨b3, o3, none⟩) B.hs.length k3])
    (h1 : (n1 = true → rowsI B.ps = []) ∧ B.ps.length ≤ k1 ∧ ∀ (x f : Nat) r k, (rowsI B.ps)[x]? = some r → pI[f]? = some k → w.cell? ⟨b1, o1 + x * pI.length + f, none⟩ = some (k.den (r.getD f (.i 0))))
    (h2 : (n2 = true → rowsI B.cs = []) ∧ B.cs.length ≤ k2 ∧ ∀ (x f : Nat) r k, (rowsI B.cs)[x]? = some r → pI[f]? = some k → w.cell? ⟨b2, o2 + x * pI.length + f, none⟩ = some (k.den (r.getD f (.i 0))))
    (h3 : (n3 = true → rowsH B.hs = []) ∧ B.hs.length ≤ k3 ∧ ∀ (x f : Nat) r k, (rowsH B.hs)[x]? = some r → pH[f]? = some k → w.cell? ⟨b3, o3 + x * pH.length + f, none⟩ = some (k.den (r.getD f (.i 0)))) :
    Calls Try.prog 4 #[v] w fun e w' => e = .returned (vB true) ∧ Below w.heap.size w w' := by
  have := calls_of t_SpanSends (ρ := mkEnv [.i B.op, .i B.on, .l (rowsI B.ps), .n n1, .i k1, .l (rowsI B.cs), .n n2, .i k2, .l (rowsH B.hs), .n n3, .i k3]) (κ := kapL [(3, b1, o1), (6, b2, o2), (9, b3, o3)]) (w := w) (res := vB true) (H := brH 0)
    (heapOk_slices [⟨2, pI⟩, ⟨5, pI⟩, ⟨8, pH⟩] fun a ha => by
      simp only [List.mem_cons, List.not_mem_nil, or_false] at ha
      rcases ha with rfl | rfl | rfl
      · exact ⟨h1.1, h1.2.2⟩
      · exact ⟨h2.1, h2.2.2⟩
      · exact ⟨h3.1, h3.2.2⟩) ?_
  · simp only [List.map_cons, List.map_nil] at this
    have e : (brg 0).den (mkEnv [.i B.op, .i B.on, .l (rowsI B.ps), .n n1, .i k1, .l (rowsI B.cs), .n n2, .i k2, .l (rowsH B.hs), .n n3, .i k3]) (kapL [(3, b1, o1), (6, b2, o2), (9, b3, o3)]) = v := by
      rw [hv]; simp [brg, SV.den, SA.den, SC.den, slC0, slAddr, kapL, IE.den, CE.den, List.lookup]
    rw [e] at this
    exact this
  obtain ⟨op, on, ps, cs, hs⟩ := B
  have kw := c_works
  simp only [C4_P]
  simp [-Bool.exists_bool, -Bool.forall_bool]
  obtain ⟨a, ea, a1, a2⟩ := min_nat ps.length
  obtain ⟨b, eb, e1, e2⟩ := min_nat cs.length
  obtain ⟨c, ec, c1, c2⟩ := min_nat hs.length
  have em : max (a : Int) 0 = a := by omega
  have hk1 : a ≤ k1 := by have := h1.2.1; simp only [] at this; omega
  have hk2 : b ≤ k2 := by have := h2.2.1; simp only [] at this; omega
  have hk3 : c ≤ k3 := by have := h3.2.1; simp only [] at this; omega
  clear h1 h2 h3 hv
  have kC := fun (v : Value) (w : World) h => c_Check ⟨op, on, ps.take a, cs.take b, hs.take c⟩ v w h
  have kR := fun (v : Value) (w : World) h => c_Right ⟨op, on, ps.take a, cs.take b, hs.take c⟩ v w h
  have kO := fun (v : Value) (w : World) h => c_Roles ⟨op, on, ps.take a, cs.take b, hs.take c⟩ v w h
  have kS := fun (v : Value) (w : World) h => c_Send ⟨op, on, ps.take a, cs.take b, hs.take c⟩ v w h
  have ht : ∀ {w : World} {b1 o1 p1 b2 o2 p2 b3 o3 p3 : Nat} {w1 w2 w3 : Bool}, ArrAt w pI (rowsI ps) n1 b1 o1 p1 w1 → ArrAt w pI (rowsI cs) n2 b2 o2 p2 w2 → ArrAt w pH (rowsH hs) n3 b3 o3 p3 w3 → BrIs w ⟨op, on, ps.take a, cs.take b, hs.take c⟩ (.agg #[vI op, vI on, .slice (if n1 = true then none else some ⟨b1, o1, none⟩) a k1, .slice (if n2 = true then none else some ⟨b2, o2, none⟩) b k2, .slice (if n3 = true then none else some ⟨b3, o3, none⟩) c k3]) := fun x1 x2 x3 => brIs_take (B := ⟨op, on, ps, cs, hs⟩) x1 x2 x3 a1 e1 c1
  have hhp : ∀ {ρ : Env} {κ : Kap} {base : Bk} {w : World}, HeapOk ρ κ base (brH 0) w → ρ.nl 3 = n1 → ρ.nl 6 = n2 → ρ.nl 9 = n3 → ρ.a 2 = rowsI ps → ρ.a 5 = rowsI cs → ρ.a 8 = rowsH hs → BrIs w ⟨op, on, ps.take a, cs.take b, hs.take c⟩ (.agg #[vI op, vI on, .slice (if n1 = true then none else some ⟨κ.ab 3, κ.ao 3, none⟩) a k1, .slice (if n2 = true then none else some ⟨κ.ab 6, κ.ao 6, none⟩) b k2, .slice (if n3 = true then none else some ⟨κ.ab 9, κ.ao 9, none⟩) c k3]) := fun hH x1 x2 x3 x4 x5 x6 => brIs_heapT (B := ⟨op, on, ps, cs, hs⟩) hH x1 x2 x3 x4 x5 x6 a1 e1 c1
  have lA : (ps.take a).length = a := by simp; omega
  have lC : (hs.take c).length = c := by simp; omega
  by_cases hB : okBr ⟨op, on, ps.take a, cs.take b, hs.take c⟩
  · have hn : decide (¬(okBr ⟨op, on, ps.take a, cs.take b, hs.take c⟩ ∧ (Br.ps ⟨op, on, ps.take a, cs.take b, hs.take c⟩).length ≠ 0)) = decide (a = 0) := by
      rw [decide_eq_decide]; simp only [lA]
      constructor
      · intro h; by_cases h0 : a = 0
        · exact h0
        · exact absurd ⟨hB, h0⟩ h
      · rintro h ⟨-, h2⟩; exact h2 h
    have kT := fun (v : Value) (w : World) h => c_root ⟨op, on, ps.take a, cs.take b, hs.take c⟩ hB v w h
    have kt := fun (v : Value) (w : World) h => c_refRoot ⟨op, on, ps.take a, cs.take b, hs.take c⟩ hB v w h
    have kc := fun (i : Nat) (hi) (v : Value) (w : World) h => c_refClaim ⟨op, on, ps.take a, cs.take b, hs.take c⟩ hB i hi v w h
    have kl := fun (i : Nat) (hi) (v : Value) (w : World) h => c_refRole ⟨op, on, ps.take a, cs.take b, hs.take c⟩ hB i hi v w h
    have ks := fun (i : Nat) (hi) (v : Value) (w : World) h => c_refSend ⟨op, on, ps.take a, cs.take b, hs.take c⟩ hB i hi v w h
    have rr := rootN_range ⟨op, on, ps.take a, cs.take b, hs.take c⟩ a
    obtain ⟨B', eB⟩ : ∃ B' : Br, B' = ⟨op, on, ps.take a, cs.take b, hs.take c⟩ := ⟨_, rfl⟩
    simp only [← eB] at kC kR kO kS ht hhp hB hn kT kt kc kl ks rr
    have pl : B'.ps.length = a := by rw [eB]; exact lA
    have po : B'.op = op := by rw [eB]
    have pn : B'.on = on := by rw [eB]
    simp only [if_pos hB, decide_eq_true hB, hn, pl, lA] at kC kR kO kS kT kt kc kl ks
    simp only [ea, eb, ec, em, Int.toNat_natCast]
    refine ⟨true, kw, rfl, fun _ => ⟨⟨by omega, by omega⟩, ⟨by omega, by omega⟩, ⟨by omega, by omega⟩, 0, fun κ w1 x1 x2 x3 _ _ => kC _ w1 (ht x1 x2 x3), fun h => absurd rfl h, fun _ => ?_⟩⟩
    refine ⟨_, _, _, _, _, _, _, fun κ w1 x1 x2 x3 _ _ => kT _ w1 (ht x1 x2 x3), rowsI ((List.range a).map B'.rol), decide (a = 0), 0, callOk_row (by simp) (by omega) (fun κ w1 hH _ _ => ?_), rowsH ((List.range a).map B'.snd), decide (a = 0), 0, callOk_row (by simp) (by omega) (fun κ w1 hH _ _ => ?_), ?_⟩
    · simp
      simp only [ea, eb, ec, Int.toNat_natCast]
      refine (kO _ w1 (hhp hH rfl rfl rfl rfl rfl rfl)).mono fun e w' ⟨v', g1, g2, g3⟩ => ⟨v', ?_, fun κ' hv => ?_, g3⟩
      · simpa [pI, hB] using g2
      · rw [g1, ← hv]
    · simp
      simp only [ea, eb, ec, Int.toNat_natCast]
      refine (kS _ w1 (hhp hH rfl rfl rfl rfl rfl rfl)).mono fun e w' ⟨v', g1, g2, g3⟩ => ⟨v', ?_, fun κ' hv => ?_, g3⟩
      · simpa [pH, hB] using g2
      · rw [g1, ← hv]
    have eR : ∀ {i : Nat}, i < a → (rowsI ((List.range a).map B'.rol))[i]? = some [.i (B'.rol i)] := fun h => by simp [rowsI, h]
    have eS : ∀ {i : Nat}, i < a → (rowsH ((List.range a).map B'.snd))[i]? = some (rowH (B'.snd i)) := fun h => by simp [rowsH, h]
    refine ⟨true, fun κ w1 x1 x2 x3 _ _ => kR _ w1 (ht x1 x2 x3), rfl, fun _ => ⟨fun _ _ => ⟨_, fun κ w1 x1 x2 x3 _ _ => kt _ w1 (ht x1 x2 x3), ⟨⟨rfl, by simp⟩, by simp⟩, fun _ _ _ => ⟨fun l => 0 ≤ (l.getD 0 (.i 0)).int ∧ (l.getD 0 (.i 0)).int ≤ a, by simp, fun l => (a - (l.getD 0 (.i 0)).int).toNat, fun k hI => ?_⟩⟩, rfl, rfl⟩⟩
    simp only [List.getD_cons_zero, Dat.int] at hI ⊢
    obtain ⟨i1, i2⟩ := hI
    refine ⟨fun hlt => ?_, fun hge => ?_⟩
    · have hk : k.toNat < a := by omega
      have hkk : (k.toNat : Int) = k := by omega
      have w2 : IntKind.i64.wrap (k + 1) = k + 1 := wrap64 (by omega) (by omega)
      have kcc := kc k.toNat hk
      have kll := kl k.toNat hk
      have kss := ks k.toNat hk
      rw [hkk] at kcc kll kss
      rw [eR hk, eS hk]
      simp only [Option.getD_some, rowH, List.getElem?_cons_zero, Dat.int, Dat.bool, List.getElem?_cons_succ, w2]
      have cb : ∀ j < 3, (B'.bestN a).getD j 0 = (B'.clm k.toNat).getD j 0 := fun j hj => by
        match j, hj with
        | 0, _ => simp [Br.clm, Br.best, pl]
        | 1, _ => simp [Br.clm, Br.best, pl]
        | 2, _ => simp [Br.clm, Br.best, pl]
      refine ⟨_, _, _, ⟨_, _, _, fun κ w1 x1 x2 x3 _ _ => kcc _ w1 (ht x1 x2 x3)⟩, .inr i1, fun _ _ _ => ⟨_, fun κ w1 x1 x2 x3 _ _ => kll _ w1 (ht x1 x2 x3), .inr i1, fun _ => ?_, rfl⟩, cb 0 (by omega), cb 1 (by omega), cb 2 (by omega)⟩
      exact ⟨_, _, _, _, _, _, _, _, fun κ w1 x1 x2 x3 _ _ => kss _ w1 (ht x1 x2 x3), ⟨rfl, ⟨⟨rfl, rfl⟩, rfl, ⟨rfl, rfl⟩, rfl⟩, rfl⟩, fun _ _ _ _ _ _ _ _ => ⟨⟨by omega, by omega⟩, by omega⟩⟩
    · by_cases h0 : a = 0
      · right
        subst h0
        simp [Br.bestN, Br.rootN, po, pn]
      · left; omega
  · simp only [if_neg hB, decide_eq_false hB] at kC kR kO kS
    have hn : decide (¬(okBr ⟨op, on, ps.take a, cs.take b, hs.take c⟩ ∧ (Br.ps ⟨op, on, ps.take a, cs.take b, hs.take c⟩).length ≠ 0)) = true := decide_eq_true fun h => hB h.1
    have kO := fun (v : Value) (w : World) h => (by have := kO v w h; rw [hn] at this; exact this : Calls Try.prog 19 #[v] w fun e w' => ∃ v', e = .returned (.tuple #[v', vI 290]) ∧ OwnRow w w' 3 pI (rowsI []) true v' ∧ Below w.heap.size w w')
    have kS := fun (v : Value) (w : World) h => (by have := kS v w h; rw [hn] at this; exact this : Calls Try.prog 20 #[v] w fun e w' => ∃ v', e = .returned (.tuple #[v', vI 290]) ∧ OwnRow w w' 51 pH (rowsH []) true v' ∧ Below w.heap.size w w')
    simp only [ea, eb, ec, em, Int.toNat_natCast]
    refine ⟨true, kw, rfl, fun _ => ⟨⟨by omega, by omega⟩, ⟨by omega, by omega⟩, ⟨by omega, by omega⟩, 290, fun κ w1 x1 x2 x3 _ _ => kC _ w1 (ht x1 x2 x3), fun _ => ?_, fun h => absurd h (by decide)⟩⟩
    refine ⟨[], true, 290, callOk_row (by simp) (by omega) (fun κ w1 hH _ _ => ?_), [], true, 290, callOk_row (by simp) (by omega) (fun κ w1 hH _ _ => ?_), fun κ w1 x1 x2 x3 _ _ => kR _ w1 (ht x1 x2 x3), ⟨⟨⟨⟨rfl, rfl⟩, rfl⟩, rfl⟩, rfl⟩⟩
    · simp
      simp only [ea, eb, ec, Int.toNat_natCast]
      refine (kO _ w1 (hhp hH rfl rfl rfl rfl rfl rfl)).mono fun e w' ⟨v', g1, g2, g3⟩ => ⟨v', ?_, fun κ' hv => ?_, g3⟩
      · simpa [pI, rowsI] using g2
      · rw [g1, ← hv]
    · simp
      simp only [ea, eb, ec, Int.toNat_natCast]
      refine (kS _ w1 (hhp hH rfl rfl rfl rfl rfl rfl)).mono fun e w' ⟨v', g1, g2, g3⟩ => ⟨v', ?_, fun κ' hv => ?_, g3⟩
      · simpa [pH, rowsH] using g2
      · rw [g1, ← hv]
end Go.Proofs.Y19
