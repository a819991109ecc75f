/- A part of the proof: see the text that states the theorem. -/
import Derived.Test.YthigggddccklpaaA13
set_option linter.unusedSimpArgs false
set_option linter.unusedVariables false
set_option linter.unusedSectionVars false
namespace Go.Proofs.Y23
open Go Go.SX Go.RowKit
theorem exD_intro : ∀ (ks : List VK) {F : List Dat → Prop} (l : List Dat), fitsL ks l = true → F l → exD ks F
  | [], _, [], _, h => h
  | [], _, _ :: _, hl, _ => by cases hl
  | _ :: _, _, [], hl, _ => by cases hl
  | k :: r, F, d :: l, hl, h => by
    simp only [fitsL, Bool.and_eq_true] at hl
    cases k <;> cases d <;> simp [Dat.fits] at hl <;> exact ⟨_, exD_intro r l hl h⟩
theorem DenV.step {P : Program} {base : Nat} {w0 : World} {Φ : Value → Prop} {f : FuncId} {args : List SV} {n : Nat} {vks : List VK} {res : SV} {t : Tree} {L : List LCtx} {ρ : Env} (l : List Dat) (hl : fitsL vks l = true)
    (hc : ∀ κ, Ret P f (args.map (SV.den ρ κ)).toArray (res.den (ρ.setL n l) κ)) (ht : DenV P base w0 Φ t L (ρ.setL n l)) : DenV P base w0 Φ (.call f args [] n vks res [] t) L ρ := exD_intro vks l hl ⟨hc, ht⟩
theorem ownI {ρ : Env} {κ : Kap} {base : Nat} {w : World} {id ty cap : Nat} {a b c : IE} (hH : HeapOk ρ κ base [HE.own id [SC.int .i64 a, SC.int .i64 b, SC.int .i64 c] ty] w) :
    SliceIs w p3 (rowsOf [(a.den ρ, b.den ρ, c.den ρ)]) (.slice (some ⟨κ.o id, 0, none⟩) 1 cap) :=
  SliceIs.of_own (pat := p3) (m := 1) hH ((own?_cons _ _ _ _ _).trans (if_pos rfl)) (rs := [[.i a, .i b, .i c]]) rfl
theorem ownII {ρ : Env} {κ : Kap} {base : Nat} {w : World} {id ty cap : Nat} {a b c d e f : IE} (hH : HeapOk ρ κ base [HE.own id [SC.int .i64 a, SC.int .i64 b, SC.int .i64 c, SC.int .i64 d, SC.int .i64 e, SC.int .i64 f] ty] w) :
    SliceIs w p3 (rowsOf [(a.den ρ, b.den ρ, c.den ρ), (d.den ρ, e.den ρ, f.den ρ)]) (.slice (some ⟨κ.o id, 0, none⟩) 2 cap) :=
  SliceIs.of_own (pat := p3) (m := 2) hH ((own?_cons _ _ _ _ _).trans (if_pos rfl)) (rs := [[.i a, .i b, .i c], [.i d, .i e, .i f]]) rfl
theorem ownIII {ρ : Env} {κ : Kap} {base : Nat} {w : World} {id ty cap : Nat} {a b c d e f g h i : IE} (hH : HeapOk ρ κ base [HE.own id [SC.int .i64 a, SC.int .i64 b, SC.int .i64 c, SC.int .i64 d, SC.int .i64 e, SC.int .i64 f, SC.int .i64 g, SC.int .i64 h, SC.int .i64 i] ty] w) :
    SliceIs w p3 (rowsOf [(a.den ρ, b.den ρ, c.den ρ), (d.den ρ, e.den ρ, f.den ρ), (g.den ρ, h.den ρ, i.den ρ)]) (.slice (some ⟨κ.o id, 0, none⟩) 3 cap) :=
  SliceIs.of_own (pat := p3) (m := 3) hH ((own?_cons _ _ _ _ _).trans (if_pos rfl)) (rs := [[.i a, .i b, .i c], [.i d, .i e, .i f], [.i g, .i h, .i i]]) rfl
theorem DenV.stepH {P : Program} {base : Nat} {w0 : World} {Φ : Value → Prop} {f : FuncId} {args : List SV} {e : HE} {H : Heap} {n : Nat} {vks : List VK} {res : SV} {t : Tree} {L : List LCtx} {ρ : Env} (l : List Dat) (hl : fitsL vks l = true)
    (hc : CallOk P base w0 ρ (ρ.setL n l) (e :: H) f args n res []) (ht : DenV P base w0 Φ t L (ρ.setL n l)) : DenV P base w0 Φ (.call f args (e :: H) n vks res [] t) L ρ := exD_intro vks l hl ⟨hc, ht⟩
theorem ownR {ρ : Env} {κ : Kap} {base : Nat} {w : World} {n : Nat} {l : List Sp} (hH : HeapOk ρ κ base [HE.arr n n p3 (some 23)] w) (h : ρ.a n = rowsOf l) : SliceIs w p3 (rowsOf l) (SC.den ρ κ (.slice n 3 0 (.lit 0) (.alen n) (.k n))) := by
  have hs := SliceIs.of_arr (j := n) (c := n) hH (by rw [arr?_cons, if_pos rfl]) (CE.k n)
  rw [h] at hs
  have ho := (hH.row n n p3 23 (by rw [arr?_cons, if_pos rfl])).1
  simpa [SC.den, slAddr, IE.den, h, ho] using hs
theorem c_Next' (l : List Sp) (p f g x y : Int) (he : nextF l p f g = (x, y)) {v : Value} (w : World) (h : SliceIs w p3 (rowsOf l) v) : Calls Try.prog 21 #[v, vS p f g] w fun e w' => e = .returned (vIE x y) ∧ Below w.heap.size w w' := by
  have := c_Next l p f g v w h
  rw [he] at this; exact this
theorem c_Cycle' (l : List Sp) (x y : Int) (he : cycleF l = (x, y)) {v : Value} (w : World) (h : SliceIs w p3 (rowsOf l) v) : Calls Try.prog 23 #[v] w fun e w' => e = .returned (vIE x y) ∧ Below w.heap.size w w' := by
  have := c_Cycle l v w h
  rw [he] at this; exact this
theorem c_Covers' (p f l t : Int) (b : Bool) (e : Int) (h1 : coversB p f l t = b) (h2 : coversE p f l t = e) : Ret Try.prog 11 #[vS p f l, vI t] (vBE b e) := by
  rw [← h1, ← h2]; exact c_Covers p f l t
theorem c_Apart' (ap af al bp bf bl : Int) (b : Bool) (e : Int) (h1 : apartB ap af al bp bf bl = b) (h2 : apartE ap af al bp bf bl = e) : Ret Try.prog 16 #[vS ap af al, vS bp bf bl] (vBE b e) := by
  rw [← h1, ← h2]; exact c_Apart ap af al bp bf bl
theorem c_Room' (ap af al bp bf bl : Int) (q : Int × Int × Int × Int) (h : roomF ap af al bp bf bl (okS ap af al && okS bp bf bl) = q) : Ret Try.prog 18 #[vS ap af al, vS bp bf bl] (vRoom q) := by
  rw [← h]; exact c_Room ap af al bp bf bl
theorem c_Check' (p f l e : Int) (h : (if okS p f l then 0 else 330) = e) : Ret Try.prog 13 #[vS p f l] (vI e) := by
  rw [← h]; exact c_Check p f l
theorem c_covers' (p f l t : Int) (b : Bool) (h : (coversB p f l t && coversE p f l t == 0) = b) : Ret Try.prog 25 #[vS p f l, vI t] (vB b) := by
  rw [← h]; exact c_covers p f l t
set_option maxRecDepth 100000 in
set_option maxHeartbeats 2000000 in
theorem l_Known : Ret Try.prog 9 #[] (vB true) := by
  refine ret_of t_Known (mkEnv []) (fun w => ?_)
  refine DenV.step [.i 0, .i 0, .i 1] rfl (fun _ => c_span 0 0 1) ?_
  refine DenV.step [.i 961, .i 0, .i 1] rfl (fun _ => c_span 961 0 1) ?_
  refine DenV.step [.i 5, .i 5, .i 1] rfl (fun _ => c_span 5 5 1) ?_
  refine DenV.step [.i 5, .i (-1), .i 1] rfl (fun _ => c_span 5 (-1) 1) ?_
  refine DenV.step [.i 5, .i 0, .i 0] rfl (fun _ => c_span 5 0 0) ?_
  refine DenV.step [.i 5, .i 0, .i 6] rfl (fun _ => c_span 5 0 6) ?_
  refine DenV.step [.i 5, .i 0, .i 5] rfl (fun _ => c_span 5 0 5) ?_
  refine DenV.step [.b false, .i 330] rfl (fun _ => c_Covers' 0 0 0 1099511627777 false 330 (by decide +kernel) (by decide +kernel)) ?_
  refine DenV.step [.b false, .i 330] rfl (fun _ => c_Apart' 5 0 5 0 0 0 false 330 (by decide +kernel) (by decide +kernel)) ?_
  refine DenV.step [.b false, .i 330] rfl (fun _ => c_Apart' 0 0 0 5 0 5 false 330 (by decide +kernel) (by decide +kernel)) ?_
  refine DenV.step [.i 0, .i 0, .i 0, .i 330] rfl (fun _ => c_Room' 5 0 5 0 0 0 (0, 0, 0, 330) (by decide +kernel)) ?_
  refine DenV.stepH [.i 0, .i 330] rfl (fun κ w1 hH _ _ => c_Next' [(0, 0, 0)] 5 0 5 0 330 (by decide +kernel) w1 (ownI hH)) ?_
  refine DenV.step [.i 0, .i 330] rfl (fun κ w1 => c_Next' [] 0 0 0 0 330 (by decide +kernel) w1 (own0 w1)) ?_
  refine DenV.stepH [.i 0, .i 330] rfl (fun κ w1 hH _ _ => c_Cycle' [(5, 0, 5), (0, 0, 0)] 0 330 (by decide +kernel) w1 (ownII hH)) ?_
  refine DenV.step [.i 330] rfl (fun _ => c_Check' 0 0 0 330 (by decide +kernel)) ?_
  refine ⟨fun h => absurd h (by decide +kernel), fun _ => ?_⟩
  refine DenV.step [.b false, .i 330] rfl (fun _ => c_Covers' 0 0 1 1099511627777 false 330 (by decide +kernel) (by decide +kernel)) ?_
  refine DenV.step [.b false, .i 330] rfl (fun _ => c_Apart' 5 0 5 0 0 1 false 330 (by decide +kernel) (by decide +kernel)) ?_
  refine DenV.step [.b false, .i 330] rfl (fun _ => c_Apart' 0 0 1 5 0 5 false 330 (by decide +kernel) (by decide +kernel)) ?_
  refine DenV.step [.i 0, .i 0, .i 0, .i 330] rfl (fun _ => c_Room' 5 0 5 0 0 1 (0, 0, 0, 330) (by decide +kernel)) ?_
  refine DenV.stepH [.i 0, .i 330] rfl (fun κ w1 hH _ _ => c_Next' [(0, 0, 1)] 5 0 5 0 330 (by decide +kernel) w1 (ownI hH)) ?_
  refine DenV.step [.i 0, .i 330] rfl (fun κ w1 => c_Next' [] 0 0 1 0 330 (by decide +kernel) w1 (own0 w1)) ?_
  refine DenV.stepH [.i 0, .i 330] rfl (fun κ w1 hH _ _ => c_Cycle' [(5, 0, 5), (0, 0, 1)] 0 330 (by decide +kernel) w1 (ownII hH)) ?_
  refine DenV.step [.i 330] rfl (fun _ => c_Check' 0 0 1 330 (by decide +kernel)) ?_
  refine ⟨fun h => absurd h (by decide +kernel), fun _ => ?_⟩
  refine DenV.step [.b false, .i 330] rfl (fun _ => c_Covers' 961 0 1 1099511627777 false 330 (by decide +kernel) (by decide +kernel)) ?_
  refine DenV.step [.b false, .i 330] rfl (fun _ => c_Apart' 5 0 5 961 0 1 false 330 (by decide +kernel) (by decide +kernel)) ?_
  refine DenV.step [.b false, .i 330] rfl (fun _ => c_Apart' 961 0 1 5 0 5 false 330 (by decide +kernel) (by decide +kernel)) ?_
  refine DenV.step [.i 0, .i 0, .i 0, .i 330] rfl (fun _ => c_Room' 5 0 5 961 0 1 (0, 0, 0, 330) (by decide +kernel)) ?_
  refine DenV.stepH [.i 0, .i 330] rfl (fun κ w1 hH _ _ => c_Next' [(961, 0, 1)] 5 0 5 0 330 (by decide +kernel) w1 (ownI hH)) ?_
  refine DenV.step [.i 0, .i 330] rfl (fun κ w1 => c_Next' [] 961 0 1 0 330 (by decide +kernel) w1 (own0 w1)) ?_
  refine DenV.stepH [.i 0, .i 330] rfl (fun κ w1 hH _ _ => c_Cycle' [(5, 0, 5), (961, 0, 1)] 0 330 (by decide +kernel) w1 (ownII hH)) ?_
  refine DenV.step [.i 330] rfl (fun _ => c_Check' 961 0 1 330 (by decide +kernel)) ?_
  refine ⟨fun h => absurd h (by decide +kernel), fun _ => ?_⟩
  refine DenV.step [.b false, .i 330] rfl (fun _ => c_Covers' 5 5 1 1099511627777 false 330 (by decide +kernel) (by decide +kernel)) ?_
  refine DenV.step [.b false, .i 330] rfl (fun _ => c_Apart' 5 0 5 5 5 1 false 330 (by decide +kernel) (by decide +kernel)) ?_
  refine DenV.step [.b false, .i 330] rfl (fun _ => c_Apart' 5 5 1 5 0 5 false 330 (by decide +kernel) (by decide +kernel)) ?_
  refine DenV.step [.i 0, .i 0, .i 0, .i 330] rfl (fun _ => c_Room' 5 0 5 5 5 1 (0, 0, 0, 330) (by decide +kernel)) ?_
  refine DenV.stepH [.i 0, .i 330] rfl (fun κ w1 hH _ _ => c_Next' [(5, 5, 1)] 5 0 5 0 330 (by decide +kernel) w1 (ownI hH)) ?_
  refine DenV.step [.i 0, .i 330] rfl (fun κ w1 => c_Next' [] 5 5 1 0 330 (by decide +kernel) w1 (own0 w1)) ?_
  refine DenV.stepH [.i 0, .i 330] rfl (fun κ w1 hH _ _ => c_Cycle' [(5, 0, 5), (5, 5, 1)] 0 330 (by decide +kernel) w1 (ownII hH)) ?_
  refine DenV.step [.i 330] rfl (fun _ => c_Check' 5 5 1 330 (by decide +kernel)) ?_
  refine ⟨fun h => absurd h (by decide +kernel), fun _ => ?_⟩
  refine DenV.step [.b false, .i 330] rfl (fun _ => c_Covers' 5 (-1) 1 1099511627777 false 330 (by decide +kernel) (by decide +kernel)) ?_
  refine DenV.step [.b false, .i 330] rfl (fun _ => c_Apart' 5 0 5 5 (-1) 1 false 330 (by decide +kernel) (by decide +kernel)) ?_
  refine DenV.step [.b false, .i 330] rfl (fun _ => c_Apart' 5 (-1) 1 5 0 5 false 330 (by decide +kernel) (by decide +kernel)) ?_
  refine DenV.step [.i 0, .i 0, .i 0, .i 330] rfl (fun _ => c_Room' 5 0 5 5 (-1) 1 (0, 0, 0, 330) (by decide +kernel)) ?_
  refine DenV.stepH [.i 0, .i 330] rfl (fun κ w1 hH _ _ => c_Next' [(5, (-1), 1)] 5 0 5 0 330 (by decide +kernel) w1 (ownI hH)) ?_
  refine DenV.step [.i 0, .i 330] rfl (fun κ w1 => c_Next' [] 5 (-1) 1 0 330 (by decide +kernel) w1 (own0 w1)) ?_
  refine DenV.stepH [.i 0, .i 330] rfl (fun κ w1 hH _ _ => c_Cycle' [(5, 0, 5), (5, (-1), 1)] 0 330 (by decide +kernel) w1 (ownII hH)) ?_
  refine DenV.step [.i 330] rfl (fun _ => c_Check' 5 (-1) 1 330 (by decide +kernel)) ?_
  refine ⟨fun h => absurd h (by decide +kernel), fun _ => ?_⟩
  refine DenV.step [.b false, .i 330] rfl (fun _ => c_Covers' 5 0 0 1099511627777 false 330 (by decide +kernel) (by decide +kernel)) ?_
  refine DenV.step [.b false, .i 330] rfl (fun _ => c_Apart' 5 0 5 5 0 0 false 330 (by decide +kernel) (by decide +kernel)) ?_
  refine DenV.step [.b false, .i 330] rfl (fun _ => c_Apart' 5 0 0 5 0 5 false 330 (by decide +kernel) (by decide +kernel)) ?_
  refine DenV.step [.i 0, .i 0, .i 0, .i 330] rfl (fun _ => c_Room' 5 0 5 5 0 0 (0, 0, 0, 330) (by decide +kernel)) ?_
  refine DenV.stepH [.i 0, .i 330] rfl (fun κ w1 hH _ _ => c_Next' [(5, 0, 0)] 5 0 5 0 330 (by decide +kernel) w1 (ownI hH)) ?_
  refine DenV.step [.i 0, .i 330] rfl (fun κ w1 => c_Next' [] 5 0 0 0 330 (by decide +kernel) w1 (own0 w1)) ?_
  refine DenV.stepH [.i 0, .i 330] rfl (fun κ w1 hH _ _ => c_Cycle' [(5, 0, 5), (5, 0, 0)] 0 330 (by decide +kernel) w1 (ownII hH)) ?_
  refine DenV.step [.i 330] rfl (fun _ => c_Check' 5 0 0 330 (by decide +kernel)) ?_
  refine ⟨fun h => absurd h (by decide +kernel), fun _ => ?_⟩
  refine DenV.step [.b false, .i 330] rfl (fun _ => c_Covers' 5 0 6 1099511627777 false 330 (by decide +kernel) (by decide +kernel)) ?_
  refine DenV.step [.b false, .i 330] rfl (fun _ => c_Apart' 5 0 5 5 0 6 false 330 (by decide +kernel) (by decide +kernel)) ?_
  refine DenV.step [.b false, .i 330] rfl (fun _ => c_Apart' 5 0 6 5 0 5 false 330 (by decide +kernel) (by decide +kernel)) ?_
  refine DenV.step [.i 0, .i 0, .i 0, .i 330] rfl (fun _ => c_Room' 5 0 5 5 0 6 (0, 0, 0, 330) (by decide +kernel)) ?_
  refine DenV.stepH [.i 0, .i 330] rfl (fun κ w1 hH _ _ => c_Next' [(5, 0, 6)] 5 0 5 0 330 (by decide +kernel) w1 (ownI hH)) ?_
  refine DenV.step [.i 0, .i 330] rfl (fun κ w1 => c_Next' [] 5 0 6 0 330 (by decide +kernel) w1 (own0 w1)) ?_
  refine DenV.stepH [.i 0, .i 330] rfl (fun κ w1 hH _ _ => c_Cycle' [(5, 0, 5), (5, 0, 6)] 0 330 (by decide +kernel) w1 (ownII hH)) ?_
  refine DenV.step [.i 330] rfl (fun _ => c_Check' 5 0 6 330 (by decide +kernel)) ?_
  refine ⟨fun h => absurd h (by decide +kernel), fun _ => ?_⟩
  show DenV _ _ _ _ _ _ _
  refine DenV.stepH [.i 0, .i 3] rfl (fun κ w1 hH _ _ => c_Next' (List.replicate 33 (0, 0, 0)) 0 0 0 0 3 (by decide +kernel) w1 (ownR hH rfl)) ?_
  refine DenV.stepH [.i 0, .i 3] rfl (fun κ w1 hH _ _ => c_Cycle' (List.replicate 33 (0, 0, 0)) 0 3 (by decide +kernel) w1 (ownR hH rfl)) ?_
  refine DenV.step [.b false, .i 2] rfl (fun _ => c_Covers' 5 0 5 1099511627777 false 2 (by decide +kernel) (by decide +kernel)) ?_
  refine DenV.step [.b false, .i 2] rfl (fun _ => c_Covers' 5 0 5 (-1099511627777) false 2 (by decide +kernel) (by decide +kernel)) ?_
  refine DenV.step [.i 31, .i 0, .i 1] rfl (fun _ => c_span 31 0 1) ?_
  refine DenV.step [.i 32, .i 0, .i 1] rfl (fun _ => c_span 32 0 1) ?_
  refine DenV.stepH [.i 0, .i 6] rfl (fun κ w1 hH _ _ => c_Cycle' [(31, 0, 1), (32, 0, 1)] 0 6 (by decide +kernel) w1 (ownII hH)) ?_
  refine DenV.step [.i 960, .i 0, .i 1] rfl (fun _ => c_span 960 0 1) ?_
  refine DenV.step [.i 64, .i 0, .i 1] rfl (fun _ => c_span 64 0 1) ?_
  refine DenV.step [.i 15, .i 0, .i 1] rfl (fun _ => c_span 15 0 1) ?_
  refine DenV.stepH [.i 960, .i 0] rfl (fun κ w1 hH _ _ => c_Cycle' [(960, 0, 1), (64, 0, 1), (15, 0, 1)] 960 0 (by decide +kernel) w1 (ownIII hH)) ?_
  refine DenV.step [.i 7, .i 6, .i 7] rfl (fun _ => c_span 7 6 7) ?_
  refine DenV.step [.i 0, .i 0] rfl (fun κ w1 => c_Next' [] 7 6 7 0 0 (by decide +kernel) w1 (own0 w1)) ?_
  refine DenV.step [.i 7, .i 0, .i 1] rfl (fun _ => c_span 7 0 1) ?_
  refine DenV.step [.i 7, .i 0, .i 7] rfl (fun _ => c_span 7 0 7) ?_
  refine DenV.stepH [.i 0, .i 4] rfl (fun κ w1 hH _ _ => c_Next' [(7, 0, 1)] 7 0 7 0 4 (by decide +kernel) w1 (ownI hH)) ?_
  refine DenV.step [.i 7, .i 0, .i 1] rfl (fun _ => c_span 7 0 1) ?_
  refine DenV.step [.i 7, .i 2, .i 1] rfl (fun _ => c_span 7 2 1) ?_
  refine DenV.step [.i 7, .i 0, .i 2] rfl (fun _ => c_span 7 0 2) ?_
  refine DenV.stepH [.i 3, .i 0] rfl (fun κ w1 hH _ _ => c_Next' [(7, 0, 1), (7, 2, 1)] 7 0 2 3 0 (by decide +kernel) w1 (ownII hH)) ?_
  refine DenV.step [.b true] rfl (fun _ => c_works) ?_
  refine ⟨fun _ => ?_, fun h => absurd h (by decide +kernel)⟩
  refine DenV.step [.i 0] rfl (fun _ => c_Check' 5 0 5 0 (by decide +kernel)) ?_
  refine ⟨fun _ => ?_, fun h => absurd h (by decide +kernel)⟩
  refine DenV.step [.b true] rfl (fun _ => c_covers' 5 0 5 1099511627776 true (by decide +kernel)) ?_
  refine ⟨fun _ => ?_, fun h => absurd h (by decide +kernel)⟩
  refine DenV.step [.i 3, .i 0, .i 1] rfl (fun _ => c_span 3 0 1) ?_
  refine DenV.step [.b true] rfl (fun _ => c_covers' 3 0 1 (-3) true (by decide +kernel)) ?_
  refine ⟨fun _ => ?_, fun h => absurd h (by decide +kernel)⟩
  refine DenV.step [.i 3, .i 0, .i 1] rfl (fun _ => c_span 3 0 1) ?_
  refine DenV.step [.b false] rfl (fun _ => c_covers' 3 0 1 (-1) false (by decide +kernel)) ?_
  exact fun _ => rfl
end Go.Proofs.Y23
