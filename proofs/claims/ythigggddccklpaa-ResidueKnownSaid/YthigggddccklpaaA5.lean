/- A part of the proof: see the text that states the theorem. -/
import Derived.Test.YthigggddccklpaaA4
set_option linter.unusedSimpArgs false
set_option linter.unusedVariables false
set_option linter.unusedSectionVars false
namespace Go.Proofs.Y23
open Go Go.SX Go.RowKit
theorem c_span (p f l : Int) : Ret Try.prog 29 #[vI p, vI f, vI l] (vS p f l) := by
  refine ret_of t_span (mkEnv [.i p, .i f, .i l]) (fun w => ?_)
  simp
theorem c_covers (p f l t : Int) : Ret Try.prog 25 #[vS p f l, vI t] (vB (coversB p f l t && coversE p f l t == 0)) := by
  refine ret_of t_covers (mkEnv [.i p, .i f, .i l, .i t]) (fun w => ?_)
  simp [-Bool.exists_bool]
  exact ⟨_, _, c_Covers p f l t, rfl⟩
theorem c_apart (ap af al bp bf bl : Int) : Ret Try.prog 26 #[vS ap af al, vS bp bf bl] (vB (apartB ap af al bp bf bl && apartE ap af al bp bf bl == 0)) := by
  refine ret_of t_apart (mkEnv [.i ap, .i af, .i al, .i bp, .i bf, .i bl]) (fun w => ?_)
  simp [-Bool.exists_bool]
  exact ⟨_, _, c_Apart _ _ _ _ _ _, rfl⟩
theorem own2 {ρ : Env} {κ : Kap} {base : Nat} {w : World} {id ty a b c d e f cap : Nat} (hH : HeapOk ρ κ base [HE.own id [SC.int .i64 (IE.v a), SC.int .i64 (IE.v b), SC.int .i64 (IE.v c), SC.int .i64 (IE.v d), SC.int .i64 (IE.v e), SC.int .i64 (IE.v f)] ty] w) :
    SliceIs w p3 (rowsOf [(ρ.i a, ρ.i b, ρ.i c), (ρ.i d, ρ.i e, ρ.i f)]) (.slice (some ⟨κ.o id, 0, none⟩) 2 cap) :=
  SliceIs.of_own (pat := p3) (m := 2) hH ((own?_cons _ _ _ _ _).trans (if_pos rfl)) (rs := [[.i (.v a), .i (.v b), .i (.v c)], [.i (.v d), .i (.v e), .i (.v f)]]) rfl
theorem own1 {ρ : Env} {κ : Kap} {base : Nat} {w : World} {id ty a b c cap : Nat} (hH : HeapOk ρ κ base [HE.own id [SC.int .i64 (IE.v a), SC.int .i64 (IE.v b), SC.int .i64 (IE.v c)] ty] w) :
    SliceIs w p3 (rowsOf [(ρ.i a, ρ.i b, ρ.i c)]) (.slice (some ⟨κ.o id, 0, none⟩) 1 cap) :=
  SliceIs.of_own (pat := p3) (m := 1) hH ((own?_cons _ _ _ _ _).trans (if_pos rfl)) (rs := [[.i (.v a), .i (.v b), .i (.v c)]]) rfl
theorem own0 (w : World) : SliceIs w p3 (rowsOf []) (.slice none 0 0) := ⟨true, 0, 0, 0, rfl, fun _ => rfl, fun x f r k h => by simp [rowsOf] at h⟩
theorem c_room (ap af al bp bf bl x y z : Int) : Ret Try.prog 32 #[vS ap af al, vS bp bf bl, vI x, vI y, vI z] (vB (let q := roomF ap af al bp bf bl (okS ap af al && okS bp bf bl); q.2.2.2 == 0 && (q.1 == x && (q.2.1 == y && q.2.2.1 == z)))) := by
  refine ret_of t_room (mkEnv [.i ap, .i af, .i al, .i bp, .i bf, .i bl, .i x, .i y, .i z]) (fun w => ?_)
  simp [-Bool.exists_bool]
  refine ⟨_, _, _, _, c_Room _ _ _ _ _ _, ?_⟩
  simp [Bool.and_assoc]
set_option maxRecDepth 100000 in
theorem c_works : Ret Try.prog 15 #[] (vB true) := by
  refine ret_of t_works (mkEnv []) (fun w => ?_)
  simp [-Bool.exists_bool, bigCell, Value.oneCell']
  refine ⟨_, _, _, c_span _ _ _, ?_⟩
  refine ⟨_, _, _, c_span _ _ _, ?_⟩
  refine ⟨_, _, _, _, c_Room _ _ _ _ _ _, ?_⟩
  refine ⟨_, _, _, c_span _ _ _, ?_⟩
  refine ⟨_, _, _, c_span _ _ _, ?_⟩
  refine ⟨_, _, _, c_span _ _ _, ?_⟩
  refine ⟨_, _, fun κ w1 hH hb hz => c_Next [(12, 0, 3), (12, 5, 2)] 12 1 2 _ w1 (by simpa using own2 hH), ?_⟩
  refine ⟨_, _, _, c_span _ _ _, ?_⟩
  refine ⟨_, _, _, c_span _ _ _, ?_⟩
  refine ⟨_, _, fun κ w1 hH hb hz => c_Next [(4, 0, 1)] 6 0 1 _ w1 (by simpa using own1 hH), ?_⟩
  refine ⟨_, _, _, c_span _ _ _, ?_⟩
  refine ⟨_, _, _, c_span _ _ _, ?_⟩
  refine ⟨_, _, fun κ w1 hH hb hz => c_Next [(4, 0, 2)] 6 0 1 _ w1 (by simpa using own1 hH), ?_⟩
  refine ⟨_, _, _, c_span _ _ _, ?_⟩
  refine ⟨_, _, _, c_span _ _ _, ?_⟩
  refine ⟨_, _, fun κ w1 hH hb hz => c_Cycle [(4, 0, 1), (6, 0, 1)] _ w1 (by simpa using own2 hH), ?_⟩
  refine ⟨_, _, fun w1 => c_Cycle [] _ w1 (own0 w1), ?_⟩
  refine ⟨_, _, _, c_span _ _ _, ?_⟩
  refine ⟨_, _, _, c_span _ _ _, ?_⟩
  refine ⟨_, _, c_Apart _ _ _ _ _ _, ?_⟩
  refine ⟨_, _, _, c_span _ _ _, ?_⟩
  refine ⟨_, _, _, c_span _ _ _, ?_⟩
  refine ⟨_, c_room _ _ _ _ _ _ _ _ _, ?_⟩
  refine ⟨fun _ _ => ?_, by decide +kernel, by decide +kernel⟩
  refine ⟨_, _, _, c_span _ _ _, ?_⟩
  refine ⟨_, _, _, c_span _ _ _, ?_⟩
  refine ⟨_, c_room _ _ _ _ _ _ _ _ _, ?_⟩
  refine ⟨_, _, _, c_span _ _ _, _, c_covers _ _ _ _, fun _ => ?_, fun h => absurd h (by decide +kernel)⟩
  refine ⟨_, _, _, c_span _ _ _, _, c_covers _ _ _ _, fun _ => ?_, fun h => absurd h (by decide +kernel)⟩
  refine ⟨_, _, _, c_span _ _ _, _, c_covers _ _ _ _, ?_⟩
  refine ⟨fun _ _ _ _ _ _ _ _ _ _ _ _ => ?_, by decide +kernel⟩
  refine ⟨_, _, _, c_span _ _ _, ?_⟩
  refine ⟨_, _, _, c_span _ _ _, ?_⟩
  refine ⟨_, c_apart _ _ _ _ _ _, ?_⟩
  decide +kernel
end Go.Proofs.Y23
