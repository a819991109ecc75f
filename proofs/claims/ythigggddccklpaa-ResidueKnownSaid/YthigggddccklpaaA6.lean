/- A part of the proof: see the text that states the theorem. -/
import Derived.Test.YthigggddccklpaaA5
set_option linter.unusedSimpArgs false
set_option linter.unusedVariables false
set_option linter.unusedSectionVars false
namespace Go.Proofs.Y23
open Go Go.SX Go.RowKit
set_option maxRecDepth 100000 in
theorem l_Checks (p f l a b c t : Int) (ha : 0 ≤ a ∧ a < 256) (hb : 0 ≤ b ∧ b < 256) (hc : 0 ≤ c ∧ c < 256) : Ret Try.prog 3 #[vS p f l, .agg #[vU a, vU b, vU c], vI t] (vB true) := by
  refine ret_of t_Checks (mkEnv [.i p, .i f, .i l, .i a, .i b, .i c, .i t]) (fun w => ?_)
  simp [-Bool.exists_bool]
  refine ⟨_, _, _, c_Of ha hb hc, ?_⟩
  refine ⟨_, _, c_Covers _ _ _ _, _, _, c_refCovers _ _ _ _, ⟨rfl, rfl⟩, fun _ _ => ?_⟩
  refine ⟨_, _, c_Covers _ _ _ _, _, _, c_refCovers _ _ _ _, ⟨rfl, rfl⟩, fun _ _ => ?_⟩
  refine ⟨_, _, c_Covers _ _ _ _, _, _, c_refCovers _ _ _ _, ⟨rfl, rfl⟩, fun _ _ => ?_⟩
  refine ⟨_, c_Check _ _ _, _, c_refCheck _ _ _, rfl, fun _ => ?_⟩
  refine ⟨_, _, c_Covers _ _ _ _, _, _, c_refCovers _ _ _ _, ⟨rfl, rfl⟩, fun _ _ => ?_⟩
  refine ⟨_, _, c_Covers _ _ _ _, _, _, c_refCovers _ _ _ _, ⟨rfl, rfl⟩, fun _ _ => ?_⟩
  refine ⟨_, _, c_Covers _ _ _ _, _, _, c_refCovers _ _ _ _, ⟨rfl, rfl⟩, fun _ _ => ?_⟩
  exact ⟨_, c_Check _ _ _, _, c_refCheck _ _ _, rfl, fun _ => c_works⟩
set_option maxRecDepth 100000 in
theorem l_Aparts (p f l p2 f2 l2 a b c d e g : Int) (ha : 0 ≤ a ∧ a < 256) (hb : 0 ≤ b ∧ b < 256) (hc : 0 ≤ c ∧ c < 256) (hd : 0 ≤ d ∧ d < 256) (he : 0 ≤ e ∧ e < 256) (hg : 0 ≤ g ∧ g < 256) :
    Ret Try.prog 4 #[vS p f l, vS p2 f2 l2, .agg #[vU a, vU b, vU c, vU d, vU e, vU g]] (vB true) := by
  refine ret_of t_Aparts (mkEnv [.i p, .i f, .i l, .i p2, .i f2, .i l2, .i a, .i b, .i c, .i d, .i e, .i g]) (fun w => ?_)
  simp [-Bool.exists_bool]
  refine ⟨_, _, _, c_Of ha hb hc, _, _, _, c_Of hd he hg, ?_⟩
  refine ⟨_, _, c_Apart _ _ _ _ _ _, _, _, c_refApart _ _ _ _ _ _, _, _, _, _, c_Room _ _ _ _ _ _, _, _, _, _, c_refRoom _ _ _ _ _ _, ⟨⟨⟨⟨⟨rfl, rfl⟩, rfl⟩, rfl⟩, rfl⟩, rfl⟩, fun _ _ _ _ _ _ => ?_⟩
  refine ⟨_, _, c_Apart _ _ _ _ _ _, _, _, c_refApart _ _ _ _ _ _, _, _, _, _, c_Room _ _ _ _ _ _, _, _, _, _, c_refRoom _ _ _ _ _ _, ⟨⟨⟨⟨⟨rfl, rfl⟩, rfl⟩, rfl⟩, rfl⟩, rfl⟩, fun _ _ _ _ _ _ => ?_⟩
  refine ⟨_, _, c_Apart _ _ _ _ _ _, _, _, c_refApart _ _ _ _ _ _, _, _, _, _, c_Room _ _ _ _ _ _, _, _, _, _, c_refRoom _ _ _ _ _ _, ⟨⟨⟨⟨⟨rfl, rfl⟩, rfl⟩, rfl⟩, rfl⟩, rfl⟩, fun _ _ _ _ _ _ => ?_⟩
  refine ⟨_, _, c_Apart _ _ _ _ _ _, _, _, c_refApart _ _ _ _ _ _, _, _, _, _, c_Room _ _ _ _ _ _, _, _, _, _, c_refRoom _ _ _ _ _ _, ⟨⟨⟨⟨⟨rfl, rfl⟩, rfl⟩, rfl⟩, rfl⟩, rfl⟩, fun _ _ _ _ _ _ => ?_⟩
  exact c_works
end Go.Proofs.Y23
