/- A part of the proof: see the text that states the theorem. -/
import Derived.Test.YtkjladilnoggaaaA0
set_option linter.unusedSimpArgs false
set_option linter.unusedVariables false
set_option linter.unusedSectionVars false
noncomputable section
namespace Go.Proofs.Y19
open Go Go.SX Go.RowKit
abbrev vI (n : Int) : Value := .int .i64 n
abbrev vB (b : Bool) : Value := .bool b
abbrev vBid (p n : Int) : Value := .agg #[vI p, vI n]
abbrev vRk (rp rn co fp fn po : Int) : Value := .agg #[vI rp, vI rn, vI co, vI fp, vI fn, vI po]
abbrev vHl (rp rn co fp fn po ag : Int) : Value := .agg #[vI rp, vI rn, vI co, vI fp, vI fn, vI po, vI ag]
def okBid (p n : Int) : Prop := (0 ≤ p ∧ p ≤ 15) ∧ (0 ≤ n ∧ n ≤ 11)
def okRk (rp rn co fp fn po : Int) : Prop := okBid rp rn ∧ okBid fp fn ∧ (0 ≤ co ∧ co ≤ 1048576) ∧ (0 ≤ po ∧ po ≤ 47)
def okHl (rp rn co fp fn po ag : Int) : Prop := okRk rp rn co fp fn po ∧ (0 ≤ ag ∧ ag ≤ 20)
instance (p n : Int) : Decidable (okBid p n) := by unfold okBid; infer_instance
instance (a b c d e f : Int) : Decidable (okRk a b c d e f) := by unfold okRk; infer_instance
instance (a b c d e f g : Int) : Decidable (okHl a b c d e f g) := by unfold okHl; infer_instance
theorem c_Bid (p n : Int) : Ret Try.prog 40 #[vBid p n] (vB (decide (okBid p n))) := by
  refine ret_of t_Bid (mkEnv [.i p, .i n]) (fun w => ?_)
  simp [okBid]
  grind
theorem c_Hello (rp rn co fp fn po ag : Int) : Ret Try.prog 32 #[vHl rp rn co fp fn po ag] (vB (decide (okHl rp rn co fp fn po ag))) := by
  refine ret_of t_Hello (mkEnv [.i rp, .i rn, .i co, .i fp, .i fn, .i po, .i ag]) (fun w => ?_)
  simp [okHl, okRk, okBid]
  grind
theorem c_vCheck (rp rn co fp fn po : Int) : Ret Try.prog 35 #[vRk rp rn co fp fn po] (vI (if okRk rp rn co fp fn po then 0 else 280)) := by
  refine ret_of t_vCheck (mkEnv [.i rp, .i rn, .i co, .i fp, .i fn, .i po]) (fun w => ?_)
  simp [okRk, okBid]
  grind
theorem c_CheckHello (rp rn co fp fn po ag : Int) : Ret Try.prog 36 #[vHl rp rn co fp fn po ag] (vI (if okHl rp rn co fp fn po ag then 0 else 280)) := by
  refine ret_of t_CheckHello (mkEnv [.i rp, .i rn, .i co, .i fp, .i fn, .i po, .i ag]) (fun w => ?_)
  simp [okHl, okRk, okBid]
  grind
end Go.Proofs.Y19
