/- A part of the proof: see the text that states the theorem. -/
import Derived.Test.YtjclacagbifgmaaB0
import Derived.Test.YtjclacagbifgmaaW0
set_option linter.unusedSimpArgs false
set_option linter.unusedVariables false
set_option linter.unusedSectionVars false
noncomputable section
set_option maxHeartbeats 4000000
set_option maxRecDepth 100000
namespace Go.Proofs.Y10
open Go Go.SX Go.RowKit
theorem ret_at {C : Cfg} {fuel : Nat} {f : FuncId} {args : List SV} {n : Nat} {t : T} (h : callTree C fuel f args [] n = some t) (ρ : Env) {res : Value} {vs : Array Value} (ha : (args.map (SV.den ρ kap0)).toArray = vs)
    (hd : ∀ w : World, DenV C.P (Bk.at C.P w.heap.size) w (fun v => v = res) t [] ρ) : Ret C.P f vs res := by
  subst ha; exact ret_of h ρ hd
theorem c_works : Ret Try.prog 10 #[] (vB true) := ret_of t_works (mkEnv []) fun w => by simp
end Go.Proofs.Y10
