/- SxI1: guards, and what a walk is told. -/
import Derived.Test.YthigggddccklpaaSxH
set_option linter.unusedSimpArgs false
set_option linter.unusedVariables false
set_option linter.unusedSectionVars false
namespace Go.SX
open Go Go.RowKit

structure Cfg where
  P : Program
  ct : Nat → Option RS
  ann : Nat → Nat → Option (List Loc)

/-- the condition under which an operation runs -/
def gval (want : Bool) : SV → Option BE
  | .a (.c (.bool b)) => some (bif want then b else mkNot b)
  | .ite c (.a (.c (.bool b))) (.tup []) => some (mkAnd c (bif want then b else mkNot b))
  | .tup [] => some (.lit false)
  | _ => none
def guardOf (ops : List Oper) (sl : List SV) : Option (Nat × Bool) → Option BE
  | none => some (.lit true)
  | some (j, want) => match ops[j]? with
    | some o => match o.dst with
      | some d => match slot sl d with
        | some s => gval want s
        | none => none
      | none => none
    | none => none
theorem guardOf_spec {ρ : Env} {κ : Kap} {ops : Array Oper} {sl : List SV} {a : Act} (hf : FrameOk ρ κ sl a) {o : Oper} {g : BE} (h : guardOf ops.toList sl o.guard = some g) : Region.wanted o (yielded ops a.tmps) = g.den ρ := by
  unfold guardOf at h
  unfold Region.wanted
  split at h
  · rename_i hg; rw [hg]; cases h; rfl
  · rename_i j want hg
    rw [hg]
    split at h
    · rename_i o' ho
      split at h
      · rename_i d hd
        split at h
        · rename_i s hs
          rw [slot_eq] at hs
          have hy : yielded ops a.tmps j = match a.tmps[d]? with
            | some (.bool b) => some b
            | _ => none := by
            have : ops[j]? = some o' := by simpa using ho
            unfold yielded
            rw [this]
            simp only [Option.bind_some, hd]
            rfl
          simp only [hy]
          unfold gval at h
          split at h
          · rename_i b
            cases h
            rw [hf.2 d _ hs rfl]
            simp only [SV.den, SA.den, SC.den]
            cases want <;> simp [mkNot_den]
          · rename_i c b
            cases h
            rw [hf.2 d _ hs rfl]
            simp only [SV.den, SA.den, SC.den, mkAnd_den]
            cases c.den ρ
            · simp
            · simp only [if_true]; cases want <;> simp [mkNot_den]
          · cases h
            rw [hf.2 d _ hs rfl]
            simp [SV.den, BE.den]
          · cases h
        · cases h
      · cases h
    · cases h
/-- a value where the facts and c are known -/
def SV.at (F : List BE) (c : BE) : SV → SV
  | .ite b x y => match bsimp F b with
    | .lit true => x
    | .lit false => y
    | _ => SV.under c (.ite b x y)
  | .a (.c (.bool b)) => .a (.c (.bool (bsimp F b)))
  | s => s
theorem SV.at_den {ρ : Env} {F : List BE} (hF : ∀ p ∈ F, p.den ρ = true) {c : BE} (hc : c.den ρ = true) (κ : Kap) (s : SV) : (s.at F c).den ρ κ = s.den ρ κ := by
  unfold SV.at
  split
  · rename_i b x y
    have e := bsimp_den hF b
    split
    · rename_i hb; rw [hb] at e; simp only [BE.den] at e; simp only [SV.den, ← e, if_true]
    · rename_i hb; rw [hb] at e; simp only [BE.den] at e; simp only [SV.den, ← e, Bool.false_eq_true, if_false]
    · exact SV.under_den ρ κ c _ hc
  · simp only [SV.den, SA.den, SC.den, bsimp_den hF]
  · rfl
def evF (st : St) (c : BE) (x : Operand) : Option SV := match opv st.sl x with
  | some s => some (s.at st.facts c)
  | none => none
theorem evF_den {base : Nat} {w0 : World} {ρ : Env} {κ : Kap} {st : St} {a : Act} {w : World} (h : Sim base w0 ρ κ st a w) {c : BE} (hc : c.den ρ = true) : ∀ x s, evF st c x = some s → a.eval x = s.den ρ κ := by
  intro x s hx
  unfold evF at hx
  split at hx
  · rename_i s' hs
    cases hx
    rw [SV.at_den h.fc hc]
    exact opv_den h.fr hs
  · cases hx
def needT (q : List BE) (t : Option Tree) : Option Tree := match q with
  | [] => t
  | q => match t with
    | some t => some (.need q t)
    | none => none
def iteT (c : BE) (t u : Option Tree) : Option Tree := match t, u with
  | some t, some u => some (.ite c t u)
  | _, _ => none
def St.learn (st : St) (c : BE) (v : Bool) : St := { st with facts := SX.learn st.facts c v }
def St.learns (st : St) (q : List BE) : St := { st with facts := SX.learns st.facts q }
end Go.SX
