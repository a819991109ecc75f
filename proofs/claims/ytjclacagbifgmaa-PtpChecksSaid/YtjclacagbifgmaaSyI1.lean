/- SxI1: guards, and what a walk is told. -/
import Derived.Test.YtjclacagbifgmaaSyH
set_option linter.unusedSimpArgs false
set_option linter.unusedVariables false
set_option linter.unusedSectionVars false
noncomputable section
namespace Go.SX
open Go Go.RowKit

structure Cfg where
  P : Program
  ct : Nat → Option RS
  ann : Nat → Nat → Nat → Option (List Loc)

/-- the condition under which an operation runs -/
def gval (want : Bool) : SV → Option BE
  | .a (.c (.bool b)) => some (bif want then b else mkNot b)
  | .ite c (.a (.c (.bool b))) (.tup []) => some (mkAnd c (bif want then b else mkNot b))
  | .tup [] => some (.lit false)
  | _ => none
def guardOf (ops : List Oper) (sl : Sl) : Option (Nat × Bool) → Option BE
  | none => some (.lit true)
  | some (j, want) => match ops[j]? with
    | some o => match o.dst with
      | some d => match slot sl d with
        | some s => gval want s
        | none => none
      | none => none
    | none => none
theorem guardOf_spec {ρ : Env} {κ : Kap} {ops : Array Oper} {sl : Sl} {a : Act} (hf : FrameOk ρ κ sl a) {o : Oper} {g : BE} (h : guardOf ops.toList sl o.guard = some g) : Region.wanted o (yielded ops a.tmps) = g.den ρ := by
  unfold guardOf at h
  unfold Region.wanted
  split at h
  · rename_i hg; rw [hg]; cases h; rfl
  · rename_i j want hg
    rw [hg]
    split at h
    · rename_i o' ho
      split at h
      · rename_i d hd
        split at h
        · rename_i s hs
          have hy : yielded ops a.tmps j = match a.tmps[d]? with
            | some (.bool b) => some b
            | _ => none := by
            have : ops[j]? = some o' := by simpa using ho
            unfold yielded
            rw [this]
            simp only [Option.bind_some, hd]
            rfl
          simp only [hy]
          unfold gval at h
          split at h
          · rename_i b
            cases h
            rw [hf.2 d _ hs rfl]
            simp only [SV.den, SA.den, SC.den]
            cases want <;> simp [mkNot_den]
          · rename_i c b
            cases h
            rw [hf.2 d _ hs rfl]
            simp only [SV.den, SA.den, SC.den, mkAnd_den]
            cases c.den ρ
            · simp
            · simp only [if_true]; cases want <;> simp [mkNot_den]
          · cases h
            rw [hf.2 d _ hs rfl]
            simp [SV.den, BE.den]
          · cases h
        · cases h
      · cases h
    · cases h
/-- the number that the facts say e is -/
def eqOf (e : IE) : BE → Option Int
  | .cmp .eql (.lit n) a => bif a.eqb e then some n else none
  | .cmp .eql a (.lit n) => bif a.eqb e then some n else none
  | _ => none
def eqLit : List BE → IE → Option Int
  | [], _ => none
  | p :: F, e => match eqOf e p with
    | some n => some n
    | none => eqLit F e
theorem eqOf_den {ρ : Env} {e : IE} {p : BE} {n : Int} (hp : p.den ρ = true) (h : eqOf e p = some n) : e.den ρ = n := by
  unfold eqOf at h
  split at h
  · rename_i m a
    cases hq : a.eqb e
    · rw [hq] at h; cases h
    · rw [hq] at h; simp only [cond_true] at h; cases h
      simp only [BE.den, bc, IE.den, beq_iff_eq] at hp
      rw [← IE.eqb_eq hq]; exact hp.symm
  · rename_i a m _
    cases hq : a.eqb e
    · rw [hq] at h; cases h
    · rw [hq] at h; simp only [cond_true] at h; cases h
      simp only [BE.den, bc, IE.den, beq_iff_eq] at hp
      rw [← IE.eqb_eq hq]; exact hp
  · cases h
theorem eqLit_den {ρ : Env} {e : IE} {n : Int} : ∀ {F : List BE}, (∀ p ∈ F, p.den ρ = true) → eqLit F e = some n → e.den ρ = n
  | [], _, h => by cases h
  | p :: F, hF, h => by
    simp only [eqLit] at h
    split at h
    · rename_i m hm
      cases h; exact eqOf_den (hF _ (List.mem_cons_self ..)) hm
    · exact eqLit_den (fun q hq => hF q (List.mem_cons_of_mem _ hq)) h
/-- a choice that the facts may tell -/
def mkCsF (F : List BE) (o : BinOp) (a b c d : IE) : IE := match o, b with
  | .eql, .lit n => bif barsE F a n then d else mkCs .eql a (.lit n) c d
  | o, b => mkCs o a b c d
theorem mkCsF_den {ρ : Env} {F : List BE} (hF : ∀ p ∈ F, p.den ρ = true) (o : BinOp) (a b c d : IE) : (mkCsF F o a b c d).den ρ = (mkCs o a b c d).den ρ := by
  unfold mkCsF
  split
  · rw [cond_eq_ite]; split
    · rename_i h
      have := barsE_den h hF
      rw [mkCs_den]; simp [bc, IE.den, this]
    · rfl
  · rfl
def CE.norm (f : IE → IE) : CE → CE
  | .e x => .e (f x)
  | .k j => .k j
def IE.norm (F : List BE) : IE → IE
  | .lit n => .lit n
  | .minus a b => mkMinus (a.norm F) (b.norm F)
  | .plus a b => mkPlus (a.norm F) (b.norm F)
  | .sw o a b c d => mkCsF F o (a.norm F) (b.norm F) (c.norm F) (d.norm F)
  | e => match eqLit F e with
    | some n => .lit n
    | none => e
theorem IE.norm_den {ρ : Env} {F : List BE} (hF : ∀ p ∈ F, p.den ρ = true) (e : IE) : (e.norm F).den ρ = e.den ρ := by
  have leaf : ∀ e : IE, (match eqLit F e with
    | some n => IE.lit n
    | none => e).den ρ = e.den ρ := fun e => by
    split
    · rename_i n h; rw [eqLit_den hF h]; rfl
    · rfl
  induction e with
  | lit n => rfl
  | minus a b iha ihb => simp only [IE.norm, mkMinus_den, iha, ihb, IE.den]
  | plus a b iha ihb => simp only [IE.norm, mkPlus_den, iha, ihb, IE.den]
  | sw o a b c d iha ihb ihc ihd => simp only [IE.norm, mkCsF_den hF, mkCs_den, iha, ihb, ihc, ihd, IE.den]
  | v i => exact leaf _
  | bin o k a b _ _ => exact leaf _
  | conv k a _ => exact leaf _
  | sel c f x _ => exact leaf _
  | alen c => exact leaf _
  | nat a _ => exact leaf _
theorem CE.norm_den {ρ : Env} {κ : Kap} {F : List BE} (hF : ∀ p ∈ F, p.den ρ = true) (e : CE) : (e.norm (IE.norm F)).den ρ κ = e.den ρ κ := by
  cases e with
  | e x => simp only [CE.norm, CE.den, IE.norm_den hF]
  | k j => rfl
/-- a value where the facts are known -/
def SV.known (F : List BE) : SV → SV
  | .ite b x y => match bsimp F b with
    | .lit true => x.known F
    | .lit false => y.known F
    | b' => .ite b' (x.known F) (y.known F)
  | .a (.c (.bool b)) => .a (.c (.bool (bsimpG F b)))
  | .a (.c (.int k e)) => .a (.c (.int k (e.norm F)))
  | .a (.c (.slice j s c x len cap)) => .a (.c (.slice j s c (x.norm F) (len.norm F) (cap.norm (IE.norm F))))
  | s => s
theorem SV.known_den {ρ : Env} {F : List BE} (hF : ∀ p ∈ F, p.den ρ = true) (κ : Kap) : ∀ (s : SV), (s.known F).den ρ κ = s.den ρ κ
  | .ite b x y => by
    have e := bsimp_den hF b
    simp only [SV.known]
    split
    · rename_i hb; rw [hb] at e; simp only [BE.den] at e; simp only [SV.den, ← e, if_true]; exact SV.known_den hF κ x
    · rename_i hb; rw [hb] at e; simp only [BE.den] at e; simp only [SV.den, ← e, Bool.false_eq_true, if_false]; exact SV.known_den hF κ y
    · simp only [SV.den, e, SV.known_den hF κ x, SV.known_den hF κ y]
  | .any => rfl
  | .tup l => rfl
  | .a (.agg l) => rfl
  | .a (.c s) => by
    cases s <;> simp only [SV.known, SV.den, SA.den, SC.den, bsimpG_den hF, IE.norm_den hF, CE.norm_den hF]
/-- a value where the facts and c are known -/
def SV.at (F : List BE) (c : BE) (s : SV) : SV := s.known (learn F c true)
theorem SV.at_den {ρ : Env} {F : List BE} (hF : ∀ p ∈ F, p.den ρ = true) {c : BE} (hc : c.den ρ = true) (κ : Kap) (s : SV) : (s.at F c).den ρ κ = s.den ρ κ := SV.known_den (learn_den c F true hF hc) κ s
/-- .. quick where there is nothing to know -/
def SV.atQ (F : List BE) (c : BE) (s : SV) : SV := match s with
  | .a (.c s') => match s' with
    | .bool (.lit b) => .a (.c (.bool (.lit b)))
    | .int k (.lit n) => .a (.c (.int k (.lit n)))
    | .ptr id off => .a (.c (.ptr id off))
    | .lit v => .a (.c (.lit v))
    | s' => SV.at F c (.a (.c s'))
  | .a (.agg l) => .a (.agg l)
  | s => s.at F c
theorem SV.atQ_den {ρ : Env} {F : List BE} (hF : ∀ p ∈ F, p.den ρ = true) {c : BE} (hc : c.den ρ = true) (κ : Kap) (s : SV) : (s.atQ F c).den ρ κ = s.den ρ κ := by
  unfold SV.atQ
  split
  · split <;> first | rfl | exact SV.at_den hF hc κ _
  · rfl
  · exact SV.at_den hF hc κ _
def SV.knownQ (F : List BE) (s : SV) : SV := match s with
  | .a (.c s') => match s' with
    | .bool (.lit b) => .a (.c (.bool (.lit b)))
    | .int k (.lit n) => .a (.c (.int k (.lit n)))
    | .ptr id off => .a (.c (.ptr id off))
    | .lit v => .a (.c (.lit v))
    | s' => SV.known F (.a (.c s'))
  | .a (.agg l) => .a (.agg l)
  | s => s.known F
theorem SV.knownQ_den {ρ : Env} {F : List BE} (hF : ∀ p ∈ F, p.den ρ = true) (κ : Kap) (s : SV) : (s.knownQ F).den ρ κ = s.den ρ κ := by
  unfold SV.knownQ
  split
  · split <;> first | rfl | exact SV.known_den hF κ _
  · rfl
  · exact SV.known_den hF κ _
/-- .. what is only moved is left as it is -/
def SV.rawQ (F : List BE) (s : SV) : SV := match s with
  | .a s' => .a s'
  | s => s.known F
theorem SV.rawQ_den {ρ : Env} {F : List BE} (hF : ∀ p ∈ F, p.den ρ = true) (κ : Kap) (s : SV) : (s.rawQ F).den ρ κ = s.den ρ κ := by
  unfold SV.rawQ
  split
  · rfl
  · exact SV.known_den hF κ _
def evO (st : St) (F : List BE) (o : Op) (x : Operand) : Option SV := match opv st.sl x with
  | some s => match o with
    | .move _ => some (s.rawQ F)
    | .assign _ => some (s.rawQ F)
    | _ => some (s.knownQ F)
  | none => none
theorem evO_den {ρ : Env} {κ : Kap} {st : St} {a : Act} (hfr : FrameOk ρ κ st.sl a) {F : List BE} (hF : ∀ p ∈ F, p.den ρ = true) {o : Op} : ∀ x s, evO st F o x = some s → a.eval x = s.den ρ κ := by
  intro x s hx
  unfold evO at hx
  split at hx
  · rename_i s' hs
    have e := opv_den hfr hs
    split at hx <;> cases hx
    · rw [SV.rawQ_den hF]; exact e
    · rw [SV.rawQ_den hF]; exact e
    · rw [SV.knownQ_den hF]; exact e
  · cases hx
def forceC {α : Type} (l : List BE) (k : List BE → α) : α := k l
/-- a list, worked out to its end -/
noncomputable def forceL {α : Type} (l : List BE) (k : List BE → α) : α := List.rec (motive := fun _ => (List BE → α) → α) (fun k => k []) (fun x _ ih k => ih fun l => k (x :: l)) l k
theorem forceL_eq {α : Type} (l : List BE) (k : List BE → α) : forceL l k = k l := by
  induction l generalizing k with
  | nil => rfl
  | cons x l ih => exact ih _
def evF (st : St) (c : BE) (x : Operand) : Option SV := match opv st.sl x with
  | some s => some (s.atQ st.facts c)
  | none => none
theorem evF_den {ρ : Env} {κ : Kap} {st : St} {a : Act} (hfr : FrameOk ρ κ st.sl a) (hfc : ∀ p ∈ st.facts, p.den ρ = true) {c : BE} (hc : c.den ρ = true) : ∀ x s, evF st c x = some s → a.eval x = s.den ρ κ := by
  intro x s hx
  unfold evF at hx
  split at hx
  · rename_i s' hs
    cases hx
    rw [SV.atQ_den hfc hc]
    exact opv_den hfr hs
  · cases hx
def needT (q : List BE) (t : Option T) : Option T := match q with
  | [] => t
  | q => match t with
    | some t => some (.need q t)
    | none => none
def iteT (c : BE) (t u : Option T) : Option T := match t, u with
  | some t, some u => some (.ite c t u)
  | _, _ => none
def arrT (n : Nat) (ct : AE) (nl : BE) : Option T → Option T
  | some t => some (.arr n ct nl t)
  | none => none
def thenT (t : Option T) (k : Lf → Option T) : Option T := Option.casesOn t none fun t => t.bnd k
def St.learn (st : St) (c : BE) (v : Bool) : St := { st with facts := SX.learn st.facts c v }
def St.learns (st : St) (q : List BE) : St := { st with facts := SX.learns st.facts q }
section
variable {P : Program} {base : Bk} {w0 : World} {Φ : Lf → List LCtx → Env → Prop}
theorem needT_spec {q : List BE} {t : Option T} {u : T} (h : needT q t = some u) : ∃ t', t = some t' ∧ ∀ L ρ Φ, Den P base w0 u L ρ Φ → (∀ p ∈ q, p.den ρ = true) ∧ Den P base w0 t' L ρ Φ := by
  unfold needT at h
  split at h
  · exact ⟨u, h, fun L ρ Φ hd => ⟨fun p hp => (by cases hp), hd⟩⟩
  · split at h
    · rename_i t'
      cases h
      exact ⟨t', rfl, fun L ρ Φ hd => ⟨allN_spec hd.1, hd.2⟩⟩
    · cases h
theorem iteT_spec {c : BE} {t u : Option T} {v : T} (h : iteT c t u = some v) : ∃ t' u', t = some t' ∧ u = some u' ∧ v = .ite c t' u' := by
  unfold iteT at h
  split at h
  · cases h; exact ⟨_, _, rfl, rfl, rfl⟩
  · cases h
theorem thenT_spec {t : Option T} {k : Lf → Option T} {u : T} (h : thenT t k = some u) : ∃ t', t = some t' ∧ ∀ L ρ Φ, Den P base w0 u L ρ Φ → Den P base w0 t' L ρ fun l L ρ => ∃ u, k l = some u ∧ Den P base w0 u L ρ Φ := by
  cases t with
  | none => cases h
  | some t' => exact ⟨t', rfl, fun L ρ Φ hd => T.bnd_den t' k u h L ρ hd⟩
theorem openNeeds_keep {ρ : Env} {F : List BE} (hF : ∀ p ∈ F, p.den ρ = true) : ∀ {l r : List BE}, openNeeds F l = some r → (∀ p ∈ l, p.den ρ = true) → ∀ p ∈ r, p.den ρ = true := by
  intro l
  induction l with
  | nil => intro r h _ p hp; cases h; cases hp
  | cons q l ih =>
    intro r h hl p hp
    have e := bsimp_den hF q
    have hl' : ∀ p ∈ l, p.den ρ = true := fun p hp => hl p (List.mem_cons_of_mem _ hp)
    unfold openNeeds at h
    split at h
    · exact ih h hl' p hp
    · cases h
    · rename_i q' r' h2 _ _
      cases h
      rcases List.mem_cons.1 hp with rfl | hp
      · rw [e]; exact hl _ (List.mem_cons_self ..)
      · exact ih h2 hl' p hp
    · cases h
end
end Go.SX
