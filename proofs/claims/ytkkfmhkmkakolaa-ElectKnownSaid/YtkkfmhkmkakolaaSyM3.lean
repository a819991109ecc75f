/- A part of the proof: see the text that states the theorem. -/
import Derived.Test.YtkkfmhkmkakolaaSyM2
import Derived.LoopN
import Derived.Scope
import Derived.Deep.LoopGhost
import Derived.OrdersIn
import Derived.LoopNIn
import Derived.Sort.LoopGhostIn
import Derived.RangeFuncLeaves
import Derived.RangeFuncNested
import Derived.Orders
/- SxG: what is known; the tree of a walk and what it says; the walk of code in the order of the text. -/
set_option linter.unusedSimpArgs false
set_option linter.unusedVariables false
set_option linter.unusedSectionVars false
noncomputable section
namespace Go.SX
open Go Go.RowKit

/-! ### known facts -/
/-- equality, told apart at the first number -/
def BE.eqbQ (a b : BE) : Bool := match a with
  | .cmp o x y => match b with
    | .cmp o' x' y' => match x with
      | .v i => match x' with
        | .v j => bif Nat.beq i j then Nat.beq (on o) (on o') && y.eqb y' else false
        | _ => false
      | x => Nat.beq (on o) (on o') && x.eqb x' && y.eqb y'
    | _ => false
  | .v i => match b with
    | .v j => Nat.beq i j
    | _ => false
  | a => a.eqb b
theorem BE.eqbQ_eq {a b : BE} (h : a.eqbQ b = true) : a = b := by
  have full : ∀ {o o' : BinOp} {x x' y y' : IE}, (Nat.beq (on o) (on o') && x.eqb x' && y.eqb y') = true → BE.cmp o x y = .cmp o' x' y' := fun h => by
    simp only [Bool.and_eq_true] at h
    rw [on_eq h.1.1, IE.eqb_eq h.1.2, IE.eqb_eq h.2]
  cases a with
  | cmp o x y =>
    cases b with
    | cmp o' x' y' =>
      cases x with
      | v i =>
        cases x' with
        | v j =>
          simp only [BE.eqbQ] at h
          cases hq : Nat.beq i j
          · rw [hq] at h; cases h
          · rw [hq] at h; simp only [cond_true, Bool.and_eq_true] at h
            rw [Nat.beq_eq] at hq; subst hq
            rw [on_eq h.1, IE.eqb_eq h.2]
        | _ => simp only [BE.eqbQ, Bool.false_eq_true] at h
      | _ => exact full h
    | _ => simp only [BE.eqbQ, Bool.false_eq_true] at h
  | v i =>
    cases b with
    | v j => simp only [BE.eqbQ] at h; rw [Nat.beq_eq] at h; rw [h]
    | _ => simp only [BE.eqbQ, Bool.false_eq_true] at h
  | _ => exact BE.eqb_eq h
def membC : List BE → BE → Bool
  | [], _ => false
  | p :: l, b => p.eqbQ b || membC l b
noncomputable def memb (F : List BE) (b : BE) : Bool := List.rec (motive := fun _ => Bool) false (fun p _ ih => Bool.rec (motive := fun _ => Bool) ih true (p.eqbQ b)) F
theorem memb_cons (p : BE) (l : List BE) (b : BE) : memb (p :: l) b = (p.eqbQ b || memb l b) := by
  show Bool.rec (motive := fun _ => Bool) (memb l b) true (p.eqbQ b) = _
  cases p.eqbQ b <;> rfl
theorem memb_mem {F : List BE} {b : BE} (h : memb F b = true) : b ∈ F := by
  induction F with
  | nil => cases h
  | cons p l ih =>
    simp only [memb_cons, Bool.or_eq_true] at h
    rcases h with h | h
    · rw [BE.eqbQ_eq h]; exact List.mem_cons_self ..
    · exact List.mem_cons_of_mem _ (ih h)
/-- what the facts say of b by one step -/
def implStep (F : List BE) (b nb : BE) (p : BE) : Option Bool := match p with
  | .not q => match q with
    | .and x y => bif (y.eqbQ b && memb F x) || (x.eqbQ b && memb F y) then some false else bif (y.eqbQ nb && memb F x) || (x.eqbQ nb && memb F y) then some true else none
    | _ => none
  | .or x y => bif (y.eqbQ b && memb F (mkNot x)) || (x.eqbQ b && memb F (mkNot y)) then some true else bif (y.eqbQ nb && memb F (mkNot x)) || (x.eqbQ nb && memb F (mkNot y)) then some false else none
  | _ => none
def implC (F : List BE) (b nb : BE) : List BE → Option Bool
  | [] => none
  | p :: l => match implStep F b nb p with
    | some v => some v
    | none => implC F b nb l
noncomputable def impl (F : List BE) (b nb : BE) (l : List BE) : Option Bool := List.rec (motive := fun _ => Option Bool) none (fun p _ ih => Option.rec (motive := fun _ => Option Bool) ih (fun v => some v) (implStep F b nb p)) l
theorem impl_cons (F : List BE) (b nb p : BE) (l : List BE) : impl F b nb (p :: l) = match implStep F b nb p with
    | some v => some v
    | none => impl F b nb l := by
  show Option.rec (motive := fun _ => Option Bool) (impl F b nb l) (fun v => some v) (implStep F b nb p) = _
  cases implStep F b nb p <;> rfl
theorem implStep_den {ρ : Env} {F : List BE} (hF : ∀ p ∈ F, p.den ρ = true) {b p : BE} (hp : p.den ρ = true) {v : Bool} (h : implStep F b (mkNot b) p = some v) : b.den ρ = v := by
  have mem : ∀ x, memb F x = true → x.den ρ = true := fun x hx => hF x (memb_mem hx)
  unfold implStep at h
  split at h
  · rename_i q
    split at h
    · rename_i x y
      simp only [BE.den, Bool.not_eq_true', Bool.and_eq_false_iff] at hp
      rw [cond_eq_ite] at h
      split at h
      · rename_i hc
        cases h
        simp only [Bool.or_eq_true, Bool.and_eq_true] at hc
        rcases hc with ⟨e, m⟩ | ⟨e, m⟩
        · rw [← BE.eqbQ_eq e]; have := mem _ m; rcases hp with hp | hp
          · rw [this] at hp; cases hp
          · exact hp
        · rw [← BE.eqbQ_eq e]; have := mem _ m; rcases hp with hp | hp
          · exact hp
          · rw [this] at hp; cases hp
      · rw [cond_eq_ite] at h
        split at h
        · rename_i hc
          cases h
          have nn : (mkNot b).den ρ = false → b.den ρ = true := fun h => by rw [mkNot_den] at h; simpa using h
          apply nn
          simp only [Bool.or_eq_true, Bool.and_eq_true] at hc
          rcases hc with ⟨e, m⟩ | ⟨e, m⟩
          · rw [← BE.eqbQ_eq e]; have := mem _ m; rcases hp with hp | hp
            · rw [this] at hp; cases hp
            · exact hp
          · rw [← BE.eqbQ_eq e]; have := mem _ m; rcases hp with hp | hp
            · exact hp
            · rw [this] at hp; cases hp
        · cases h
    · cases h
  · rename_i x y
    simp only [BE.den, Bool.or_eq_true] at hp
    have memn : ∀ x, memb F (mkNot x) = true → x.den ρ = false := fun x hx => by have := hF _ (memb_mem hx); rw [mkNot_den] at this; simpa using this
    rw [cond_eq_ite] at h
    split at h
    · rename_i hc
      cases h
      simp only [Bool.or_eq_true, Bool.and_eq_true] at hc
      rcases hc with ⟨e, m⟩ | ⟨e, m⟩
      · rw [← BE.eqbQ_eq e]; have := memn _ m; rcases hp with hp | hp
        · rw [this] at hp; cases hp
        · exact hp
      · rw [← BE.eqbQ_eq e]; have := memn _ m; rcases hp with hp | hp
        · exact hp
        · rw [this] at hp; cases hp
    · rw [cond_eq_ite] at h
      split at h
      · rename_i hc
        cases h
        have nn : (mkNot b).den ρ = true → b.den ρ = false := fun h => by rw [mkNot_den] at h; simpa using h
        apply nn
        simp only [Bool.or_eq_true, Bool.and_eq_true] at hc
        rcases hc with ⟨e, m⟩ | ⟨e, m⟩
        · rw [← BE.eqbQ_eq e]; have := memn _ m; rcases hp with hp | hp
          · rw [this] at hp; cases hp
          · exact hp
        · rw [← BE.eqbQ_eq e]; have := memn _ m; rcases hp with hp | hp
          · exact hp
          · rw [this] at hp; cases hp
      · cases h
  · cases h
theorem impl_den {ρ : Env} {F : List BE} (hF : ∀ p ∈ F, p.den ρ = true) {b : BE} : ∀ {l : List BE} {v : Bool}, (∀ p ∈ l, p.den ρ = true) → impl F b (mkNot b) l = some v → b.den ρ = v
  | [], _, _, h => by cases h
  | p :: l, v, hl, h => by
    rw [impl_cons] at h
    split at h
    · rename_i u hu
      cases h
      exact implStep_den hF (hl p (List.mem_cons_self ..)) hu
    · exact impl_den hF (fun q hq => hl q (List.mem_cons_of_mem _ hq)) h
def known (F : List BE) (b : BE) : BE := bif memb F b then .lit true else bif memb F (mkNot b) then .lit false else match impl F b (mkNot b) F with
  | some v => .lit v
  | none => b
theorem known_den {ρ : Env} {F : List BE} (hF : ∀ p ∈ F, p.den ρ = true) (b : BE) : (known F b).den ρ = b.den ρ := by
  unfold known
  cases h : memb F b
  · cases h2 : memb F (mkNot b)
    · simp only [cond_false]
      split
      · rename_i v hv
        exact (impl_den hF hF hv).symm
      · rfl
    · have := hF _ (memb_mem h2)
      rw [mkNot_den] at this
      simp only [cond_true, cond_false, BE.den]
      cases hb : b.den ρ <;> simp_all
  · simp only [cond_true, BE.den, hF _ (memb_mem h)]
/-- the length that a length is known to be -/
def renL (d : Nat) : List BE → IE
  | [] => .alen d
  | p :: F => match p with
    | .cmp .eql (.alen c) e => bif Nat.beq c d then e else renL d F
    | _ => renL d F
def renI (F : List BE) (x : IE) : IE := match x with
  | .alen d => renL d F
  | x => x
theorem renL_den {ρ : Env} (d : Nat) : ∀ {F : List BE}, (∀ p ∈ F, p.den ρ = true) → (renL d F).den ρ = (IE.alen d).den ρ
  | [], _ => rfl
  | p :: F, hF => by
    have h2 : ∀ q ∈ F, q.den ρ = true := fun q hq => hF q (List.mem_cons_of_mem _ hq)
    unfold renL
    split
    · rename_i c e
      cases hq : Nat.beq c d
      · exact renL_den d h2
      · rw [Nat.beq_eq] at hq; subst hq
        have := hF _ (List.mem_cons_self ..)
        simp only [BE.den, bc, beq_iff_eq] at this
        exact this.symm
    · exact renL_den d h2
theorem renI_den {ρ : Env} {F : List BE} (hF : ∀ p ∈ F, p.den ρ = true) (x : IE) : (renI F x).den ρ = x.den ρ := by
  unfold renI
  split
  · exact renL_den _ hF
  · rfl
/-- a comparison, that may be plain to see -/
def mkCmpS (o : BinOp) (a b : IE) : BE := bif a.eqb b then .lit (bc o 0 0) else match o, a, b with
  | .leq, .lit (.ofNat 0), .alen _ => .lit true
  | o, a, b => .cmp o a b
theorem mkCmpS_den (ρ : Env) (o : BinOp) (a b : IE) : (mkCmpS o a b).den ρ = bc o (a.den ρ) (b.den ρ) := by
  unfold mkCmpS
  cases h : a.eqb b
  · simp only [cond_false]
    split
    · simp [BE.den, IE.den, bc]
    · simp only [BE.den]
  · have := IE.eqb_eq h; subst this
    simp only [cond_true, BE.den]
    cases o <;> simp [bc]
/-- whether a fact bars that a is n -/
def barsEq (a : IE) (n : Int) : BE → Bool
  | .cmp o x y => match x, y with
    | .lit m, y => bif y.eqb a then !(bcLit o m n) else false
    | x, .lit m => bif x.eqb a then !(bc o n m) else false
    | _, _ => false
  | _ => false
def barsL (a : IE) (n : Int) : List BE → Bool
  | [] => false
  | p :: F => bif barsEq a n p then true else barsL a n F
theorem barsEq_den {ρ : Env} {a : IE} {n : Int} {p : BE} (h : barsEq a n p = true) (hp : p.den ρ = true) : a.den ρ ≠ n := by
  intro e
  unfold barsEq at h
  split at h
  · rename_i o x y
    split at h
    · rename_i m
      cases hq : y.eqb a
      · rw [hq] at h; cases h
      · rw [hq] at h; simp only [cond_true, Bool.not_eq_true', bcLit_eq] at h
        have := IE.eqb_eq hq; subst this
        simp only [BE.den, IE.den, e, h] at hp; cases hp
    · rename_i m _
      cases hq : x.eqb a
      · rw [hq] at h; cases h
      · rw [hq] at h; simp only [cond_true, Bool.not_eq_true', bcLit_eq] at h
        have := IE.eqb_eq hq; subst this
        simp only [BE.den, IE.den, e, h] at hp; cases hp
    · cases h
  · cases h
theorem barsL_den {ρ : Env} {a : IE} {n : Int} : ∀ {F : List BE}, barsL a n F = true → (∀ p ∈ F, p.den ρ = true) → a.den ρ ≠ n
  | [], h, _ => by cases h
  | p :: F, h, hF => by
    unfold barsL at h
    cases hb : barsEq a n p
    · rw [hb] at h; exact barsL_den h fun q hq => hF q (List.mem_cons_of_mem _ hq)
    · exact barsEq_den hb (hF _ (List.mem_cons_self ..))
/-- e is base and a numeral -/
def IE.base : IE → IE × Int
  | .minus a (.lit k) => (a, -k)
  | .plus a (.lit k) => (a, k)
  | a => (a, 0)
theorem IE.base_den (ρ : Env) (e : IE) : e.den ρ = e.base.1.den ρ + e.base.2 := by
  unfold IE.base; split <;> simp [IE.den]
  omega
def barsE (F : List BE) (a : IE) (n : Int) : Bool := barsL a.base.1 (n - a.base.2) F
theorem barsE_den {ρ : Env} {a : IE} {n : Int} {F : List BE} (h : barsE F a n = true) (hF : ∀ p ∈ F, p.den ρ = true) : a.den ρ ≠ n := by
  unfold barsE at h
  have := barsL_den h hF
  rw [IE.base_den ρ a]
  omega
/-- whether a fact says that a is n or more -/
def leastEq (a : IE) (n : Int) : BE → Bool
  | .cmp o x y => match o, x, y with
    | .leq, .lit m, y => bif ble n m then y.eqb a else false
    | .lss, .lit m, y => bif ble n (m + 1) then y.eqb a else false
    | _, _, _ => false
  | _ => false
def leastL (a : IE) (n : Int) : List BE → Bool
  | [] => false
  | p :: F => bif leastEq a n p then true else leastL a n F
theorem leastEq_den {ρ : Env} {a : IE} {n : Int} {p : BE} (h : leastEq a n p = true) (hp : p.den ρ = true) : n ≤ a.den ρ := by
  unfold leastEq at h
  split at h
  · split at h
    · rename_i y m
      rw [cond_eq_ite] at h
      split at h
      · rename_i hb
        have := IE.eqb_eq h; subst this
        rw [ble_eq, decide_eq_true_eq] at hb
        have hp' : decide (m ≤ IE.den ρ _) = true := hp
        have := of_decide_eq_true hp'; omega
      · cases h
    · rename_i y m
      rw [cond_eq_ite] at h
      split at h
      · rename_i hb
        have := IE.eqb_eq h; subst this
        rw [ble_eq, decide_eq_true_eq] at hb
        have hp' : decide (m < IE.den ρ _) = true := hp
        have := of_decide_eq_true hp'; omega
      · cases h
    · cases h
  · cases h
theorem leastL_den {ρ : Env} {a : IE} {n : Int} : ∀ {F : List BE}, leastL a n F = true → (∀ p ∈ F, p.den ρ = true) → n ≤ a.den ρ
  | [], h, _ => by cases h
  | p :: F, h, hF => by
    unfold leastL at h
    cases hb : leastEq a n p
    · rw [hb] at h; exact leastL_den h fun q hq => hF q (List.mem_cons_of_mem _ hq)
    · exact leastEq_den hb (hF _ (List.mem_cons_self ..))
def leastE (F : List BE) (a : IE) (n : Int) : Bool := leastL a.base.1 (n - a.base.2) F
theorem leastE_den {ρ : Env} {a : IE} {n : Int} {F : List BE} (h : leastE F a n = true) (hF : ∀ p ∈ F, p.den ρ = true) : n ≤ a.den ρ := by
  unfold leastE at h
  have := leastL_den h hF
  rw [IE.base_den ρ a]
  omega
/-- a comparison with a numeral that the facts tell -/
def barred (F : List BE) : BE → BE
  | .cmp o a b => match o, a, b with
    | .eql, .lit n, a => bif barsE F a n then .lit false else .cmp .eql (.lit n) a
    | .eql, a, .lit n => bif barsE F a n then .lit false else .cmp .eql a (.lit n)
    | .neq, .lit n, a => bif barsE F a n then .lit true else .cmp .neq (.lit n) a
    | .neq, a, .lit n => bif barsE F a n then .lit true else .cmp .neq a (.lit n)
    | .leq, .lit n, a => bif leastE F a n then .lit true else .cmp .leq (.lit n) a
    | .lss, .lit n, a => bif leastE F a (n + 1) then .lit true else .cmp .lss (.lit n) a
    | o, a, b => .cmp o a b
  | b => b
theorem barred_den {ρ : Env} {F : List BE} (hF : ∀ p ∈ F, p.den ρ = true) (b : BE) : (barred F b).den ρ = b.den ρ := by
  unfold barred
  split
  · split
    · rw [cond_eq_ite]; split
      · rename_i h; have := barsE_den h hF
        simp only [BE.den, bc, IE.den]; symm; rw [beq_eq_false_iff_ne]; exact fun e => this e.symm
      · rfl
    · rw [cond_eq_ite]; split
      · rename_i h; have := barsE_den h hF
        simp only [BE.den, bc, IE.den]; symm; rw [beq_eq_false_iff_ne]; exact this
      · rfl
    · rw [cond_eq_ite]; split
      · rename_i h; have := barsE_den h hF
        simp only [BE.den, bc, IE.den]; symm; rw [bne_iff_ne]; exact fun e => this e.symm
      · rfl
    · rw [cond_eq_ite]; split
      · rename_i h; have := barsE_den h hF
        simp only [BE.den, bc, IE.den]; symm; rw [bne_iff_ne]; exact this
      · rfl
    · rw [cond_eq_ite]; split
      · rename_i h; have := leastE_den h hF
        symm; exact decide_eq_true this
      · rfl
    · rw [cond_eq_ite]; split
      · rename_i h; have := leastE_den h hF
        symm; exact decide_eq_true (show _ < _ from by simp only [IE.den]; omega)
      · rfl
    · rfl
  · rfl
def bsimp (F : List BE) : BE → BE
  | .lit b => .lit b
  | .and a b => known F (mkAnd (bsimp F a) (bsimp F b))
  | .or a b => known F (mkOr (bsimp F a) (bsimp F b))
  | .not a => mkNot (bsimp F a)
  | .ite c a b => known F (mkIte (bsimp F c) (bsimp F a) (bsimp F b))
  | .cmp o a b => barred F (known F (mkCmpS o (renI F a) (renI F b)))
  | b => known F b
theorem bsimp_den {ρ : Env} {F : List BE} (hF : ∀ p ∈ F, p.den ρ = true) (b : BE) : (bsimp F b).den ρ = b.den ρ := by
  induction b with
  | lit b => rfl
  | and a b iha ihb => simp only [bsimp, known_den hF, mkAnd_den, iha, ihb, BE.den]
  | or a b iha ihb => simp only [bsimp, known_den hF, mkOr_den, iha, ihb, BE.den]
  | not a ih => simp only [bsimp, mkNot_den, ih, BE.den]
  | ite c a b ihc iha ihb => simp only [bsimp, known_den hF, mkIte_den, iha, ihb, ihc, BE.den]
  | v i => simp only [bsimp, known_den hF]
  | cmp o a b => simp only [bsimp, barred_den hF, known_den hF, mkCmpS_den, renI_den hF, BE.den]
  | eq a b _ _ => simp only [bsimp, known_den hF]
  | sel j f x => simp only [bsimp, known_den hF]
  | nl j => simp only [bsimp, known_den hF]
/-- a long chain of conditions -/
def bigB : BE → Bool
  | .and x _ => match x with
    | .and x _ => match x with
      | .and x _ => match x with
        | .and _ _ => true
        | _ => false
      | _ => false
    | _ => false
  | _ => false
/-- .. is left as it is -/
def bsimpG (F : List BE) (b : BE) : BE := bif bigB b then b else bsimp F b
theorem bsimpG_den {ρ : Env} {F : List BE} (hF : ∀ p ∈ F, p.den ρ = true) (b : BE) : (bsimpG F b).den ρ = b.den ρ := by
  unfold bsimpG; cases bigB b
  · exact bsimp_den hF b
  · rfl
/-- learn that b is v -/
def learn (F : List BE) : BE → Bool → List BE
  | .lit _, _ => F
  | .not a, v => learn F a (!v)
  | .and a b, true => learn (learn F a true) b true
  | .or a b, false => learn (learn F a false) b false
  | .cmp o a b, true => .cmp o a b :: F
  | .cmp o a b, false => match o with
    | .eql => .cmp .neq a b :: .not (.cmp .eql a b) :: F
    | .neq => .cmp .eql a b :: .not (.cmp .neq a b) :: F
    | .lss => .cmp .leq b a :: .not (.cmp .lss a b) :: F
    | .leq => .cmp .lss b a :: .not (.cmp .leq a b) :: F
    | .gtr => .cmp .leq a b :: .not (.cmp .gtr a b) :: F
    | .geq => .cmp .lss a b :: .not (.cmp .geq a b) :: F
    | o => .not (.cmp o a b) :: F
  | b, true => b :: F
  | b, false => mkNot b :: F
theorem learn_den {ρ : Env} (b : BE) : ∀ (F : List BE) (v : Bool), (∀ p ∈ F, p.den ρ = true) → b.den ρ = v → ∀ p ∈ learn F b v, p.den ρ = true := by
  have cons : ∀ (F : List BE) (q : BE), (∀ p ∈ F, p.den ρ = true) → q.den ρ = true → ∀ p ∈ q :: F, p.den ρ = true := fun F q hF hq p hp => by
    rcases List.mem_cons.1 hp with rfl | hp
    · exact hq
    · exact hF p hp
  induction b with
  | lit b => intro F v hF _; exact hF
  | not a ih => intro F v hF h; exact ih F (!v) hF (by simp only [BE.den] at h; rw [← h]; simp)
  | and a b iha ihb =>
    intro F v hF h
    cases v
    · exact cons F _ hF (by rw [mkNot_den, h]; rfl)
    · simp only [BE.den, Bool.and_eq_true] at h
      exact ihb _ true (iha F true hF h.1) h.2
  | or a b iha ihb =>
    intro F v hF h
    cases v
    · simp only [BE.den, Bool.or_eq_false_iff] at h
      exact ihb _ false (iha F false hF h.1) h.2
    · exact cons F _ hF h
  | cmp o a b =>
    intro F v hF h
    cases v
    · have hn : (BE.not (.cmp o a b)).den ρ = true := by simp only [BE.den] at h ⊢; rw [h]; rfl
      cases o <;> (try (exact cons F _ hF hn)) <;> (refine cons _ _ (cons F _ hF hn) ?_; simp only [BE.den, bc] at h ⊢; first | (simp at h ⊢; omega) | (simp at h ⊢; exact h))
    · exact cons F _ hF h
  | v i => intro F v hF h; cases v <;> first | exact cons F _ hF h | exact cons F _ hF (by rw [mkNot_den, h]; rfl)
  | eq a b _ _ => intro F v hF h; cases v <;> first | exact cons F _ hF h | exact cons F _ hF (by rw [mkNot_den, h]; rfl)
  | ite c a b _ _ _ => intro F v hF h; cases v <;> first | exact cons F _ hF h | exact cons F _ hF (by rw [mkNot_den, h]; rfl)
  | sel j f x => intro F v hF h; cases v <;> first | exact cons F _ hF h | exact cons F _ hF (by rw [mkNot_den, h]; rfl)
  | nl j => intro F v hF h; cases v <;> first | exact cons F _ hF h | exact cons F _ hF (by rw [mkNot_den, h]; rfl)
def learns (F : List BE) : List BE → List BE
  | [] => F
  | p :: l => learns (learn F p true) l
theorem learns_den {ρ : Env} : ∀ (l : List BE) (F : List BE), (∀ p ∈ F, p.den ρ = true) → (∀ p ∈ l, p.den ρ = true) → ∀ p ∈ learns F l, p.den ρ = true
  | [], _, hF, _ => hF
  | q :: l, F, hF, hl => learns_den l _ (learn_den q F true hF (hl q (List.mem_cons_self ..))) fun p hp => hl p (List.mem_cons_of_mem _ hp)
/-- those that are not known; none if one is false -/
def openNeeds (F : List BE) : List BE → Option (List BE)
  | [] => some []
  | p :: l => match bsimp F p, openNeeds F l with
    | .lit true, r => r
    | .lit false, _ => none
    | q, some r => some (q :: r)
    | _, none => none
theorem openNeeds_den {ρ : Env} {F : List BE} (hF : ∀ p ∈ F, p.den ρ = true) : ∀ {l r : List BE}, openNeeds F l = some r → (∀ p ∈ r, p.den ρ = true) → ∀ p ∈ l, p.den ρ = true := by
  intro l
  induction l with
  | nil => intro r _ _ p hp; cases hp
  | cons q l ih =>
    intro r h hr p hp
    have e := bsimp_den hF q
    unfold openNeeds at h
    split at h
    · rename_i hq
      rcases List.mem_cons.1 hp with rfl | hp
      · rw [← e, hq]; rfl
      · exact ih h hr p hp
    · cases h
    · rename_i q' r' h2 _ _
      cases h
      rcases List.mem_cons.1 hp with rfl | hp
      · rw [← e]; exact hr _ (List.mem_cons_self ..)
      · exact ih h2 (fun p hp => hr p (List.mem_cons_of_mem _ hp)) p hp
    · cases h

/-! ### data of the tree -/
inductive VK where | i | b | v | l | n
def Env.set (ρ : Env) (n : Nat) : Dat → Env
  | .i x => { ρ with i := fun j => if j = n then x else ρ.i j }
  | .b x => { ρ with b := fun j => if j = n then x else ρ.b j }
  | .v x => { ρ with v := fun j => if j = n then x.1 else ρ.v j, one := fun j => by split <;> first | exact x.2 | exact ρ.one j }
  | .l x => { ρ with a := fun j => if j = n then x else ρ.a j }
  | .n x => { ρ with nl := fun j => if j = n then x else ρ.nl j }
def Env.setL (ρ : Env) (n : Nat) : List Dat → Env
  | [] => ρ
  | d :: l => (ρ.set n d).setL (n + 1) l
theorem Agree.set (ρ : Env) (κ : Kap) (n : Nat) (d : Dat) : Agree n ρ (ρ.set n d) κ κ := by
  cases d <;> exact ⟨fun j hj => by simp [Env.set]; try omega, fun j hj => by simp [Env.set]; try omega, fun j hj => by simp [Env.set]; try omega, fun j hj => by simp [Env.set]; try omega, fun j hj => by simp [Env.set]; try omega, fun _ _ => rfl, fun _ _ => rfl, fun _ _ => rfl, fun _ _ => rfl⟩
theorem Agree.weak {n m : Nat} {ρ ρ' : Env} {κ κ' : Kap} (h : Agree m ρ ρ' κ κ') (hm : n ≤ m) : Agree n ρ ρ' κ κ' :=
  ⟨fun j hj => h.i j (by omega), fun j hj => h.b j (by omega), fun j hj => h.v j (by omega), fun j hj => h.a j (by omega), fun j hj => h.nl j (by omega), fun j hj => h.o j (by omega), fun j hj => h.kb j (by omega), fun j hj => h.ko j (by omega), fun j hj => h.kc j (by omega)⟩
theorem Agree.setL (κ : Kap) : ∀ (l : List Dat) (n : Nat) (ρ : Env), Agree n ρ (ρ.setL n l) κ κ
  | [], n, ρ => Agree.refl n ρ κ
  | d :: l, n, ρ => (Agree.set ρ κ n d).trans (Agree.setL κ l (n + 1) (ρ.set n d)) (by omega)
def allD : List VK → (List Dat → Prop) → Prop
  | [], F => F []
  | .i :: r, F => ∀ x : Int, allD r fun l => F (.i x :: l)
  | .b :: r, F => ∀ x : Bool, allD r fun l => F (.b x :: l)
  | .v :: r, F => ∀ x : { v : Value // v.oneCell' = true }, allD r fun l => F (.v x :: l)
  | .l :: r, F => ∀ x : List (List Dat), allD r fun l => F (.l x :: l)
  | .n :: r, F => ∀ x : Bool, allD r fun l => F (.n x :: l)
def exD : List VK → (List Dat → Prop) → Prop
  | [], F => F []
  | .i :: r, F => ∃ x : Int, exD r fun l => F (.i x :: l)
  | .b :: r, F => ∃ x : Bool, exD r fun l => F (.b x :: l)
  | .v :: r, F => ∃ x : { v : Value // v.oneCell' = true }, exD r fun l => F (.v x :: l)
  | .l :: r, F => ∃ x : List (List Dat), exD r fun l => F (.l x :: l)
  | .n :: r, F => ∃ x : Bool, exD r fun l => F (.n x :: l)
def Dat.fits : VK → Dat → Bool
  | .i, .i _ => true
  | .b, .b _ => true
  | .v, .v _ => true
  | .l, .l _ => true
  | .n, .n _ => true
  | _, _ => false
def fitsL : List VK → List Dat → Bool
  | [], [] => true
  | k :: r, d :: l => d.fits k && fitsL r l
  | _, _ => false
theorem allD_spec : ∀ (ks : List VK) (F : List Dat → Prop), allD ks F → ∀ l, fitsL ks l = true → F l
  | [], F, h, [], _ => h
  | [], _, _, _ :: _, hl => by cases hl
  | _ :: _, _, _, [], hl => by cases hl
  | k :: r, F, h, d :: l, hl => by
    simp only [fitsL, Bool.and_eq_true] at hl
    cases k <;> cases d <;> simp [Dat.fits] at hl <;> exact allD_spec r _ (h _) l hl
theorem exD_spec : ∀ (ks : List VK) (F : List Dat → Prop), exD ks F → ∃ l, fitsL ks l = true ∧ F l
  | [], F, h => ⟨[], rfl, h⟩
  | .i :: r, F, ⟨x, h⟩ => let ⟨l, h1, h2⟩ := exD_spec r _ h; ⟨.i x :: l, by simp [fitsL, Dat.fits, h1], h2⟩
  | .b :: r, F, ⟨x, h⟩ => let ⟨l, h1, h2⟩ := exD_spec r _ h; ⟨.b x :: l, by simp [fitsL, Dat.fits, h1], h2⟩
  | .v :: r, F, ⟨x, h⟩ => let ⟨l, h1, h2⟩ := exD_spec r _ h; ⟨.v x :: l, by simp [fitsL, Dat.fits, h1], h2⟩
  | .l :: r, F, ⟨x, h⟩ => let ⟨l, h1, h2⟩ := exD_spec r _ h; ⟨.l x :: l, by simp [fitsL, Dat.fits, h1], h2⟩
  | .n :: r, F, ⟨x, h⟩ => let ⟨l, h1, h2⟩ := exD_spec r _ h; ⟨.n x :: l, by simp [fitsL, Dat.fits, h1], h2⟩

/-- a leaf: how the walk went on from here, with what value, in which state -/
structure Lf where
  e : Exit
  v : SV
  st : St
inductive T where
  | leaf (l : Lf)
  | ite (c : BE) (t e : T)
  | need (ps : List BE) (t : T)
  | call (f : FuncId) (args : List SV) (H : Heap) (n : Nat) (vks : List VK) (res : SV) (Hn : Heap) (t : T)
  | loop (vks : List VK) (n : Nat) (init : List LV) (body : T)
  | cont (k : Nat) (vals : List LV)
  | arr (n : Nat) (ct : AE) (nl : BE) (t : T)
  | dead
/-- an open loop: the invariant, the measure, and what the measure was when the round began -/
structure LCtx where
  I : List Dat → Prop
  μ : List Dat → Nat
  m : Nat
def allN (ρ : Env) : List BE → Prop
  | [] => True
  | [p] => p.den ρ = true
  | p :: l => p.den ρ = true ∧ allN ρ l
theorem allN_spec {ρ : Env} : ∀ {l : List BE}, allN ρ l → ∀ p ∈ l, p.den ρ = true
  | [], _, _, hp => by cases hp
  | [q], h, p, hp => by
    rcases List.mem_cons.1 hp with rfl | hp
    · exact h
    · cases hp
  | q :: r :: l, h, p, hp => by
    rcases List.mem_cons.1 hp with rfl | hp
    · exact h.1
    · exact allN_spec (l := r :: l) h.2 p hp
/-- all blocks that are there may not turn -/
def Bk.at (P : Program) (k : Nat) : Bk := ⟨P, k, k, fun _ => False, Nat.le_refl _, fun _ h => h.elim⟩
theorem Kept.at {P : Program} {w w' : World} (h : Below w.heap.size w w') : Kept (Bk.at P w.heap.size) w w' := ⟨h, fun _ _ h => h.elim⟩
section
variable (P : Program) (base : Bk) (w0 : World)
/-- a contract at a call: the result is determined, nothing that existed turns; the rows of the result are new -/
def CallOk (ρ ρ' : Env) (H : Heap) (f : FuncId) (args : List SV) (n : Nat) (res : SV) : Heap → Prop
  | [] => ∀ κ w, HeapOk ρ κ base H w → Kept base w0 w → base.top ≤ w.heap.size → Calls P f (args.map (SV.den ρ κ)).toArray w fun e w' => e = .returned (res.den ρ' κ) ∧ Below w.heap.size w w'
  | h :: Hn => ∀ κ w, HeapOk ρ κ base H w → Kept base w0 w → base.top ≤ w.heap.size → Calls P f (args.map (SV.den ρ κ)).toArray w fun e w' => ∃ κ', Agree n ρ ρ κ κ' ∧ e = .returned (res.den ρ' κ') ∧ Below w.heap.size w w' ∧ HeapOk ρ' κ' (Bk.at P w.heap.size) (h :: Hn) w'
def Den : T → List LCtx → Env → (Lf → List LCtx → Env → Prop) → Prop
  | .leaf l, L, ρ, Φ => Φ l L ρ
  | .ite c t e, L, ρ, Φ => (c.den ρ = true → Den t L ρ Φ) ∧ (c.den ρ = false → Den e L ρ Φ)
  | .need ps t, L, ρ, Φ => allN ρ ps ∧ Den t L ρ Φ
  | .call f args H n vks res Hn t, L, ρ, Φ => exD vks fun l => CallOk P base w0 ρ (ρ.setL n l) H f args n res Hn ∧ Den t L (ρ.setL n l) Φ
  | .loop vks n init body, L, ρ, Φ => ∃ (I : List Dat → Prop) (μ : List Dat → Nat), I (init.map (LV.eval ρ)) ∧ allD vks fun l => I l → Den body (⟨I, μ, μ l⟩ :: L) (ρ.setL n l) Φ
  | .cont k vals, L, ρ, _ => match L[k]? with
    | some c => c.I (vals.map (LV.eval ρ)) ∧ c.μ (vals.map (LV.eval ρ)) < c.m
    | none => False
  | .arr n ct nl t, L, ρ, Φ => Den t L ((ρ.set n (.l (ct.den ρ))).set n (.n (nl.den ρ))) Φ
  | .dead, _, _, _ => False
theorem allD_mono : ∀ (ks : List VK) {F G : List Dat → Prop}, (∀ l, F l → G l) → allD ks F → allD ks G
  | [], _, _, h, hf => h _ hf
  | .i :: r, _, _, h, hf => fun x => allD_mono r (fun _ => h _) (hf x)
  | .b :: r, _, _, h, hf => fun x => allD_mono r (fun _ => h _) (hf x)
  | .v :: r, _, _, h, hf => fun x => allD_mono r (fun _ => h _) (hf x)
  | .l :: r, _, _, h, hf => fun x => allD_mono r (fun _ => h _) (hf x)
  | .n :: r, _, _, h, hf => fun x => allD_mono r (fun _ => h _) (hf x)
theorem exD_mono : ∀ (ks : List VK) {F G : List Dat → Prop}, (∀ l, F l → G l) → exD ks F → exD ks G
  | [], _, _, h, hf => h _ hf
  | .i :: r, _, _, h, ⟨x, hf⟩ => ⟨x, exD_mono r (fun _ => h _) hf⟩
  | .b :: r, _, _, h, ⟨x, hf⟩ => ⟨x, exD_mono r (fun _ => h _) hf⟩
  | .v :: r, _, _, h, ⟨x, hf⟩ => ⟨x, exD_mono r (fun _ => h _) hf⟩
  | .l :: r, _, _, h, ⟨x, hf⟩ => ⟨x, exD_mono r (fun _ => h _) hf⟩
  | .n :: r, _, _, h, ⟨x, hf⟩ => ⟨x, exD_mono r (fun _ => h _) hf⟩
variable {P base w0}
theorem Den.mono : ∀ (t : T) (L : List LCtx) (ρ : Env) {Φ Ψ : Lf → List LCtx → Env → Prop}, (∀ l L ρ, Φ l L ρ → Ψ l L ρ) → Den P base w0 t L ρ Φ → Den P base w0 t L ρ Ψ
  | .leaf l, L, ρ, _, _, h, hd => h _ _ _ hd
  | .ite c t e, L, ρ, _, _, h, hd => ⟨fun hc => Den.mono t L ρ h (hd.1 hc), fun hc => Den.mono e L ρ h (hd.2 hc)⟩
  | .need ps t, L, ρ, _, _, h, hd => ⟨hd.1, Den.mono t L ρ h hd.2⟩
  | .call f args H n vks res Hn t, L, ρ, _, _, h, hd => exD_mono vks (fun l ⟨h1, h2⟩ => ⟨h1, Den.mono t L _ h h2⟩) hd
  | .loop vks n init body, L, ρ, _, _, h, ⟨I, μ, h1, h2⟩ => ⟨I, μ, h1, allD_mono vks (fun l g hI => Den.mono body _ _ h (g hI)) h2⟩
  | .cont k vals, L, ρ, _, _, _, hd => hd
  | .arr n ct nl t, L, ρ, _, _, h, hd => Den.mono t L _ h hd
  | .dead, _, _, _, _, _, hd => hd
/-- a tree with further trees at its leaves -/
def T.bnd : T → (Lf → Option T) → Option T
  | .leaf l, k => k l
  | .ite c t e, k => match t.bnd k, e.bnd k with
    | some t, some e => some (.ite c t e)
    | _, _ => none
  | .need ps t, k => match t.bnd k with
    | some t => some (.need ps t)
    | none => none
  | .call f args H n vks res Hn t, k => match t.bnd k with
    | some t => some (.call f args H n vks res Hn t)
    | none => none
  | .loop vks n init body, k => match body.bnd k with
    | some t => some (.loop vks n init t)
    | none => none
  | .cont j vals, _ => some (.cont j vals)
  | .arr n ct nl t, k => match t.bnd k with
    | some t => some (.arr n ct nl t)
    | none => none
  | .dead, _ => some .dead
theorem T.bnd_den : ∀ (t : T) (k : Lf → Option T) (t' : T), t.bnd k = some t' → ∀ (L : List LCtx) (ρ : Env) {Φ : Lf → List LCtx → Env → Prop}, Den P base w0 t' L ρ Φ → Den P base w0 t L ρ fun l L ρ => ∃ u, k l = some u ∧ Den P base w0 u L ρ Φ
  | .leaf l, k, t', h, L, ρ, Φ, hd => ⟨t', h, hd⟩
  | .ite c t e, k, t', h, L, ρ, Φ, hd => by
    simp only [T.bnd] at h
    split at h
    · rename_i t1 e1 h1 h2; cases h
      exact ⟨fun hc => T.bnd_den t k t1 h1 L ρ (hd.1 hc), fun hc => T.bnd_den e k e1 h2 L ρ (hd.2 hc)⟩
    · cases h
  | .need ps t, k, t', h, L, ρ, Φ, hd => by
    simp only [T.bnd] at h
    split at h
    · rename_i t1 h1; cases h; exact ⟨hd.1, T.bnd_den t k t1 h1 L ρ hd.2⟩
    · cases h
  | .call f args H n vks res Hn t, k, t', h, L, ρ, Φ, hd => by
    simp only [T.bnd] at h
    split at h
    · rename_i t1 h1; cases h; exact exD_mono vks (fun l ⟨g1, g2⟩ => ⟨g1, T.bnd_den t k t1 h1 L _ g2⟩) hd
    · cases h
  | .loop vks n init body, k, t', h, L, ρ, Φ, hd => by
    simp only [T.bnd] at h
    split at h
    · rename_i t1 h1; cases h
      obtain ⟨I, μ, g1, g2⟩ := hd
      exact ⟨I, μ, g1, allD_mono vks (fun l g hI => T.bnd_den body k t1 h1 _ _ (g hI)) g2⟩
    · cases h
  | .cont j vals, k, t', h, L, ρ, Φ, hd => by simp only [T.bnd] at h; cases h; exact hd
  | .dead, k, t', h, L, ρ, Φ, hd => by simp only [T.bnd] at h; cases h; exact hd
  | .arr n ct nl t, k, t', h, L, ρ, Φ, hd => by
    simp only [T.bnd] at h
    split at h
    · rename_i t1 h1; cases h; exact T.bnd_den t k t1 h1 L _ hd
    · cases h
end

/-! ### shapes of results -/
inductive CS where
  | int (k : IntKind)
  | bool
  | val
  | row (E : TypeId) (pat : List CK)     -- a slice of the call's own, new
inductive AS where
  | c (s : CS)
  | agg (l : List CS)
inductive RS where
  | one (a : AS)
  | tup (l : List AS)
/-- a row of the call's own, of which nothing is known: its rows are n, its name n + 1 -/
def rowSC (n s : Nat) : SC := .slice (n + 1) s 0 (.lit (.ofNat 0)) (.alen n) (.k (n + 1))
def CS.mk (n : Nat) : CS → List VK × SC × Heap
  | .int k => ([.i], .int k (.v n), [])
  | .bool => ([.b], .bool (.v n), [])
  | .val => ([.v], .vx n, [])
  | .row E pat => ([.l, .n], rowSC n pat.length, [.arr (n + 1) n pat (some E)])
def CS.mkL (n : Nat) : List CS → List VK × List SC × Heap
  | [] => ([], [], [])
  | s :: l => let (k, c, h) := s.mk n; let (ks, cs, hs) := CS.mkL (n + k.length) l; (k ++ ks, c :: cs, h ++ hs)
def AS.mk (n : Nat) : AS → List VK × SA × Heap
  | .c s => let (k, x, h) := s.mk n; (k, .c x, h)
  | .agg l => let (ks, cs, h) := CS.mkL n l; (ks, .agg cs, h)
def AS.mkL (n : Nat) : List AS → List VK × List SA × Heap
  | [] => ([], [], [])
  | s :: l => let (k, x, h) := s.mk n; let (ks, cs, hs) := AS.mkL (n + k.length) l; (k ++ ks, x :: cs, h ++ hs)
def RS.mk (n : Nat) : RS → List VK × SV × Heap
  | .one a => let (k, c, h) := a.mk n; (k, .a c, h)
  | .tup l => let (k, c, h) := AS.mkL n l; (k, .tup c, h)
/-- all of it rows, with names from n on -/
def newRows (n : Nat) : Heap → Bool
  | [] => true
  | .arr j _ _ (some _) :: H => Nat.ble n j && newRows n H
  | _ => false
theorem newRows_obj {n : Nat} : ∀ {H : Heap}, newRows n H = true → ∀ x, H.obj? x = none
  | [], _, _ => rfl
  | .obj .. :: _, h, _ => by simp [newRows] at h
  | .arr j c p o :: H, h, x => by
    cases o with
    | none => simp [newRows] at h
    | some E => simp only [newRows, Bool.and_eq_true] at h; exact newRows_obj h.2 x
theorem newRows_arr {n : Nat} : ∀ {H : Heap}, newRows n H = true → ∀ j c p o, H.arr? j = some (c, p, o) → n ≤ j ∧ ∃ E, o = some E
  | [], _, _, _, _, _, ha => by cases ha
  | .obj .. :: _, h, _, _, _, _, _ => by simp [newRows] at h
  | .arr j c p o :: H, h, x, c', p', o', ha => by
    cases o with
    | none => simp [newRows] at h
    | some E =>
      simp only [newRows, Bool.and_eq_true, Nat.ble_eq] at h
      unfold Heap.arr? at ha
      cases hq : Nat.beq j x
      · rw [hq] at ha; exact newRows_arr h.2 x c' p' o' ha
      · rw [hq] at ha; cases ha; rw [Nat.beq_eq] at hq; subst hq; exact ⟨h.1, E, rfl⟩
theorem append_obj {H' : Heap} : ∀ {H : Heap} (x : Nat), (∀ x, H.obj? x = none) → Heap.obj? (H ++ H') x = H'.obj? x
  | [], _, _ => rfl
  | .obj i o :: H, x, h => by have := h i; simp [Heap.obj?] at this
  | .arr .. :: H, x, h => append_obj (H := H) x fun x => h x
theorem append_arr {H' : Heap} : ∀ {H : Heap} {x : Nat} {y : Nat × List CK × Option TypeId}, Heap.arr? (H ++ H') x = some y → H.arr? x = some y ∨ (H.arr? x = none ∧ H'.arr? x = some y)
  | [], _, _, h => .inr ⟨rfl, h⟩
  | .obj .. :: H, _, _, h => append_arr (H := H) h
  | .arr j c p o :: H, x, y, h => by
    simp only [List.cons_append, Heap.arr?] at h ⊢
    cases hq : Nat.beq j x
    · rw [hq] at h; exact append_arr (H := H) h
    · rw [hq] at h; exact .inl h
/-- what stood, and the new rows -/
theorem HeapOk.join {P : Program} {ρ ρ' : Env} {κ κ' : Kap} {base : Bk} {n : Nat} {H Hn : Heap} {w w' : World} (h : HeapOk ρ κ base H w) (hz : base.top ≤ w.heap.size) (hb : Below w.heap.size w w') (hA : Agree n ρ ρ' κ κ') (hbn : H.bnd n = true) (hn : newRows n Hn = true) (h' : HeapOk ρ' κ' (Bk.at P w.heap.size) Hn w') : HeapOk ρ' κ' base (Hn ++ H) w' := by
  have g := h.agree hA hbn
  have g' := g.below fun k hk => hb.block k hk
  have ho : ∀ x, Heap.obj? (Hn ++ H) x = H.obj? x := fun x => append_obj x (newRows_obj hn)
  have new : ∀ j c p o, Hn.arr? j = some (c, p, o) → (ρ'.a c ≠ [] ∧ p ≠ []) ∨ (o.isSome = true ∧ ρ'.nl j = false) → w.heap.size ≤ κ'.ab j := by
    intro j c p o ha hex
    obtain ⟨_, E, rfl⟩ := newRows_arr hn j c p o ha
    obtain ⟨_, hr, _⟩ := h'.row j c p E ha
    have hnl : ρ'.nl j = false := by
      rcases hex with ⟨hne, _⟩ | ⟨_, hx⟩
      · cases hx : ρ'.nl j
        · rfl
        · exact absurd ((h'.arr j c p _ ha).2 hx) hne
      · exact hx
    exact (hr.lt (κ'.ab j) (by simp [rowVal, hnl, Value.ownBlock])).1
  constructor
  · intro id o g0; rw [ho] at g0; exact g'.obj id o g0
  · intro id o id' o' g0 g1; rw [ho] at g0 g1; exact g'.inj _ _ _ _ g0 g1
  · intro j c p o ha
    rcases append_arr ha with ha | ⟨_, ha⟩
    · exact h'.arr j c p o ha
    · exact g'.arr j c p o ha
  · intro j c p o id ob ha g0 hex
    rw [ho] at g0
    rcases append_arr ha with ha | ⟨_, ha⟩
    · have := new j c p o ha hex
      have := g.lt g0
      omega
    · exact g'.sep j c p o id ob ha g0 hex
  · intro j c p E ha
    rcases append_arr ha with ha | ⟨_, ha⟩
    · obtain ⟨r1, ⟨r2, r3⟩, r4⟩ := h'.row j c p E ha
      refine ⟨r1, ⟨r2, ?_⟩, fun hnl => (base.new (Nat.le_trans hz (new j c p _ ha (.inr ⟨rfl, hnl⟩)))).2⟩
      rcases r3 with r3 | ⟨gg, cap, cur, hv, hg, hh, hr⟩
      · exact .inl r3
      · exact .inr ⟨gg, cap, cur, hv, Nat.le_trans base.le (Nat.le_trans hz hg), hh, hr⟩
    · exact g'.row j c p E ha
  · intro j c p E j' c' p' o' ha ha' hne hnl hex
    rcases append_arr ha with ha | ⟨_, ha⟩ <;> rcases append_arr ha' with ha' | ⟨_, ha'⟩
    · exact h'.rsep j c p E j' c' p' o' ha ha' hne hnl hex
    · have := new j c p _ ha (.inr ⟨rfl, hnl⟩)
      have := g.arrlt ha' hex
      omega
    · have := new j' c' p' o' ha' hex
      have := g.arrlt ha (.inr ⟨rfl, hnl⟩)
      omega
    · exact g'.rsep j c p E j' c' p' o' ha ha' hne hnl hex

/-! ### loops -/
inductive Loc where
  | slot (t : Nat)
  | cell (id off : Nat)     -- a cell of a block of the call's own
  | row (t : Nat) (E : TypeId)     -- a slice of the call's own in slot t
  | rowc (id off : Nat) (E : TypeId)     -- .. or in a cell
  | cont (j : Nat)     -- what stands in row j, that stays where it is
def vq : Value → Value → Bool
  | .slice none a b, .slice none c d => Nat.beq a c && Nat.beq b d
  | .pointer none, .pointer none => true
  | .nilFunc, .nilFunc => true
  | .nilIface, .nilIface => true
  | .map none, .map none => true
  | .string a, .string b => decide (a = b)
  | _, _ => false
theorem vq_eq {a b : Value} (h : vq a b = true) : a = b := by
  unfold vq at h; split at h <;> simp_all
def fnq : Fn → Fn → Bool
  | .func a, .func b => Nat.beq a b
  | _, _ => false
theorem fnq_eq {a b : Fn} (h : fnq a b = true) : a = b := by
  unfold fnq at h; split at h <;> simp_all
def onq : List (Option Nat) → List (Option Nat) → Bool
  | [], [] => true
  | none :: a, none :: b => onq a b
  | some n :: a, some m :: b => Nat.beq n m && onq a b
  | _, _ => false
theorem onq_eq : ∀ {a b : List (Option Nat)}, onq a b = true → a = b := by
  intro a
  induction a with
  | nil => intro b h; cases b with
    | nil => rfl
    | cons x b => cases h
  | cons y a ih => intro b h; cases b with
    | nil => cases y <;> cases h
    | cons x b =>
      cases y <;> cases x
      · rw [ih h]
      · cases h
      · cases h
      · simp only [onq, Bool.and_eq_true] at h
        rw [ih h.2, Nat.eq_of_beq_eq_true h.1]
theorem fns_eq {a b : FnS} (h1 : a.fn = b.fn) (h2 : a.fs = b.fs) (h3 : a.cs = b.cs) : a = b := by cases a; cases b; simp_all
def IE.eqbL : List IE → List IE → Bool
  | [], [] => true
  | a :: l, b :: r => a.eqb b && IE.eqbL l r
  | _, _ => false
theorem IE.eqbL_eq : ∀ {a b : List IE}, IE.eqbL a b = true → a = b
  | [], [], _ => rfl
  | [], _ :: _, h => by simp [IE.eqbL] at h
  | _ :: _, [], h => by simp [IE.eqbL] at h
  | x :: l, y :: r, h => by simp only [IE.eqbL, Bool.and_eq_true] at h; rw [IE.eqb_eq h.1, IE.eqbL_eq h.2]
mutual
def SC.eqb : SC → SC → Bool
  | .int k a, .int k' b => Nat.beq (kn k) (kn k') && a.eqb b
  | .bool a, .bool b => a.eqb b
  | .ptr a b, .ptr c d => Nat.beq a c && Nat.beq b d
  | .aptr j s c x, .aptr j' s' c' x' => Nat.beq j j' && (Nat.beq s s' && (Nat.beq c c' && x.eqb x'))
  | .slice j s c x l k, .slice j' s' c' x' l' k' => Nat.beq j j' && (Nat.beq s s' && (Nat.beq c c' && (x.eqb x' && (l.eqb l' && k.eqb k'))))
  | .oslice a b c d, .oslice a' b' c' d' => Nat.beq a a' && (Nat.beq b b' && (Nat.beq c c' && Nat.beq d d'))
  | .lit v, .lit u => vq v u
  | .vx i, .vx j => Nat.beq i j
  | .axs j f x, .axs j' f' x' => Nat.beq j j' && (Nat.beq f f' && x.eqb x')
  | .fn f a b, .fn f' a' b' => (fnq f.fn f'.fn && (onq f.fs f'.fs && onq f.cs f'.cs)) && (SC.eqbL a a' && SC.eqbL b b')
  | .gslice a b c d, .gslice a' b' c' d' => Nat.beq a a' && (Nat.beq b b' && (Nat.beq c c' && Nat.beq d d'))
  | .str l, .str l' => IE.eqbL l l'
  | .strA c x l, .strA c' x' l' => Nat.beq c c' && (x.eqb x' && l.eqb l')
  | .yld a, .yld b => Nat.beq a b
  | .mref a, .mref b => Nat.beq a b
  | _, _ => false
def SC.eqbL : List SC → List SC → Bool
  | [], [] => true
  | a :: l, b :: r => a.eqb b && SC.eqbL l r
  | _, _ => false
end
mutual
theorem SC.eqb_eq : ∀ {a b : SC}, a.eqb b = true → a = b
  | .int k a, b, h => by cases b <;> simp only [SC.eqb, Bool.and_eq_true, Bool.false_eq_true] at h; rw [kn_eq h.1, IE.eqb_eq h.2]
  | .bool a, b, h => by cases b <;> simp only [SC.eqb, Bool.false_eq_true] at h; rw [BE.eqb_eq h]
  | .ptr a c, b, h => by cases b <;> simp only [SC.eqb, Bool.and_eq_true, Bool.false_eq_true, Nat.beq_eq] at h; rw [h.1, h.2]
  | .aptr j s c x, b, h => by cases b <;> simp only [SC.eqb, Bool.and_eq_true, Bool.false_eq_true, Nat.beq_eq] at h; rw [h.1, h.2.1, h.2.2.1, IE.eqb_eq h.2.2.2]
  | .slice j s c x l k, b, h => by cases b <;> simp only [SC.eqb, Bool.and_eq_true, Bool.false_eq_true, Nat.beq_eq] at h; rw [h.1, h.2.1, h.2.2.1, IE.eqb_eq h.2.2.2.1, IE.eqb_eq h.2.2.2.2.1, CE.eqb_eq h.2.2.2.2.2]
  | .oslice a b' c d, b, h => by cases b <;> simp only [SC.eqb, Bool.and_eq_true, Bool.false_eq_true, Nat.beq_eq] at h; rw [h.1, h.2.1, h.2.2.1, h.2.2.2]
  | .lit v, b, h => by cases b <;> simp only [SC.eqb, Bool.false_eq_true] at h; rw [vq_eq h]
  | .vx i, b, h => by cases b <;> simp only [SC.eqb, Bool.false_eq_true, Nat.beq_eq] at h; rw [h]
  | .axs j f x, b, h => by cases b <;> simp only [SC.eqb, Bool.and_eq_true, Bool.false_eq_true, Nat.beq_eq] at h; rw [h.1, h.2.1, IE.eqb_eq h.2.2]
  | .fn f a c, b, h => by cases b <;> simp only [SC.eqb, Bool.and_eq_true, Bool.false_eq_true] at h; rw [fns_eq (fnq_eq h.1.1) (onq_eq h.1.2.1) (onq_eq h.1.2.2), SC.eqbL_eq h.2.1, SC.eqbL_eq h.2.2]
  | .gslice a b' c d, b, h => by cases b <;> simp only [SC.eqb, Bool.and_eq_true, Bool.false_eq_true, Nat.beq_eq] at h; rw [h.1, h.2.1, h.2.2.1, h.2.2.2]
  | .str l, b, h => by cases b <;> simp only [SC.eqb, Bool.false_eq_true] at h; rw [IE.eqbL_eq h]
  | .strA c x l, b, h => by cases b <;> simp only [SC.eqb, Bool.and_eq_true, Bool.false_eq_true, Nat.beq_eq] at h; rw [h.1, IE.eqb_eq h.2.1, IE.eqb_eq h.2.2]
  | .yld i, b, h => by cases b <;> simp only [SC.eqb, Bool.false_eq_true, Nat.beq_eq] at h; rw [h]
  | .mref i, b, h => by cases b <;> simp only [SC.eqb, Bool.false_eq_true, Nat.beq_eq] at h; rw [h]
theorem SC.eqbL_eq : ∀ {a b : List SC}, SC.eqbL a b = true → a = b
  | [], [], _ => rfl
  | [], _ :: _, h => by simp [SC.eqbL] at h
  | _ :: _, [], h => by simp [SC.eqbL] at h
  | x :: l, y :: r, h => by simp only [SC.eqbL, Bool.and_eq_true] at h; rw [SC.eqb_eq h.1, SC.eqbL_eq h.2]
end
def SA.eqb : SA → SA → Bool
  | .c a, .c b => a.eqb b
  | .agg a, .agg b => SC.eqbL a b
  | _, _ => false
theorem SA.eqb_eq {a b : SA} (h : a.eqb b = true) : a = b := by
  cases a <;> cases b <;> simp only [SA.eqb, Bool.false_eq_true] at h
  · rw [SC.eqb_eq h]
  · rw [SC.eqbL_eq h]
def SA.eqbL : List SA → List SA → Bool
  | [], [] => true
  | a :: l, b :: r => a.eqb b && SA.eqbL l r
  | _, _ => false
theorem SA.eqbL_eq : ∀ {a b : List SA}, SA.eqbL a b = true → a = b
  | [], [], _ => rfl
  | [], _ :: _, h => by simp [SA.eqbL] at h
  | _ :: _, [], h => by simp [SA.eqbL] at h
  | x :: l, y :: r, h => by simp only [SA.eqbL, Bool.and_eq_true] at h; rw [SA.eqb_eq h.1, SA.eqbL_eq h.2]
def SV.eqb : SV → SV → Bool
  | .a x, .a y => x.eqb y
  | .tup l, .tup r => SA.eqbL l r
  | .ite c x y, .ite c' x' y' => c.eqb c' && (x.eqb x' && y.eqb y')
  | .any, .any => true
  | _, _ => false
theorem SV.eqb_eq : ∀ {a b : SV}, a.eqb b = true → a = b
  | .a x, b, h => by cases b <;> simp only [SV.eqb, Bool.false_eq_true] at h; rw [SA.eqb_eq h]
  | .tup l, b, h => by cases b <;> simp only [SV.eqb, Bool.false_eq_true] at h; rw [SA.eqbL_eq h]
  | .ite c x y, b, h => by cases b <;> simp only [SV.eqb, Bool.and_eq_true, Bool.false_eq_true] at h; rw [BE.eqb_eq h.1, SV.eqb_eq h.2.1, SV.eqb_eq h.2.2]
  | .any, b, h => by cases b <;> simp only [SV.eqb, Bool.false_eq_true] at h; rfl
def Sl.eqb : Sl → Sl → Bool
  | .nil, .nil => true
  | .node x l r, .node y l' r' => x.eqb y && (l.eqb l' && r.eqb r')
  | _, _ => false
theorem Sl.eqb_eq : ∀ {a b : Sl}, a.eqb b = true → a = b
  | .nil, .nil, _ => rfl
  | .nil, .node .., h => by simp [Sl.eqb] at h
  | .node .., .nil, h => by simp [Sl.eqb] at h
  | .node x l r, .node y l' r', h => by simp only [Sl.eqb, Bool.and_eq_true] at h; rw [SV.eqb_eq h.1, Sl.eqb_eq h.2.1, Sl.eqb_eq h.2.2]
def SV.eqbL : List SV → List SV → Bool
  | [], [] => true
  | x :: l, y :: r => x.eqb y && SV.eqbL l r
  | _, _ => false
theorem SV.eqbL_eq : ∀ {a b : List SV}, SV.eqbL a b = true → a = b
  | [], [], _ => rfl
  | [], _ :: _, h => by simp [SV.eqbL] at h
  | _ :: _, [], h => by simp [SV.eqbL] at h
  | x :: l, y :: r, h => by simp only [SV.eqbL, Bool.and_eq_true] at h; rw [SV.eqb_eq h.1, SV.eqbL_eq h.2]
def LV.eqb : LV → LV → Bool
  | .i x, .i y => x.eqb y
  | .b x, .b y => x.eqb y
  | .v x, .v y => x.eqb y
  | .n x, .n y => x.eqb y
  | .l (.arr c), .l (.arr d) => Nat.beq c d
  | _, _ => false
theorem LV.eqb_eq {a b : LV} (h : a.eqb b = true) : a = b := by
  unfold LV.eqb at h
  split at h
  · rw [IE.eqb_eq h]
  · rw [BE.eqb_eq h]
  · rw [SC.eqb_eq h]
  · rw [BE.eqb_eq h]
  · rw [Nat.beq_eq] at h; rw [h]
  · cases h
end Go.SX

/- SxH: loops: the state at a round's head, and when another state fits it; results; the walk itself. -/
set_option linter.unusedSimpArgs false
set_option linter.unusedVariables false
set_option linter.unusedSectionVars false
noncomputable section
namespace Go.SX
open Go Go.RowKit

/-! ### the state at a loop's head -/
def freshC (n : Nat) : SC → Option (VK × SC)
  | .int k _ => some (.i, .int k (.v n))
  | .bool _ => some (.b, .bool (.v n))
  | s => bif s.free then some (.v, .vx n) else none
def freshL (n : Nat) : List SC → Option (List VK × List SC)
  | [] => some ([], [])
  | s :: l => match freshC n s, freshL (n + 1) l with
    | some (k, c), some (ks, cs) => some (k :: ks, c :: cs)
    | _, _ => none
def dropRow (H : Heap) : SC → Heap
  | .slice j _ _ _ _ _ => H.delA j
  | _ => H
/-- forget what stands at the places of a list -/
def hav (P : Program) (sl : Sl) (H : Heap) (n : Nat) : List Loc → Option (Sl × Heap × List VK)
  | [] => some (sl, H, [])
  | .slot t :: r => match slot sl t with
    | some (.a (.c s)) => match freshC n s with
      | some (k, c) => match hav P (setSlot sl t (.c c)) H (n + 1) r with
        | some (sl, H, ks) => some (sl, H, k :: ks)
        | none => none
      | none => none
    | some (.a (.agg l)) => match freshL n l with
      | some (k, c) => match hav P (setSlot sl t (.agg c)) H (n + k.length) r with
        | some (sl, H, ks) => some (sl, H, k ++ ks)
        | none => none
      | none => none
    | _ => none
  | .cell id off :: r => match H.own? id with
    | some (cs, _) => match cs[off]? with
      | some s => match freshC n s with
        | some (k, c) => match hav P sl (H.setOwn id (cs.set off c)) (n + 1) r with
          | some (sl, H, ks) => some (sl, H, k :: ks)
          | none => none
        | none => none
      | none => none
    | none => none
  | .row t E :: r => match slot sl t, patOf P 60 E with
    | some (.a (.c c)), some pat => match hav P (setSlot sl t (.c (rowSC n pat.length))) (.arr (n + 1) n pat (some E) :: dropRow H c) (n + 2) r with
      | some (sl, H, ks) => some (sl, H, .l :: .n :: ks)
      | none => none
    | _, _ => none
  | .rowc id off E :: r => match H.own? id, patOf P 60 E with
    | some (cs, _), some pat => match cs[off]? with
      | some c => match hav P sl (.arr (n + 1) n pat (some E) :: dropRow (H.setOwn id (cs.set off (rowSC n pat.length))) c) (n + 2) r with
        | some (sl, H, ks) => some (sl, H, .l :: .n :: ks)
        | none => none
      | none => none
    | _, _ => none
  | .cont j :: r => match H.arr? j with
    | some _ => match hav P sl (H.turnA j n) (n + 1) r with
      | some (sl, H, ks) => some (sl, H, .l :: ks)
      | none => none
    | none => none
def Code.dsts : Code → List Nat
  | .region _ ops _ => ops.toList.filterMap (·.dst)
  | .seq a b => Code.dsts a ++ Code.dsts b
  | .cond _ a b => Code.dsts a ++ Code.dsts b
  | .block _ b | .loop b | .scope b => Code.dsts b
  | .rangeFunc _ ps _ _ => ps.toList
  | _ => []
def firstRegion : Code → Option Nat
  | .region id _ _ => some id
  | .seq a b => match firstRegion a with
    | some i => some i
    | none => firstRegion b
  | .cond _ a b => match firstRegion a with
    | some i => some i
    | none => firstRegion b
  | .block _ b | .loop b | .scope b => firstRegion b
  | _ => none
def Loc.isSlot (t : Nat) : Loc → Bool
  | .slot u => Nat.beq t u
  | .row u _ => Nat.beq t u
  | _ => false
def anys (sl : Sl) (locs : List Loc) : List Nat → Sl
  | [] => sl
  | t :: l => anys (bif locs.any (Loc.isSlot t) then sl else setSlot sl t .any) locs l
/-! ### when a state fits a head -/
def collC (n : Nat) : SC → SC → List (Nat × LV)
  | .int _ (.v i), .int _ e => bif Nat.ble n i then [(i, .i e)] else []
  | .bool (.v i), .bool e => bif Nat.ble n i then [(i, .b e)] else []
  | .vx i, c => bif Nat.ble n i then [(i, .v c)] else []
  | .slice j _ _ _ (.alen c) _, .slice j' _ _ _ (.alen c') _ => bif Nat.ble n j then [(c, .l (.arr c')), (j, .n (.nl j'))] else []
  | _, _ => []
def collL (n : Nat) : List SC → List SC → List (Nat × LV)
  | h :: l, c :: r => collC n h c ++ collL n l r
  | _, _ => []
def collS (n : Nat) : SV → SV → List (Nat × LV)
  | .a h, .a c => collL n h.cells c.cells
  | _, _ => []
def collSs (n : Nat) : Sl → Sl → List (Nat × LV)
  | .node h l r, .node c l' r' => collS n h c ++ (collSs n l l' ++ collSs n r r')
  | _, _ => []
def collH (n : Nat) (H' : Heap) : Heap → List (Nat × LV)
  | [] => []
  | .obj id (.cells cs _ _) :: H => (match H'.own? id with
    | some (cs', _) => collL n cs cs'
    | none => []) ++ collH n H' H
  | .arr j c _ _ :: H => (bif Nat.blt j n && Nat.ble n c then match H'.arr? j with
    | some (c', _, _) => [(c, .l (.arr c'))]
    | none => [] else []) ++ collH n H' H
  | _ :: H => collH n H' H
def look (i : Nat) : List (Nat × LV) → Option LV
  | [] => none
  | (j, v) :: l => bif Nat.beq i j then some v else look i l
def valsOf (as : List (Nat × LV)) (n : Nat) : List VK → Option (List LV)
  | [] => some []
  | k :: ks => match look n as, valsOf as (n + 1) ks with
    | some v, some r => match k, v with
      | .i, .i e => some (.i e :: r)
      | .b, .b e => some (.b e :: r)
      | .v, .v e => bif e.free then some (.v e :: r) else none
      | .l, .l e => some (.l e :: r)
      | .n, .n e => some (.n e :: r)
      | _, _ => none
    | _, _ => none
def lvq : Option LV → LV → Bool
  | some a, b => a.eqb b
  | _, _ => false
/-- which row a row of the head is -/
def rnOf (as : List (Nat × LV)) (n j : Nat) : Nat := bif Nat.ble n j then (match look j as with
  | some (.n (.nl j')) => j'
  | _ => j) else j
def ieq0 : IE → Bool
  | .lit (.ofNat 0) => true
  | _ => false
def mtR (n : Nat) (f : Nat → Nat) (vals : List LV) (j s c0 : Nat) (x len : IE) (cap : CE) : SC → Bool
  | .slice j' s' c0' x' (.alen c') (.k k') => match len, cap with
    | .alen c, .k k => (Nat.beq k j && Nat.beq k' j') && ((Nat.beq s s' && Nat.beq c0 c0') && ((ieq0 x && ieq0 x') && ((Nat.ble n c && Nat.beq (f j) j') && (lvq vals[c - n]? (.l (.arr c')) && lvq vals[j - n]? (.n (.nl j'))))))
    | _, _ => false
  | _ => false
def mtC (n : Nat) (f : Nat → Nat) (vals : List LV) (h c : SC) : Bool :=
  match h, c with
  | .int k (.v i), .int k' e => bif Nat.ble n i then Nat.beq (kn k) (kn k') && lvq vals[i - n]? (.i e) else h.eqb c && h.bnd n
  | .bool (.v i), .bool e => bif Nat.ble n i then lvq vals[i - n]? (.b e) else h.eqb c && h.bnd n
  | .vx i, c => bif Nat.ble n i then lvq vals[i - n]? (.v c) && c.free else h.eqb c && h.bnd n
  | .slice j s c0 x len cap, c => bif Nat.ble n j then mtR n f vals j s c0 x len cap c else h.eqb c && h.bnd n
  | h, c => h.eqb c && h.bnd n
def mtL (n : Nat) (f : Nat → Nat) (vals : List LV) : List SC → List SC → Bool
  | [], [] => true
  | h :: l, c :: r => mtC n f vals h c && mtL n f vals l r
  | _, _ => false
def mtA (n : Nat) (f : Nat → Nat) (vals : List LV) : SA → SA → Bool
  | .c h, .c c => mtC n f vals h c
  | .agg l, .agg r => mtL n f vals l r
  | _, _ => false
def mtAs (n : Nat) (f : Nat → Nat) (vals : List LV) : List SA → List SA → Bool
  | [], [] => true
  | h :: l, c :: r => mtA n f vals h c && mtAs n f vals l r
  | _, _ => false
def mtS (n : Nat) (f : Nat → Nat) (vals : List LV) : SV → SV → Bool
  | .any, _ => true
  | .a h, .a c => mtA n f vals h c
  | .tup l, .tup r => mtAs n f vals l r
  | _, _ => false
def mtSs (n : Nat) (f : Nat → Nat) (vals : List LV) : Sl → Sl → Bool
  | .nil, .nil => true
  | .node h l r, .node c l' r' => mtS n f vals h c && (mtSs n f vals l l' && mtSs n f vals r r')
  | _, _ => false
def oq : Option TypeId → Option TypeId → Bool
  | none, none => true
  | some a, some b => Nat.beq a b
  | _, _ => false
theorem oq_eq {a b : Option TypeId} (h : oq a b = true) : a = b := by
  cases a <;> cases b <;> simp [oq] at h <;> first | rfl | rw [h]
def lseq : LoopState → LoopState → Bool
  | .ready, .ready => true
  | .busy, .busy => true
  | .done, .done => true
  | .exhausted, .exhausted => true
  | _, _ => false
theorem lseq_eq {a b : LoopState} (h : lseq a b = true) : a = b := by cases a <;> cases b <;> simp [lseq] at h <;> rfl
def pathq : List Bool → List Bool → Bool
  | [], [] => true
  | a :: l, b :: r => bq a b && pathq l r
  | _, _ => false
theorem pathq_eq : ∀ {a b : List Bool}, pathq a b = true → a = b
  | [], [], _ => rfl
  | [], _ :: _, h => by cases h
  | _ :: _, [], h => by cases h
  | x :: l, y :: r, h => by simp only [pathq, Bool.and_eq_true] at h; rw [bq_eq h.1, pathq_eq h.2]
def esq : List (IE × SA) → List (IE × SA) → Bool
  | [], [] => true
  | a :: l, b :: r => (a.1.eqb b.1 && a.2.eqb b.2) && esq l r
  | _, _ => false
theorem esq_eq : ∀ {a b : List (IE × SA)}, esq a b = true → a = b
  | [], [], _ => rfl
  | [], _ :: _, h => by simp [esq] at h
  | _ :: _, [], h => by simp [esq] at h
  | (x, s) :: l, (y, u) :: r, h => by simp only [esq, Bool.and_eq_true] at h; rw [IE.eqb_eq h.1.1, SA.eqb_eq h.1.2, esq_eq h.2]
def mtO (n : Nat) (f : Nat → Nat) (vals : List LV) : SObj → SObj → Bool
  | .cells cs ty g, .cells cs' ty' g' => (Nat.beq ty ty' && oq g g') && mtL n f vals cs cs'
  | .loop r, .loop r' => (lseq r.state r'.state && (r.pending.isNone && r'.pending.isNone)) && (Nat.beq r.fn r'.fn && (pathq r.path r'.path && (r.sl.eqb r'.sl && r.sl.all (SV.bnd n))))
  | .map k es, .map k' es' => Nat.beq (kn k) (kn k') && (esq es es' && esBnd n es)
  | _, _ => false
def mtH (n : Nat) (f : Nat → Nat) (vals : List LV) (H' : Heap) : Heap → Bool
  | [] => true
  | .obj id o :: H => (match H'.obj? id with
    | some o' => Nat.blt id n && mtO n f vals o o'
    | none => false) && mtH n f vals H' H
  | .arr j c p o :: H => (match H'.arr? (f j) with
    | some (c', p', o') => (patq p p' && oq o o') && (bif Nat.ble n j then Nat.ble n c && (lvq vals[c - n]? (.l (.arr c')) && lvq vals[j - n]? (.n (.nl (f j)))) else bif Nat.ble n c then lvq vals[c - n]? (.l (.arr c')) else Nat.beq c c' && Nat.blt c n)
    | none => false) && mtH n f vals H' H
def arrIds : Heap → List Nat
  | [] => []
  | .obj .. :: H => arrIds H
  | .arr j _ _ _ :: H => j :: arrIds H
def injA (f : Nat → Nat) (j : Nat) : List Nat → Bool
  | [] => true
  | i :: l => (Nat.beq j i || !(Nat.beq (f j) (f i))) && injA f j l
def injL (f : Nat → Nat) : List Nat → Bool
  | [] => true
  | j :: l => injA f j l && injL f l
def lcheck (n : Nat) (ks : List VK) (head st : St) : Option (List LV) :=
  let as := collSs n head.sl st.sl ++ collH n st.H head.H
  match valsOf as n ks with
  | some vals => bif (mtSs n (rnOf as n) vals head.sl st.sl && mtH n (rnOf as n) vals st.H head.H) && injL (rnOf as n) (arrIds head.H) then some vals else none
  | none => none
theorem injA_spec {f : Nat → Nat} {j : Nat} : ∀ {l : List Nat}, injA f j l = true → ∀ i ∈ l, j ≠ i → f j ≠ f i
  | [], _, i, hi => by cases hi
  | x :: l, h, i, hi => by
    simp only [injA, Bool.and_eq_true, Bool.or_eq_true, Bool.not_eq_true', Nat.beq_eq] at h
    rcases List.mem_cons.1 hi with rfl | hi
    · intro hne
      rcases h.1 with h1 | h1
      · exact absurd h1 hne
      · exact beq_false h1
    · exact injA_spec h.2 i hi
theorem injL_spec {f : Nat → Nat} : ∀ {l : List Nat}, injL f l = true → ∀ j ∈ l, ∀ i ∈ l, j ≠ i → f j ≠ f i
  | [], _, j, hj => by cases hj
  | x :: l, h, j, hj => by
    simp only [injL, Bool.and_eq_true] at h
    intro i hi hne
    rcases List.mem_cons.1 hj with ej | hj2 <;> rcases List.mem_cons.1 hi with ei | hi2
    · exact absurd (ej.trans ei.symm) hne
    · subst ej; exact injA_spec h.1 i hi2 hne
    · subst ei; exact (injA_spec h.1 j hj2 hne.symm).symm
    · exact injL_spec h.2 j hj2 i hi2 hne
theorem mem_arrIds {H : Heap} {j : Nat} {y : Nat × List CK × Option TypeId} (h : H.arr? j = some y) : j ∈ arrIds H := by
  induction H with
  | nil => cases h
  | cons e H ih =>
    cases e with
    | obj i o => exact ih h
    | arr i c p o =>
      unfold Heap.arr? at h
      cases hq : Nat.beq i j
      · rw [hq] at h; exact List.mem_cons_of_mem _ (ih h)
      · rw [Nat.beq_eq] at hq; subst hq; exact List.mem_cons_self ..
theorem rnOf_lt {as : List (Nat × LV)} {n j : Nat} (h : j < n) : rnOf as n j = j := by
  unfold rnOf
  have : Nat.ble n j = false := by rw [Bool.eq_false_iff]; simp; omega
  rw [this]; rfl
/-- the places under other names -/
def Kap.ren (κ : Kap) (f : Nat → Nat) : Kap := ⟨κ.o, fun j => κ.ab (f j), fun j => κ.ao (f j), fun j => κ.cap (f j)⟩
section
variable {n : Nat} {ρ ρ' : Env} {κ κ' : Kap} {ks : List VK} {vals : List LV}
theorem fits_vals (ρ : Env) {as : List (Nat × LV)} : ∀ {ks : List VK} {n : Nat} {vals : List LV}, valsOf as n ks = some vals → fitsL ks (vals.map (LV.eval ρ)) = true ∧ ∀ (i : Nat) c, vals[i]? = some (.v c) → c.free = true := by
  intro ks
  induction ks with
  | nil => intro n vals h; cases h; exact ⟨rfl, fun i c hc => by simp at hc⟩
  | cons k ks ih =>
    intro n vals h
    unfold valsOf at h
    split at h
    · rename_i v r hv hr
      obtain ⟨h1, h2⟩ := ih hr
      split at h
      · cases h; refine ⟨by simp [fitsL, Dat.fits, LV.eval, h1], fun i c hc => ?_⟩
        cases i with
        | zero => simp at hc
        | succ i => exact h2 i c (by simpa using hc)
      · cases h; refine ⟨by simp [fitsL, Dat.fits, LV.eval, h1], fun i c hc => ?_⟩
        cases i with
        | zero => simp at hc
        | succ i => exact h2 i c (by simpa using hc)
      · rename_i e
        cases hf : e.free
        · rw [hf] at h; cases h
        · rw [hf] at h; simp only [cond_true] at h; cases h
          refine ⟨by simp [fitsL, Dat.fits, LV.eval, h1], fun i c hc => ?_⟩
          cases i with
          | zero => simp at hc; subst hc; exact hf
          | succ i => exact h2 i c (by simpa using hc)
      · cases h; refine ⟨by simp [fitsL, Dat.fits, LV.eval, h1], fun i c hc => ?_⟩
        cases i with
        | zero => simp at hc
        | succ i => exact h2 i c (by simpa using hc)
      · cases h; refine ⟨by simp [fitsL, Dat.fits, LV.eval, h1], fun i c hc => ?_⟩
        cases i with
        | zero => simp at hc
        | succ i => exact h2 i c (by simpa using hc)
      · cases h
    · cases h
theorem setL_get : ∀ (l : List Dat) (n : Nat) (ρ : Env) (i : Nat) (d : Dat), l[i]? = some d →
    match d with
    | .i x => (ρ.setL n l).i (n + i) = x
    | .b x => (ρ.setL n l).b (n + i) = x
    | .v x => (ρ.setL n l).v (n + i) = x.1
    | .l x => (ρ.setL n l).a (n + i) = x
    | .n x => (ρ.setL n l).nl (n + i) = x
  | [], _, _, _, _, h => by simp at h
  | d :: l, n, ρ, 0, e, h => by
    simp at h; subst h
    have A := Agree.setL kap0 l (n + 1) (ρ.set n d)
    cases d <;> simp only [Env.setL, Nat.add_zero]
    · rw [A.i n (by omega)]; simp [Env.set]
    · rw [A.b n (by omega)]; simp [Env.set]
    · rw [A.v n (by omega)]; simp [Env.set]
    · rw [A.a n (by omega)]; simp [Env.set]
    · rw [A.nl n (by omega)]; simp [Env.set]
  | d :: l, n, ρ, i + 1, e, h => by
    have := setL_get l (n + 1) (ρ.set n d) i e (by simpa using h)
    rw [show n + 1 + i = n + (i + 1) by omega] at this
    exact this
variable {f : Nat → Nat} (A : Agree n ρ ρ' κ κ') (hf : ∀ j, j < n → f j = j)
include A hf
theorem Agree.headK (l : List Dat) : Agree n ρ (ρ.setL n l) κ (κ'.ren f) := by
  have A1 := Agree.setL κ l n ρ
  exact ⟨A1.i, A1.b, A1.v, A1.a, A1.nl, A.o, fun j hj => by simp only [Kap.ren, hf j hj]; exact A.kb j hj, fun j hj => by simp only [Kap.ren, hf j hj]; exact A.ko j hj, fun j hj => by simp only [Kap.ren, hf j hj]; exact A.kc j hj⟩
theorem eqb_den {h c : SC} (hc : (h.eqb c && h.bnd n) = true) (l : List Dat) : h.den (ρ.setL n l) (κ'.ren f) = c.den ρ' κ' := by
  simp only [Bool.and_eq_true] at hc
  rw [← SC.eqb_eq hc.1]
  rw [SC.agree (Agree.headK A hf l) h hc.2, SC.agree A h hc.2]
omit A hf in
theorem vals_get {i : Nat} {lv : LV} (hi : n ≤ i) (hq : lvq vals[i - n]? lv = true) : (vals.map (LV.eval ρ'))[i - n]? = some (lv.eval ρ') ∧ n + (i - n) = i := by
  unfold lvq at hq
  split at hq
  · rename_i a ha; exact ⟨by simp [ha, LV.eqb_eq hq], by omega⟩
  · cases hq
theorem mtC_den {h c : SC} (hm : mtC n f vals h c = true) : h.den (ρ.setL n (vals.map (LV.eval ρ'))) (κ'.ren f) = c.den ρ' κ' := by
  unfold mtC at hm
  split at hm
  · rename_i k i k' e
    cases hi : Nat.ble n i
    · rw [hi] at hm; exact eqb_den A hf hm _
    · rw [hi] at hm; simp only [cond_true, Bool.and_eq_true] at hm
      rw [Nat.ble_eq] at hi
      obtain ⟨g1, g2⟩ := vals_get (ρ' := ρ') hi hm.2
      have := setL_get _ n ρ _ _ g1
      simp only [LV.eval, g2] at this
      simp only [SC.den, IE.den, this, kn_eq hm.1]
  · rename_i i e
    cases hi : Nat.ble n i
    · rw [hi] at hm; exact eqb_den A hf hm _
    · rw [hi] at hm; simp only [cond_true] at hm
      rw [Nat.ble_eq] at hi
      obtain ⟨g1, g2⟩ := vals_get (ρ' := ρ') hi hm
      have := setL_get _ n ρ _ _ g1
      simp only [LV.eval, g2] at this
      simp only [SC.den, BE.den, this]
  · rename_i i
    cases hi : Nat.ble n i
    · rw [hi] at hm; exact eqb_den A hf hm _
    · rw [hi] at hm; simp only [cond_true, Bool.and_eq_true] at hm
      rw [Nat.ble_eq] at hi
      obtain ⟨g1, g2⟩ := vals_get (ρ' := ρ') hi hm.1
      have := setL_get _ n ρ _ _ g1
      simp only [LV.eval, g2] at this
      rw [SC.free_den hm.2 ρ' κ' kap0]
      simp only [SC.den, this]
  · rename_i j s c0 x len cap
    cases hi : Nat.ble n j
    · rw [hi] at hm; exact eqb_den A hf hm _
    · rw [hi] at hm; simp only [cond_true] at hm
      rw [Nat.ble_eq] at hi
      unfold mtR at hm
      split at hm
      · rename_i j' s' c0' x' c' k'
        split at hm
        · rename_i c k
          simp only [Bool.and_eq_true, Nat.beq_eq, Nat.ble_eq] at hm
          obtain ⟨⟨rfl, rfl⟩, ⟨rfl, rfl⟩, ⟨hx, hx'⟩, ⟨hc, hfj⟩, m1, m2⟩ := hm
          have e0 : ∀ {x : IE}, ieq0 x = true → x = .lit (.ofNat 0) := fun {x} h => by unfold ieq0 at h; split at h <;> simp_all
          rw [e0 hx, e0 hx']
          obtain ⟨g1, g2⟩ := vals_get (ρ' := ρ') hc m1
          have q1 := setL_get _ n ρ _ _ g1
          simp only [LV.eval, AE.den, g2] at q1
          obtain ⟨g1, g2⟩ := vals_get (ρ' := ρ') hi m2
          have q2 := setL_get _ n ρ _ _ g1
          simp only [LV.eval, BE.den, g2] at q2
          simp only [SC.den, slAddr, IE.den, CE.den, q1, q2, Kap.ren, hfj]
        · cases hm
      · cases hm
  · exact eqb_den A hf hm _
theorem mtL_den : ∀ {h c : List SC}, mtL n f vals h c = true → h.map (SC.den (ρ.setL n (vals.map (LV.eval ρ'))) (κ'.ren f)) = c.map (SC.den ρ' κ')
  | [], [], _ => rfl
  | [], _ :: _, hm => by cases hm
  | _ :: _, [], hm => by cases hm
  | h :: l, c :: r, hm => by
    simp only [mtL, Bool.and_eq_true] at hm
    simp only [List.map_cons, mtC_den A hf hm.1, mtL_den hm.2]
theorem mtA_den {h c : SA} (hm : mtA n f vals h c = true) : h.den (ρ.setL n (vals.map (LV.eval ρ'))) (κ'.ren f) = c.den ρ' κ' := by
  unfold mtA at hm
  split at hm
  · exact mtC_den A hf hm
  · simp only [SA.den, mtL_den A hf hm]
  · cases hm
theorem mtAs_den : ∀ {h c : List SA}, mtAs n f vals h c = true → h.map (SA.den (ρ.setL n (vals.map (LV.eval ρ'))) (κ'.ren f)) = c.map (SA.den ρ' κ')
  | [], [], _ => rfl
  | [], _ :: _, hm => by cases hm
  | _ :: _, [], hm => by cases hm
  | h :: l, c :: r, hm => by
    simp only [mtAs, Bool.and_eq_true] at hm
    simp only [List.map_cons, mtA_den A hf hm.1, mtAs_den hm.2]
theorem mtS_den {h c : SV} (hm : mtS n f vals h c = true) (ha : h.isAny = false) : h.den (ρ.setL n (vals.map (LV.eval ρ'))) (κ'.ren f) = c.den ρ' κ' ∧ c.isAny = false := by
  unfold mtS at hm
  split at hm
  · cases ha
  · exact ⟨mtA_den A hf hm, rfl⟩
  · exact ⟨by simp only [SV.den, mtAs_den A hf hm], rfl⟩
  · cases hm
theorem mtSs_den : ∀ {h c : Sl}, mtSs n f vals h c = true → ∀ (t : Nat) s, slot h t = some s → ∃ s', slot c t = some s' ∧ (s.isAny = false → s'.isAny = false ∧ s.den (ρ.setL n (vals.map (LV.eval ρ'))) (κ'.ren f) = s'.den ρ' κ')
  | .nil, .nil, _, t, s, hs => by rw [slot_nil] at hs; cases hs
  | .nil, .node .., hm, _, _, _ => by cases hm
  | .node .., .nil, hm, _, _, _ => by cases hm
  | .node h l r, .node c l' r', hm, t, s, hs => by
    simp only [mtSs, Bool.and_eq_true] at hm
    cases t with
    | zero => rw [slot_zero] at hs; cases hs; exact ⟨c, slot_zero .., fun ha => ⟨(mtS_den A hf hm.1 ha).2, (mtS_den A hf hm.1 ha).1⟩⟩
    | succ t =>
      rw [slot_succ] at hs ⊢
      split at hs
      · rename_i e; rw [if_pos e]; exact mtSs_den hm.2.1 _ s hs
      · rename_i e; rw [if_neg e]; exact mtSs_den hm.2.2 _ s hs
theorem mtO_is {P : Program} {id : Nat} (hid : id < n) {o o' : SObj} (hm : mtO n f vals o o' = true) {b : Obj} (hb : o'.Is P ρ' κ' id b) : o.Is P (ρ.setL n (vals.map (LV.eval ρ'))) (κ'.ren f) id b := by
  have A' := Agree.headK A hf (vals.map (LV.eval ρ'))
  unfold mtO at hm
  split at hm
  · rename_i cs ty g cs' ty' g'
    simp only [Bool.and_eq_true, Nat.beq_eq] at hm
    obtain ⟨⟨rfl, hg⟩, hm⟩ := hm
    have hg := oq_eq hg; subst hg
    cases g with
    | none => simp only [SObj.Is] at hb ⊢; rw [mtL_den A hf hm]; exact hb
    | some z =>
      obtain ⟨sp, e1, e2, e3⟩ := hb
      have hl : cs.length = cs'.length := by have := congrArg List.length (mtL_den A hf hm); simpa using this
      refine ⟨sp, by rw [mtL_den A hf hm]; exact e1, ?_, ?_⟩
      · simp only [Kap.ren, hf id hid, hl]; exact e2
      · simp only [Kap.ren, hf id hid]; exact e3
  · rename_i r r'
    simp only [Bool.and_eq_true, Nat.beq_eq, Option.isNone_iff_eq_none] at hm
    obtain ⟨⟨h1, h2, h2'⟩, h3, h4, h5, h6⟩ := hm
    obtain ⟨tm, g, ps, as, bo, D, fn, k0, k1, k2⟩ := hb
    have h1 := lseq_eq h1
    have h4 := pathq_eq h4
    have h5 := Sl.eqb_eq h5
    refine ⟨tm, g, ps, as, bo, D, fn, by rw [h3, h4]; exact k0, ?_, by rw [h1, h2]; rw [h2'] at k2; exact k2⟩
    have k1' : SlotsOk ρ' κ' r.sl tm := by rw [h5]; exact k1
    refine ⟨k1'.1, fun t s ht ha => ?_⟩
    have hs := Sl.all_get (f := SV.bnd n) h6 ht
    rw [k1'.2 t s ht ha, SV.agree A hs, SV.agree A' hs]
  · rename_i k es k' es'
    simp only [Bool.and_eq_true] at hm
    have h1 := kn_eq hm.1
    have h2 := esq_eq hm.2.1
    subst h1; subst h2
    obtain ⟨l, clock, k1, k2⟩ := hb
    refine ⟨l, clock, k1, ?_⟩
    rw [k2, es_agree A hm.2.2 k, es_agree A' hm.2.2 k]
  · cases hm
theorem mtH_obj {P : Program} {H' : Heap} : ∀ {H : Heap}, mtH n f vals H' H = true → ∀ id o, H.obj? id = some o →
    id < n ∧ ∃ o', H'.obj? id = some o' ∧ ∀ b, o'.Is P ρ' κ' id b → o.Is P (ρ.setL n (vals.map (LV.eval ρ'))) (κ'.ren f) id b
  | [], _, _, _, ho => by cases ho
  | .obj i c :: H, hm, id, o, ho => by
    simp only [mtH, Bool.and_eq_true] at hm
    unfold Heap.obj? at ho
    cases hq : Nat.beq i id
    · rw [hq] at ho; exact mtH_obj hm.2 id o ho
    · rw [hq] at ho; cases ho
      rw [Nat.beq_eq] at hq; subst hq
      have h1 := hm.1
      split at h1
      · rename_i o' ho'
        simp only [Bool.and_eq_true, Nat.blt_eq] at h1
        exact ⟨h1.1, o', ho', fun b hb => mtO_is A hf h1.1 h1.2 hb⟩
      · cases h1
  | .arr _ _ _ _ :: H, hm, id, o, ho => by
    simp only [mtH, Bool.and_eq_true] at hm
    exact mtH_obj hm.2 id o ho
theorem mtH_arr {H' : Heap} : ∀ {H : Heap}, mtH n f vals H' H = true → ∀ j c p o, H.arr? j = some (c, p, o) → ∃ c', H'.arr? (f j) = some (c', p, o) ∧ (ρ.setL n (vals.map (LV.eval ρ'))).a c = ρ'.a c' ∧ (ρ.setL n (vals.map (LV.eval ρ'))).nl j = ρ'.nl (f j)
  | [], _, _, _, _, _, ho => by cases ho
  | .arr i c0 t o0 :: H, hm, j, c, p, o, ho => by
    simp only [mtH, Bool.and_eq_true] at hm
    unfold Heap.arr? at ho
    cases hq : Nat.beq i j
    · rw [hq] at ho; exact mtH_arr hm.2 j c p o ho
    · rw [hq] at ho; cases ho
      rw [Nat.beq_eq] at hq; subst hq
      have h1 := hm.1
      split at h1
      · rename_i c2 p2 o2 ho'
        simp only [Bool.and_eq_true] at h1
        obtain ⟨⟨e1, e2⟩, h1⟩ := h1
        have e1 := patq_eq e1
        have e2 := oq_eq e2
        subst e1; subst e2
        refine ⟨c2, ho', ?_⟩
        cases hi : Nat.ble n i
        · rw [hi] at h1; simp only [cond_false] at h1
          have hi : i < n := by rw [Bool.eq_false_iff] at hi; simp at hi; omega
          have A1 := Agree.setL κ (vals.map (LV.eval ρ')) n ρ
          cases hc0 : Nat.ble n c0
          · rw [hc0] at h1; simp only [cond_false, Bool.and_eq_true, Nat.beq_eq, Nat.blt_eq] at h1
            obtain ⟨rfl, hc⟩ := h1
            exact ⟨(A1.a _ hc).trans (A.a _ hc).symm, by rw [hf i hi]; exact (A1.nl i hi).trans (A.nl i hi).symm⟩
          · rw [hc0] at h1; simp only [cond_true] at h1
            rw [Nat.ble_eq] at hc0
            obtain ⟨g1, g2⟩ := vals_get (ρ' := ρ') hc0 h1
            have q1 := setL_get _ n ρ _ _ g1
            simp only [LV.eval, AE.den, g2] at q1
            exact ⟨q1, by rw [hf i hi]; exact (A1.nl i hi).trans (A.nl i hi).symm⟩
        · rw [hi] at h1; simp only [cond_true, Bool.and_eq_true, Nat.ble_eq] at h1
          rw [Nat.ble_eq] at hi
          obtain ⟨hc, m1, m2⟩ := h1
          obtain ⟨g1, g2⟩ := vals_get (ρ' := ρ') hc m1
          have q1 := setL_get _ n ρ _ _ g1
          simp only [LV.eval, AE.den, g2] at q1
          obtain ⟨g1, g2⟩ := vals_get (ρ' := ρ') hi m2
          have q2 := setL_get _ n ρ _ _ g1
          simp only [LV.eval, BE.den, g2] at q2
          exact ⟨q1, q2⟩
      · cases h1
  | .obj _ _ :: H, hm, j, c, p, o, ho => by
    simp only [mtH, Bool.and_eq_true] at hm
    exact mtH_arr hm.2 j c p o ho
omit hf in
theorem lcheck_sim {base : Bk} {w0 : World} {head st : St} {a : Act} {w : World} (hl : lcheck n ks head st = some vals) (h : Sim base w0 ρ' κ' st a w) (hb : BE.bndL n head.facts = true) (hfc : ∀ p ∈ head.facts, p.den ρ = true) (hrb : ∀ l, head.rnd = some l → l < head.n) :
    fitsL ks (vals.map (LV.eval ρ')) = true ∧ ∃ κ2, Agree n ρ (ρ.setL n (vals.map (LV.eval ρ'))) κ κ2 ∧ Sim base w0 (ρ.setL n (vals.map (LV.eval ρ'))) κ2 head a w := by
  obtain ⟨Ds, h⟩ := h
  unfold lcheck at hl
  dsimp only at hl
  split at hl
  · rename_i vals' hv
    generalize collSs n head.sl st.sl ++ collH n st.H head.H = as at hl hv
    have hf : ∀ j, j < n → rnOf as n j = j := fun j hj => rnOf_lt hj
    generalize rnOf as n = f at hl hf
    cases hm : ((mtSs n f vals' head.sl st.sl && mtH n f vals' st.H head.H) && injL f (arrIds head.H))
    · rw [hm] at hl; cases hl
    · rw [hm] at hl; simp only [cond_true] at hl; cases hl
      simp only [Bool.and_eq_true] at hm
      obtain ⟨⟨hm1, hm2⟩, hinj⟩ := hm
      have s2 := mtSs_den A hf hm1
      refine ⟨(fits_vals ρ' hv).1, κ'.ren f, Agree.headK A hf _, Ds, ⟨fun t s hs => ?_, fun t s hs ha => ?_⟩, h.df, h.dn, h.db, h.sz, ?_, h.bl, ?_, hrb⟩
      · obtain ⟨s', e1, _⟩ := s2 t s hs; exact h.fr.1 t s' e1
      · obtain ⟨s', e1, e2⟩ := s2 t s hs
        rw [(e2 ha).2]; exact h.fr.2 t s' e1 (e2 ha).1
      · have hrow : ∀ j k, (ρ.setL n (vals.map (LV.eval ρ'))).nl j = ρ'.nl (f j) → rowVal (ρ.setL n (vals.map (LV.eval ρ'))) (κ'.ren f) j k = rowVal ρ' κ' (f j) k := fun j k e => by simp only [rowVal, e, Kap.ren]
        constructor
        · intro id o ho
          obtain ⟨_, o', o1, o2⟩ := mtH_obj A hf hm2 id o ho
          obtain ⟨⟨b, b1, b2⟩, b3⟩ := h.hp.obj id o' o1
          exact ⟨⟨b, b1, o2 b b2⟩, b3⟩
        · intro id o id' o' ho ho' he
          obtain ⟨_, c1, o1, _⟩ := mtH_obj (P := base.P) A hf hm2 id o ho
          obtain ⟨_, c2, o2, _⟩ := mtH_obj (P := base.P) A hf hm2 id' o' ho'
          exact h.hp.inj _ _ _ _ o1 o2 he
        · intro j c pat o ha
          obtain ⟨c', j1, j2, j3⟩ := mtH_arr A hf hm2 j c pat o ha
          rw [j2, j3]; exact h.hp.arr _ _ _ _ j1
        · intro j c pat o id ob ha ho hex
          obtain ⟨c', j1, j2, j3⟩ := mtH_arr A hf hm2 j c pat o ha
          obtain ⟨_, c1, o1, _⟩ := mtH_obj (P := base.P) A hf hm2 id ob ho
          rw [j2, j3] at hex
          exact h.hp.sep _ _ _ _ _ _ j1 o1 hex
        · intro j c pat E ha
          obtain ⟨c', j1, j2, j3⟩ := mtH_arr A hf hm2 j c pat _ ha
          rw [hrow j _ j3, j2, j3]; exact h.hp.row _ _ _ _ j1
        · intro j c pat E j' c' pat' o' ha ha' hne hn hex
          obtain ⟨d, j1, j2, j3⟩ := mtH_arr A hf hm2 j c pat _ ha
          obtain ⟨d', i1, i2, i3⟩ := mtH_arr A hf hm2 j' c' pat' o' ha'
          rw [j3] at hn; rw [i2, i3] at hex
          exact h.hp.rsep _ _ _ _ _ _ _ _ j1 i1 (injL_spec hinj j (mem_arrIds ha) j' (mem_arrIds ha') hne) hn hex
      · exact facts_agree (Agree.setL κ _ n ρ) hb hfc
  · cases hl
end

/-! ### results -/
def xresult (P : Program) (st : St) : ResultVar → Option SV
  | .tmp t => match slot st.sl t with
    | some s => bif s.isAny then none else some s
    | none => none
  | .cell a t => match opv st.sl (.tmp a) with
    | some p => match xload P st.H t p with
      | some ([], v) => some v
      | _ => none
    | none => none
def xresultL (P : Program) (st : St) : List ResultVar → Option (List SV)
  | [] => some []
  | r :: l => match xresult P st r, xresultL P st l with
    | some v, some vs => some (v :: vs)
    | _, _ => none
def toSA : List SV → Option (List SA)
  | [] => some []
  | .a s :: l => (toSA l).map (s :: ·)
  | _ => none
def xresults (P : Program) (fn : Func) (st : St) : Option SV :=
  match xresultL P st fn.results.toList with
  | some [v] => some v
  | some vs => (toSA vs).map .tup
  | none => none
theorem toSA_den {ρ : Env} {κ : Kap} : ∀ {l : List SV} {r : List SA}, toSA l = some r → l.map (SV.den ρ κ) = r.map (SA.den ρ κ) := by
  intro l
  induction l with
  | nil => intro r h; cases h; rfl
  | cons s l ih =>
    intro r h
    unfold toSA at h
    split at h
    · rename_i heq; cases heq
    · rename_i s' l' heq
      cases heq
      obtain ⟨q, hq, rfl⟩ := Option.map_eq_some_iff.1 h
      simp only [List.map_cons, ih hq, SV.den]
    · cases h
def resOne (a : Act) : ResultVar → Sem Value
  | .tmp t => pure (a.tmps.getD t undef)
  | .cell p t => do loadVar t (← asAddr (a.tmps.getD p undef))
theorem run_resultL {P : Program} {base : Bk} {ρ : Env} {κ : Kap} {st : St} {a : Act} {w : World} (hfr : FrameOk ρ κ st.sl a) (hhp : HeapOk ρ κ base st.H w) : ∀ {l : List ResultVar} {vs : List SV}, xresultL P st l = some vs →
    (l.mapM (resOne a)).run P w = .ok (vs.map (SV.den ρ κ)) w := by
  intro l
  induction l with
  | nil => intro vs hv; cases hv; rfl
  | cons r l ih =>
    intro vs hv
    unfold xresultL at hv
    split at hv
    · rename_i v vs' h1 h2
      cases hv
      have e : (resOne a r).run P w = .ok (v.den ρ κ) w := by
        cases r with
        | tmp t =>
          simp only [xresult] at h1
          split at h1
          · rename_i s hs
            cases ha : s.isAny
            · rw [ha] at h1; cases h1
              simp [resOne, hfr.2 t _ hs ha]
            · rw [ha] at h1; cases h1
          · cases h1
        | cell p t =>
          simp only [xresult] at h1
          split at h1
          · rename_i q hq
            split at h1
            · rename_i v' hl
              cases h1
              obtain ⟨ad, e1, e2⟩ := run_loadVar_x hhp hl (fun p hp => by cases hp)
              have hev := opv_den hfr hq
              simp only [Act.eval] at hev
              simp only [resOne, hev, e1, asAddr, Sem.run_bind, Sem.run_pure, Result.andThen_ok, e2]
            · cases h1
          · cases h1
      simp only [List.mapM_cons, Sem.run_bind, e, Result.andThen_ok, ih h2, Sem.run_pure, List.map_cons]
    · cases hv
theorem run_results_x {P : Program} {base : Bk} {ρ : Env} {κ : Kap} {st : St} {a : Act} {w : World} (hfr : FrameOk ρ κ st.sl a) (hhp : HeapOk ρ κ base st.H w) {fn : Func} {v : SV} (hv : xresults P fn st = some v) :
    (results fn a.tmps).run P w = .ok (v.den ρ κ) w := by
  have key : ∀ vs, xresultL P st fn.results.toList = some vs → (results fn a.tmps).run P w = .ok (if h : (vs.map (SV.den ρ κ)).toArray.size = 1 then (vs.map (SV.den ρ κ)).toArray[0] else .tuple (vs.map (SV.den ρ κ)).toArray) w := by
    intro vs hvs
    have hm := run_resultL hfr hhp hvs
    unfold results
    rw [Array.mapM_eq_mapM_toList]
    have hr : ∀ f : ResultVar → Sem Value, (∀ x, f x = resOne a x) → (fn.results.toList.mapM f).run P w = .ok (vs.map (SV.den ρ κ)) w := fun f hf => by
      rw [show f = resOne a from funext hf]; exact hm
    simp only [Sem.run_bind, Sem.run_map]
    rw [hr _ (fun x => by cases x <;> rfl)]
    simp only [Result.andThen_ok, Sem.run_pure]
  unfold xresults at hv
  split at hv
  · rename_i v' hvs
    cases hv
    rw [key _ hvs]; simp
  · rename_i vs hne hvs
    obtain ⟨q, hq, rfl⟩ := Option.map_eq_some_iff.1 hv
    rw [key _ hvs]
    have : ¬ (vs.map (SV.den ρ κ)).toArray.size = 1 := by
      intro e
      simp at e
      obtain ⟨x, rfl⟩ := List.length_eq_one_iff.1 e
      exact hne x rfl
    rw [dif_neg this, toSA_den hq]; rfl
  · cases hv
end Go.SX

/- SxI1: guards, and what a walk is told. -/
set_option linter.unusedSimpArgs false
set_option linter.unusedVariables false
set_option linter.unusedSectionVars false
noncomputable section
namespace Go.SX
open Go Go.RowKit

structure Cfg where
  P : Program
  ct : Nat → Option RS
  ann : Nat → Nat → Nat → Option (List Loc)
  /-- calls whose result is worked out at once -/
  cv : Nat → List SV → Option SV := fun _ _ => none
  cvOk : ∀ f args v, cv f args = some v → ∀ (ρ : Env) (κ : Kap) (w : World), Calls P f (args.map (SV.den ρ κ)).toArray w fun e w' => e = .returned (v.den ρ κ) ∧ Below w.heap.size w w' := by intro _ _ _ h; cases h

/-- the condition under which an operation runs -/
def gval (want : Bool) : SV → Option BE
  | .a (.c (.bool b)) => some (bif want then b else mkNot b)
  | .ite c (.a (.c (.bool b))) (.tup []) => some (mkAnd c (bif want then b else mkNot b))
  | .tup [] => some (.lit false)
  | _ => none
def guardOf (ops : List Oper) (sl : Sl) : Option (Nat × Bool) → Option BE
  | none => some (.lit true)
  | some (j, want) => match ops[j]? with
    | some o => match o.dst with
      | some d => match slot sl d with
        | some s => gval want s
        | none => none
      | none => none
    | none => none
theorem guardOf_spec {ρ : Env} {κ : Kap} {ops : Array Oper} {sl : Sl} {a : Act} (hf : FrameOk ρ κ sl a) {o : Oper} {g : BE} (h : guardOf ops.toList sl o.guard = some g) : Region.wanted o (yielded ops a.tmps) = g.den ρ := by
  unfold guardOf at h
  unfold Region.wanted
  split at h
  · rename_i hg; rw [hg]; cases h; rfl
  · rename_i j want hg
    rw [hg]
    split at h
    · rename_i o' ho
      split at h
      · rename_i d hd
        split at h
        · rename_i s hs
          have hy : yielded ops a.tmps j = match a.tmps[d]? with
            | some (.bool b) => some b
            | _ => none := by
            have : ops[j]? = some o' := by simpa using ho
            unfold yielded
            rw [this]
            simp only [Option.bind_some, hd]
            rfl
          simp only [hy]
          unfold gval at h
          split at h
          · rename_i b
            cases h
            rw [hf.2 d _ hs rfl]
            simp only [SV.den, SA.den, SC.den]
            cases want <;> simp [mkNot_den]
          · rename_i c b
            cases h
            rw [hf.2 d _ hs rfl]
            simp only [SV.den, SA.den, SC.den, mkAnd_den]
            cases c.den ρ
            · simp
            · simp only [if_true]; cases want <;> simp [mkNot_den]
          · cases h
            rw [hf.2 d _ hs rfl]
            simp [SV.den, BE.den]
          · cases h
        · cases h
      · cases h
    · cases h
/-- the number that the facts say e is -/
def eqOf (e : IE) : BE → Option Int
  | .cmp .eql (.lit n) a => bif a.eqb e then some n else none
  | .cmp .eql a (.lit n) => bif a.eqb e then some n else none
  | _ => none
def eqLit : List BE → IE → Option Int
  | [], _ => none
  | p :: F, e => match eqOf e p with
    | some n => some n
    | none => eqLit F e
theorem eqOf_den {ρ : Env} {e : IE} {p : BE} {n : Int} (hp : p.den ρ = true) (h : eqOf e p = some n) : e.den ρ = n := by
  unfold eqOf at h
  split at h
  · rename_i m a
    cases hq : a.eqb e
    · rw [hq] at h; cases h
    · rw [hq] at h; simp only [cond_true] at h; cases h
      simp only [BE.den, bc, IE.den, beq_iff_eq] at hp
      rw [← IE.eqb_eq hq]; exact hp.symm
  · rename_i a m _
    cases hq : a.eqb e
    · rw [hq] at h; cases h
    · rw [hq] at h; simp only [cond_true] at h; cases h
      simp only [BE.den, bc, IE.den, beq_iff_eq] at hp
      rw [← IE.eqb_eq hq]; exact hp
  · cases h
theorem eqLit_den {ρ : Env} {e : IE} {n : Int} : ∀ {F : List BE}, (∀ p ∈ F, p.den ρ = true) → eqLit F e = some n → e.den ρ = n
  | [], _, h => by cases h
  | p :: F, hF, h => by
    simp only [eqLit] at h
    split at h
    · rename_i m hm
      cases h; exact eqOf_den (hF _ (List.mem_cons_self ..)) hm
    · exact eqLit_den (fun q hq => hF q (List.mem_cons_of_mem _ hq)) h
/-- a choice that the facts may tell -/
def mkCsF (F : List BE) (o : BinOp) (a b c d : IE) : IE := match o, b with
  | .eql, .lit n => bif barsE F a n then d else mkCs .eql a (.lit n) c d
  | o, b => mkCs o a b c d
theorem mkCsF_den {ρ : Env} {F : List BE} (hF : ∀ p ∈ F, p.den ρ = true) (o : BinOp) (a b c d : IE) : (mkCsF F o a b c d).den ρ = (mkCs o a b c d).den ρ := by
  unfold mkCsF
  split
  · rw [cond_eq_ite]; split
    · rename_i h
      have := barsE_den h hF
      rw [mkCs_den]; simp [bc, IE.den, this]
    · rfl
  · rfl
def CE.norm (f : IE → IE) : CE → CE
  | .e x => .e (f x)
  | .k j => .k j
def IE.norm (F : List BE) : IE → IE
  | .lit n => .lit n
  | .minus a b => mkMinus (a.norm F) (b.norm F)
  | .plus a b => mkPlus (a.norm F) (b.norm F)
  | .sw o a b c d => mkCsF F o (a.norm F) (b.norm F) (c.norm F) (d.norm F)
  | e => match eqLit F e with
    | some n => .lit n
    | none => e
theorem IE.norm_den {ρ : Env} {F : List BE} (hF : ∀ p ∈ F, p.den ρ = true) (e : IE) : (e.norm F).den ρ = e.den ρ := by
  have leaf : ∀ e : IE, (match eqLit F e with
    | some n => IE.lit n
    | none => e).den ρ = e.den ρ := fun e => by
    split
    · rename_i n h; rw [eqLit_den hF h]; rfl
    · rfl
  induction e with
  | lit n => rfl
  | minus a b iha ihb => simp only [IE.norm, mkMinus_den, iha, ihb, IE.den]
  | plus a b iha ihb => simp only [IE.norm, mkPlus_den, iha, ihb, IE.den]
  | sw o a b c d iha ihb ihc ihd => simp only [IE.norm, mkCsF_den hF, mkCs_den, iha, ihb, ihc, ihd, IE.den]
  | v i => exact leaf _
  | bin o k a b _ _ => exact leaf _
  | conv k a _ => exact leaf _
  | sel c f x _ => exact leaf _
  | alen c => exact leaf _
  | nat a _ => exact leaf _
theorem CE.norm_den {ρ : Env} {κ : Kap} {F : List BE} (hF : ∀ p ∈ F, p.den ρ = true) (e : CE) : (e.norm (IE.norm F)).den ρ κ = e.den ρ κ := by
  cases e with
  | e x => simp only [CE.norm, CE.den, IE.norm_den hF]
  | k j => rfl
/-- a value where the facts are known -/
def SV.known (F : List BE) : SV → SV
  | .ite b x y => match bsimp F b with
    | .lit true => x.known F
    | .lit false => y.known F
    | b' => .ite b' (x.known F) (y.known F)
  | .a (.c (.bool b)) => .a (.c (.bool (bsimpG F b)))
  | .a (.c (.int k e)) => .a (.c (.int k (e.norm F)))
  | .a (.c (.slice j s c x len cap)) => .a (.c (.slice j s c (x.norm F) (len.norm F) (cap.norm (IE.norm F))))
  | s => s
theorem SV.known_den {ρ : Env} {F : List BE} (hF : ∀ p ∈ F, p.den ρ = true) (κ : Kap) : ∀ (s : SV), (s.known F).den ρ κ = s.den ρ κ
  | .ite b x y => by
    have e := bsimp_den hF b
    simp only [SV.known]
    split
    · rename_i hb; rw [hb] at e; simp only [BE.den] at e; simp only [SV.den, ← e, if_true]; exact SV.known_den hF κ x
    · rename_i hb; rw [hb] at e; simp only [BE.den] at e; simp only [SV.den, ← e, Bool.false_eq_true, if_false]; exact SV.known_den hF κ y
    · simp only [SV.den, e, SV.known_den hF κ x, SV.known_den hF κ y]
  | .any => rfl
  | .tup l => rfl
  | .a (.agg l) => rfl
  | .a (.c s) => by
    cases s <;> simp only [SV.known, SV.den, SA.den, SC.den, bsimpG_den hF, IE.norm_den hF, CE.norm_den hF]
/-- a value where the facts and c are known -/
def SV.at (F : List BE) (c : BE) (s : SV) : SV := s.known (learn F c true)
theorem SV.at_den {ρ : Env} {F : List BE} (hF : ∀ p ∈ F, p.den ρ = true) {c : BE} (hc : c.den ρ = true) (κ : Kap) (s : SV) : (s.at F c).den ρ κ = s.den ρ κ := SV.known_den (learn_den c F true hF hc) κ s
/-- .. quick where there is nothing to know -/
def SV.atQ (F : List BE) (c : BE) (s : SV) : SV := match s with
  | .a (.c s') => match s' with
    | .bool (.lit b) => .a (.c (.bool (.lit b)))
    | .int k (.lit n) => .a (.c (.int k (.lit n)))
    | .ptr id off => .a (.c (.ptr id off))
    | .lit v => .a (.c (.lit v))
    | s' => SV.at F c (.a (.c s'))
  | .a (.agg l) => .a (.agg l)
  | s => s.at F c
theorem SV.atQ_den {ρ : Env} {F : List BE} (hF : ∀ p ∈ F, p.den ρ = true) {c : BE} (hc : c.den ρ = true) (κ : Kap) (s : SV) : (s.atQ F c).den ρ κ = s.den ρ κ := by
  unfold SV.atQ
  split
  · split <;> first | rfl | exact SV.at_den hF hc κ _
  · rfl
  · exact SV.at_den hF hc κ _
def SV.knownQ (F : List BE) (s : SV) : SV := match s with
  | .a (.c s') => match s' with
    | .bool (.lit b) => .a (.c (.bool (.lit b)))
    | .int k (.lit n) => .a (.c (.int k (.lit n)))
    | .ptr id off => .a (.c (.ptr id off))
    | .lit v => .a (.c (.lit v))
    | s' => SV.known F (.a (.c s'))
  | .a (.agg l) => .a (.agg l)
  | s => s.known F
theorem SV.knownQ_den {ρ : Env} {F : List BE} (hF : ∀ p ∈ F, p.den ρ = true) (κ : Kap) (s : SV) : (s.knownQ F).den ρ κ = s.den ρ κ := by
  unfold SV.knownQ
  split
  · split <;> first | rfl | exact SV.known_den hF κ _
  · rfl
  · exact SV.known_den hF κ _
/-- .. what is only moved is left as it is -/
def SV.rawQ (F : List BE) (s : SV) : SV := match s with
  | .a s' => .a s'
  | s => s.known F
theorem SV.rawQ_den {ρ : Env} {F : List BE} (hF : ∀ p ∈ F, p.den ρ = true) (κ : Kap) (s : SV) : (s.rawQ F).den ρ κ = s.den ρ κ := by
  unfold SV.rawQ
  split
  · rfl
  · exact SV.known_den hF κ _
def evO (st : St) (F : List BE) (o : Op) (x : Operand) : Option SV := match opv st.sl x with
  | some s => match o with
    | .move _ => some (s.rawQ F)
    | .assign _ => some (s.rawQ F)
    | _ => some (s.knownQ F)
  | none => none
theorem evO_den {ρ : Env} {κ : Kap} {st : St} {a : Act} (hfr : FrameOk ρ κ st.sl a) {F : List BE} (hF : ∀ p ∈ F, p.den ρ = true) {o : Op} : ∀ x s, evO st F o x = some s → a.eval x = s.den ρ κ := by
  intro x s hx
  unfold evO at hx
  split at hx
  · rename_i s' hs
    have e := opv_den hfr hs
    split at hx <;> cases hx
    · rw [SV.rawQ_den hF]; exact e
    · rw [SV.rawQ_den hF]; exact e
    · rw [SV.knownQ_den hF]; exact e
  · cases hx
def forceC {α : Type} (l : List BE) (k : List BE → α) : α := k l
/-- a list, worked out to its end -/
noncomputable def forceL {α : Type} (l : List BE) (k : List BE → α) : α := List.rec (motive := fun _ => (List BE → α) → α) (fun k => k []) (fun x _ ih k => ih fun l => k (x :: l)) l k
theorem forceL_eq {α : Type} (l : List BE) (k : List BE → α) : forceL l k = k l := by
  induction l generalizing k with
  | nil => rfl
  | cons x l ih => exact ih _
def evF (st : St) (c : BE) (x : Operand) : Option SV := match opv st.sl x with
  | some s => some (s.atQ st.facts c)
  | none => none
theorem evF_den {ρ : Env} {κ : Kap} {st : St} {a : Act} (hfr : FrameOk ρ κ st.sl a) (hfc : ∀ p ∈ st.facts, p.den ρ = true) {c : BE} (hc : c.den ρ = true) : ∀ x s, evF st c x = some s → a.eval x = s.den ρ κ := by
  intro x s hx
  unfold evF at hx
  split at hx
  · rename_i s' hs
    cases hx
    rw [SV.atQ_den hfc hc]
    exact opv_den hfr hs
  · cases hx
def needT (q : List BE) (t : Option T) : Option T := match q with
  | [] => t
  | q => match t with
    | some t => some (.need q t)
    | none => none
def iteT (c : BE) (t u : Option T) : Option T := match t, u with
  | some t, some u => some (.ite c t u)
  | _, _ => none
def arrT (n : Nat) (ct : AE) (nl : BE) : Option T → Option T
  | some t => some (.arr n ct nl t)
  | none => none
def thenT (t : Option T) (k : Lf → Option T) : Option T := Option.casesOn t none fun t => t.bnd k
def St.learn (st : St) (c : BE) (v : Bool) : St := { st with facts := SX.learn st.facts c v }
def St.learns (st : St) (q : List BE) : St := { st with facts := SX.learns st.facts q }
section
variable {P : Program} {base : Bk} {w0 : World} {Φ : Lf → List LCtx → Env → Prop}
theorem needT_spec {q : List BE} {t : Option T} {u : T} (h : needT q t = some u) : ∃ t', t = some t' ∧ ∀ L ρ Φ, Den P base w0 u L ρ Φ → (∀ p ∈ q, p.den ρ = true) ∧ Den P base w0 t' L ρ Φ := by
  unfold needT at h
  split at h
  · exact ⟨u, h, fun L ρ Φ hd => ⟨fun p hp => (by cases hp), hd⟩⟩
  · split at h
    · rename_i t'
      cases h
      exact ⟨t', rfl, fun L ρ Φ hd => ⟨allN_spec hd.1, hd.2⟩⟩
    · cases h
theorem iteT_spec {c : BE} {t u : Option T} {v : T} (h : iteT c t u = some v) : ∃ t' u', t = some t' ∧ u = some u' ∧ v = .ite c t' u' := by
  unfold iteT at h
  split at h
  · cases h; exact ⟨_, _, rfl, rfl, rfl⟩
  · cases h
theorem thenT_spec {t : Option T} {k : Lf → Option T} {u : T} (h : thenT t k = some u) : ∃ t', t = some t' ∧ ∀ L ρ Φ, Den P base w0 u L ρ Φ → Den P base w0 t' L ρ fun l L ρ => ∃ u, k l = some u ∧ Den P base w0 u L ρ Φ := by
  cases t with
  | none => cases h
  | some t' => exact ⟨t', rfl, fun L ρ Φ hd => T.bnd_den t' k u h L ρ hd⟩
theorem openNeeds_keep {ρ : Env} {F : List BE} (hF : ∀ p ∈ F, p.den ρ = true) : ∀ {l r : List BE}, openNeeds F l = some r → (∀ p ∈ l, p.den ρ = true) → ∀ p ∈ r, p.den ρ = true := by
  intro l
  induction l with
  | nil => intro r h _ p hp; cases h; cases hp
  | cons q l ih =>
    intro r h hl p hp
    have e := bsimp_den hF q
    have hl' : ∀ p ∈ l, p.den ρ = true := fun p hp => hl p (List.mem_cons_of_mem _ hp)
    unfold openNeeds at h
    split at h
    · exact ih h hl' p hp
    · cases h
    · rename_i q' r' h2 _ _
      cases h
      rcases List.mem_cons.1 hp with rfl | hp
      · rw [e]; exact hl _ (List.mem_cons_self ..)
      · exact ih h2 hl' p hp
    · cases h
end
end Go.SX

/- SyI2: the rules of the walk, in frames of functions and of rounds. -/
set_option linter.unusedSimpArgs false
set_option linter.unusedVariables false
set_option linter.unusedSectionVars false
noncomputable section
namespace Go.SX
open Go Go.RowKit

/-- every function is let in; the frame is a round's, or none's -/
def Wd (r : Option Nat) : Fence := { fn := fun _ => True, depth := none, alive := false, round := r }
theorem Wd_room (r : Option Nat) (n : Nat) : (Wd r).room n := fun _ h => by simp [Wd] at h
theorem callsIn_wd {r : Option Nat} {n : Nat} {P : Program} {f : FuncId} {args : Array Value} {w : World} {R : Ending → World → Prop} : CallsIn (Wd r) n P f args w R ↔ Calls P f args w R :=
  callsIn_wide (n := n) (P := P) (f := f) (args := args) (w := w) (R := R)
abbrev wpC (P : Program) (r : Option Nat) (c : Code) (Q : Exit → Act → World → Prop) (a : Act) (w : World) : Prop := c.wpIn (Wd r) 0 P Q a w
abbrev wpO (P : Program) (r : Option Nat) (o : Oper) (a : Act) (w : World) (K : Act → World → Prop) (Q : Exit → Act → World → Prop) : Prop := o.wpIn (Wd r) 0 P a w K Q
section
variable {P : Program} {r : Option Nat} {o : Oper} {a : Act} {w w' : World} {K : Act → World → Prop} {Q : Exit → Act → World → Prop}
theorem wpO_of (hd : ∀ c, o.op ≠ .defer c) (h : o.uponIn (Wd r) 0 P a K Q ((execOp a.eval o).run P w)) : wpO P r o a w K Q := by
  refine ⟨fun _ _ => trivial, ?_⟩
  rw [Oper.semAt_eq _ _ _ hd]; exact h
theorem wpO_value (hd : ∀ c, o.op ≠ .defer c) {u : Value} (h : (execOp a.eval o).run P w = .ok (.value u) w') (hK : K (a.put o.dst u) w') : wpO P r o a w K Q := wpO_of hd (by rw [h]; exact hK)
theorem wpO_skip (hd : ∀ c, o.op ≠ .defer c) (h : (execOp a.eval o).run P w = .ok .skip w') (hK : K (a.put o.dst undef) w') : wpO P r o a w K Q := wpO_of hd (by rw [h]; exact hK)
theorem wpO_enter (hd : ∀ c, o.op ≠ .defer c) {f : FuncId} {args : Array Value} (h : (execOp a.eval o).run P w = .ok (.enter f args) w') (hc : Calls P f args w' fun e w'' => match e with
    | .returned v => K (a.put o.dst v) w''
    | _ => False) : wpO P r o a w K Q := wpO_of hd (by
  rw [h]
  refine ⟨fun hx => by simp [Wd] at hx, callsIn_wd.2 (hc.mono fun e w'' he => ?_)⟩
  cases e <;> first | exact he | exact he.elim)
theorem wpO_round (hd : ∀ c, o.op ≠ .defer c) {l f : Nat} {tmps : Array Value} {assign body : Code} (h : (execOp a.eval o).run P w = .ok (.round l f tmps assign body) w') (hc : RoundIn (Wd r) 0 P l f tmps assign body w' fun e w'' => match e with
    | .returned v => K (a.put o.dst v) w''
    | _ => False) : wpO P r o a w K Q := wpO_of hd (by
  rw [h]
  refine ⟨fun hx => by simp [Wd] at hx, hc.mono fun e w'' he => ?_⟩
  cases e <;> first | exact he | exact he.elim)

/-! ### a region in the order of the text -/
def wpL (P : Program) (r : Option Nat) (ops : Array Oper) (Q : Exit → Act → World → Prop) : List Oper → Act → World → Prop
  | [], a, w => Q .normal a w
  | o :: rest, a, w => if Region.wanted o (yielded ops a.tmps) then wpO P r o a w (wpL P r ops Q rest) Q else wpL P r ops Q rest (a.put o.dst undef) w
theorem wpOpsIn_of_wpL {ops : Array Oper} (l : List Oper) : ∀ k, (∀ j, l[j]? = ops[k + j]?) → ∀ a w, wpL P r ops Q l a w → wpOpsIn (Wd r) 0 P ops Q (List.range' k l.length) a w := by
  induction l with
  | nil => intro k _ a w h; simpa [wpOpsIn, wpL] using h
  | cons o l ih =>
    intro k h a w hh
    have h0 : ops[k]? = some o := by simpa using (h 0).symm
    have ih' := ih (k + 1) (fun j => by have := h (j + 1); simpa [Nat.add_assoc, Nat.add_comm 1 j] using this)
    simp only [List.length_cons, List.range'_succ, wpOpsIn, h0]
    simp only [wpL] at hh
    split
    · rename_i hw; rw [if_pos hw] at hh; exact Oper.wpIn_mono (fun a w => ih' a w) hh
    · rename_i hw; rw [if_neg hw] at hh; exact ⟨fun _ _ => trivial, ih' _ _ hh⟩
theorem wpC_region {id : Nat} {ops : Array Oper} (h : wpL P r ops Q ops.toList a w) : wpC P r (.region id ops false) Q a w := by
  refine wpIn_region ?_
  rw [List.range_eq_range', ← Array.length_toList]
  exact wpOpsIn_of_wpL ops.toList 0 (by simp) a w h
theorem wpL_step {ops : Array Oper} {rest : List Oper} (h : ∀ K : Act → World → Prop, (∀ a w, wpL P r ops Q rest a w → K a w) → if Region.wanted o (yielded ops a.tmps) then wpO P r o a w K Q else K (a.put o.dst undef) w) : wpL P r ops Q (o :: rest) a w := by
  have := h _ (fun _ _ h => h)
  unfold wpL
  exact this
theorem stepR_scope {b : Frame} {k : List Item} {cs : List Frame} {c : Code} : step P (lone (b.atR a (.code (.scope c) :: k)) cs w) = .next (lone (b.atR a (.code c :: .inScope c :: k)) cs w) :=
  step_lone_go (by simp [stepG, stepG.exec, Frame.atR])
theorem stepR_inScope {b : Frame} {k : List Item} {cs : List Frame} {c : Code} : step P (lone (b.atR a (.inScope c :: k)) cs w) = .next (lone (b.atR a k) cs w) :=
  step_lone_go (by simp [stepG, stepG.exec, Frame.atR])
theorem wpC_scope {c : Code} (h : wpC P r c (Exit.noGoto Q) a w) : wpC P r (.scope c) Q a w := by
  intro b k cs hro hb hr
  have h0 : (lone (b.atR a (.code (.scope c) :: k)) cs w).fenced P (Wd r) := fenced_calm hb hr rfl
  obtain ⟨e, a₁, w₁, hq, harr⟩ := h b (.inScope c :: k) cs hro hb hr
  cases e with
  | normal => exact ⟨.normal, a₁, w₁, hq, .head h0 stepR_scope (StepsIn.trans harr (.one (fenced_calm hb hr rfl) stepR_inScope))⟩
  | exit id =>
    refine ⟨.exit id, a₁, w₁, hq, fun k' hk => .head h0 stepR_scope (harr.1 k' (by simp [exitTo, hk])), fun hx hk => ?_⟩
    obtain ⟨k₁, h1, h2⟩ := harr.2 hx (by simp [exitTo, hk])
    exact ⟨k₁, h1, .head h0 stepR_scope h2⟩
  | goto l => exact hq.elim
  | ret => exact ⟨_, a₁, w₁, hq, .of_steps (.one h0 stepR_scope) harr⟩
  | panic ch => exact ⟨_, a₁, w₁, hq, .of_steps (.one h0 stepR_scope) harr⟩
  | outgrown => exact ⟨_, a₁, w₁, hq, .of_steps (.one h0 stepR_scope) harr⟩
end
/-- the marks of loops over functions, at a function's end -/
theorem leaves_marks {P : Program} {fn : Func} {tmps : Array Value} {R : Ending → World → Prop} : ∀ (Ds : List Nat) (w : World), Ds.Nodup → (∀ D ∈ Ds, w.heap[D]? = some (.deferred (some []))) →
    (∀ w', w'.heap.size = w.heap.size → w'.os = w.os → w'.tape = w.tape → w'.output = w.output → (∀ k, k ∉ Ds → w'.heap[k]? = w.heap[k]?) → ∃ v, (results fn tmps).run P w' = .ok v w' ∧ R (.returned v) w') → LeavesInM (Wd none) 0 P fn tmps R (Ds.map markOf) .returning w
  | [], w, _, _, h => h w rfl rfl rfl rfl fun _ _ => rfl
  | D :: Ds, w, hn, hD, h => by
    obtain ⟨hn1, hn2⟩ := List.nodup_cons.1 hn
    have h0 := hD D (List.mem_cons_self ..)
    refine ⟨by simp, .inl ⟨D, w.putObj D (.deferred none), rfl, run_takeDeferred h0, ?_⟩⟩
    refine leaves_marks Ds _ hn2 (fun D' hD' => ?_) fun w' e1 e2 e3 e4 e5 => ?_
    · rw [World.putObj_heap_other (fun e : D' = D => hn1 (e ▸ hD'))]; exact hD D' (List.mem_cons_of_mem _ hD')
    · refine h w' (by rw [e1]; simp [World.putObj]) e2 e3 e4 fun k hk => ?_
      rw [e5 k (fun hm => hk (List.mem_cons_of_mem _ hm))]
      exact World.putObj_heap_other (fun e : k = D => hk (e ▸ List.mem_cons_self ..))
theorem Den.rebase {P : Program} {B B' : Bk} {w0 w1 : World} (hl : B.Le B') (hk : Kept B w0 w1) : ∀ (t : T) (L : List LCtx) (ρ : Env) {Φ : Lf → List LCtx → Env → Prop}, Den P B w0 t L ρ Φ → Den P B' w1 t L ρ Φ
  | .leaf l, L, ρ, _, h => h
  | .ite c t e, L, ρ, _, h => ⟨fun hc => Den.rebase hl hk t L ρ (h.1 hc), fun hc => Den.rebase hl hk e L ρ (h.2 hc)⟩
  | .need ps t, L, ρ, _, h => ⟨h.1, Den.rebase hl hk t L ρ h.2⟩
  | .call f args H n vks res Hn t, L, ρ, _, h => exD_mono vks (fun l ⟨h1, h2⟩ => ⟨by
      cases Hn with
      | nil => exact fun κ w hh hb hz => h1 κ w (hh.le hl) (hk.trans (hb.le hl)) (Nat.le_trans hl.top hz)
      | cons e Hn => exact fun κ w hh hb hz => h1 κ w (hh.le hl) (hk.trans (hb.le hl)) (Nat.le_trans hl.top hz), Den.rebase hl hk t L _ h2⟩) h
  | .loop vks n init body, L, ρ, _, ⟨I, μ, h1, h2⟩ => ⟨I, μ, h1, allD_mono vks (fun l g hI => Den.rebase hl hk body _ _ (g hI)) h2⟩
  | .cont k vals, L, ρ, _, h => h
  | .arr n ct nl t, L, ρ, _, h => Den.rebase hl hk t L _ h
  | .dead, _, _, _, h => h
end Go.SX

/- SyJ: regions that draw their order: what an operation does to the state; when two do not see each other. -/
set_option linter.unusedSimpArgs false
set_option linter.unusedVariables false
set_option linter.unusedSectionVars false
noncomputable section
namespace Go.SX
open Go Go.RowKit

def nmemC : List Nat → Nat → Bool
  | [], _ => false
  | x :: l, n => Nat.beq x n || nmemC l n
noncomputable def nmem (l : List Nat) (n : Nat) : Bool := List.rec (motive := fun _ => Bool) false (fun x _ ih => Bool.rec (motive := fun _ => Bool) ih true (Nat.beq x n)) l
theorem nmem_nil (n : Nat) : nmem [] n = false := rfl
theorem nmem_cons (x : Nat) (l : List Nat) (n : Nat) : nmem (x :: l) n = (Nat.beq x n || nmem l n) := by
  show Bool.rec (motive := fun _ => Bool) (nmem l n) true (Nat.beq x n) = _
  cases Nat.beq x n <;> rfl
theorem nmem_mem {l : List Nat} {n : Nat} (h : nmem l n = false) : n ∉ l := by
  induction l with
  | nil => simp
  | cons x l ih =>
    simp only [nmem_nil, nmem_cons, Bool.or_eq_false_iff] at h
    simp only [List.mem_cons, not_or]
    exact ⟨fun e => by subst e; simp at h, ih h.2⟩
def disj : List Nat → List Nat → Bool
  | [], _ => true
  | x :: l, r => !(nmem r x) && disj l r
theorem disj_spec {l r : List Nat} (h : disj l r = true) : ∀ x ∈ l, x ∉ r := by
  induction l with
  | nil => intro x hx; cases hx
  | cons y l ih =>
    simp only [disj, Bool.and_eq_true, Bool.not_eq_true'] at h
    intro x hx
    rcases List.mem_cons.1 hx with rfl | hx
    · exact nmem_mem h.1
    · exact ih h.2 x hx
theorem mem_of_nmem {l : List Nat} {n : Nat} (h : nmem l n = true) : n ∈ l := by
  induction l with
  | nil => cases h
  | cons x l ih =>
    simp only [nmem_nil, nmem_cons, Bool.or_eq_true, Nat.beq_eq] at h
    rcases h with rfl | h
    · exact List.mem_cons_self ..
    · exact List.mem_cons_of_mem _ (ih h)
theorem nmem_of_mem {l : List Nat} {n : Nat} (h : n ∈ l) : nmem l n = true := by
  cases hq : nmem l n
  · exact absurd h (nmem_mem hq)
  · rfl
/-- the part of a heap under some names, and the rest -/
def Heap.sift (f : Nat → Bool) : Heap → Heap
  | [] => []
  | .obj id o :: H => bif f id then .obj id o :: Heap.sift f H else Heap.sift f H
  | .arr j c p o :: H => bif f j then .arr j c p o :: Heap.sift f H else Heap.sift f H
theorem Heap.sift_obj (f : Nat → Bool) (H : Heap) (x : Nat) : (H.sift f).obj? x = bif f x then H.obj? x else none := by
  induction H with
  | nil => simp only [Heap.sift, Heap.obj?]; cases f x <;> rfl
  | cons e H ih =>
    cases e with
    | obj id o =>
      simp only [Heap.sift]
      cases hq : Nat.beq id x
      · cases hm : f id <;> simp only [cond_true, cond_false, Heap.obj?, hq] <;> exact ih
      · rw [Nat.beq_eq] at hq; subst hq
        cases hm : f id
        · simp only [cond_false]; rw [ih, hm]; rfl
        · simp only [cond_true, Heap.obj?]; simp
    | arr j c p o => simp only [Heap.sift]; cases hm : f j <;> simp only [cond_true, cond_false, Heap.obj?] <;> exact ih
theorem Heap.sift_arr (f : Nat → Bool) (H : Heap) (x : Nat) : (H.sift f).arr? x = bif f x then H.arr? x else none := by
  induction H with
  | nil => simp only [Heap.sift, Heap.arr?]; cases f x <;> rfl
  | cons e H ih =>
    cases e with
    | arr id c p o =>
      simp only [Heap.sift]
      cases hq : Nat.beq id x
      · cases hm : f id <;> simp only [cond_true, cond_false, Heap.arr?, hq] <;> exact ih
      · rw [Nat.beq_eq] at hq; subst hq
        cases hm : f id
        · simp only [cond_false]; rw [ih, hm]; rfl
        · simp only [cond_true, Heap.arr?]; simp
    | obj id o => simp only [Heap.sift]; cases hm : f id <;> simp only [cond_true, cond_false, Heap.arr?] <;> exact ih
abbrev Heap.only (H : Heap) (l : List Nat) : Heap := H.sift (nmem l)
abbrev Heap.drop (H : Heap) (l : List Nat) : Heap := H.sift fun x => !(nmem l x)
theorem app_obj (A B : Heap) (x : Nat) : Heap.obj? (A ++ B) x = (A.obj? x).or (B.obj? x) := by
  induction A with
  | nil => rfl
  | cons e A ih =>
    cases e with
    | obj i o => simp only [List.cons_append, Heap.obj?]; cases Nat.beq i x <;> simp [ih]
    | arr j c p o => simp only [List.cons_append, Heap.obj?]; exact ih
theorem app_arr (A B : Heap) (x : Nat) : Heap.arr? (A ++ B) x = (A.arr? x).or (B.arr? x) := by
  induction A with
  | nil => rfl
  | cons e A ih =>
    cases e with
    | arr j c p o => simp only [List.cons_append, Heap.arr?]; cases Nat.beq j x <;> simp [ih]
    | obj i o => simp only [List.cons_append, Heap.arr?]; exact ih

/-! ### what is done, in whatever order -/
structure DS where
  sl : Sl
  H : Heap
def putS (sl : Sl) (d : Option Nat) (v : SV) : Sl := match d with
  | some d => setSlot sl d v
  | none => sl
/-- one operation: where its value goes, the value, the slots and names that it sees, the names that it turns, the states before and behind -/
structure DI where
  d : Option Nat
  v : SV
  looks : List Nat
  rd : List Nat
  wr : List Nat
  st0 : St
  st1 : St
def DI.app (a : DI) (s : DS) : DS := ⟨putS s.sl a.d a.v, a.st1.H.only a.wr ++ s.H.drop a.wr⟩
theorem DI.app_obj (a : DI) (s : DS) (x : Nat) : (a.app s).H.obj? x = bif nmem a.wr x then a.st1.H.obj? x else s.H.obj? x := by
  simp only [DI.app, SX.app_obj, Heap.sift_obj]
  cases nmem a.wr x <;> simp
theorem DI.app_arr (a : DI) (s : DS) (x : Nat) : (a.app s).H.arr? x = bif nmem a.wr x then a.st1.H.arr? x else s.H.arr? x := by
  simp only [DI.app, SX.app_arr, Heap.sift_arr]
  cases nmem a.wr x <;> simp
/-- two states that cannot be told apart -/
structure DS.Same (s t : DS) : Prop where
  sl : s.sl = t.sl
  obj : ∀ x, s.H.obj? x = t.H.obj? x
  arr : ∀ x, s.H.arr? x = t.H.arr? x
theorem DS.Same.refl (s : DS) : s.Same s := ⟨rfl, fun _ => rfl, fun _ => rfl⟩
theorem DS.Same.trans {s t u : DS} (h : s.Same t) (h' : t.Same u) : s.Same u := ⟨h.sl.trans h'.sl, fun x => (h.obj x).trans (h'.obj x), fun x => (h.arr x).trans (h'.arr x)⟩
theorem DS.Same.app {s t : DS} (h : s.Same t) (a : DI) : (a.app s).Same (a.app t) :=
  ⟨by simp only [DI.app, h.sl], fun x => by simp only [DI.app_obj, h.obj], fun x => by simp only [DI.app_arr, h.arr]⟩
theorem HeapOk.congr {ρ : Env} {κ : Kap} {base : Bk} {H H' : Heap} {w : World} (h : HeapOk ρ κ base H w) (ho : ∀ x, H.obj? x = H'.obj? x) (ha : ∀ x, H.arr? x = H'.arr? x) : HeapOk ρ κ base H' w :=
  h.sub (fun x y g => by rw [ho]; exact g) (fun x y g => by rw [ha]; exact g)
/-- the names that an operation makes -/
def DI.rng (a : DI) : Nat → Bool := fun j => Nat.ble a.st0.n j && Nat.blt j a.st1.n
def Heap.has (p : Nat → Bool) : Heap → Bool
  | [] => false
  | .obj id o :: H => (p id || o.has p) || Heap.has p H
  | .arr j _ _ _ :: H => p j || Heap.has p H
theorem Heap.free_of_has {p : Nat → Bool} : ∀ {H : Heap}, H.has p = false → H.Free p
  | [], _ => ⟨fun id o h => (by cases h), fun j c q o h => (by cases h)⟩
  | .obj i o :: H, h => by
    simp only [Heap.has, Bool.or_eq_false_iff] at h
    have ih := Heap.free_of_has h.2
    refine ⟨fun id o' ho => ?_, fun j c q o' ha => ih.arr j c q o' ha⟩
    rw [obj?_cons] at ho
    split at ho
    · rename_i e; cases ho; subst e; exact h.1
    · exact ih.obj id o' ho
  | .arr i c0 p0 o0 :: H, h => by
    simp only [Heap.has, Bool.or_eq_false_iff] at h
    have ih := Heap.free_of_has h.2
    refine ⟨fun id o' ho => ih.obj id o' ho, fun j c q o' ha => ?_⟩
    rw [arr?_cons] at ha
    split at ha
    · rename_i e; subst e; exact h.1
    · exact ih.arr j c q o' ha
def dOk (d : Option Nat) (l : List Nat) (e : Option Nat) : Bool := match d with
  | none => true
  | some d => !(nmem l d) && (match e with
    | none => true
    | some e => !(Nat.beq d e))
def hasOk (a b : DI) : Bool := Nat.beq a.st0.n a.st1.n || !(b.v.has a.rng || (b.st1.H.only b.wr).has a.rng)
/-- neither is seen by the other -/
def indep (a b : DI) : Bool :=
  (dOk a.d b.looks b.d && dOk b.d a.looks none) && ((disj a.wr (b.rd ++ b.wr) && disj b.wr a.rd) && (hasOk a b && hasOk b a))
theorem app_comm {a b : DI} (h : indep a b = true) (s : DS) : (a.app (b.app s)).Same (b.app (a.app s)) := by
  simp only [indep, Bool.and_eq_true] at h
  obtain ⟨⟨h1, _⟩, ⟨h3, _⟩, _⟩ := h
  have hx : ∀ x, nmem a.wr x = true → nmem b.wr x = false := by
    intro x ha
    cases hb : nmem b.wr x
    · rfl
    · exact absurd (List.mem_append_right _ (mem_of_nmem hb)) (disj_spec h3 x (mem_of_nmem ha))
  refine ⟨?_, fun x => ?_, fun x => ?_⟩
  · simp only [DI.app]
    cases ha : a.d with
    | none => rfl
    | some d =>
      cases hb : b.d with
      | none => rfl
      | some e =>
        simp only [dOk, ha, hb, Bool.and_eq_true, Bool.not_eq_true'] at h1
        have : e ≠ d := fun e => by subst e; simp at h1
        exact setSlot_comm _ this _ _
  · simp only [DI.app_obj]
    cases ha : nmem a.wr x
    · rfl
    · rw [hx x ha]; rfl
  · simp only [DI.app_arr]
    cases ha : nmem a.wr x
    · rfl
    · rw [hx x ha]; rfl

/-! ### the order's edges -/
/-- an edge that binds every order -/
def preds (o : Oper) : List Nat := o.after.toList.filterMap fun e => bif Region.binds .any e then some e.on else none
inductive Anc (ops : List Oper) : Nat → Nat → Prop where
  | one {i k : Nat} {o : Oper} : ops[k]? = some o → i ∈ preds o → Anc ops i k
  | step {i j k : Nat} {o : Oper} : Anc ops i j → ops[k]? = some o → j ∈ preds o → Anc ops i k
def maskOf (acc : List Nat) : List Nat → Nat
  | [] => 0
  | j :: l => (2 ^ j ||| acc.getD j 0) ||| maskOf acc l
def masks : List Oper → List Nat → List Nat
  | [], acc => acc
  | o :: l, acc => masks l (acc ++ [maskOf acc (preds o)])
theorem maskOf_spec {ops : List Oper} {acc : List Nat} (hacc : ∀ k i, (acc.getD k 0).testBit i = true → Anc ops i k) {k : Nat} {o : Oper} (hk : ops[k]? = some o) : ∀ (l : List Nat), (∀ j ∈ l, j ∈ preds o) → ∀ i, (maskOf acc l).testBit i = true → Anc ops i k
  | [], _, i, h => by simp [maskOf] at h
  | j :: l, hl, i, h => by
    simp only [maskOf, Nat.testBit_or, Bool.or_eq_true] at h
    rcases h with (h | h) | h
    · rw [Nat.testBit_two_pow] at h
      simp at h; subst h
      exact .one hk (hl _ (List.mem_cons_self ..))
    · exact .step (hacc j i h) hk (hl _ (List.mem_cons_self ..))
    · exact maskOf_spec hacc hk l (fun j hj => hl j (List.mem_cons_of_mem _ hj)) i h
theorem masks_spec {ops : List Oper} : ∀ (l : List Oper) (acc : List Nat), (∀ j, l[j]? = ops[acc.length + j]?) → (∀ k i, (acc.getD k 0).testBit i = true → Anc ops i k) → ∀ k i, ((masks l acc).getD k 0).testBit i = true → Anc ops i k
  | [], _, _, hacc => hacc
  | o :: l, acc, hl, hacc => by
    refine masks_spec l _ (fun j => ?_) ?_
    · have := hl (j + 1)
      simp only [List.getElem?_cons_succ] at this
      rw [this]; simp only [List.length_append, List.length_singleton]; congr 1; omega
    · intro k i h
      rw [List.getD_eq_getElem?_getD, List.getElem?_append] at h
      split at h
      · exact hacc k i (by rw [List.getD_eq_getElem?_getD]; exact h)
      · rename_i hk
        have hke : k = acc.length ∨ acc.length < k := by omega
        rcases hke with rfl | hke
        · simp at h
          exact maskOf_spec hacc (by have := hl 0; simpa using this.symm) _ (fun j hj => hj) i h
        · rw [List.getElem?_eq_none (by simp; omega)] at h; simp at h
/-- what has been done is closed under what comes before -/
def Closed (ops : List Oper) (S : Nat → Prop) : Prop := ∀ (k : Nat) o, ops[k]? = some o → S k → ∀ i ∈ preds o, S i
theorem Closed.anc {ops : List Oper} {S : Nat → Prop} (h : Closed ops S) {i k : Nat} (ha : Anc ops i k) : S k → S i := by
  induction ha with
  | one hk hi => exact fun hs => h _ _ hk hs _ hi
  | step _ hk hj ih => exact fun hs => ih (h _ _ hk hs _ hj)
theorem anc_ready {ops : List Oper} {S : Nat → Prop} (h : Closed ops S) {i k : Nat} (ha : Anc ops i k) (hr : ∀ o, ops[k]? = some o → ∀ j ∈ preds o, S j) : S i := by
  cases ha with
  | one hk hi => exact hr _ hk _ hi
  | step ha hk hj => exact h.anc ha (hr _ hk _ hj)

/-! ### all pairs -/
def pairOk (m : List Nat) (i : Nat) (a : DI) : Nat → List DI → Bool
  | _, [] => true
  | j, b :: l => (((m.getD j 0).testBit i || indep a b) && hasOk b a) && pairOk m i a (j + 1) l
def allOk (m : List Nat) : Nat → List DI → Bool
  | _, [] => true
  | i, a :: l => pairOk m i a (i + 1) l && allOk m (i + 1) l
theorem pairOk_spec {m : List Nat} {i : Nat} {a : DI} : ∀ (l : List DI) (j : Nat), pairOk m i a j l = true → ∀ (q : Nat) b, l[q]? = some b → ((m.getD (j + q) 0).testBit i = true ∨ indep a b = true) ∧ hasOk b a = true
  | [], _, _, q, b, h => by simp at h
  | c :: l, j, h, 0, b, hb => by
    simp at hb; subst hb
    simp only [pairOk, Bool.and_eq_true, Bool.or_eq_true] at h
    exact h.1
  | c :: l, j, h, q + 1, b, hb => by
    simp only [pairOk, Bool.and_eq_true] at h
    have := pairOk_spec l (j + 1) h.2 q b (by simpa using hb)
    rw [show j + 1 + q = j + (q + 1) by omega] at this
    exact this
theorem allOk_spec {m : List Nat} : ∀ (l : List DI) (i : Nat), allOk m i l = true → ∀ (p q : Nat) a b, p < q → l[p]? = some a → l[q]? = some b → ((m.getD (i + q) 0).testBit (i + p) = true ∨ indep a b = true) ∧ hasOk b a = true
  | [], _, _, p, q, a, b, _, ha, _ => by simp at ha
  | c :: l, i, h, 0, q, a, b, hpq, ha, hb => by
    simp at ha; subst ha
    simp only [allOk, Bool.and_eq_true] at h
    obtain ⟨q, rfl⟩ : ∃ r, q = r + 1 := ⟨q - 1, by omega⟩
    have := pairOk_spec l (i + 1) h.1 q b (by simpa using hb)
    rw [show i + 1 + q = i + (q + 1) by omega] at this
    simpa using this
  | c :: l, i, h, p + 1, 0, a, b, hpq, _, _ => by omega
  | c :: l, i, h, p + 1, q + 1, a, b, hpq, ha, hb => by
    simp only [allOk, Bool.and_eq_true] at h
    have := allOk_spec l (i + 1) h.2 p q a b (by omega) (by simpa using ha) (by simpa using hb)
    rw [show i + 1 + q = i + (q + 1) by omega, show i + 1 + p = i + (p + 1) by omega] at this
    exact this
theorem indep_symm {a b : DI} (h : indep a b = true) : indep b a = true := by
  simp only [indep, Bool.and_eq_true] at h ⊢
  obtain ⟨⟨h1, h2⟩, ⟨h3, h4⟩, h5, h6⟩ := h
  refine ⟨⟨?_, ?_⟩, ⟨?_, ?_⟩, h6, h5⟩
  · cases hb : b.d with
    | none => rfl
    | some e =>
      cases ha : a.d with
      | none => simp only [dOk, hb, Bool.and_eq_true] at h2 ⊢; exact ⟨h2.1, trivial⟩
      | some d =>
        simp only [dOk, ha, hb, Bool.and_eq_true, Bool.not_eq_true'] at h1 h2 ⊢
        refine ⟨h2.1, ?_⟩
        cases hq : Nat.beq e d
        · rfl
        · rw [Nat.beq_eq] at hq; subst hq; simp at h1
  · cases ha : a.d with
    | none => rfl
    | some d => simp only [dOk, ha, Bool.and_eq_true] at h1 ⊢; exact ⟨h1.1, trivial⟩
  · have d1 := disj_spec h3
    have d2 := disj_spec h4
    have mk : ∀ (l r : List Nat), (∀ x ∈ l, x ∉ r) → disj l r = true := by
      intro l
      induction l with
      | nil => intro r _; rfl
      | cons x l ih =>
        intro r hx
        simp only [disj, Bool.and_eq_true, Bool.not_eq_true']
        refine ⟨?_, ih r fun y hy => hx y (List.mem_cons_of_mem _ hy)⟩
        have hn := hx x (List.mem_cons_self ..)
        cases hq : nmem r x
        · rfl
        · exfalso
          apply hn
          clear ih hn hx
          induction r with
          | nil => cases hq
          | cons y r ih2 =>
            simp only [nmem_nil, nmem_cons, Bool.or_eq_true, Nat.beq_eq] at hq
            rcases hq with rfl | hq
            · exact List.mem_cons_self ..
            · exact List.mem_cons_of_mem _ (ih2 hq)
    refine mk _ _ fun x hx hr => ?_
    rcases List.mem_append.1 hr with hr | hr
    · exact d2 x hx hr
    · exact d1 x hr (List.mem_append_right _ hx)
  · have d1 := disj_spec h3
    have mk : ∀ (l r : List Nat), (∀ x ∈ l, x ∉ r) → disj l r = true := by
      intro l
      induction l with
      | nil => intro r _; rfl
      | cons x l ih =>
        intro r hx
        simp only [disj, Bool.and_eq_true, Bool.not_eq_true']
        refine ⟨?_, ih r fun y hy => hx y (List.mem_cons_of_mem _ hy)⟩
        have hn := hx x (List.mem_cons_self ..)
        cases hq : nmem r x
        · rfl
        · exfalso
          apply hn
          clear ih hn hx
          induction r with
          | nil => cases hq
          | cons y r ih2 =>
            simp only [nmem_nil, nmem_cons, Bool.or_eq_true, Nat.beq_eq] at hq
            rcases hq with rfl | hq
            · exact List.mem_cons_self ..
            · exact List.mem_cons_of_mem _ (ih2 hq)
    exact mk _ _ fun x hx hr => d1 x hx (List.mem_append_left _ hr)

/-! ### the state behind a set of operations -/
def foldS (S : Nat → Bool) : Nat → List DI → DS → DS
  | _, [], s => s
  | i, a :: l, s => foldS S (i + 1) l (bif S i then a.app s else s)
theorem foldS_same (S : Nat → Bool) : ∀ (l : List DI) (i : Nat) (s t : DS), s.Same t → (foldS S i l s).Same (foldS S i l t)
  | [], _, _, _, h => h
  | a :: l, i, s, t, h => foldS_same S l (i + 1) _ _ (by cases S i <;> first | exact h | exact h.app _)
/-- one operation moves behind those that it does not see -/
theorem foldS_move (S : Nat → Bool) (a : DI) : ∀ (l : List DI) (i : Nat) (s : DS), (∀ (q : Nat) b, l[q]? = some b → S (i + q) = true → indep a b = true) →
    (foldS S i l (a.app s)).Same (a.app (foldS S i l s))
  | [], _, s, _ => DS.Same.refl _
  | b :: l, i, s, h => by
    simp only [foldS]
    have h' : ∀ (q : Nat) c, l[q]? = some c → S (i + 1 + q) = true → indep a c = true := fun q c hc hs => h (q + 1) c (by simpa using hc) (by rw [← hs]; congr 1; omega)
    cases hb : S i
    · exact foldS_move S a l (i + 1) s h'
    · simp only [cond_true]
      have hi := h 0 b rfl (by simpa using hb)
      refine (foldS_same S l (i + 1) _ _ (app_comm (indep_symm hi) s)).trans ?_
      exact foldS_move S a l (i + 1) _ h'
theorem foldS_add {S S' : Nat → Bool} {j : Nat} (hj : S j = false) (hj' : S' j = true) (he : ∀ i, i ≠ j → S' i = S i) : ∀ (l : List DI) (i : Nat) (s : DS) (a : DI), i ≤ j → l[j - i]? = some a →
    (∀ (q : Nat) b, l[q]? = some b → j < i + q → S (i + q) = true → indep a b = true) → (foldS S' i l s).Same (a.app (foldS S i l s))
  | [], _, _, _, _, ha, _ => by simp at ha
  | b :: l, i, s, a, hij, ha, hind => by
    simp only [foldS]
    by_cases e : i = j
    · subst e
      simp at ha; subst ha
      rw [hj, hj']; simp only [cond_true, cond_false]
      have hS : ∀ (l : List DI) (k : Nat) (s : DS), i < k → foldS S' k l s = foldS S k l s := by
        intro l
        induction l with
        | nil => intro k s _; rfl
        | cons c l ih => intro k s hk; simp only [foldS, he k (by omega)]; exact ih (k + 1) _ (by omega)
      rw [hS l (i + 1) _ (by omega)]
      exact foldS_move S b l (i + 1) s fun q c hc hs => hind (q + 1) c (by simpa using hc) (by omega) (by rw [← hs]; congr 1; omega)
    · rw [he i e]
      refine foldS_add hj hj' he l (i + 1) _ a (by omega) ?_ ?_
      · obtain ⟨m, hm⟩ : ∃ m, j - i = m + 1 := ⟨j - i - 1, by omega⟩
        rw [hm] at ha; simp at ha
        rw [show j - (i + 1) = m by omega]; exact ha
      · intro q c hc hlt hs
        exact hind (q + 1) c (by simpa using hc) (by omega) (by rw [← hs]; congr 1; omega)
end Go.SX

/- SyK: every order of a region comes to the same. -/
set_option linter.unusedSimpArgs false
set_option linter.unusedVariables false
set_option linter.unusedSectionVars false
noncomputable section
namespace Go.SX
open Go Go.RowKit

/-! ### a part of the heap, on its own -/
/-- a block of the heap's own -/
def OwnB (ρ : Env) (κ : Kap) (H : Heap) (k : Nat) : Prop := (∃ id o, H.obj? id = some o ∧ κ.o id = k) ∨ (∃ j c p E, H.arr? j = some (c, p, some E) ∧ ρ.nl j = false ∧ κ.ab j = k)
theorem HeapOk.up {ρ : Env} {κ : Kap} {B B' : Bk} {H : Heap} {w : World} (h : HeapOk ρ κ B H w) (hP : B'.P = B.P) (hb : B'.b = B.b) (hk : ∀ k, OwnB ρ κ H k → ¬ B.keep k → ¬ B'.keep k) : HeapOk ρ κ B' H w where
  obj id o ho := by
    obtain ⟨h1, h2, h3⟩ := h.obj id o ho
    rw [hP, hb]; exact ⟨h1, h2, hk _ (.inl ⟨id, o, ho, rfl⟩) h3⟩
  inj := h.inj
  arr := h.arr
  sep := h.sep
  row j c pat E ha := by
    obtain ⟨h1, h2, h3⟩ := h.row j c pat E ha
    rw [hb]; exact ⟨h1, h2, fun hn => hk _ (.inr ⟨j, c, pat, E, ha, hn, rfl⟩) (h3 hn)⟩
  rsep := h.rsep
theorem HeapOk.rowge {ρ : Env} {κ : Kap} {B : Bk} {H : Heap} {w : World} (h : HeapOk ρ κ B H w) {j c : Nat} {p : List CK} {E : TypeId} (ha : H.arr? j = some (c, p, some E)) (hn : ρ.nl j = false) : B.b ≤ κ.ab j := by
  obtain ⟨_, hr, _⟩ := h.row j c p E ha
  exact (hr.lt (κ.ab j) (by simp [rowVal, hn, Value.ownBlock])).1
theorem HeapOk.nlf {ρ : Env} {κ : Kap} {B : Bk} {H : Heap} {w : World} (h : HeapOk ρ κ B H w) {j c : Nat} {p : List CK} {o : Option TypeId} (ha : H.arr? j = some (c, p, o)) (hex : (ρ.a c ≠ [] ∧ p ≠ []) ∨ (o.isSome = true ∧ ρ.nl j = false)) : ρ.nl j = false := by
  rcases hex with ⟨hne, _⟩ | ⟨_, hx⟩
  · cases hx : ρ.nl j
    · rfl
    · exact absurd ((h.arr j c p _ ha).2 hx) hne
  · exact hx
/-- what was run on a part, put back into the whole -/
theorem HeapOk.merge {ρ : Env} {κ : Kap} {B B' : Bk} {H Hs Ho H2 : Heap} {w w' : World} {rd wr : List Nat} (h : HeapOk ρ κ B H w) (ho : HeapOk ρ κ B' Ho w') (hl : B.Le B')
    (hsame : ∀ k, k < w.heap.size → (k < B.b ∨ B'.keep k) → w'.heap[k]? = w.heap[k]?)
    (hbox : ∀ k, B.b ≤ k → k < w.heap.size → ¬ B'.keep k → OwnB ρ κ Hs k)
    (hrd : (∀ x, Hs.obj? x = bif nmem rd x then H.obj? x else none) ∧ ∀ x, Hs.arr? x = bif nmem rd x then H.arr? x else none)
    (hwr : ∀ x, nmem wr x = false → Ho.obj? x = Hs.obj? x ∧ Ho.arr? x = Hs.arr? x)
    (hrows : ∀ j c p o, nmem wr j = true → Ho.arr? j = some (c, p, o) → o.isSome = true)
    (hm : (∀ x, H2.obj? x = bif nmem wr x then Ho.obj? x else H.obj? x) ∧ ∀ x, H2.arr? x = bif nmem wr x then Ho.arr? x else H.arr? x) : HeapOk ρ κ B H2 w' := by
  have hi : HeapOk ρ κ B Ho w' := ho.le hl
  -- what lies outside, and stands
  have outO : ∀ id o, nmem rd id = false → H.obj? id = some o → B'.keep (κ.o id) := by
    intro id o hn hid
    obtain ⟨_, h2, _⟩ := h.obj id o hid
    refine Classical.byContradiction fun hc => ?_
    rcases hbox _ h2 (h.lt hid) hc with ⟨id', o', g1, g2⟩ | ⟨j, c, p, E, g1, g2, g3⟩
    · rw [hrd.1] at g1
      cases hq : nmem rd id'
      · rw [hq] at g1; cases g1
      · rw [hq] at g1
        have := h.inj _ _ _ _ g1 hid g2
        subst this; rw [hq] at hn; cases hn
    · rw [hrd.2] at g1
      cases hq : nmem rd j
      · rw [hq] at g1; cases g1
      · rw [hq] at g1
        exact h.sep j c p _ id o g1 hid (.inr ⟨rfl, g2⟩) g3
  have outA : ∀ j c p o, nmem rd j = false → H.arr? j = some (c, p, o) → (ρ.a c ≠ [] ∧ p ≠ []) ∨ (o.isSome = true ∧ ρ.nl j = false) → κ.ab j < B.b ∨ B'.keep (κ.ab j) := by
    intro j c p o hn ha hex
    have hlt := h.arrlt ha hex
    refine Classical.byContradiction fun hc => ?_
    simp only [not_or, Nat.not_lt] at hc
    rcases hbox _ hc.1 hlt hc.2 with ⟨id', o', g1, g2⟩ | ⟨j', c', p', E, g1, g2, g3⟩
    · rw [hrd.1] at g1
      cases hq : nmem rd id'
      · rw [hq] at g1; cases g1
      · rw [hq] at g1
        exact h.sep j c p o id' o' ha g1 hex g2.symm
    · rw [hrd.2] at g1
      cases hq : nmem rd j'
      · rw [hq] at g1; cases g1
      · rw [hq] at g1
        exact h.rsep j' c' p' E j c p o g1 ha (fun e => by subst e; rw [hq] at hn; cases hn) g2 hex g3
  have hout : HeapOk ρ κ B (H.drop rd) w' := by
    refine HeapOk.stands (w := w) (h.sub (fun x y g => ?_) (fun x y g => ?_)) (fun id o g => ?_) (fun j c p o g hex => ?_)
    · rw [Heap.sift_obj] at g; cases hq : nmem rd x <;> rw [hq] at g <;> first | exact g | cases g
    · rw [Heap.sift_arr] at g; cases hq : nmem rd x <;> rw [hq] at g <;> first | exact g | cases g
    · rw [Heap.sift_obj] at g
      cases hq : nmem rd id
      · rw [hq] at g; exact hsame _ (h.lt g) (.inr (outO id o hq g))
      · rw [hq] at g; cases g
    · rw [Heap.sift_arr] at g
      cases hq : nmem rd j
      · rw [hq] at g; exact hsame _ (h.arrlt g hex) (outA j c p o hq g hex)
      · rw [hq] at g; cases g
  -- whoever stands in the whole stands in the part, or outside
  have sO : ∀ id o, H2.obj? id = some o → Ho.obj? id = some o ∨ (nmem rd id = false ∧ H.obj? id = some o ∧ (H.drop rd).obj? id = some o) := by
    intro id o g
    rw [hm.1] at g
    cases hq : nmem wr id
    · rw [hq] at g; simp only [cond_false] at g
      cases hr : nmem rd id
      · exact .inr ⟨rfl, g, by rw [Heap.sift_obj, hr]; exact g⟩
      · left; rw [(hwr id hq).1, hrd.1, hr]; exact g
    · rw [hq] at g; exact .inl g
  have sA : ∀ j c p o, H2.arr? j = some (c, p, o) → (Ho.arr? j = some (c, p, o) ∧ (o.isSome = true ∨ (nmem rd j = true ∧ H.arr? j = some (c, p, o)))) ∨ (nmem rd j = false ∧ H.arr? j = some (c, p, o) ∧ (H.drop rd).arr? j = some (c, p, o)) := by
    intro j c p o g
    rw [hm.2] at g
    cases hq : nmem wr j
    · rw [hq] at g; simp only [cond_false] at g
      cases hr : nmem rd j
      · exact .inr ⟨rfl, g, by rw [Heap.sift_arr, hr]; exact g⟩
      · left; exact ⟨by rw [(hwr j hq).2, hrd.2, hr]; exact g, .inr ⟨rfl, g⟩⟩
    · rw [hq] at g; exact .inl ⟨g, .inl (hrows j c p o hq g)⟩
  constructor
  · intro id o g
    rcases sO id o g with g | ⟨_, _, g⟩
    · exact hi.obj id o g
    · exact hout.obj id o g
  · intro id o id' o' g g' e
    rcases sO id o g with g | ⟨r, g, _⟩ <;> rcases sO id' o' g' with g' | ⟨r', g', _⟩
    · exact hi.inj _ _ _ _ g g' e
    · exact absurd (outO id' o' r' g') (e ▸ (ho.obj id o g).2.2)
    · exact absurd (outO id o r g) (e ▸ (ho.obj id' o' g').2.2)
    · exact h.inj _ _ _ _ g g' e
  · intro j c p o g
    rcases sA j c p o g with ⟨g, _⟩ | ⟨_, _, g⟩
    · exact hi.arr j c p o g
    · exact hout.arr j c p o g
  · intro j c p o id ob g g' hex
    rcases sA j c p o g with ⟨g, gr⟩ | ⟨r, g, _⟩ <;> rcases sO id ob g' with g' | ⟨r', g', _⟩
    · exact hi.sep j c p o id ob g g' hex
    · rcases gr with gr | ⟨_, gr⟩
      · obtain ⟨E, rfl⟩ := Option.isSome_iff_exists.1 gr
        exact fun e => (ho.row j c p E g).2.2 (ho.nlf g hex) (e ▸ outO id ob r' g')
      · exact h.sep j c p o id ob gr g' hex
    · intro e
      obtain ⟨_, k1, k2⟩ := ho.obj id ob g'
      rcases outA j c p o r g hex with k | k
      · rw [e] at k; rw [hl.b] at k1; omega
      · exact k2 (e ▸ k)
    · exact h.sep j c p o id ob g g' hex
  · intro j c p E g
    rcases sA j c p _ g with ⟨g, _⟩ | ⟨_, _, g⟩
    · exact hi.row j c p E g
    · exact hout.row j c p E g
  · intro j c p E j' c' p' o' g g' hne hn hex
    rcases sA j c p _ g with ⟨g, gr⟩ | ⟨r, g, _⟩ <;> rcases sA j' c' p' o' g' with ⟨g', gr'⟩ | ⟨r', g', _⟩
    · exact hi.rsep j c p E j' c' p' o' g g' hne hn hex
    · intro e
      have k1 := ho.rowge g hn
      have k2 := (ho.row j c p E g).2.2 hn
      rcases outA j' c' p' o' r' g' hex with k | k
      · rw [← e] at k; rw [hl.b] at k1; omega
      · exact k2 (e ▸ k)
    · rcases gr' with gr' | ⟨_, gr'⟩
      · obtain ⟨E', rfl⟩ := Option.isSome_iff_exists.1 gr'
        intro e
        have k1 := h.rowge g hn
        have k2 := (ho.row j' c' p' E' g').2.2 (ho.nlf g' hex)
        rcases outA j c p _ r g (.inr ⟨rfl, hn⟩) with k | k
        · omega
        · exact k2 (e ▸ k)
      · exact h.rsep j c p E j' c' p' o' g gr' hne hn hex
    · exact h.rsep j c p E j' c' p' o' g g' hne hn hex
/-- all that is not the part's own stands still -/
def Bk.box (base : Bk) (ρ : Env) (κ : Kap) (Hs : Heap) (w : World) (Ds : List Nat) (hz : base.top ≤ w.heap.size) : Bk :=
  ⟨base.P, base.b, w.heap.size, fun k => base.keep k ∨ (base.b ≤ k ∧ k < w.heap.size ∧ k ∉ Ds ∧ ¬ OwnB ρ κ Hs k), Nat.le_trans base.le hz, fun k hk => hk.elim (fun h => Nat.lt_of_lt_of_le (base.lt k h) hz) fun h => h.2.1⟩
/-- the slots that are looked at -/
def maskSC (l : List Nat) (sl : Sl) : Sl := match l with
  | [] => .nil
  | t :: r => match slot sl t with
    | some v => insSlot 40 (maskSC r sl) t v
    | none => maskSC r sl
noncomputable def maskS (l : List Nat) (sl : Sl) : Sl := List.rec (motive := fun _ => Sl) .nil (fun t _ ih => Option.rec (motive := fun _ => Sl) ih (fun v => insSlot 40 ih t v) (slot sl t)) l
theorem maskS_cons (t : Nat) (r : List Nat) (sl : Sl) : maskS (t :: r) sl = match slot sl t with
    | some v => insSlot 40 (maskS r sl) t v
    | none => maskS r sl := by
  show Option.rec (motive := fun _ => Sl) (maskS r sl) (fun v => insSlot 40 (maskS r sl) t v) (slot sl t) = _
  cases slot sl t <;> rfl
theorem maskS_get {sl : Sl} : ∀ {l : List Nat} {t : Nat} {s : SV}, slot (maskS l sl) t = some s → (t ∈ l ∧ slot sl t = some s) ∨ (s = .any ∧ ∃ d x, t ≤ d ∧ d ∈ l ∧ slot sl d = some x)
  | [], t, s, h => by have h : slot .nil t = some s := h; rw [slot_nil] at h; cases h
  | u :: r, t, s, h => by
    have ih : ∀ {t s}, slot (maskS r sl) t = some s → (t ∈ u :: r ∧ slot sl t = some s) ∨ (s = .any ∧ ∃ d x, t ≤ d ∧ d ∈ u :: r ∧ slot sl d = some x) := fun h => by
      rcases maskS_get h with ⟨h1, h2⟩ | ⟨h1, d, x, h2, h3, h4⟩
      · exact .inl ⟨List.mem_cons_of_mem _ h1, h2⟩
      · exact .inr ⟨h1, d, x, h2, List.mem_cons_of_mem _ h3, h4⟩
    rw [maskS_cons] at h
    split at h
    · rename_i v hv
      rcases insSlot_get _ _ _ _ _ _ h with h | ⟨h1, h2⟩ | ⟨h1, h2⟩
      · exact ih h
      · subst h1; subst h2; exact .inl ⟨List.mem_cons_self .., hv⟩
      · exact .inr ⟨h2, u, v, h1, List.mem_cons_self .., hv⟩
    · exact ih h
theorem SlotsOk.mask {ρ : Env} {κ : Kap} {sl sl' : Sl} {a : Array Value} {l : List Nat} (h : SlotsOk ρ κ sl' a) (hs : ∀ t ∈ l, slot sl' t = slot sl t) : SlotsOk ρ κ (maskS l sl) a := by
  refine ⟨fun t s ht => ?_, fun t s ht ha => ?_⟩
  · rcases maskS_get ht with ⟨h1, h2⟩ | ⟨_, d, x, h1, h2, h3⟩
    · exact h.1 t s ((hs t h1).trans h2)
    · exact Nat.lt_of_le_of_lt h1 (h.1 d x ((hs d h2).trans h3))
  · rcases maskS_get ht with ⟨h1, h2⟩ | ⟨h1, _⟩
    · exact h.2 t s ((hs t h1).trans h2) ha
    · subst h1; cases ha
theorem markOf_inj : ∀ {l r : List Nat}, l.map markOf = r.map markOf → l = r
  | [], [], _ => rfl
  | [], _ :: _, h => by cases h
  | _ :: _, [], h => by cases h
  | x :: l, y :: r, h => by
    simp only [List.map_cons, List.cons.injEq] at h
    have : x = y := by have := h.1; simp only [markOf, Deferred.mk.injEq] at this; simpa using this.1
    rw [this, markOf_inj h.2]
/-- WHAT AN OPERATION DOES, WHEREVER IN THE ORDER IT STANDS. -/
def VOp (P : Program) (base : Bk) (w0 : World) (ρ : Env) (ops : Array Oper) (o : Oper) (di : DI) : Prop :=
  ∀ (κ : Kap) (a : Act) (w : World) (B : Bk), base.Le B → Kept base w0 w → Sim B w ρ κ di.st0 a w → ∀ (K : Act → World → Prop) (Q : Exit → Act → World → Prop),
    (∀ κ' w', KBut di.rng κ κ' → Sim B w ρ κ' di.st1 a w' → K (a.put o.dst (di.v.den ρ κ')) w') →
    if Region.wanted o (yielded ops a.tmps) then wpO P (di.st0.rnd.map κ.o) o a w K Q else K (a.put o.dst undef) w
def runD (dis : List DI) (s : DS) : DS := dis.foldl (fun s a => a.app s) s
theorem foldS_take : ∀ (l : List DI) (i q : Nat) (s : DS), foldS (fun k => Nat.blt k (i + q)) i l s = runD (l.take q) s
  | [], _, _, _ => by simp [foldS, runD]
  | a :: l, i, 0, s => by
    have h0 : Nat.blt i (i + 0) = false := by rw [Bool.eq_false_iff]; simp [Nat.blt_eq]
    simp only [foldS, h0, cond_false]
    have : ∀ (l : List DI) (k : Nat) (s : DS), i ≤ k → foldS (fun x => Nat.blt x (i + 0)) k l s = s := by
      intro l
      induction l with
      | nil => intro k s _; rfl
      | cons b l ih =>
        intro k s hk
        have h1 : Nat.blt k (i + 0) = false := by rw [Bool.eq_false_iff]; simp [Nat.blt_eq]; omega
        simp only [foldS, h1, cond_false]; exact ih (k + 1) s (by omega)
    rw [this l (i + 1) s (by omega)]; rfl
  | a :: l, i, q + 1, s => by
    have h1 : Nat.blt i (i + (q + 1)) = true := by rw [Nat.blt_eq]; omega
    simp only [foldS, h1, cond_true]
    have := foldS_take l (i + 1) q (a.app s)
    rw [show i + 1 + q = i + (q + 1) by omega] at this
    rw [this]; rfl
/-- slots at the same places -/
def Shape (sl sl' : Sl) : Prop := ∀ t, (slot sl t).isSome = (slot sl' t).isSome
theorem putS_slot {sl sl' : Sl} {t : Nat} (hl : Shape sl sl') (h : slot sl t = slot sl' t) (d : Option Nat) (v : SV) : slot (putS sl d v) t = slot (putS sl' d v) t := by
  cases d with
  | none => exact h
  | some d =>
    simp only [putS, slot_setSlot] at h ⊢
    split
    · rename_i e; subst e; rw [h]
    · exact h
theorem putS_shape (sl : Sl) (d : Option Nat) (v : SV) (t : Nat) : (slot (putS sl d v) t).isSome = (slot sl t).isSome := by
  cases d with
  | none => rfl
  | some d =>
    simp only [putS, slot_setSlot]
    split
    · rename_i e; subst e; simp
    · rfl

/-- the heaps say the same of some names -/
def SameAt (H H' : Heap) (l : List Nat) : Prop := ∀ x ∈ l, H.obj? x = H'.obj? x ∧ H.arr? x = H'.arr? x
/-- what an operation sees is the same behind two sets that part only in what it does not see -/
theorem foldS_look {S S' : Nat → Bool} {looks rd : List Nat} : ∀ (l : List DI) (i : Nat) (s s' : DS), Shape s.sl s'.sl → (∀ t ∈ looks, slot s.sl t = slot s'.sl t) → SameAt s.H s'.H rd →
    (∀ (q : Nat) b, l[q]? = some b → S (i + q) ≠ S' (i + q) → (∀ d, b.d = some d → d ∉ looks) ∧ ∀ x ∈ b.wr, x ∉ rd) →
    Shape (foldS S i l s).sl (foldS S' i l s').sl ∧ (∀ t ∈ looks, slot (foldS S i l s).sl t = slot (foldS S' i l s').sl t) ∧ SameAt (foldS S i l s).H (foldS S' i l s').H rd
  | [], _, s, s', h1, h2, h3, _ => ⟨h1, h2, h3⟩
  | b :: l, i, s, s', h1, h2, h3, h5 => by
    simp only [foldS]
    have h5' : ∀ (q : Nat) c, l[q]? = some c → S (i + 1 + q) ≠ S' (i + 1 + q) → (∀ d, c.d = some d → d ∉ looks) ∧ ∀ x ∈ c.wr, x ∉ rd := fun q c hc hne => h5 (q + 1) c (by simpa using hc) (by rw [show i + (q + 1) = i + 1 + q by omega]; exact hne)
    have lone : ∀ (s : DS), (∀ d, b.d = some d → d ∉ looks) → (∀ x ∈ b.wr, x ∉ rd) → (∀ t ∈ looks, slot (b.app s).sl t = slot s.sl t) ∧ SameAt (b.app s).H s.H rd := by
      intro s hd hx
      constructor
      · intro t ht
        simp only [DI.app]
        cases hb : b.d with
        | none => rfl
        | some d =>
          have : d ≠ t := fun e => hd d hb (e ▸ ht)
          simp only [putS, slot_setSlot, if_neg this.symm]
      · intro id hid
        have hni : nmem b.wr id = false := by
          cases hq : nmem b.wr id
          · rfl
          · exact absurd hid (hx id (mem_of_nmem hq))
        exact ⟨by rw [DI.app_obj, hni]; rfl, by rw [DI.app_arr, hni]; rfl⟩
    cases hS : S i <;> cases hS' : S' i <;> simp only [cond_true, cond_false]
    · exact foldS_look l (i + 1) s s' h1 h2 h3 h5'
    · obtain ⟨g1, g2⟩ := h5 0 b rfl (by simp [hS, hS'])
      obtain ⟨k1, k2⟩ := lone s' g1 g2
      exact foldS_look l (i + 1) s _ (fun t => by simp only [DI.app, putS_shape]; exact h1 t) (fun t ht => (h2 t ht).trans (k1 t ht).symm) (fun id hid => ⟨(h3 id hid).1.trans (k2 id hid).1.symm, (h3 id hid).2.trans (k2 id hid).2.symm⟩) h5'
    · obtain ⟨g1, g2⟩ := h5 0 b rfl (by simp [hS, hS'])
      obtain ⟨k1, k2⟩ := lone s g1 g2
      exact foldS_look l (i + 1) _ s' (fun t => by simp only [DI.app, putS_shape]; exact h1 t) (fun t ht => (k1 t ht).trans (h2 t ht)) (fun id hid => ⟨(k2 id hid).1.trans (h3 id hid).1, (k2 id hid).2.trans (h3 id hid).2⟩) h5'
    · refine foldS_look l (i + 1) _ _ (fun t => by simp only [DI.app, putS_shape]; exact h1 t) (fun t ht => ?_) (fun id hid => ?_) h5'
      · exact putS_slot h1 (h2 t ht) _ _
      · simp only [DI.app_obj, DI.app_arr, (h3 id hid).1, (h3 id hid).2, and_self]
/-- no part of a state bears a name of p -/
structure DS.Free (p : Nat → Bool) (s : DS) : Prop where
  sl : (!(s.sl.all fun x => !(x.has p))) = false
  H : s.H.Free p
theorem hasL_set {p : Nat → Bool} {v : SV} (hv : v.has p = false) (l : Sl) (d : Nat) (h : (!(l.all fun x => !(x.has p))) = false) : (!((setSlot l d v).all fun x => !(x.has p))) = false := by
  have h : (l.all fun x => !(x.has p)) = true := by simpa using h
  rw [Sl.all_of (f := fun x => !(x.has p)) fun i s hs => ?_]; rfl
  rw [slot_setSlot] at hs
  split at hs
  · obtain ⟨x, _, e⟩ := Option.map_eq_some_iff.1 hs
    subst e; rw [hv]; rfl
  · exact Sl.all_get (f := fun x => !(x.has p)) h hs
theorem DS.Free.app {p : Nat → Bool} {s : DS} (h : s.Free p) {b : DI} (h1 : b.v.has p = false) (h2 : (b.st1.H.only b.wr).has p = false) : (b.app s).Free p := by
  have g := Heap.free_of_has h2
  refine ⟨?_, ⟨fun id o ho => ?_, fun j c q o ha => ?_⟩⟩
  · simp only [DI.app]
    cases b.d with
    | none => exact h.sl
    | some d => exact hasL_set h1 _ _ h.sl
  · rw [DI.app_obj] at ho
    cases hq : nmem b.wr id
    · rw [hq] at ho; exact h.H.obj id o ho
    · rw [hq] at ho; exact g.obj id o (by rw [Heap.sift_obj, hq]; exact ho)
  · rw [DI.app_arr] at ha
    cases hq : nmem b.wr j
    · rw [hq] at ha; exact h.H.arr j c q o ha
    · rw [hq] at ha; exact g.arr j c q o (by rw [Heap.sift_arr, hq]; exact ha)
theorem foldS_free {p : Nat → Bool} (S : Nat → Bool) : ∀ (l : List DI) (i : Nat) (s : DS), s.Free p → (∀ (q : Nat) b, l[q]? = some b → S (i + q) = true → b.v.has p = false ∧ (b.st1.H.only b.wr).has p = false) → (foldS S i l s).Free p
  | [], _, _, h, _ => h
  | b :: l, i, s, h, hb => by
    simp only [foldS]
    have h' : ∀ (q : Nat) c, l[q]? = some c → S (i + 1 + q) = true → c.v.has p = false ∧ (c.st1.H.only c.wr).has p = false := fun q c hc hs => hb (q + 1) c (by simpa using hc) (by rw [← hs]; congr 1; omega)
    cases hS : S i
    · exact foldS_free S l (i + 1) s h h'
    · obtain ⟨k1, k2⟩ := hb 0 b rfl (by simpa using hS)
      exact foldS_free S l (i + 1) _ (h.app k1 k2) h'
theorem free_of_bnd {st : St} (h : st.bnd = true) {p : Nat → Bool} (hp : ∀ j, j < st.n → p j = false) : (⟨st.sl, st.H⟩ : DS).Free p := by
  simp only [St.bnd, Bool.and_eq_true] at h
  refine ⟨?_, Heap.free_of_bnd hp h.1.2.1⟩
  show (!(st.sl.all fun x => !(x.has p))) = false
  rw [Sl.all_of fun i s hs => by rw [SV.bnd_has hp (Sl.all_get (f := SV.bnd st.n) h.1.1 hs)]; rfl]; rfl
def predsOk : Nat → List Oper → Bool
  | _, [] => true
  | i, o :: l => (preds o).all (fun j => Nat.blt j i) && predsOk (i + 1) l
theorem predsOk_spec : ∀ (l : List Oper) (i : Nat), predsOk i l = true → ∀ (q : Nat) o, l[q]? = some o → ∀ j ∈ preds o, j < i + q
  | [], _, _, q, o, h, _, _ => by simp at h
  | a :: l, i, h, 0, o, ho, j, hj => by
    simp at ho; subst ho
    simp only [predsOk, Bool.and_eq_true, List.all_eq_true, Nat.blt_eq] at h
    have := h.1 j hj; omega
  | a :: l, i, h, q + 1, o, ho, j, hj => by
    simp only [predsOk, Bool.and_eq_true] at h
    have := predsOk_spec l (i + 1) h.2 q o (by simpa using ho) j hj
    omega
theorem count_lt {p q : Nat → Bool} : ∀ (l : List Nat), (∀ x ∈ l, q x = true → p x = true) → (∃ x ∈ l, p x = true ∧ q x = false) → (l.filter q).length < (l.filter p).length
  | [], _, ⟨x, hx, _⟩ => by cases hx
  | a :: l, h, ⟨x, hx, hp, hq⟩ => by
    have h' : ∀ x ∈ l, q x = true → p x = true := fun y hy => h y (List.mem_cons_of_mem _ hy)
    have le : ∀ (l : List Nat), (∀ x ∈ l, q x = true → p x = true) → (l.filter q).length ≤ (l.filter p).length := by
      intro l
      induction l with
      | nil => intro _; exact Nat.le_refl _
      | cons b l ih =>
        intro hb
        have := ih fun y hy => hb y (List.mem_cons_of_mem _ hy)
        simp only [List.filter_cons]
        cases hqb : q b
        · cases p b <;> simp <;> omega
        · rw [hb b (List.mem_cons_self ..) hqb]; simp; omega
    simp only [List.filter_cons]
    rcases List.mem_cons.1 hx with rfl | hx
    · rw [hp, hq]; simp; have := le l h'; omega
    · have := count_lt l h' ⟨x, hx, hp, hq⟩
      cases hqa : q a
      · cases p a <;> simp <;> omega
      · rw [h a (List.mem_cons_self ..) hqa]; simp; omega
theorem mem_preds {o : Oper} {e : Edge} (he : e ∈ o.after.toList) (hb : Region.binds .any e = true) : e.on ∈ preds o := by
  unfold preds
  exact List.mem_filterMap.2 ⟨e, he, by rw [hb]; rfl⟩
theorem of_mem_preds {o : Oper} {i : Nat} (h : i ∈ preds o) : ∃ e ∈ o.after.toList, Region.binds .any e = true ∧ e.on = i := by
  unfold preds at h
  obtain ⟨e, he, hi⟩ := List.mem_filterMap.1 h
  cases hb : Region.binds .any e
  · rw [hb] at hi; cases hi
  · rw [hb] at hi; simp at hi; exact ⟨e, he, hb, hi⟩

/-- what is asked of an operation's account -/
structure DOk (st : St) (s : DS) (o : Oper) (di : DI) (ρ : Env) : Prop where
  d : di.d = o.dst
  sl : di.st0.sl = maskS di.looks s.sl
  H : di.st0.H = s.H.only di.rd
  fc : ∀ p ∈ di.st0.facts, p.den ρ = true
  rnd : di.st0.rnd = st.rnd
  n : st.n ≤ di.st0.n
  wr : ∀ x, nmem di.wr x = false → di.st1.H.obj? x = di.st0.H.obj? x ∧ di.st1.H.arr? x = di.st0.H.arr? x
  rows : ∀ j c p o, nmem di.wr j = true → di.st1.H.arr? j = some (c, p, o) → o.isSome = true
theorem kbut_none {p : Nat → Bool} {κ κ' : Kap} (K : KBut p κ κ') (h : ∀ j, p j = false) : κ' = κ := by
  cases κ; cases κ'
  have h1 := fun j => K.o j (h j)
  have h2 := fun j => K.ab j (h j)
  have h3 := fun j => K.ao j (h j)
  have h4 := fun j => K.cap j (h j)
  simp only at h1 h2 h3 h4
  simp only [Kap.mk.injEq]
  exact ⟨funext h1, funext h2, funext h3, funext h4⟩
/-- one step of an order -/
theorem draw_step {P : Program} {base : Bk} {w0 : World} {ops : Array Oper} {o : Oper} {di : DI} {st st' : St} {ρ : Env} {κ : Kap} {s0 s : DS} {a : Act} {w : World}
    (hd : DOk st s0 o di ρ) (hv : VOp P base w0 ρ ops o di) (hlook : Shape s.sl s0.sl ∧ (∀ t ∈ di.looks, slot s.sl t = slot s0.sl t) ∧ SameAt s.H s0.H di.rd)
    (hfree : di.st0.n = di.st1.n ∨ s.Free di.rng) (hr : st'.rnd = st.rnd) (hn : st.n ≤ st'.n) (hrb : ∀ l, st.rnd = some l → l < st.n)
    (hs : Sim base w0 ρ κ { st' with sl := s.sl, H := s.H } a w) {K : Act → World → Prop} {Q : Exit → Act → World → Prop}
    (hk : ∀ κ' a' w' (s' : DS), KBut di.rng κ κ' → s'.sl = (di.app s).sl → (∀ x, s'.H.obj? x = (di.app s).H.obj? x) → (∀ x, s'.H.arr? x = (di.app s).H.arr? x) → Sim base w0 ρ κ' { st' with sl := s'.sl, H := s'.H } a' w' → K a' w') :
    if Region.wanted o (yielded ops a.tmps) then wpO P (st.rnd.map κ.o) o a w K Q else K (a.put o.dst undef) w := by
  obtain ⟨Ds, h⟩ := hs
  have hle : base.Le (base.box ρ κ di.st0.H w Ds h.sz) := ⟨rfl, rfl, fun _ hk => .inl hk, h.sz⟩
  have hsub : HeapOk ρ κ (base.plus Ds w.heap.size h.sz fun D hD => (h.db D hD).1) di.st0.H w := by
    refine h.hp.sub (fun x y g => ?_) (fun x y g => ?_)
    · rw [hd.H, Heap.sift_obj] at g
      cases hq : nmem di.rd x
      · rw [hq] at g; cases g
      · rw [hq] at g; exact ((hlook.2.2 x (mem_of_nmem hq)).1).trans g
    · rw [hd.H, Heap.sift_arr] at g
      cases hq : nmem di.rd x
      · rw [hq] at g; cases g
      · rw [hq] at g; exact ((hlook.2.2 x (mem_of_nmem hq)).2).trans g
  have hsim : Sim (base.box ρ κ di.st0.H w Ds h.sz) w ρ κ di.st0 a w := by
    refine ⟨Ds, ⟨?_, h.df, h.dn, fun D hD => ?_, Nat.le_refl _, ?_, Kept.refl _ _, hd.fc, ?_⟩⟩
    · rw [hd.sl]; exact h.fr.mask hlook.2.1
    · obtain ⟨k1, k2, k3, k4⟩ := h.db D hD
      exact ⟨k1, k2, fun hk => hk.elim k3 fun hk => hk.2.2.1 hD, k4⟩
    · refine hsub.up rfl rfl fun k hO hk hk' => ?_
      rcases hk' with (hk' | hk') | hk'
      · exact hk (.inl hk')
      · exact hk'.2.2.2 hO
      · exact hk (.inr hk')
    · intro l hl; rw [hd.rnd] at hl; exact Nat.lt_of_lt_of_le (hrb l hl) hd.n
  have key := hv κ a w _ hle h.bl hsim K Q ?_
  · rw [hd.rnd] at key; exact key
  intro κ' w' Kb hsim'
  obtain ⟨Ds', h'⟩ := hsim'
  have hDs : Ds' = Ds := markOf_inj (h'.df.symm.trans h.df)
  subst hDs
  have hfr : SlotsOk ρ κ' s.sl a.tmps ∧ HeapOk ρ κ' (base.plus Ds' w.heap.size h.sz fun D hD => (h.db D hD).1) s.H w ∧ ∀ k, OwnB ρ κ di.st0.H k → OwnB ρ κ' di.st0.H k := by
    rcases hfree with he | hfree
    · have := kbut_none Kb fun j => by
        simp only [DI.rng, he]
        cases hb : Nat.ble di.st1.n j
        · rfl
        · rw [Nat.ble_eq] at hb
          have : Nat.blt j di.st1.n = false := by rw [Bool.eq_false_iff]; simp [Nat.blt_eq]; omega
          rw [this]; rfl
      subst this
      exact ⟨h.fr, h.hp, fun _ h => h⟩
    · refine ⟨h.fr.kbut Kb hfree.sl, h.hp.kbut hfree.H Kb, fun k hk => ?_⟩
      have so : ∀ x y, di.st0.H.obj? x = some y → s.H.obj? x = some y := fun x y g => by
        rw [hd.H, Heap.sift_obj] at g
        cases hq : nmem di.rd x
        · rw [hq] at g; cases g
        · rw [hq] at g; exact ((hlook.2.2 x (mem_of_nmem hq)).1).trans g
      have sa : ∀ x y, di.st0.H.arr? x = some y → s.H.arr? x = some y := fun x y g => by
        rw [hd.H, Heap.sift_arr] at g
        cases hq : nmem di.rd x
        · rw [hq] at g; cases g
        · rw [hq] at g; exact ((hlook.2.2 x (mem_of_nmem hq)).2).trans g
      rcases hk with ⟨id, ob, g1, g2⟩ | ⟨j, c, p, E, g1, g2, g3⟩
      · exact .inl ⟨id, ob, g1, by rw [Kb.o id (hfree.H.obj id ob (so _ _ g1)).1]; exact g2⟩
      · exact .inr ⟨j, c, p, E, g1, g2, by rw [Kb.ab j (hfree.H.arr j c p _ (sa _ _ g1))]; exact g3⟩
  obtain ⟨hfr, hhp, hown⟩ := hfr
  have hsz := h'.bl.size
  refine hk κ' _ w' (di.app s) Kb rfl (fun _ => rfl) (fun _ => rfl) ⟨Ds', ⟨?_, by cases o.dst <;> exact h.df, h.dn, fun D hD => ?_, Nat.le_trans h.sz hsz, ?_, h.bl.trans (h'.bl.le hle), h.fc, h.rb⟩⟩
  · simp only [DI.app, hd.d]
    cases o.dst with
    | none => exact hfr
    | some d => exact hfr.put d fun _ => rfl
  · obtain ⟨k1, k2, k3, k4⟩ := h.db D hD
    obtain ⟨k1', _, _, k4'⟩ := h'.db D hD
    exact ⟨k1', k2, k3, k4'⟩
  · refine HeapOk.up (B := base.plus Ds' w.heap.size h.sz fun D hD => (h.db D hD).1) ?_ rfl rfl fun k _ hk => hk
    refine HeapOk.merge (H := s.H) (Hs := di.st0.H) (Ho := di.st1.H) (w := w) (rd := di.rd) (wr := di.wr) hhp h'.hp ⟨rfl, rfl, fun k hk => hk.elim (fun h => .inl (.inl h)) .inr, hsz⟩ (fun k hk hb => ?_) (fun k hb hk hn => ?_) ⟨fun x => ?_, fun x => ?_⟩ hd.wr hd.rows ⟨fun x => di.app_obj s x, fun x => di.app_arr s x⟩
    · rcases hb with hb | hb | hb
      · exact h'.bl.bl.block k hb
      · exact h'.bl.kp k hk hb
      · rw [(h'.db k hb).2.2.2, (h.db k hb).2.2.2]
    · refine Classical.byContradiction fun hc => hn ?_
      by_cases hD : k ∈ Ds'
      · exact .inr hD
      · exact .inl (.inr ⟨hb, hk, hD, fun hO => hc (hown k hO)⟩)
    · rw [hd.H, Heap.sift_obj]
      cases hq : nmem di.rd x
      · rfl
      · exact ((hlook.2.2 x (mem_of_nmem hq)).1).symm
    · rw [hd.H, Heap.sift_arr]
      cases hq : nmem di.rd x
      · rfl
      · exact ((hlook.2.2 x (mem_of_nmem hq)).2).symm
theorem Sim.congr {base : Bk} {w0 : World} {ρ : Env} {κ : Kap} {st st' : St} {a : Act} {w : World} (h : Sim base w0 ρ κ st a w) (hs : st'.sl = st.sl) (ho : ∀ x, st'.H.obj? x = st.H.obj? x) (ha : ∀ x, st'.H.arr? x = st.H.arr? x)
    (hf : ∀ p ∈ st'.facts, p.den ρ = true) (hr : ∀ l, st'.rnd = some l → l < st'.n) : Sim base w0 ρ κ st' a w := by
  obtain ⟨Ds, h⟩ := h
  exact ⟨Ds, ⟨by rw [hs]; exact h.fr, h.df, h.dn, h.db, h.sz, h.hp.congr (fun x => (ho x).symm) (fun x => (ha x).symm), h.bl, hf, hr⟩⟩
/-- THE REGION, WHATEVER THE ORDER. -/
theorem draw_sound {P : Program} {base : Bk} {w0 : World} {ops : Array Oper} {id : Nat} {st st' : St} (hbnd : st.bnd = true) (hmix : P.follows .mixedOrders = true) (hpo : predsOk 0 ops.toList = true) {dis : List DI}
    (hall : allOk (masks ops.toList []) 0 dis = true) (hlen : dis.length = ops.size) {ρ : Env} {κ : Kap} {a : Act} {w : World} (hs : Sim base w0 ρ κ st a w)
    (hd : ∀ (q : Nat) o di, ops.toList[q]? = some o → dis[q]? = some di → DOk st (runD (dis.take q) ⟨st.sl, st.H⟩) o di ρ ∧ VOp P base w0 ρ ops o di)
    (he : (⟨st'.sl, st'.H⟩ : DS) = runD dis ⟨st.sl, st.H⟩) (hf : ∀ p ∈ st'.facts, p.den ρ = true) (hr : st'.rnd = st.rnd) (hn : st.n ≤ st'.n) {Q : Exit → Act → World → Prop}
    (hk : ∀ κ' a' w', Agree st.n ρ ρ κ κ' → Sim base w0 ρ κ' st' a' w' → Q .normal a' w') : wpC P (st.rnd.map κ.o) (.region id ops true) Q a w := by
  have hmask := masks_spec (ops := ops.toList) ops.toList [] (fun j => by simp) (fun k i hb => by simp at hb)
  have hpair := allOk_spec dis 0 hall
  simp only [Nat.zero_add] at hpair
  have hrb : ∀ l, st.rnd = some l → l < st.n := by obtain ⟨_, h⟩ := hs; exact h.rb
  let s0 : DS := ⟨st.sl, st.H⟩
  let SS : Array Bool → Nat → Bool := fun listed i => listed.getD i false
  have hround : ∀ κ1, Agree st.n ρ ρ κ κ1 → st.rnd.map κ1.o = st.rnd.map κ.o := by
    intro κ1 hA
    cases hl : st.rnd with
    | none => rfl
    | some l => simp only [Option.map_some, hA.o l (hrb l hl)]
  have main : ∀ (fuel : Nat) (listed : Array Bool) (κ1 : Kap) (a1 : Act) (w1 : World), listed.size = ops.size → ((List.range ops.size).filter fun i => !(SS listed i)).length ≤ fuel →
      Closed ops.toList (fun i => SS listed i = true) → Agree st.n ρ ρ κ κ1 → Sim base w0 ρ κ1 { st' with sl := (foldS (SS listed) 0 dis s0).sl, H := (foldS (SS listed) 0 dis s0).H } a1 w1 →
      wpAnyIn (Wd (st.rnd.map κ.o)) 0 P .any ops Q fuel listed a1 w1 := by
    have fin : ∀ (listed : Array Bool) (κ1 : Kap) (a1 : Act) (w1 : World), listed.size = ops.size → Agree st.n ρ ρ κ κ1 → Sim base w0 ρ κ1 { st' with sl := (foldS (SS listed) 0 dis s0).sl, H := (foldS (SS listed) 0 dis s0).H } a1 w1 →
        Region.ready .any ops listed = [] → Q .normal a1 w1 := by
      intro listed κ1 a1 w1 hsz hA hsim hr0
      have hallS : ∀ i, i < ops.size → SS listed i = true := by
        intro i
        induction i using Nat.strongRecOn with
        | _ i ih =>
          intro hi
          by_cases hS : SS listed i = true
          · exact hS
          · exfalso
            have hin : i ∈ Region.ready .any ops listed := by
              unfold Region.ready
              refine List.mem_filter.2 ⟨List.mem_range.2 hi, ?_⟩
              have hoi : ops[i]? = some ops[i] := by simp [hi]
              have h1 : listed.getD i true = false := by
                have : SS listed i = false := by simpa using hS
                simp only [SS] at this
                simp only [Array.getD_eq_getD_getElem?] at this ⊢
                rw [Array.getElem?_eq_getElem (by omega)] at this ⊢
                simpa using this
              rw [h1, hoi]
              simp only [Bool.not_false, Option.map_some, Option.getD_some, Bool.true_and]
              rw [Array.all_eq_true_iff_forall_mem]
              intro e he
              cases hb : Region.binds .any e
              · rfl
              · simp only [Bool.not_true, Bool.false_or]
                have hlt := predsOk_spec ops.toList 0 hpo i ops[i] (by simp [hi]) e.on (mem_preds (by simpa using he) hb)
                exact ih e.on (by omega) (by omega)
            rw [hr0] at hin; cases hin
      have hfold : foldS (SS listed) 0 dis s0 = runD dis s0 := by
        have h1 := foldS_take dis 0 dis.length s0
        rw [List.take_length, Nat.zero_add] at h1
        rw [← h1]
        have : ∀ (l : List DI) (i : Nat) (s : DS), (∀ q, q < l.length → SS listed (i + q) = Nat.blt (i + q) dis.length) → foldS (SS listed) i l s = foldS (fun k => Nat.blt k dis.length) i l s := by
          intro l
          induction l with
          | nil => intro i s _; rfl
          | cons b l ih =>
            intro i s hq
            simp only [foldS]
            rw [show SS listed i = Nat.blt i dis.length from hq 0 (by simp)]
            exact ih (i + 1) _ fun q hq' => by
              have := hq (q + 1) (by simp; omega)
              rw [show i + (q + 1) = i + 1 + q by omega] at this; exact this
        refine this dis 0 s0 fun q hq => ?_
        rw [Nat.zero_add, hallS q (by omega)]
        symm; rw [Nat.blt_eq]; exact hq
      rw [hfold] at hsim
      have e1 : (runD dis s0).sl = st'.sl := by rw [show runD dis s0 = _ from he.symm]
      have e2 : (runD dis s0).H = st'.H := by rw [show runD dis s0 = _ from he.symm]
      rw [e1, e2] at hsim
      exact hk κ1 a1 w1 hA hsim
    intro fuel
    induction fuel with
    | zero =>
      intro listed κ1 a1 w1 hsz hcnt hcl hA hsim
      have hr0 : Region.ready .any ops listed = [] := by
        rw [List.eq_nil_iff_forall_not_mem]
        intro i hi
        unfold Region.ready at hi
        obtain ⟨hi1, hi2⟩ := List.mem_filter.1 hi
        have hi1' := List.mem_range.1 hi1
        simp only [Bool.and_eq_true, Bool.not_eq_true'] at hi2
        have : i ∈ (List.range ops.size).filter fun i => !(SS listed i) := by
          refine List.mem_filter.2 ⟨hi1, ?_⟩
          have h2 := hi2.1
          simp only [SS, Array.getD_eq_getD_getElem?] at h2 ⊢
          rw [Array.getElem?_eq_getElem (by omega)] at h2 ⊢
          simpa using h2
        have hl := List.length_pos_of_mem this
        omega
      exact ⟨hr0, fin listed κ1 a1 w1 hsz hA hsim hr0⟩
    | succ fuel ih =>
      intro listed κ1 a1 w1 hsz hcnt hcl hA hsim
      refine ⟨fin listed κ1 a1 w1 hsz hA hsim, fun j hj => ?_⟩
      unfold Region.ready at hj
      obtain ⟨hj1, hj2⟩ := List.mem_filter.1 hj
      have hjlt := List.mem_range.1 hj1
      simp only [Bool.and_eq_true, Bool.not_eq_true'] at hj2
      obtain ⟨hj2, hj3⟩ := hj2
      have hSj : SS listed j = false := by
        simp only [SS, Array.getD_eq_getD_getElem?] at hj2 ⊢
        rw [Array.getElem?_eq_getElem (by omega)] at hj2 ⊢
        simpa using hj2
      have hoj : ops[j]? = some ops[j] := by simp [hjlt]
      have hojl : ops.toList[j]? = some ops[j] := by simp [hjlt]
      have hready : ∀ o, ops.toList[j]? = some o → ∀ i ∈ preds o, SS listed i = true := by
        intro o ho i hi
        rw [hojl] at ho; cases ho
        obtain ⟨e, he, hb, rfl⟩ := of_mem_preds hi
        rw [hoj] at hj3
        simp only [Option.map_some, Option.getD_some] at hj3
        have := (Array.all_eq_true_iff_forall_mem.1 hj3) e (by simpa using he)
        rw [hb] at this
        simpa [SS] using this
      obtain ⟨dj, hdj⟩ : ∃ d, dis[j]? = some d := ⟨dis[j]'(by omega), by simp [hlen, hjlt]⟩
      obtain ⟨hdo, hVj⟩ := hd j _ dj hojl hdj
      have hind : ∀ (i : Nat) di, dis[i]? = some di → i ≠ j → (SS listed i ≠ Nat.blt i j) → indep dj di = true := by
        intro i di hdi hne hpart
        rcases Nat.lt_or_gt_of_ne hne with hlt | hgt
        · rcases (hpair i j di dj hlt hdi hdj).1 with hm | hi
          · exfalso
            have hb : SS listed i = true := anc_ready hcl (hmask _ _ hm) hready
            rw [hb] at hpart
            exact hpart (by symm; rw [Nat.blt_eq]; exact hlt)
          · exact indep_symm hi
        · rcases (hpair j i dj di hgt hdj hdi).1 with hm | hi
          · exfalso
            have hb : SS listed i = false := by
              cases hSi : SS listed i
              · rfl
              · have := hcl.anc (hmask _ _ hm) hSi
                rw [hSj] at this; cases this
            rw [hb] at hpart
            exact hpart (by symm; rw [Bool.eq_false_iff]; simp [Nat.blt_eq]; omega)
          · exact hi
      have hlook := foldS_look (S := SS listed) (S' := fun k => Nat.blt k j) (looks := dj.looks) (rd := dj.rd) dis 0 s0 s0 (fun _ => rfl) (fun _ _ => rfl) (fun _ _ => ⟨rfl, rfl⟩) (fun q b hb hne => by
        rw [Nat.zero_add] at hne
        by_cases hqj : q = j
        · exfalso; subst hqj
          apply hne; rw [hSj]; symm; rw [Bool.eq_false_iff]; simp [Nat.blt_eq]
        · have hi := indep_symm (hind q b hb hqj hne)
          simp only [indep, Bool.and_eq_true] at hi
          obtain ⟨⟨h1, _⟩, ⟨h3, _⟩, _⟩ := hi
          refine ⟨fun d hdd => ?_, fun x hx hr => disj_spec h3 x hx (List.mem_append_left _ hr)⟩
          simp only [dOk, hdd, Bool.and_eq_true, Bool.not_eq_true'] at h1
          exact nmem_mem h1.1)
      have htake := foldS_take dis 0 j s0
      rw [Nat.zero_add] at htake
      rw [htake] at hlook
      have hS' : SS (listed.setIfInBounds j true) j = true := by
        simp only [SS, Array.getD_eq_getD_getElem?, Array.getElem?_setIfInBounds, if_true]
        simp [hsz, hjlt]
      have hSo : ∀ i, i ≠ j → SS (listed.setIfInBounds j true) i = SS listed i := by
        intro i hi
        simp only [SS, Array.getD_eq_getD_getElem?, Array.getElem?_setIfInBounds_ne (Ne.symm hi)]
      have hadd := foldS_add hSj hS' hSo dis 0 s0 dj (Nat.zero_le _) (by simpa using hdj) (fun q b hb hlt hs => by
        rw [Nat.zero_add] at hlt hs
        refine hind q b hb (by omega) ?_
        rw [hs]; intro e
        have := Nat.blt_eq ▸ e.symm; omega)
      have hcl' : Closed ops.toList (fun i => SS (listed.setIfInBounds j true) i = true) := by
        intro k o hk hSk i hi
        by_cases hkj : k = j
        · subst hkj
          by_cases hij : i = k
          · subst hij; exact hS'
          · rw [hSo i hij]; exact hready o hk i hi
        · rw [hSo k hkj] at hSk
          have := hcl k o hk hSk i hi
          by_cases hij : i = j
          · subst hij; exact hS'
          · rw [hSo i hij]; exact this
      have hcnt' : ((List.range ops.size).filter fun i => !(SS (listed.setIfInBounds j true) i)).length ≤ fuel := by
        have := count_lt (p := fun i => !(SS listed i)) (q := fun i => !(SS (listed.setIfInBounds j true) i)) (List.range ops.size) (fun x _ hx => by
          by_cases hxj : x = j
          · subst hxj; rw [hS'] at hx; cases hx
          · rw [hSo x hxj] at hx; exact hx) ⟨j, hj1, by rw [hSj]; rfl, by rw [hS']; rfl⟩
        omega
      have hsz' : (listed.setIfInBounds j true).size = ops.size := by simp [hsz]
      have hfree : dj.st0.n = dj.st1.n ∨ (foldS (SS listed) 0 dis s0).Free dj.rng := by
        by_cases hnn : dj.st0.n = dj.st1.n
        · exact .inl hnn
        · right
          refine foldS_free _ dis 0 s0 (free_of_bnd hbnd fun i hi => ?_) fun q b hb hs => ?_
          · have : Nat.ble dj.st0.n i = false := by rw [Bool.eq_false_iff]; simp; have := hdo.n; omega
            simp only [DI.rng, this, Bool.false_and]
          · rw [Nat.zero_add] at hs
            have hqj : q ≠ j := fun e => by subst e; rw [hSj] at hs; cases hs
            have hi : hasOk dj b = true := by
              by_cases hlt : q < j
              · exact (hpair q j b dj hlt hb hdj).2
              · have hi := hind q b hb hqj (by rw [hs]; intro e; have := Nat.blt_eq ▸ e.symm; omega)
                simp only [indep, Bool.and_eq_true] at hi
                exact hi.2.2.1
            simp only [hasOk, Bool.or_eq_true, Nat.beq_eq, Bool.not_eq_true', Bool.or_eq_false_iff] at hi
            exact hi.resolve_left hnn
      unfold wpOpIn
      rw [hoj]
      have step := draw_step (Q := Q) hdo hVj hlook hfree hr hn hrb hsim (K := wpAnyIn (Wd (st.rnd.map κ.o)) 0 P .any ops Q fuel (listed.setIfInBounds j true)) ?_
      · rw [hround κ1 hA] at step
        simp only
        split
        · rename_i hw; rw [if_pos hw] at step; exact step
        · rename_i hw; rw [if_neg hw] at step; exact ⟨fun _ _ => trivial, step⟩
      · intro κ2 a2 w2 s2 hK2 hsl ho ha hsim2
        refine ih _ κ2 a2 w2 hsz' hcnt' hcl' (hA.trans (hK2.agree (fun i hi => ?_) ρ) (Nat.le_refl _)) ?_
        · have : Nat.ble dj.st0.n i = false := by rw [Bool.eq_false_iff]; simp; have := hdo.n; omega
          simp only [DI.rng, this, Bool.false_and]
        · refine hsim2.congr (hadd.sl.trans hsl.symm) (fun x => (hadd.obj x).trans (ho x).symm) (fun x => (hadd.arr x).trans (ha x).symm) hf ?_
          intro l hl
          exact Nat.lt_of_lt_of_le (hrb l (hr ▸ hl)) hn
  have hinit : foldS (SS (Array.replicate ops.size false)) 0 dis s0 = s0 := by
    have : ∀ (l : List DI) (i : Nat) (s : DS), foldS (SS (Array.replicate ops.size false)) i l s = s := by
      intro l
      induction l with
      | nil => intro i s; rfl
      | cons b l ih =>
        intro i s
        have : SS (Array.replicate ops.size false) i = false := by
          simp only [SS, Array.getD_eq_getD_getElem?, Array.getElem?_replicate]
          split <;> rfl
        simp only [foldS, this, cond_false]; exact ih (i + 1) s
    exact this dis 0 s0
  refine wpIn_region_any hmix ?_
  have hlisted : ∀ i, SS (Array.replicate ops.size false) i = false := by
    intro i
    simp only [SS, Array.getD_eq_getD_getElem?, Array.getElem?_replicate]
    split <;> rfl
  refine main ops.size (Array.replicate ops.size false) κ a _ (by simp) ?_ ?_ (Agree.refl _ _ _) ?_
  · exact Nat.le_trans (List.length_filter_le _ _) (by simp)
  · intro k o hk hSk
    rw [hlisted k] at hSk; cases hSk
  · rw [hinit]
    obtain ⟨Ds, h⟩ := hs
    refine ⟨Ds, ⟨h.fr, h.df, h.dn, fun D hD => h.db D hD, h.sz, h.hp.below (fun k _ => rfl), ?_, hf, fun l hl => Nat.lt_of_lt_of_le (hrb l (hr ▸ hl)) hn⟩⟩
    exact ⟨h.bl.bl.drew, fun k hk hp => h.bl.kp k hk hp⟩
end Go.SX
