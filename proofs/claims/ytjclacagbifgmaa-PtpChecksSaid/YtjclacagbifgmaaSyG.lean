/- SxG: what is known; the tree of a walk and what it says; the walk of code in the order of the text. -/
import Derived.Test.YtjclacagbifgmaaSyF
import Derived.LoopN
import Derived.Scope
import Derived.Deep.LoopGhost
set_option linter.unusedSimpArgs false
set_option linter.unusedVariables false
set_option linter.unusedSectionVars false
noncomputable section
namespace Go.SX
open Go Go.RowKit

/-! ### known facts -/
/-- equality, told apart at the first number -/
def BE.eqbQ (a b : BE) : Bool := match a with
  | .cmp o x y => match b with
    | .cmp o' x' y' => match x with
      | .v i => match x' with
        | .v j => bif Nat.beq i j then Nat.beq (on o) (on o') && y.eqb y' else false
        | _ => false
      | x => Nat.beq (on o) (on o') && x.eqb x' && y.eqb y'
    | _ => false
  | .v i => match b with
    | .v j => Nat.beq i j
    | _ => false
  | a => a.eqb b
theorem BE.eqbQ_eq {a b : BE} (h : a.eqbQ b = true) : a = b := by
  have full : ∀ {o o' : BinOp} {x x' y y' : IE}, (Nat.beq (on o) (on o') && x.eqb x' && y.eqb y') = true → BE.cmp o x y = .cmp o' x' y' := fun h => by
    simp only [Bool.and_eq_true] at h
    rw [on_eq h.1.1, IE.eqb_eq h.1.2, IE.eqb_eq h.2]
  cases a with
  | cmp o x y =>
    cases b with
    | cmp o' x' y' =>
      cases x with
      | v i =>
        cases x' with
        | v j =>
          simp only [BE.eqbQ] at h
          cases hq : Nat.beq i j
          · rw [hq] at h; cases h
          · rw [hq] at h; simp only [cond_true, Bool.and_eq_true] at h
            rw [Nat.beq_eq] at hq; subst hq
            rw [on_eq h.1, IE.eqb_eq h.2]
        | _ => simp only [BE.eqbQ, Bool.false_eq_true] at h
      | _ => exact full h
    | _ => simp only [BE.eqbQ, Bool.false_eq_true] at h
  | v i =>
    cases b with
    | v j => simp only [BE.eqbQ] at h; rw [Nat.beq_eq] at h; rw [h]
    | _ => simp only [BE.eqbQ, Bool.false_eq_true] at h
  | _ => exact BE.eqb_eq h
def membC : List BE → BE → Bool
  | [], _ => false
  | p :: l, b => p.eqbQ b || membC l b
noncomputable def memb (F : List BE) (b : BE) : Bool := List.rec (motive := fun _ => Bool) false (fun p _ ih => Bool.rec (motive := fun _ => Bool) ih true (p.eqbQ b)) F
theorem memb_cons (p : BE) (l : List BE) (b : BE) : memb (p :: l) b = (p.eqbQ b || memb l b) := by
  show Bool.rec (motive := fun _ => Bool) (memb l b) true (p.eqbQ b) = _
  cases p.eqbQ b <;> rfl
theorem memb_mem {F : List BE} {b : BE} (h : memb F b = true) : b ∈ F := by
  induction F with
  | nil => cases h
  | cons p l ih =>
    simp only [memb_cons, Bool.or_eq_true] at h
    rcases h with h | h
    · rw [BE.eqbQ_eq h]; exact List.mem_cons_self ..
    · exact List.mem_cons_of_mem _ (ih h)
/-- what the facts say of b by one step -/
def implStep (F : List BE) (b nb : BE) (p : BE) : Option Bool := match p with
  | .not q => match q with
    | .and x y => bif (y.eqbQ b && memb F x) || (x.eqbQ b && memb F y) then some false else bif (y.eqbQ nb && memb F x) || (x.eqbQ nb && memb F y) then some true else none
    | _ => none
  | .or x y => bif (y.eqbQ b && memb F (mkNot x)) || (x.eqbQ b && memb F (mkNot y)) then some true else bif (y.eqbQ nb && memb F (mkNot x)) || (x.eqbQ nb && memb F (mkNot y)) then some false else none
  | _ => none
def implC (F : List BE) (b nb : BE) : List BE → Option Bool
  | [] => none
  | p :: l => match implStep F b nb p with
    | some v => some v
    | none => implC F b nb l
noncomputable def impl (F : List BE) (b nb : BE) (l : List BE) : Option Bool := List.rec (motive := fun _ => Option Bool) none (fun p _ ih => Option.rec (motive := fun _ => Option Bool) ih (fun v => some v) (implStep F b nb p)) l
theorem impl_cons (F : List BE) (b nb p : BE) (l : List BE) : impl F b nb (p :: l) = match implStep F b nb p with
    | some v => some v
    | none => impl F b nb l := by
  show Option.rec (motive := fun _ => Option Bool) (impl F b nb l) (fun v => some v) (implStep F b nb p) = _
  cases implStep F b nb p <;> rfl
theorem implStep_den {ρ : Env} {F : List BE} (hF : ∀ p ∈ F, p.den ρ = true) {b p : BE} (hp : p.den ρ = true) {v : Bool} (h : implStep F b (mkNot b) p = some v) : b.den ρ = v := by
  have mem : ∀ x, memb F x = true → x.den ρ = true := fun x hx => hF x (memb_mem hx)
  unfold implStep at h
  split at h
  · rename_i q
    split at h
    · rename_i x y
      simp only [BE.den, Bool.not_eq_true', Bool.and_eq_false_iff] at hp
      rw [cond_eq_ite] at h
      split at h
      · rename_i hc
        cases h
        simp only [Bool.or_eq_true, Bool.and_eq_true] at hc
        rcases hc with ⟨e, m⟩ | ⟨e, m⟩
        · rw [← BE.eqbQ_eq e]; have := mem _ m; rcases hp with hp | hp
          · rw [this] at hp; cases hp
          · exact hp
        · rw [← BE.eqbQ_eq e]; have := mem _ m; rcases hp with hp | hp
          · exact hp
          · rw [this] at hp; cases hp
      · rw [cond_eq_ite] at h
        split at h
        · rename_i hc
          cases h
          have nn : (mkNot b).den ρ = false → b.den ρ = true := fun h => by rw [mkNot_den] at h; simpa using h
          apply nn
          simp only [Bool.or_eq_true, Bool.and_eq_true] at hc
          rcases hc with ⟨e, m⟩ | ⟨e, m⟩
          · rw [← BE.eqbQ_eq e]; have := mem _ m; rcases hp with hp | hp
            · rw [this] at hp; cases hp
            · exact hp
          · rw [← BE.eqbQ_eq e]; have := mem _ m; rcases hp with hp | hp
            · exact hp
            · rw [this] at hp; cases hp
        · cases h
    · cases h
  · rename_i x y
    simp only [BE.den, Bool.or_eq_true] at hp
    have memn : ∀ x, memb F (mkNot x) = true → x.den ρ = false := fun x hx => by have := hF _ (memb_mem hx); rw [mkNot_den] at this; simpa using this
    rw [cond_eq_ite] at h
    split at h
    · rename_i hc
      cases h
      simp only [Bool.or_eq_true, Bool.and_eq_true] at hc
      rcases hc with ⟨e, m⟩ | ⟨e, m⟩
      · rw [← BE.eqbQ_eq e]; have := memn _ m; rcases hp with hp | hp
        · rw [this] at hp; cases hp
        · exact hp
      · rw [← BE.eqbQ_eq e]; have := memn _ m; rcases hp with hp | hp
        · exact hp
        · rw [this] at hp; cases hp
    · rw [cond_eq_ite] at h
      split at h
      · rename_i hc
        cases h
        have nn : (mkNot b).den ρ = true → b.den ρ = false := fun h => by rw [mkNot_den] at h; simpa using h
        apply nn
        simp only [Bool.or_eq_true, Bool.and_eq_true] at hc
        rcases hc with ⟨e, m⟩ | ⟨e, m⟩
        · rw [← BE.eqbQ_eq e]; have := memn _ m; rcases hp with hp | hp
          · rw [this] at hp; cases hp
          · exact hp
        · rw [← BE.eqbQ_eq e]; have := memn _ m; rcases hp with hp | hp
          · exact hp
          · rw [this] at hp; cases hp
      · cases h
  · cases h
theorem impl_den {ρ : Env} {F : List BE} (hF : ∀ p ∈ F, p.den ρ = true) {b : BE} : ∀ {l : List BE} {v : Bool}, (∀ p ∈ l, p.den ρ = true) → impl F b (mkNot b) l = some v → b.den ρ = v
  | [], _, _, h => by cases h
  | p :: l, v, hl, h => by
    rw [impl_cons] at h
    split at h
    · rename_i u hu
      cases h
      exact implStep_den hF (hl p (List.mem_cons_self ..)) hu
    · exact impl_den hF (fun q hq => hl q (List.mem_cons_of_mem _ hq)) h
def known (F : List BE) (b : BE) : BE := bif memb F b then .lit true else bif memb F (mkNot b) then .lit false else match impl F b (mkNot b) F with
  | some v => .lit v
  | none => b
theorem known_den {ρ : Env} {F : List BE} (hF : ∀ p ∈ F, p.den ρ = true) (b : BE) : (known F b).den ρ = b.den ρ := by
  unfold known
  cases h : memb F b
  · cases h2 : memb F (mkNot b)
    · simp only [cond_false]
      split
      · rename_i v hv
        exact (impl_den hF hF hv).symm
      · rfl
    · have := hF _ (memb_mem h2)
      rw [mkNot_den] at this
      simp only [cond_true, cond_false, BE.den]
      cases hb : b.den ρ <;> simp_all
  · simp only [cond_true, BE.den, hF _ (memb_mem h)]
/-- the length that a length is known to be -/
def renL (d : Nat) : List BE → IE
  | [] => .alen d
  | p :: F => match p with
    | .cmp .eql (.alen c) e => bif Nat.beq c d then e else renL d F
    | _ => renL d F
def renI (F : List BE) (x : IE) : IE := match x with
  | .alen d => renL d F
  | x => x
theorem renL_den {ρ : Env} (d : Nat) : ∀ {F : List BE}, (∀ p ∈ F, p.den ρ = true) → (renL d F).den ρ = (IE.alen d).den ρ
  | [], _ => rfl
  | p :: F, hF => by
    have h2 : ∀ q ∈ F, q.den ρ = true := fun q hq => hF q (List.mem_cons_of_mem _ hq)
    unfold renL
    split
    · rename_i c e
      cases hq : Nat.beq c d
      · exact renL_den d h2
      · rw [Nat.beq_eq] at hq; subst hq
        have := hF _ (List.mem_cons_self ..)
        simp only [BE.den, bc, beq_iff_eq] at this
        exact this.symm
    · exact renL_den d h2
theorem renI_den {ρ : Env} {F : List BE} (hF : ∀ p ∈ F, p.den ρ = true) (x : IE) : (renI F x).den ρ = x.den ρ := by
  unfold renI
  split
  · exact renL_den _ hF
  · rfl
/-- a comparison, that may be plain to see -/
def mkCmpS (o : BinOp) (a b : IE) : BE := bif a.eqb b then .lit (bc o 0 0) else match o, a, b with
  | .leq, .lit (.ofNat 0), .alen _ => .lit true
  | o, a, b => .cmp o a b
theorem mkCmpS_den (ρ : Env) (o : BinOp) (a b : IE) : (mkCmpS o a b).den ρ = bc o (a.den ρ) (b.den ρ) := by
  unfold mkCmpS
  cases h : a.eqb b
  · simp only [cond_false]
    split
    · simp [BE.den, IE.den, bc]
    · simp only [BE.den]
  · have := IE.eqb_eq h; subst this
    simp only [cond_true, BE.den]
    cases o <;> simp [bc]
/-- whether a fact bars that a is n -/
def barsEq (a : IE) (n : Int) : BE → Bool
  | .cmp o x y => match x, y with
    | .lit m, y => bif y.eqb a then !(bcLit o m n) else false
    | x, .lit m => bif x.eqb a then !(bc o n m) else false
    | _, _ => false
  | _ => false
def barsL (a : IE) (n : Int) : List BE → Bool
  | [] => false
  | p :: F => bif barsEq a n p then true else barsL a n F
theorem barsEq_den {ρ : Env} {a : IE} {n : Int} {p : BE} (h : barsEq a n p = true) (hp : p.den ρ = true) : a.den ρ ≠ n := by
  intro e
  unfold barsEq at h
  split at h
  · rename_i o x y
    split at h
    · rename_i m
      cases hq : y.eqb a
      · rw [hq] at h; cases h
      · rw [hq] at h; simp only [cond_true, Bool.not_eq_true', bcLit_eq] at h
        have := IE.eqb_eq hq; subst this
        simp only [BE.den, IE.den, e, h] at hp; cases hp
    · rename_i m _
      cases hq : x.eqb a
      · rw [hq] at h; cases h
      · rw [hq] at h; simp only [cond_true, Bool.not_eq_true', bcLit_eq] at h
        have := IE.eqb_eq hq; subst this
        simp only [BE.den, IE.den, e, h] at hp; cases hp
    · cases h
  · cases h
theorem barsL_den {ρ : Env} {a : IE} {n : Int} : ∀ {F : List BE}, barsL a n F = true → (∀ p ∈ F, p.den ρ = true) → a.den ρ ≠ n
  | [], h, _ => by cases h
  | p :: F, h, hF => by
    unfold barsL at h
    cases hb : barsEq a n p
    · rw [hb] at h; exact barsL_den h fun q hq => hF q (List.mem_cons_of_mem _ hq)
    · exact barsEq_den hb (hF _ (List.mem_cons_self ..))
/-- e is base and a numeral -/
def IE.base : IE → IE × Int
  | .minus a (.lit k) => (a, -k)
  | .plus a (.lit k) => (a, k)
  | a => (a, 0)
theorem IE.base_den (ρ : Env) (e : IE) : e.den ρ = e.base.1.den ρ + e.base.2 := by
  unfold IE.base; split <;> simp [IE.den]
  omega
def barsE (F : List BE) (a : IE) (n : Int) : Bool := barsL a.base.1 (n - a.base.2) F
theorem barsE_den {ρ : Env} {a : IE} {n : Int} {F : List BE} (h : barsE F a n = true) (hF : ∀ p ∈ F, p.den ρ = true) : a.den ρ ≠ n := by
  unfold barsE at h
  have := barsL_den h hF
  rw [IE.base_den ρ a]
  omega
/-- whether a fact says that a is n or more -/
def leastEq (a : IE) (n : Int) : BE → Bool
  | .cmp o x y => match o, x, y with
    | .leq, .lit m, y => bif ble n m then y.eqb a else false
    | .lss, .lit m, y => bif ble n (m + 1) then y.eqb a else false
    | _, _, _ => false
  | _ => false
def leastL (a : IE) (n : Int) : List BE → Bool
  | [] => false
  | p :: F => bif leastEq a n p then true else leastL a n F
theorem leastEq_den {ρ : Env} {a : IE} {n : Int} {p : BE} (h : leastEq a n p = true) (hp : p.den ρ = true) : n ≤ a.den ρ := by
  unfold leastEq at h
  split at h
  · split at h
    · rename_i y m
      rw [cond_eq_ite] at h
      split at h
      · rename_i hb
        have := IE.eqb_eq h; subst this
        rw [ble_eq, decide_eq_true_eq] at hb
        have hp' : decide (m ≤ IE.den ρ _) = true := hp
        have := of_decide_eq_true hp'; omega
      · cases h
    · rename_i y m
      rw [cond_eq_ite] at h
      split at h
      · rename_i hb
        have := IE.eqb_eq h; subst this
        rw [ble_eq, decide_eq_true_eq] at hb
        have hp' : decide (m < IE.den ρ _) = true := hp
        have := of_decide_eq_true hp'; omega
      · cases h
    · cases h
  · cases h
theorem leastL_den {ρ : Env} {a : IE} {n : Int} : ∀ {F : List BE}, leastL a n F = true → (∀ p ∈ F, p.den ρ = true) → n ≤ a.den ρ
  | [], h, _ => by cases h
  | p :: F, h, hF => by
    unfold leastL at h
    cases hb : leastEq a n p
    · rw [hb] at h; exact leastL_den h fun q hq => hF q (List.mem_cons_of_mem _ hq)
    · exact leastEq_den hb (hF _ (List.mem_cons_self ..))
def leastE (F : List BE) (a : IE) (n : Int) : Bool := leastL a.base.1 (n - a.base.2) F
theorem leastE_den {ρ : Env} {a : IE} {n : Int} {F : List BE} (h : leastE F a n = true) (hF : ∀ p ∈ F, p.den ρ = true) : n ≤ a.den ρ := by
  unfold leastE at h
  have := leastL_den h hF
  rw [IE.base_den ρ a]
  omega
/-- a comparison with a numeral that the facts tell -/
def barred (F : List BE) : BE → BE
  | .cmp o a b => match o, a, b with
    | .eql, .lit n, a => bif barsE F a n then .lit false else .cmp .eql (.lit n) a
    | .eql, a, .lit n => bif barsE F a n then .lit false else .cmp .eql a (.lit n)
    | .neq, .lit n, a => bif barsE F a n then .lit true else .cmp .neq (.lit n) a
    | .neq, a, .lit n => bif barsE F a n then .lit true else .cmp .neq a (.lit n)
    | .leq, .lit n, a => bif leastE F a n then .lit true else .cmp .leq (.lit n) a
    | .lss, .lit n, a => bif leastE F a (n + 1) then .lit true else .cmp .lss (.lit n) a
    | o, a, b => .cmp o a b
  | b => b
theorem barred_den {ρ : Env} {F : List BE} (hF : ∀ p ∈ F, p.den ρ = true) (b : BE) : (barred F b).den ρ = b.den ρ := by
  unfold barred
  split
  · split
    · rw [cond_eq_ite]; split
      · rename_i h; have := barsE_den h hF
        simp only [BE.den, bc, IE.den]; symm; rw [beq_eq_false_iff_ne]; exact fun e => this e.symm
      · rfl
    · rw [cond_eq_ite]; split
      · rename_i h; have := barsE_den h hF
        simp only [BE.den, bc, IE.den]; symm; rw [beq_eq_false_iff_ne]; exact this
      · rfl
    · rw [cond_eq_ite]; split
      · rename_i h; have := barsE_den h hF
        simp only [BE.den, bc, IE.den]; symm; rw [bne_iff_ne]; exact fun e => this e.symm
      · rfl
    · rw [cond_eq_ite]; split
      · rename_i h; have := barsE_den h hF
        simp only [BE.den, bc, IE.den]; symm; rw [bne_iff_ne]; exact this
      · rfl
    · rw [cond_eq_ite]; split
      · rename_i h; have := leastE_den h hF
        symm; exact decide_eq_true this
      · rfl
    · rw [cond_eq_ite]; split
      · rename_i h; have := leastE_den h hF
        symm; exact decide_eq_true (show _ < _ from by simp only [IE.den]; omega)
      · rfl
    · rfl
  · rfl
def bsimp (F : List BE) : BE → BE
  | .lit b => .lit b
  | .and a b => known F (mkAnd (bsimp F a) (bsimp F b))
  | .or a b => known F (mkOr (bsimp F a) (bsimp F b))
  | .not a => mkNot (bsimp F a)
  | .ite c a b => known F (mkIte (bsimp F c) (bsimp F a) (bsimp F b))
  | .cmp o a b => barred F (known F (mkCmpS o (renI F a) (renI F b)))
  | b => known F b
theorem bsimp_den {ρ : Env} {F : List BE} (hF : ∀ p ∈ F, p.den ρ = true) (b : BE) : (bsimp F b).den ρ = b.den ρ := by
  induction b with
  | lit b => rfl
  | and a b iha ihb => simp only [bsimp, known_den hF, mkAnd_den, iha, ihb, BE.den]
  | or a b iha ihb => simp only [bsimp, known_den hF, mkOr_den, iha, ihb, BE.den]
  | not a ih => simp only [bsimp, mkNot_den, ih, BE.den]
  | ite c a b ihc iha ihb => simp only [bsimp, known_den hF, mkIte_den, iha, ihb, ihc, BE.den]
  | v i => simp only [bsimp, known_den hF]
  | cmp o a b => simp only [bsimp, barred_den hF, known_den hF, mkCmpS_den, renI_den hF, BE.den]
  | eq a b _ _ => simp only [bsimp, known_den hF]
  | sel j f x => simp only [bsimp, known_den hF]
  | nl j => simp only [bsimp, known_den hF]
/-- a long chain of conditions -/
def bigB : BE → Bool
  | .and x _ => match x with
    | .and x _ => match x with
      | .and x _ => match x with
        | .and _ _ => true
        | _ => false
      | _ => false
    | _ => false
  | _ => false
/-- .. is left as it is -/
def bsimpG (F : List BE) (b : BE) : BE := bif bigB b then b else bsimp F b
theorem bsimpG_den {ρ : Env} {F : List BE} (hF : ∀ p ∈ F, p.den ρ = true) (b : BE) : (bsimpG F b).den ρ = b.den ρ := by
  unfold bsimpG; cases bigB b
  · exact bsimp_den hF b
  · rfl
/-- learn that b is v -/
def learn (F : List BE) : BE → Bool → List BE
  | .lit _, _ => F
  | .not a, v => learn F a (!v)
  | .and a b, true => learn (learn F a true) b true
  | .or a b, false => learn (learn F a false) b false
  | .cmp o a b, true => .cmp o a b :: F
  | .cmp o a b, false => match o with
    | .eql => .cmp .neq a b :: .not (.cmp .eql a b) :: F
    | .neq => .cmp .eql a b :: .not (.cmp .neq a b) :: F
    | .lss => .cmp .leq b a :: .not (.cmp .lss a b) :: F
    | .leq => .cmp .lss b a :: .not (.cmp .leq a b) :: F
    | .gtr => .cmp .leq a b :: .not (.cmp .gtr a b) :: F
    | .geq => .cmp .lss a b :: .not (.cmp .geq a b) :: F
    | o => .not (.cmp o a b) :: F
  | b, true => b :: F
  | b, false => mkNot b :: F
theorem learn_den {ρ : Env} (b : BE) : ∀ (F : List BE) (v : Bool), (∀ p ∈ F, p.den ρ = true) → b.den ρ = v → ∀ p ∈ learn F b v, p.den ρ = true := by
  have cons : ∀ (F : List BE) (q : BE), (∀ p ∈ F, p.den ρ = true) → q.den ρ = true → ∀ p ∈ q :: F, p.den ρ = true := fun F q hF hq p hp => by
    rcases List.mem_cons.1 hp with rfl | hp
    · exact hq
    · exact hF p hp
  induction b with
  | lit b => intro F v hF _; exact hF
  | not a ih => intro F v hF h; exact ih F (!v) hF (by simp only [BE.den] at h; rw [← h]; simp)
  | and a b iha ihb =>
    intro F v hF h
    cases v
    · exact cons F _ hF (by rw [mkNot_den, h]; rfl)
    · simp only [BE.den, Bool.and_eq_true] at h
      exact ihb _ true (iha F true hF h.1) h.2
  | or a b iha ihb =>
    intro F v hF h
    cases v
    · simp only [BE.den, Bool.or_eq_false_iff] at h
      exact ihb _ false (iha F false hF h.1) h.2
    · exact cons F _ hF h
  | cmp o a b =>
    intro F v hF h
    cases v
    · have hn : (BE.not (.cmp o a b)).den ρ = true := by simp only [BE.den] at h ⊢; rw [h]; rfl
      cases o <;> (try (exact cons F _ hF hn)) <;> (refine cons _ _ (cons F _ hF hn) ?_; simp only [BE.den, bc] at h ⊢; first | (simp at h ⊢; omega) | (simp at h ⊢; exact h))
    · exact cons F _ hF h
  | v i => intro F v hF h; cases v <;> first | exact cons F _ hF h | exact cons F _ hF (by rw [mkNot_den, h]; rfl)
  | eq a b _ _ => intro F v hF h; cases v <;> first | exact cons F _ hF h | exact cons F _ hF (by rw [mkNot_den, h]; rfl)
  | ite c a b _ _ _ => intro F v hF h; cases v <;> first | exact cons F _ hF h | exact cons F _ hF (by rw [mkNot_den, h]; rfl)
  | sel j f x => intro F v hF h; cases v <;> first | exact cons F _ hF h | exact cons F _ hF (by rw [mkNot_den, h]; rfl)
  | nl j => intro F v hF h; cases v <;> first | exact cons F _ hF h | exact cons F _ hF (by rw [mkNot_den, h]; rfl)
def learns (F : List BE) : List BE → List BE
  | [] => F
  | p :: l => learns (learn F p true) l
theorem learns_den {ρ : Env} : ∀ (l : List BE) (F : List BE), (∀ p ∈ F, p.den ρ = true) → (∀ p ∈ l, p.den ρ = true) → ∀ p ∈ learns F l, p.den ρ = true
  | [], _, hF, _ => hF
  | q :: l, F, hF, hl => learns_den l _ (learn_den q F true hF (hl q (List.mem_cons_self ..))) fun p hp => hl p (List.mem_cons_of_mem _ hp)
/-- those that are not known; none if one is false -/
def openNeeds (F : List BE) : List BE → Option (List BE)
  | [] => some []
  | p :: l => match bsimp F p, openNeeds F l with
    | .lit true, r => r
    | .lit false, _ => none
    | q, some r => some (q :: r)
    | _, none => none
theorem openNeeds_den {ρ : Env} {F : List BE} (hF : ∀ p ∈ F, p.den ρ = true) : ∀ {l r : List BE}, openNeeds F l = some r → (∀ p ∈ r, p.den ρ = true) → ∀ p ∈ l, p.den ρ = true := by
  intro l
  induction l with
  | nil => intro r _ _ p hp; cases hp
  | cons q l ih =>
    intro r h hr p hp
    have e := bsimp_den hF q
    unfold openNeeds at h
    split at h
    · rename_i hq
      rcases List.mem_cons.1 hp with rfl | hp
      · rw [← e, hq]; rfl
      · exact ih h hr p hp
    · cases h
    · rename_i q' r' h2 _ _
      cases h
      rcases List.mem_cons.1 hp with rfl | hp
      · rw [← e]; exact hr _ (List.mem_cons_self ..)
      · exact ih h2 (fun p hp => hr p (List.mem_cons_of_mem _ hp)) p hp
    · cases h

/-! ### data of the tree -/
inductive VK where | i | b | v | l | n
def Env.set (ρ : Env) (n : Nat) : Dat → Env
  | .i x => { ρ with i := fun j => if j = n then x else ρ.i j }
  | .b x => { ρ with b := fun j => if j = n then x else ρ.b j }
  | .v x => { ρ with v := fun j => if j = n then x.1 else ρ.v j, one := fun j => by split <;> first | exact x.2 | exact ρ.one j }
  | .l x => { ρ with a := fun j => if j = n then x else ρ.a j }
  | .n x => { ρ with nl := fun j => if j = n then x else ρ.nl j }
def Env.setL (ρ : Env) (n : Nat) : List Dat → Env
  | [] => ρ
  | d :: l => (ρ.set n d).setL (n + 1) l
theorem Agree.set (ρ : Env) (κ : Kap) (n : Nat) (d : Dat) : Agree n ρ (ρ.set n d) κ κ := by
  cases d <;> exact ⟨fun j hj => by simp [Env.set]; try omega, fun j hj => by simp [Env.set]; try omega, fun j hj => by simp [Env.set]; try omega, fun j hj => by simp [Env.set]; try omega, fun j hj => by simp [Env.set]; try omega, fun _ _ => rfl, fun _ _ => rfl, fun _ _ => rfl, fun _ _ => rfl⟩
theorem Agree.weak {n m : Nat} {ρ ρ' : Env} {κ κ' : Kap} (h : Agree m ρ ρ' κ κ') (hm : n ≤ m) : Agree n ρ ρ' κ κ' :=
  ⟨fun j hj => h.i j (by omega), fun j hj => h.b j (by omega), fun j hj => h.v j (by omega), fun j hj => h.a j (by omega), fun j hj => h.nl j (by omega), fun j hj => h.o j (by omega), fun j hj => h.kb j (by omega), fun j hj => h.ko j (by omega), fun j hj => h.kc j (by omega)⟩
theorem Agree.setL (κ : Kap) : ∀ (l : List Dat) (n : Nat) (ρ : Env), Agree n ρ (ρ.setL n l) κ κ
  | [], n, ρ => Agree.refl n ρ κ
  | d :: l, n, ρ => (Agree.set ρ κ n d).trans (Agree.setL κ l (n + 1) (ρ.set n d)) (by omega)
def allD : List VK → (List Dat → Prop) → Prop
  | [], F => F []
  | .i :: r, F => ∀ x : Int, allD r fun l => F (.i x :: l)
  | .b :: r, F => ∀ x : Bool, allD r fun l => F (.b x :: l)
  | .v :: r, F => ∀ x : { v : Value // v.oneCell' = true }, allD r fun l => F (.v x :: l)
  | .l :: r, F => ∀ x : List (List Dat), allD r fun l => F (.l x :: l)
  | .n :: r, F => ∀ x : Bool, allD r fun l => F (.n x :: l)
def exD : List VK → (List Dat → Prop) → Prop
  | [], F => F []
  | .i :: r, F => ∃ x : Int, exD r fun l => F (.i x :: l)
  | .b :: r, F => ∃ x : Bool, exD r fun l => F (.b x :: l)
  | .v :: r, F => ∃ x : { v : Value // v.oneCell' = true }, exD r fun l => F (.v x :: l)
  | .l :: r, F => ∃ x : List (List Dat), exD r fun l => F (.l x :: l)
  | .n :: r, F => ∃ x : Bool, exD r fun l => F (.n x :: l)
def Dat.fits : VK → Dat → Bool
  | .i, .i _ => true
  | .b, .b _ => true
  | .v, .v _ => true
  | .l, .l _ => true
  | .n, .n _ => true
  | _, _ => false
def fitsL : List VK → List Dat → Bool
  | [], [] => true
  | k :: r, d :: l => d.fits k && fitsL r l
  | _, _ => false
theorem allD_spec : ∀ (ks : List VK) (F : List Dat → Prop), allD ks F → ∀ l, fitsL ks l = true → F l
  | [], F, h, [], _ => h
  | [], _, _, _ :: _, hl => by cases hl
  | _ :: _, _, _, [], hl => by cases hl
  | k :: r, F, h, d :: l, hl => by
    simp only [fitsL, Bool.and_eq_true] at hl
    cases k <;> cases d <;> simp [Dat.fits] at hl <;> exact allD_spec r _ (h _) l hl
theorem exD_spec : ∀ (ks : List VK) (F : List Dat → Prop), exD ks F → ∃ l, fitsL ks l = true ∧ F l
  | [], F, h => ⟨[], rfl, h⟩
  | .i :: r, F, ⟨x, h⟩ => let ⟨l, h1, h2⟩ := exD_spec r _ h; ⟨.i x :: l, by simp [fitsL, Dat.fits, h1], h2⟩
  | .b :: r, F, ⟨x, h⟩ => let ⟨l, h1, h2⟩ := exD_spec r _ h; ⟨.b x :: l, by simp [fitsL, Dat.fits, h1], h2⟩
  | .v :: r, F, ⟨x, h⟩ => let ⟨l, h1, h2⟩ := exD_spec r _ h; ⟨.v x :: l, by simp [fitsL, Dat.fits, h1], h2⟩
  | .l :: r, F, ⟨x, h⟩ => let ⟨l, h1, h2⟩ := exD_spec r _ h; ⟨.l x :: l, by simp [fitsL, Dat.fits, h1], h2⟩
  | .n :: r, F, ⟨x, h⟩ => let ⟨l, h1, h2⟩ := exD_spec r _ h; ⟨.n x :: l, by simp [fitsL, Dat.fits, h1], h2⟩

/-- a leaf: how the walk went on from here, with what value, in which state -/
structure Lf where
  e : Exit
  v : SV
  st : St
inductive T where
  | leaf (l : Lf)
  | ite (c : BE) (t e : T)
  | need (ps : List BE) (t : T)
  | call (f : FuncId) (args : List SV) (H : Heap) (n : Nat) (vks : List VK) (res : SV) (Hn : Heap) (t : T)
  | loop (vks : List VK) (n : Nat) (init : List LV) (body : T)
  | cont (k : Nat) (vals : List LV)
  | arr (n : Nat) (ct : AE) (nl : BE) (t : T)
  | dead
/-- an open loop: the invariant, the measure, and what the measure was when the round began -/
structure LCtx where
  I : List Dat → Prop
  μ : List Dat → Nat
  m : Nat
def allN (ρ : Env) : List BE → Prop
  | [] => True
  | [p] => p.den ρ = true
  | p :: l => p.den ρ = true ∧ allN ρ l
theorem allN_spec {ρ : Env} : ∀ {l : List BE}, allN ρ l → ∀ p ∈ l, p.den ρ = true
  | [], _, _, hp => by cases hp
  | [q], h, p, hp => by
    rcases List.mem_cons.1 hp with rfl | hp
    · exact h
    · cases hp
  | q :: r :: l, h, p, hp => by
    rcases List.mem_cons.1 hp with rfl | hp
    · exact h.1
    · exact allN_spec (l := r :: l) h.2 p hp
/-- all blocks that are there may not turn -/
def Bk.at (P : Program) (k : Nat) : Bk := ⟨P, k, k, fun _ => False, Nat.le_refl _, fun _ h => h.elim⟩
theorem Kept.at {P : Program} {w w' : World} (h : Below w.heap.size w w') : Kept (Bk.at P w.heap.size) w w' := ⟨h, fun _ _ h => h.elim⟩
section
variable (P : Program) (base : Bk) (w0 : World)
/-- a contract at a call: the result is determined, nothing that existed turns; the rows of the result are new -/
def CallOk (ρ ρ' : Env) (H : Heap) (f : FuncId) (args : List SV) (n : Nat) (res : SV) : Heap → Prop
  | [] => ∀ κ w, HeapOk ρ κ base H w → Kept base w0 w → base.top ≤ w.heap.size → Calls P f (args.map (SV.den ρ κ)).toArray w fun e w' => e = .returned (res.den ρ' κ) ∧ Below w.heap.size w w'
  | h :: Hn => ∀ κ w, HeapOk ρ κ base H w → Kept base w0 w → base.top ≤ w.heap.size → Calls P f (args.map (SV.den ρ κ)).toArray w fun e w' => ∃ κ', Agree n ρ ρ κ κ' ∧ e = .returned (res.den ρ' κ') ∧ Below w.heap.size w w' ∧ HeapOk ρ' κ' (Bk.at P w.heap.size) (h :: Hn) w'
def Den : T → List LCtx → Env → (Lf → List LCtx → Env → Prop) → Prop
  | .leaf l, L, ρ, Φ => Φ l L ρ
  | .ite c t e, L, ρ, Φ => (c.den ρ = true → Den t L ρ Φ) ∧ (c.den ρ = false → Den e L ρ Φ)
  | .need ps t, L, ρ, Φ => allN ρ ps ∧ Den t L ρ Φ
  | .call f args H n vks res Hn t, L, ρ, Φ => exD vks fun l => CallOk P base w0 ρ (ρ.setL n l) H f args n res Hn ∧ Den t L (ρ.setL n l) Φ
  | .loop vks n init body, L, ρ, Φ => ∃ (I : List Dat → Prop) (μ : List Dat → Nat), I (init.map (LV.eval ρ)) ∧ allD vks fun l => I l → Den body (⟨I, μ, μ l⟩ :: L) (ρ.setL n l) Φ
  | .cont k vals, L, ρ, _ => match L[k]? with
    | some c => c.I (vals.map (LV.eval ρ)) ∧ c.μ (vals.map (LV.eval ρ)) < c.m
    | none => False
  | .arr n ct nl t, L, ρ, Φ => Den t L ((ρ.set n (.l (ct.den ρ))).set n (.n (nl.den ρ))) Φ
  | .dead, _, _, _ => False
theorem allD_mono : ∀ (ks : List VK) {F G : List Dat → Prop}, (∀ l, F l → G l) → allD ks F → allD ks G
  | [], _, _, h, hf => h _ hf
  | .i :: r, _, _, h, hf => fun x => allD_mono r (fun _ => h _) (hf x)
  | .b :: r, _, _, h, hf => fun x => allD_mono r (fun _ => h _) (hf x)
  | .v :: r, _, _, h, hf => fun x => allD_mono r (fun _ => h _) (hf x)
  | .l :: r, _, _, h, hf => fun x => allD_mono r (fun _ => h _) (hf x)
  | .n :: r, _, _, h, hf => fun x => allD_mono r (fun _ => h _) (hf x)
theorem exD_mono : ∀ (ks : List VK) {F G : List Dat → Prop}, (∀ l, F l → G l) → exD ks F → exD ks G
  | [], _, _, h, hf => h _ hf
  | .i :: r, _, _, h, ⟨x, hf⟩ => ⟨x, exD_mono r (fun _ => h _) hf⟩
  | .b :: r, _, _, h, ⟨x, hf⟩ => ⟨x, exD_mono r (fun _ => h _) hf⟩
  | .v :: r, _, _, h, ⟨x, hf⟩ => ⟨x, exD_mono r (fun _ => h _) hf⟩
  | .l :: r, _, _, h, ⟨x, hf⟩ => ⟨x, exD_mono r (fun _ => h _) hf⟩
  | .n :: r, _, _, h, ⟨x, hf⟩ => ⟨x, exD_mono r (fun _ => h _) hf⟩
variable {P base w0}
theorem Den.mono : ∀ (t : T) (L : List LCtx) (ρ : Env) {Φ Ψ : Lf → List LCtx → Env → Prop}, (∀ l L ρ, Φ l L ρ → Ψ l L ρ) → Den P base w0 t L ρ Φ → Den P base w0 t L ρ Ψ
  | .leaf l, L, ρ, _, _, h, hd => h _ _ _ hd
  | .ite c t e, L, ρ, _, _, h, hd => ⟨fun hc => Den.mono t L ρ h (hd.1 hc), fun hc => Den.mono e L ρ h (hd.2 hc)⟩
  | .need ps t, L, ρ, _, _, h, hd => ⟨hd.1, Den.mono t L ρ h hd.2⟩
  | .call f args H n vks res Hn t, L, ρ, _, _, h, hd => exD_mono vks (fun l ⟨h1, h2⟩ => ⟨h1, Den.mono t L _ h h2⟩) hd
  | .loop vks n init body, L, ρ, _, _, h, ⟨I, μ, h1, h2⟩ => ⟨I, μ, h1, allD_mono vks (fun l g hI => Den.mono body _ _ h (g hI)) h2⟩
  | .cont k vals, L, ρ, _, _, _, hd => hd
  | .arr n ct nl t, L, ρ, _, _, h, hd => Den.mono t L _ h hd
  | .dead, _, _, _, _, _, hd => hd
/-- a tree with further trees at its leaves -/
def T.bnd : T → (Lf → Option T) → Option T
  | .leaf l, k => k l
  | .ite c t e, k => match t.bnd k, e.bnd k with
    | some t, some e => some (.ite c t e)
    | _, _ => none
  | .need ps t, k => match t.bnd k with
    | some t => some (.need ps t)
    | none => none
  | .call f args H n vks res Hn t, k => match t.bnd k with
    | some t => some (.call f args H n vks res Hn t)
    | none => none
  | .loop vks n init body, k => match body.bnd k with
    | some t => some (.loop vks n init t)
    | none => none
  | .cont j vals, _ => some (.cont j vals)
  | .arr n ct nl t, k => match t.bnd k with
    | some t => some (.arr n ct nl t)
    | none => none
  | .dead, _ => some .dead
theorem T.bnd_den : ∀ (t : T) (k : Lf → Option T) (t' : T), t.bnd k = some t' → ∀ (L : List LCtx) (ρ : Env) {Φ : Lf → List LCtx → Env → Prop}, Den P base w0 t' L ρ Φ → Den P base w0 t L ρ fun l L ρ => ∃ u, k l = some u ∧ Den P base w0 u L ρ Φ
  | .leaf l, k, t', h, L, ρ, Φ, hd => ⟨t', h, hd⟩
  | .ite c t e, k, t', h, L, ρ, Φ, hd => by
    simp only [T.bnd] at h
    split at h
    · rename_i t1 e1 h1 h2; cases h
      exact ⟨fun hc => T.bnd_den t k t1 h1 L ρ (hd.1 hc), fun hc => T.bnd_den e k e1 h2 L ρ (hd.2 hc)⟩
    · cases h
  | .need ps t, k, t', h, L, ρ, Φ, hd => by
    simp only [T.bnd] at h
    split at h
    · rename_i t1 h1; cases h; exact ⟨hd.1, T.bnd_den t k t1 h1 L ρ hd.2⟩
    · cases h
  | .call f args H n vks res Hn t, k, t', h, L, ρ, Φ, hd => by
    simp only [T.bnd] at h
    split at h
    · rename_i t1 h1; cases h; exact exD_mono vks (fun l ⟨g1, g2⟩ => ⟨g1, T.bnd_den t k t1 h1 L _ g2⟩) hd
    · cases h
  | .loop vks n init body, k, t', h, L, ρ, Φ, hd => by
    simp only [T.bnd] at h
    split at h
    · rename_i t1 h1; cases h
      obtain ⟨I, μ, g1, g2⟩ := hd
      exact ⟨I, μ, g1, allD_mono vks (fun l g hI => T.bnd_den body k t1 h1 _ _ (g hI)) g2⟩
    · cases h
  | .cont j vals, k, t', h, L, ρ, Φ, hd => by simp only [T.bnd] at h; cases h; exact hd
  | .dead, k, t', h, L, ρ, Φ, hd => by simp only [T.bnd] at h; cases h; exact hd
  | .arr n ct nl t, k, t', h, L, ρ, Φ, hd => by
    simp only [T.bnd] at h
    split at h
    · rename_i t1 h1; cases h; exact T.bnd_den t k t1 h1 L _ hd
    · cases h
end

/-! ### shapes of results -/
inductive CS where
  | int (k : IntKind)
  | bool
  | val
  | row (E : TypeId) (pat : List CK)     -- a slice of the call's own, new
inductive AS where
  | c (s : CS)
  | agg (l : List CS)
inductive RS where
  | one (a : AS)
  | tup (l : List AS)
/-- a row of the call's own, of which nothing is known: its rows are n, its name n + 1 -/
def rowSC (n s : Nat) : SC := .slice (n + 1) s 0 (.lit (.ofNat 0)) (.alen n) (.k (n + 1))
def CS.mk (n : Nat) : CS → List VK × SC × Heap
  | .int k => ([.i], .int k (.v n), [])
  | .bool => ([.b], .bool (.v n), [])
  | .val => ([.v], .vx n, [])
  | .row E pat => ([.l, .n], rowSC n pat.length, [.arr (n + 1) n pat (some E)])
def CS.mkL (n : Nat) : List CS → List VK × List SC × Heap
  | [] => ([], [], [])
  | s :: l => let (k, c, h) := s.mk n; let (ks, cs, hs) := CS.mkL (n + k.length) l; (k ++ ks, c :: cs, h ++ hs)
def AS.mk (n : Nat) : AS → List VK × SA × Heap
  | .c s => let (k, x, h) := s.mk n; (k, .c x, h)
  | .agg l => let (ks, cs, h) := CS.mkL n l; (ks, .agg cs, h)
def AS.mkL (n : Nat) : List AS → List VK × List SA × Heap
  | [] => ([], [], [])
  | s :: l => let (k, x, h) := s.mk n; let (ks, cs, hs) := AS.mkL (n + k.length) l; (k ++ ks, x :: cs, h ++ hs)
def RS.mk (n : Nat) : RS → List VK × SV × Heap
  | .one a => let (k, c, h) := a.mk n; (k, .a c, h)
  | .tup l => let (k, c, h) := AS.mkL n l; (k, .tup c, h)
/-- all of it rows, with names from n on -/
def newRows (n : Nat) : Heap → Bool
  | [] => true
  | .arr j _ _ (some _) :: H => Nat.ble n j && newRows n H
  | _ => false
theorem newRows_obj {n : Nat} : ∀ {H : Heap}, newRows n H = true → ∀ x, H.obj? x = none
  | [], _, _ => rfl
  | .obj .. :: _, h, _ => by simp [newRows] at h
  | .arr j c p o :: H, h, x => by
    cases o with
    | none => simp [newRows] at h
    | some E => simp only [newRows, Bool.and_eq_true] at h; exact newRows_obj h.2 x
theorem newRows_arr {n : Nat} : ∀ {H : Heap}, newRows n H = true → ∀ j c p o, H.arr? j = some (c, p, o) → n ≤ j ∧ ∃ E, o = some E
  | [], _, _, _, _, _, ha => by cases ha
  | .obj .. :: _, h, _, _, _, _, _ => by simp [newRows] at h
  | .arr j c p o :: H, h, x, c', p', o', ha => by
    cases o with
    | none => simp [newRows] at h
    | some E =>
      simp only [newRows, Bool.and_eq_true, Nat.ble_eq] at h
      unfold Heap.arr? at ha
      cases hq : Nat.beq j x
      · rw [hq] at ha; exact newRows_arr h.2 x c' p' o' ha
      · rw [hq] at ha; cases ha; rw [Nat.beq_eq] at hq; subst hq; exact ⟨h.1, E, rfl⟩
theorem append_obj {H' : Heap} : ∀ {H : Heap} (x : Nat), (∀ x, H.obj? x = none) → Heap.obj? (H ++ H') x = H'.obj? x
  | [], _, _ => rfl
  | .obj i o :: H, x, h => by have := h i; simp [Heap.obj?] at this
  | .arr .. :: H, x, h => append_obj (H := H) x fun x => h x
theorem append_arr {H' : Heap} : ∀ {H : Heap} {x : Nat} {y : Nat × List CK × Option TypeId}, Heap.arr? (H ++ H') x = some y → H.arr? x = some y ∨ (H.arr? x = none ∧ H'.arr? x = some y)
  | [], _, _, h => .inr ⟨rfl, h⟩
  | .obj .. :: H, _, _, h => append_arr (H := H) h
  | .arr j c p o :: H, x, y, h => by
    simp only [List.cons_append, Heap.arr?] at h ⊢
    cases hq : Nat.beq j x
    · rw [hq] at h; exact append_arr (H := H) h
    · rw [hq] at h; exact .inl h
/-- what stood, and the new rows -/
theorem HeapOk.join {P : Program} {ρ ρ' : Env} {κ κ' : Kap} {base : Bk} {n : Nat} {H Hn : Heap} {w w' : World} (h : HeapOk ρ κ base H w) (hz : base.top ≤ w.heap.size) (hb : Below w.heap.size w w') (hA : Agree n ρ ρ' κ κ') (hbn : H.bnd n = true) (hn : newRows n Hn = true) (h' : HeapOk ρ' κ' (Bk.at P w.heap.size) Hn w') : HeapOk ρ' κ' base (Hn ++ H) w' := by
  have g := h.agree hA hbn
  have g' := g.below fun k hk => hb.block k hk
  have ho : ∀ x, Heap.obj? (Hn ++ H) x = H.obj? x := fun x => append_obj x (newRows_obj hn)
  have new : ∀ j c p o, Hn.arr? j = some (c, p, o) → (ρ'.a c ≠ [] ∧ p ≠ []) ∨ (o.isSome = true ∧ ρ'.nl j = false) → w.heap.size ≤ κ'.ab j := by
    intro j c p o ha hex
    obtain ⟨_, E, rfl⟩ := newRows_arr hn j c p o ha
    obtain ⟨_, hr, _⟩ := h'.row j c p E ha
    have hnl : ρ'.nl j = false := by
      rcases hex with ⟨hne, _⟩ | ⟨_, hx⟩
      · cases hx : ρ'.nl j
        · rfl
        · exact absurd ((h'.arr j c p _ ha).2 hx) hne
      · exact hx
    exact (hr.lt (κ'.ab j) (by simp [rowVal, hnl, Value.ownBlock])).1
  constructor
  · intro id o g0; rw [ho] at g0; exact g'.obj id o g0
  · intro id o id' o' g0 g1; rw [ho] at g0 g1; exact g'.inj _ _ _ _ g0 g1
  · intro j c p o ha
    rcases append_arr ha with ha | ⟨_, ha⟩
    · exact h'.arr j c p o ha
    · exact g'.arr j c p o ha
  · intro j c p o id ob ha g0 hex
    rw [ho] at g0
    rcases append_arr ha with ha | ⟨_, ha⟩
    · have := new j c p o ha hex
      have := g.lt g0
      omega
    · exact g'.sep j c p o id ob ha g0 hex
  · intro j c p E ha
    rcases append_arr ha with ha | ⟨_, ha⟩
    · obtain ⟨r1, ⟨r2, r3⟩, r4⟩ := h'.row j c p E ha
      refine ⟨r1, ⟨r2, ?_⟩, fun hnl => (base.new (Nat.le_trans hz (new j c p _ ha (.inr ⟨rfl, hnl⟩)))).2⟩
      rcases r3 with r3 | ⟨gg, cap, cur, hv, hg, hh, hr⟩
      · exact .inl r3
      · exact .inr ⟨gg, cap, cur, hv, Nat.le_trans base.le (Nat.le_trans hz hg), hh, hr⟩
    · exact g'.row j c p E ha
  · intro j c p E j' c' p' o' ha ha' hne hnl hex
    rcases append_arr ha with ha | ⟨_, ha⟩ <;> rcases append_arr ha' with ha' | ⟨_, ha'⟩
    · exact h'.rsep j c p E j' c' p' o' ha ha' hne hnl hex
    · have := new j c p _ ha (.inr ⟨rfl, hnl⟩)
      have := g.arrlt ha' hex
      omega
    · have := new j' c' p' o' ha' hex
      have := g.arrlt ha (.inr ⟨rfl, hnl⟩)
      omega
    · exact g'.rsep j c p E j' c' p' o' ha ha' hne hnl hex

/-! ### loops -/
inductive Loc where
  | slot (t : Nat)
  | cell (id off : Nat)     -- a cell of a block of the call's own
  | row (t : Nat) (E : TypeId)     -- a slice of the call's own in slot t
  | rowc (id off : Nat) (E : TypeId)     -- .. or in a cell
  | cont (j : Nat)     -- what stands in row j, that stays where it is
def vq : Value → Value → Bool
  | .slice none a b, .slice none c d => Nat.beq a c && Nat.beq b d
  | .pointer none, .pointer none => true
  | .nilFunc, .nilFunc => true
  | .nilIface, .nilIface => true
  | .map none, .map none => true
  | .string a, .string b => decide (a = b)
  | _, _ => false
theorem vq_eq {a b : Value} (h : vq a b = true) : a = b := by
  unfold vq at h; split at h <;> simp_all
def fnq : Fn → Fn → Bool
  | .func a, .func b => Nat.beq a b
  | _, _ => false
theorem fnq_eq {a b : Fn} (h : fnq a b = true) : a = b := by
  unfold fnq at h; split at h <;> simp_all
def IE.eqbL : List IE → List IE → Bool
  | [], [] => true
  | a :: l, b :: r => a.eqb b && IE.eqbL l r
  | _, _ => false
theorem IE.eqbL_eq : ∀ {a b : List IE}, IE.eqbL a b = true → a = b
  | [], [], _ => rfl
  | [], _ :: _, h => by simp [IE.eqbL] at h
  | _ :: _, [], h => by simp [IE.eqbL] at h
  | x :: l, y :: r, h => by simp only [IE.eqbL, Bool.and_eq_true] at h; rw [IE.eqb_eq h.1, IE.eqbL_eq h.2]
mutual
def SC.eqb : SC → SC → Bool
  | .int k a, .int k' b => Nat.beq (kn k) (kn k') && a.eqb b
  | .bool a, .bool b => a.eqb b
  | .ptr a b, .ptr c d => Nat.beq a c && Nat.beq b d
  | .aptr j s c x, .aptr j' s' c' x' => Nat.beq j j' && (Nat.beq s s' && (Nat.beq c c' && x.eqb x'))
  | .slice j s c x l k, .slice j' s' c' x' l' k' => Nat.beq j j' && (Nat.beq s s' && (Nat.beq c c' && (x.eqb x' && (l.eqb l' && k.eqb k'))))
  | .oslice a b c d, .oslice a' b' c' d' => Nat.beq a a' && (Nat.beq b b' && (Nat.beq c c' && Nat.beq d d'))
  | .lit v, .lit u => vq v u
  | .vx i, .vx j => Nat.beq i j
  | .axs j f x, .axs j' f' x' => Nat.beq j j' && (Nat.beq f f' && x.eqb x')
  | .fn f a b, .fn f' a' b' => fnq f f' && (SC.eqbL a a' && SC.eqbL b b')
  | .gslice a b c d, .gslice a' b' c' d' => Nat.beq a a' && (Nat.beq b b' && (Nat.beq c c' && Nat.beq d d'))
  | .str l, .str l' => IE.eqbL l l'
  | .strA c x l, .strA c' x' l' => Nat.beq c c' && (x.eqb x' && l.eqb l')
  | .yld a, .yld b => Nat.beq a b
  | .mref a, .mref b => Nat.beq a b
  | _, _ => false
def SC.eqbL : List SC → List SC → Bool
  | [], [] => true
  | a :: l, b :: r => a.eqb b && SC.eqbL l r
  | _, _ => false
end
mutual
theorem SC.eqb_eq : ∀ {a b : SC}, a.eqb b = true → a = b
  | .int k a, b, h => by cases b <;> simp only [SC.eqb, Bool.and_eq_true, Bool.false_eq_true] at h; rw [kn_eq h.1, IE.eqb_eq h.2]
  | .bool a, b, h => by cases b <;> simp only [SC.eqb, Bool.false_eq_true] at h; rw [BE.eqb_eq h]
  | .ptr a c, b, h => by cases b <;> simp only [SC.eqb, Bool.and_eq_true, Bool.false_eq_true, Nat.beq_eq] at h; rw [h.1, h.2]
  | .aptr j s c x, b, h => by cases b <;> simp only [SC.eqb, Bool.and_eq_true, Bool.false_eq_true, Nat.beq_eq] at h; rw [h.1, h.2.1, h.2.2.1, IE.eqb_eq h.2.2.2]
  | .slice j s c x l k, b, h => by cases b <;> simp only [SC.eqb, Bool.and_eq_true, Bool.false_eq_true, Nat.beq_eq] at h; rw [h.1, h.2.1, h.2.2.1, IE.eqb_eq h.2.2.2.1, IE.eqb_eq h.2.2.2.2.1, CE.eqb_eq h.2.2.2.2.2]
  | .oslice a b' c d, b, h => by cases b <;> simp only [SC.eqb, Bool.and_eq_true, Bool.false_eq_true, Nat.beq_eq] at h; rw [h.1, h.2.1, h.2.2.1, h.2.2.2]
  | .lit v, b, h => by cases b <;> simp only [SC.eqb, Bool.false_eq_true] at h; rw [vq_eq h]
  | .vx i, b, h => by cases b <;> simp only [SC.eqb, Bool.false_eq_true, Nat.beq_eq] at h; rw [h]
  | .axs j f x, b, h => by cases b <;> simp only [SC.eqb, Bool.and_eq_true, Bool.false_eq_true, Nat.beq_eq] at h; rw [h.1, h.2.1, IE.eqb_eq h.2.2]
  | .fn f a c, b, h => by cases b <;> simp only [SC.eqb, Bool.and_eq_true, Bool.false_eq_true] at h; rw [fnq_eq h.1, SC.eqbL_eq h.2.1, SC.eqbL_eq h.2.2]
  | .gslice a b' c d, b, h => by cases b <;> simp only [SC.eqb, Bool.and_eq_true, Bool.false_eq_true, Nat.beq_eq] at h; rw [h.1, h.2.1, h.2.2.1, h.2.2.2]
  | .str l, b, h => by cases b <;> simp only [SC.eqb, Bool.false_eq_true] at h; rw [IE.eqbL_eq h]
  | .strA c x l, b, h => by cases b <;> simp only [SC.eqb, Bool.and_eq_true, Bool.false_eq_true, Nat.beq_eq] at h; rw [h.1, IE.eqb_eq h.2.1, IE.eqb_eq h.2.2]
  | .yld i, b, h => by cases b <;> simp only [SC.eqb, Bool.false_eq_true, Nat.beq_eq] at h; rw [h]
  | .mref i, b, h => by cases b <;> simp only [SC.eqb, Bool.false_eq_true, Nat.beq_eq] at h; rw [h]
theorem SC.eqbL_eq : ∀ {a b : List SC}, SC.eqbL a b = true → a = b
  | [], [], _ => rfl
  | [], _ :: _, h => by simp [SC.eqbL] at h
  | _ :: _, [], h => by simp [SC.eqbL] at h
  | x :: l, y :: r, h => by simp only [SC.eqbL, Bool.and_eq_true] at h; rw [SC.eqb_eq h.1, SC.eqbL_eq h.2]
end
def SA.eqb : SA → SA → Bool
  | .c a, .c b => a.eqb b
  | .agg a, .agg b => SC.eqbL a b
  | _, _ => false
theorem SA.eqb_eq {a b : SA} (h : a.eqb b = true) : a = b := by
  cases a <;> cases b <;> simp only [SA.eqb, Bool.false_eq_true] at h
  · rw [SC.eqb_eq h]
  · rw [SC.eqbL_eq h]
def SA.eqbL : List SA → List SA → Bool
  | [], [] => true
  | a :: l, b :: r => a.eqb b && SA.eqbL l r
  | _, _ => false
theorem SA.eqbL_eq : ∀ {a b : List SA}, SA.eqbL a b = true → a = b
  | [], [], _ => rfl
  | [], _ :: _, h => by simp [SA.eqbL] at h
  | _ :: _, [], h => by simp [SA.eqbL] at h
  | x :: l, y :: r, h => by simp only [SA.eqbL, Bool.and_eq_true] at h; rw [SA.eqb_eq h.1, SA.eqbL_eq h.2]
def SV.eqb : SV → SV → Bool
  | .a x, .a y => x.eqb y
  | .tup l, .tup r => SA.eqbL l r
  | .ite c x y, .ite c' x' y' => c.eqb c' && (x.eqb x' && y.eqb y')
  | .any, .any => true
  | _, _ => false
theorem SV.eqb_eq : ∀ {a b : SV}, a.eqb b = true → a = b
  | .a x, b, h => by cases b <;> simp only [SV.eqb, Bool.false_eq_true] at h; rw [SA.eqb_eq h]
  | .tup l, b, h => by cases b <;> simp only [SV.eqb, Bool.false_eq_true] at h; rw [SA.eqbL_eq h]
  | .ite c x y, b, h => by cases b <;> simp only [SV.eqb, Bool.and_eq_true, Bool.false_eq_true] at h; rw [BE.eqb_eq h.1, SV.eqb_eq h.2.1, SV.eqb_eq h.2.2]
  | .any, b, h => by cases b <;> simp only [SV.eqb, Bool.false_eq_true] at h; rfl
def Sl.eqb : Sl → Sl → Bool
  | .nil, .nil => true
  | .node x l r, .node y l' r' => x.eqb y && (l.eqb l' && r.eqb r')
  | _, _ => false
theorem Sl.eqb_eq : ∀ {a b : Sl}, a.eqb b = true → a = b
  | .nil, .nil, _ => rfl
  | .nil, .node .., h => by simp [Sl.eqb] at h
  | .node .., .nil, h => by simp [Sl.eqb] at h
  | .node x l r, .node y l' r', h => by simp only [Sl.eqb, Bool.and_eq_true] at h; rw [SV.eqb_eq h.1, Sl.eqb_eq h.2.1, Sl.eqb_eq h.2.2]
def SV.eqbL : List SV → List SV → Bool
  | [], [] => true
  | x :: l, y :: r => x.eqb y && SV.eqbL l r
  | _, _ => false
theorem SV.eqbL_eq : ∀ {a b : List SV}, SV.eqbL a b = true → a = b
  | [], [], _ => rfl
  | [], _ :: _, h => by simp [SV.eqbL] at h
  | _ :: _, [], h => by simp [SV.eqbL] at h
  | x :: l, y :: r, h => by simp only [SV.eqbL, Bool.and_eq_true] at h; rw [SV.eqb_eq h.1, SV.eqbL_eq h.2]
def LV.eqb : LV → LV → Bool
  | .i x, .i y => x.eqb y
  | .b x, .b y => x.eqb y
  | .v x, .v y => x.eqb y
  | .n x, .n y => x.eqb y
  | .l (.arr c), .l (.arr d) => Nat.beq c d
  | _, _ => false
theorem LV.eqb_eq {a b : LV} (h : a.eqb b = true) : a = b := by
  unfold LV.eqb at h
  split at h
  · rw [IE.eqb_eq h]
  · rw [BE.eqb_eq h]
  · rw [SC.eqb_eq h]
  · rw [BE.eqb_eq h]
  · rw [Nat.beq_eq] at h; rw [h]
  · cases h
end Go.SX
