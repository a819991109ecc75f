/- A part of the proof: see the text that states the theorem. -/
import Derived.WalkKit
import Derived.Deep.MidRow
import Derived.Below
import Derived.ChangeKeysEq
import Derived.Laws.IdiomCopy
import Derived.Laws.OwnMore
/- SyA: symbolic integers, booleans and values for a symbolic execution of the model's code. Nothing of a program stands here. -/
set_option linter.unusedSimpArgs false
set_option linter.unusedVariables false
set_option linter.unusedSectionVars false
noncomputable section
namespace Go.SX
open Go

/-- A datum: a number, a bool, a value of one cell, the rows of an array, whether a slice is nil. -/
inductive Dat where
  | i (n : Int)
  | b (b : Bool)
  | v (v : { v : Value // v.oneCell' = true })
  | l (rows : List (List Dat))
  | n (b : Bool)
def Dat.int : Dat → Int
  | .i x => x
  | _ => 0
def Dat.bool : Dat → Bool
  | .b x => x
  | _ => false
def Dat.val : Dat → Value
  | .v x => x.1
  | _ => .nilFunc
theorem Dat.val_one (d : Dat) : d.val.oneCell' = true := by
  cases d <;> first | rfl | (rename_i x; exact x.2)
/-- The data environment: what the symbolic variables stand for. -/
structure Env where
  i : Nat → Int
  b : Nat → Bool
  v : Nat → Value
  a : Nat → List (List Dat)
  nl : Nat → Bool
  one : ∀ j, (v j).oneCell' = true
/-- what stands in row x, place f of array c -/
def Env.at (ρ : Env) (c f : Nat) (x : Int) : Dat := ((ρ.a c).getD x.toNat []).getD f (.i 0)

/-- Where the symbolic blocks lie. -/
structure Kap where
  o : Nat → Nat
  ab : Nat → Nat
  ao : Nat → Nat
  cap : Nat → Nat

/-- What a binary operation on integers of kind k gives. -/
def bi (o : BinOp) (k : IntKind) (a b : Int) : Int :=
  match o with
  | .add => k.wrap (a + b)
  | .sub => k.wrap (a - b)
  | .mul => k.wrap (a * b)
  | .quo => k.wrap (a.tdiv b)
  | .rem => a.tmod b
  | .and | .or | .xor | .andNot => bits o k a b
  | .shl => k.wrap (a * 2 ^ (min b.toNat k.bits))
  | .shr => a.fdiv (2 ^ (min b.toNat k.bits))
  | _ => 0
/-- What a comparison of integers gives. -/
def bc (o : BinOp) (a b : Int) : Bool :=
  match o with
  | .eql => a == b
  | .neq => a != b
  | .lss => decide (a < b)
  | .leq => decide (a ≤ b)
  | .gtr => decide (b < a)
  | .geq => decide (b ≤ a)
  | _ => false

inductive IE where
  | v (i : Nat)
  | lit (n : Int)
  | bin (o : BinOp) (k : IntKind) (a b : IE)
  | conv (k : IntKind) (a : IE)
  | sel (c f : Nat) (x : IE)
  | alen (c : Nat)
  | nat (a : IE)
  | plus (a b : IE)
  | minus (a b : IE)
  | sw (o : BinOp) (a b c d : IE)
 

inductive BE where
  | v (i : Nat)
  | lit (b : Bool)
  | cmp (o : BinOp) (a b : IE)
  | not (a : BE)
  | and (a b : BE)
  | or (a b : BE)
  | eq (a b : BE)
  | ite (c a b : BE)
  | sel (c f : Nat) (x : IE)
  | nl (j : Nat)
 

def IE.den (ρ : Env) : IE → Int
  | .v i => ρ.i i
  | .lit n => n
  | .bin o k a b => bi o k (a.den ρ) (b.den ρ)
  | .conv k a => k.wrap (a.den ρ)
  | .sel c f x => (ρ.at c f (x.den ρ)).int
  | .alen c => ((ρ.a c).length : Int)
  | .nat a => ((a.den ρ).toNat : Int)
  | .plus a b => a.den ρ + b.den ρ
  | .minus a b => a.den ρ - b.den ρ
  | .sw o a b c d => if bc o (a.den ρ) (b.den ρ) = true then c.den ρ else d.den ρ

def BE.den (ρ : Env) : BE → Bool
  | .v i => ρ.b i
  | .lit b => b
  | .cmp o a b => bc o (a.den ρ) (b.den ρ)
  | .not a => !(a.den ρ)
  | .and a b => a.den ρ && b.den ρ
  | .or a b => a.den ρ || b.den ρ
  | .eq a b => a.den ρ == b.den ρ
  | .ite c a b => if c.den ρ then a.den ρ else b.den ρ
  | .sel c f x => (ρ.at c f (x.den ρ)).bool
  | .nl j => ρ.nl j

/-! ### equality by looking, quick in the kernel -/
def iq : Int → Int → Bool
  | .ofNat a, .ofNat b => Nat.beq a b
  | .negSucc a, .negSucc b => Nat.beq a b
  | _, _ => false
theorem iq_eq {a b : Int} (h : iq a b = true) : a = b := by
  cases a <;> cases b <;> simp [iq] at h <;> simp [h]
def kn : IntKind → Nat
  | .i8 => 0 | .i16 => 1 | .i32 => 2 | .i64 => 3 | .u8 => 4 | .u16 => 5 | .u32 => 6 | .u64 => 7
theorem kn_eq {a b : IntKind} (h : Nat.beq (kn a) (kn b) = true) : a = b := by
  cases a <;> cases b <;> first | rfl | (simp [kn] at h)
def on : BinOp → Nat
  | .add => 0 | .sub => 1 | .mul => 2 | .quo => 3 | .rem => 4 | .and => 5 | .or => 6 | .xor => 7 | .shl => 8 | .shr => 9 | .andNot => 10
  | .eql => 11 | .neq => 12 | .lss => 13 | .leq => 14 | .gtr => 15 | .geq => 16
theorem on_eq {a b : BinOp} (h : Nat.beq (on a) (on b) = true) : a = b := by
  cases a <;> cases b <;> first | rfl | (simp [on] at h)
def IE.eqb : IE → IE → Bool
  | .v i, .v j => Nat.beq i j
  | .lit a, .lit b => iq a b
  | .bin o k a b, .bin o' k' a' b' => Nat.beq (on o) (on o') && Nat.beq (kn k) (kn k') && a.eqb a' && b.eqb b'
  | .conv k a, .conv k' a' => Nat.beq (kn k) (kn k') && a.eqb a'
  | .sel j f x, .sel j' f' x' => Nat.beq j j' && Nat.beq f f' && x.eqb x'
  | .alen c, .alen d => Nat.beq c d
  | .nat a, .nat b => a.eqb b
  | .plus a b, .plus a' b' => a.eqb a' && b.eqb b'
  | .minus a b, .minus a' b' => a.eqb a' && b.eqb b'
  | .sw o a b c d, .sw o' a' b' c' d' => Nat.beq (on o) (on o') && a.eqb a' && b.eqb b' && c.eqb c' && d.eqb d'
  | _, _ => false
theorem IE.eqb_eq : ∀ {a b : IE}, a.eqb b = true → a = b := by
  intro a
  induction a with
  | v i => intro b h; cases b <;> simp [IE.eqb] at h; simp [h]
  | lit n => intro b h; cases b <;> simp [IE.eqb] at h; rw [iq_eq h]
  | bin o k a b iha ihb =>
    intro c h
    cases c <;> simp only [IE.eqb, Bool.and_eq_true, Bool.false_eq_true] at h
    obtain ⟨⟨⟨h1, h2⟩, h3⟩, h4⟩ := h
    rw [on_eq h1, kn_eq h2, iha h3, ihb h4]
  | conv k a ih =>
    intro c h
    cases c <;> simp only [IE.eqb, Bool.and_eq_true, Bool.false_eq_true] at h
    rw [kn_eq h.1, ih h.2]
  | sel j f x ih =>
    intro c h
    cases c <;> simp only [IE.eqb, Bool.and_eq_true, Bool.false_eq_true, Nat.beq_eq] at h
    rw [h.1.1, h.1.2, ih h.2]
  | alen c => intro b h; cases b <;> simp only [IE.eqb, Bool.false_eq_true, Nat.beq_eq] at h; rw [h]
  | nat a ih => intro b h; cases b <;> simp only [IE.eqb, Bool.false_eq_true] at h; rw [ih h]
  | plus a b iha ihb => intro c h; cases c <;> simp only [IE.eqb, Bool.and_eq_true, Bool.false_eq_true] at h; rw [iha h.1, ihb h.2]
  | minus a b iha ihb => intro c h; cases c <;> simp only [IE.eqb, Bool.and_eq_true, Bool.false_eq_true] at h; rw [iha h.1, ihb h.2]
  | sw o a b c d iha ihb ihc ihd => intro e h; cases e <;> simp only [IE.eqb, Bool.and_eq_true, Bool.false_eq_true] at h; rw [on_eq h.1.1.1.1, iha h.1.1.1.2, ihb h.1.1.2, ihc h.1.2, ihd h.2]
def bq : Bool → Bool → Bool
  | true, true => true
  | false, false => true
  | _, _ => false
theorem bq_eq {a b : Bool} (h : bq a b = true) : a = b := by cases a <;> cases b <;> simp [bq] at h <;> rfl
def BE.eqb : BE → BE → Bool
  | .v i, .v j => Nat.beq i j
  | .lit a, .lit b => bq a b
  | .cmp o a b, .cmp o' a' b' => Nat.beq (on o) (on o') && a.eqb a' && b.eqb b'
  | .not a, .not b => a.eqb b
  | .and a b, .and a' b' => a.eqb a' && b.eqb b'
  | .or a b, .or a' b' => a.eqb a' && b.eqb b'
  | .eq a b, .eq a' b' => a.eqb a' && b.eqb b'
  | .ite c a b, .ite c' a' b' => c.eqb c' && a.eqb a' && b.eqb b'
  | .sel j f x, .sel j' f' x' => Nat.beq j j' && Nat.beq f f' && x.eqb x'
  | .nl j, .nl j' => Nat.beq j j'
  | _, _ => false
theorem BE.eqb_eq : ∀ {a b : BE}, a.eqb b = true → a = b := by
  intro a
  induction a with
  | v i => intro b h; cases b <;> simp [BE.eqb] at h; simp [h]
  | lit n => intro b h; cases b <;> simp only [BE.eqb, Bool.false_eq_true] at h; rw [bq_eq h]
  | cmp o a b =>
    intro c h
    cases c <;> simp only [BE.eqb, Bool.and_eq_true, Bool.false_eq_true] at h
    rw [on_eq h.1.1, IE.eqb_eq h.1.2, IE.eqb_eq h.2]
  | not a ih => intro c h; cases c <;> simp only [BE.eqb, Bool.false_eq_true] at h; rw [ih h]
  | and a b iha ihb => intro c h; cases c <;> simp only [BE.eqb, Bool.and_eq_true, Bool.false_eq_true] at h; rw [iha h.1, ihb h.2]
  | or a b iha ihb => intro c h; cases c <;> simp only [BE.eqb, Bool.and_eq_true, Bool.false_eq_true] at h; rw [iha h.1, ihb h.2]
  | eq a b iha ihb => intro c h; cases c <;> simp only [BE.eqb, Bool.and_eq_true, Bool.false_eq_true] at h; rw [iha h.1, ihb h.2]
  | ite c a b ihc iha ihb => intro c h; cases c <;> simp only [BE.eqb, Bool.and_eq_true, Bool.false_eq_true] at h; rw [ihc h.1.1, iha h.1.2, ihb h.2]
  | sel j f x =>
    intro c h
    cases c <;> simp only [BE.eqb, Bool.and_eq_true, Bool.false_eq_true, Nat.beq_eq] at h
    rw [h.1.1, h.1.2, IE.eqb_eq h.2]
  | nl j => intro c h; cases c <;> simp only [BE.eqb, Bool.false_eq_true, Nat.beq_eq] at h; rw [h]

/-! ### folding -/
/-- in the range of its kind, by a look at the numeral -/
def fits : IntKind → Int → Bool
  | .i8, .ofNat n => Nat.blt n 128 | .i8, .negSucc n => Nat.blt n 128
  | .i16, .ofNat n => Nat.blt n 32768 | .i16, .negSucc n => Nat.blt n 32768
  | .i32, .ofNat n => Nat.blt n 2147483648 | .i32, .negSucc n => Nat.blt n 2147483648
  | .i64, .ofNat n => Nat.blt n 9223372036854775808 | .i64, .negSucc n => Nat.blt n 9223372036854775808
  | .u8, .ofNat n => Nat.blt n 256 | .u16, .ofNat n => Nat.blt n 65536 | .u32, .ofNat n => Nat.blt n 4294967296 | .u64, .ofNat n => Nat.blt n 18446744073709551616
  | _, _ => false
theorem wrap_of_fits {k : IntKind} {n : Int} (h : fits k n = true) : k.wrap n = n := by
  cases k <;> cases n <;> simp [fits, Nat.blt_eq] at h <;> simp only [IntKind.wrap, IntKind.bits, IntKind.signed] <;> simp <;> (try split) <;> omega
def foldWrap (k : IntKind) (n : Int) : Int := bif fits k n then n else k.wrap n
theorem foldWrap_eq (k : IntKind) (n : Int) : foldWrap k n = k.wrap n := by
  unfold foldWrap
  cases h : fits k n
  · rfl
  · rw [wrap_of_fits h]; rfl
/-- 'bi' at two numerals -/
def biLit (o : BinOp) (k : IntKind) (a b : Int) : Int :=
  match o with
  | .add => foldWrap k (a + b)
  | .sub => foldWrap k (a - b)
  | .mul => foldWrap k (a * b)
  | .quo => foldWrap k (a.tdiv b)
  | o => bi o k a b
theorem biLit_eq (o : BinOp) (k : IntKind) (a b : Int) : biLit o k a b = bi o k a b := by
  cases o <;> simp only [biLit, bi, foldWrap_eq]
def mkBin (o : BinOp) (k : IntKind) : IE → IE → IE
  | .lit a, .lit b => .lit (biLit o k a b)
  | a, b => .bin o k a b
theorem mkBin_den (ρ : Env) (o : BinOp) (k : IntKind) (a b : IE) : (mkBin o k a b).den ρ = bi o k (a.den ρ) (b.den ρ) := by
  unfold mkBin; split <;> simp [IE.den, biLit_eq]
def mkConv (k : IntKind) : IE → IE
  | .lit a => .lit (foldWrap k a)
  | a => .conv k a
theorem mkConv_den (ρ : Env) (k : IntKind) (a : IE) : (mkConv k a).den ρ = k.wrap (a.den ρ) := by
  unfold mkConv; split <;> simp [IE.den, foldWrap_eq]
def mkNat : IE → IE
  | .lit (.ofNat n) => .lit (.ofNat n)
  | .lit (.negSucc _) => .lit 0
  | .nat a => .nat a
  | .alen c => .alen c
  | a => .nat a
theorem mkNat_den (ρ : Env) (a : IE) : (mkNat a).den ρ = ((a.den ρ).toNat : Int) := by
  unfold mkNat; split <;> simp [IE.den]
def mkPlus : IE → IE → IE
  | .lit a, .lit b => .lit (a + b)
  | .lit 0, b => b
  | a, .lit 0 => a
  | .plus a (.lit m), .lit n => .plus a (.lit (m + n))
  | a, b => .plus a b
theorem mkPlus_den (ρ : Env) (a b : IE) : (mkPlus a b).den ρ = a.den ρ + b.den ρ := by
  unfold mkPlus; split <;> simp [IE.den, Int.add_assoc]
def mkMinus : IE → IE → IE
  | .lit a, .lit b => .lit (a - b)
  | a, .lit 0 => a
  | .minus a (.lit m), .lit n => .minus a (.lit (m + n))
  | a, b => .minus a b
theorem mkMinus_den (ρ : Env) (a b : IE) : (mkMinus a b).den ρ = a.den ρ - b.den ρ := by
  unfold mkMinus; split <;> simp [IE.den]
  omega
/-- 'bc' at two numerals, quick in the kernel -/
def ble : Int → Int → Bool
  | .ofNat a, .ofNat b => Nat.ble a b
  | .negSucc a, .negSucc b => Nat.ble b a
  | .negSucc _, .ofNat _ => true
  | .ofNat _, .negSucc _ => false
theorem ble_eq (a b : Int) : ble a b = decide (a ≤ b) := by
  cases a <;> cases b <;> simp only [ble] <;> rw [Bool.eq_iff_iff] <;> simp <;> omega
theorem iq_beq (a b : Int) : iq a b = (a == b) := by
  cases h : iq a b
  · symm; rw [beq_eq_false_iff_ne]; intro e; subst e
    cases a <;> simp [iq] at h
  · rw [iq_eq h]; simp
def bcLit (o : BinOp) (a b : Int) : Bool :=
  match o with
  | .eql => iq a b
  | .neq => !(iq a b)
  | .lss => !(ble b a)
  | .leq => ble a b
  | .gtr => !(ble a b)
  | .geq => ble b a
  | _ => false
theorem bcLit_eq (o : BinOp) (a b : Int) : bcLit o a b = bc o a b := by
  cases o <;> simp only [bcLit, bc, iq_beq, ble_eq, bne] <;> rw [Bool.eq_iff_iff] <;> simp <;> omega
/-- a choice between numbers -/
def mkCs (o : BinOp) : IE → IE → IE → IE → IE
  | .lit a, .lit b, c, d => bif bcLit o a b then c else d
  | a, b, c, d => bif c.eqb d then c else .sw o a b c d
theorem mkCs_den (ρ : Env) (o : BinOp) (a b c d : IE) : (mkCs o a b c d).den ρ = if bc o (a.den ρ) (b.den ρ) = true then c.den ρ else d.den ρ := by
  unfold mkCs; split
  · rename_i m n
    rw [bcLit_eq]
    show (bif bc o m n then c else d).den ρ = if bc o m n = true then c.den ρ else d.den ρ
    cases bc o m n <;> rfl
  · cases h : c.eqb d
    · rfl
    · rw [IE.eqb_eq h]; simp
def mkSw (a b c d : IE) : IE := mkCs .eql a b c d
theorem mkSw_den (ρ : Env) (a b c d : IE) : (mkSw a b c d).den ρ = if a.den ρ = b.den ρ then c.den ρ else d.den ρ := by
  unfold mkSw; rw [mkCs_den]; simp [bc]
def mkCmp (o : BinOp) : IE → IE → BE
  | .lit a, .lit b => .lit (bcLit o a b)
  | a, b => .cmp o a b
theorem mkCmp_den (ρ : Env) (o : BinOp) (a b : IE) : (mkCmp o a b).den ρ = bc o (a.den ρ) (b.den ρ) := by
  unfold mkCmp; split <;> simp [BE.den, IE.den, bcLit_eq]
def mkNot : BE → BE
  | .lit b => .lit (!b)
  | .not a => a
  | a => .not a
theorem mkNot_den (ρ : Env) (a : BE) : (mkNot a).den ρ = !(a.den ρ) := by
  unfold mkNot; split <;> simp [BE.den]
def mkAnd : BE → BE → BE
  | .lit true, b => b
  | .lit false, _ => .lit false
  | a, .lit true => a
  | _, .lit false => .lit false
  | a, b => bif a.eqb b then a else bif (mkNot a).eqb b then .lit false else .and a b
theorem mkAnd_den (ρ : Env) (a b : BE) : (mkAnd a b).den ρ = (a.den ρ && b.den ρ) := by
  unfold mkAnd; split <;> (try simp [BE.den])
  cases h : a.eqb b
  · cases h2 : (mkNot a).eqb b
    · simp [BE.den]
    · have e := mkNot_den ρ a
      rw [BE.eqb_eq h2] at e
      simp [BE.den, e]
  · rw [BE.eqb_eq h]; simp
def mkOr : BE → BE → BE
  | .lit false, b => b
  | .lit true, _ => .lit true
  | a, .lit false => a
  | _, .lit true => .lit true
  | a, b => bif a.eqb b then a else bif (mkNot a).eqb b then .lit true else .or a b
theorem mkOr_den (ρ : Env) (a b : BE) : (mkOr a b).den ρ = (a.den ρ || b.den ρ) := by
  unfold mkOr; split <;> (try simp [BE.den])
  cases h : a.eqb b
  · cases h2 : (mkNot a).eqb b
    · simp [BE.den]
    · have e := mkNot_den ρ a
      rw [BE.eqb_eq h2] at e
      simp [BE.den, e]
  · rw [BE.eqb_eq h]; simp
def mkEq : BE → BE → BE
  | .lit true, b => b
  | .lit false, b => mkNot b
  | a, .lit true => a
  | a, .lit false => mkNot a
  | a, b => .eq a b
theorem mkEq_den (ρ : Env) (a b : BE) : (mkEq a b).den ρ = (a.den ρ == b.den ρ) := by
  unfold mkEq; split <;> simp [BE.den, mkNot_den]
def mkIte : BE → BE → BE → BE
  | .lit true, a, _ => a
  | .lit false, _, b => b
  | c, .lit true, b => mkOr c b
  | c, a, .lit false => mkAnd c a
  | c, a, b => .ite c a b
theorem mkIte_den (ρ : Env) (c a b : BE) : (mkIte c a b).den ρ = if c.den ρ then a.den ρ else b.den ρ := by
  unfold mkIte; split <;> simp [BE.den, mkOr_den, mkAnd_den] <;> (cases c.den ρ <;> simp)

/-! ### values -/
/-- a capacity: a number, or that of a row of the call's own -/
inductive CE where
  | e (e : IE)
  | k (j : Nat)
def CE.den (ρ : Env) (κ : Kap) : CE → Nat
  | .e x => (x.den ρ).toNat
  | .k j => κ.cap j
def CE.eqb : CE → CE → Bool
  | .e a, .e b => a.eqb b
  | .k i, .k j => Nat.beq i j
  | _, _ => false
theorem CE.eqb_eq {a b : CE} (h : a.eqb b = true) : a = b := by
  cases a <;> cases b <;> simp only [CE.eqb, Bool.false_eq_true, Nat.beq_eq] at h
  · rw [IE.eqb_eq h]
  · rw [h]
/-- the address of a slice -/
def slAddr (ρ : Env) (κ : Kap) (j s c : Nat) (x : Int) : Option Addr := if ρ.nl j then none else some ⟨κ.ab j, κ.ao j + x.toNat * s + c, none⟩
/-- a function, and how its bound values are grouped (some n: an aggregate of n cells; an empty list: all are cells) -/
structure FnS where
  fn : Fn
  fs : List (Option Nat)
  cs : List (Option Nat)
def regroup : List (Option Nat) → List Value → List Value
  | [], l => l
  | none :: fs, v :: l => v :: regroup fs l
  | none :: _, [] => []
  | some n :: fs, l => .agg (l.take n).toArray :: regroup fs (l.drop n)
/-- one cell -/
inductive SC where
  | int (k : IntKind) (n : IE)
  | bool (b : BE)
  | ptr (id : Nat) (off : Nat)
  | aptr (j : Nat) (s c : Nat) (x : IE)
  | slice (j : Nat) (s c : Nat) (x len : IE) (cap : CE)
  | oslice (id off len cap : Nat)
  | lit (v : Value)
  | vx (i : Nat)
  | axs (c f : Nat) (x : IE)
  | fn (f : FnS) (first cap : List SC)
  | gslice (id off len k : Nat)
  | str (l : List IE)
  | strA (c : Nat) (x len : IE)
  | yld (l : Nat)
  | mref (id : Nat)
/-- the bytes of a string -/
def bytesOf (l : List Int) : Value := .string ⟨(l.map fun n => UInt8.ofNat n.toNat).toArray⟩
def bigCell (v : Value) : Value := if v.oneCell' then v else .nilFunc
mutual
def SC.den (ρ : Env) (κ : Kap) : SC → Value
  | .int k n => .int k (n.den ρ)
  | .bool b => .bool (b.den ρ)
  | .ptr id off => .pointer (some ⟨κ.o id, off, none⟩)
  | .aptr j s c x => .pointer (some ⟨κ.ab j, κ.ao j + (x.den ρ).toNat * s + c, none⟩)
  | .slice j s c x len cap => .slice (slAddr ρ κ j s c (x.den ρ)) (len.den ρ).toNat (cap.den ρ κ)
  | .oslice id off len cap => .slice (some ⟨κ.o id, off, none⟩) len cap
  | .lit v => bigCell v
  | .vx i => ρ.v i
  | .axs c f x => (ρ.at c f (x.den ρ)).val
  | .fn f first cap => .func f.fn (regroup f.fs (SC.denL ρ κ first)).toArray (regroup f.cs (SC.denL ρ κ cap)).toArray
  | .gslice id off len k => .slice (some ⟨κ.o id, off, none⟩) len (κ.cap id - k)
  | .str l => bytesOf (l.map (IE.den ρ))
  | .strA c x len => bytesOf ((((ρ.a c).drop (x.den ρ).toNat).take (len.den ρ).toNat).map fun r => (r.getD 0 (.i 0)).int)
  | .yld l => .func (.yield (κ.o l)) #[] #[]
  | .mref id => .map (some (κ.o id))
def SC.denL (ρ : Env) (κ : Kap) : List SC → List Value
  | [] => []
  | s :: l => s.den ρ κ :: SC.denL ρ κ l
end
theorem SC.denL_eq (ρ : Env) (κ : Kap) (l : List SC) : SC.denL ρ κ l = l.map (SC.den ρ κ) := by
  induction l with
  | nil => rw [SC.denL]; rfl
  | cons s l ih => rw [SC.denL, ih]; rfl
theorem SC.den_one (ρ : Env) (κ : Kap) (s : SC) : (s.den ρ κ).oneCell' = true := by
  cases s <;> first | (simp only [SC.den]; rfl) | skip
  · simp only [SC.den, bigCell]; split <;> first | assumption | rfl
  · simp only [SC.den]; exact ρ.one _
  · simp only [SC.den]; exact Dat.val_one _
theorem Value.cells_one {v : Value} (h : v.oneCell' = true) : v.cells = #[v] := by cases v <;> first | rfl | cases h
/-- a cell, or a row of cells -/
inductive SA where
  | c (s : SC)
  | agg (l : List SC)
def SA.den (ρ : Env) (κ : Kap) : SA → Value
  | .c s => s.den ρ κ
  | .agg l => .agg (l.map (SC.den ρ κ)).toArray
def SA.cells : SA → List SC
  | .c s => [s]
  | .agg l => l
theorem SA.den_cells (ρ : Env) (κ : Kap) (s : SA) : (s.den ρ κ).cells = (s.cells.map (SC.den ρ κ)).toArray := by
  cases s with
  | c s => simp only [SA.den, SA.cells, Value.cells_one (SC.den_one ρ κ s)]; rfl
  | agg l => rfl
inductive SV where
  | a (s : SA)
  | tup (l : List SA)
  | ite (b : BE) (x y : SV)
  | any
def SV.isAny : SV → Bool
  | .any => true
  | _ => false
def SV.den (ρ : Env) (κ : Kap) : SV → Value
  | .a s => s.den ρ κ
  | .tup l => .tuple (l.map (SA.den ρ κ)).toArray
  | .ite b x y => if b.den ρ then x.den ρ κ else y.den ρ κ
  | .any => undef
abbrev SV.c (s : SC) : SV := .a (.c s)
abbrev SV.agg (l : List SC) : SV := .a (.agg l)
def sundef : SV := .tup []
theorem sundef_den (ρ : Env) (κ : Kap) : sundef.den ρ κ = undef := rfl
/-- what a value is where c holds -/
def SV.under (c : BE) : SV → SV
  | .ite b x y => bif b.eqb c then x else bif (mkNot b).eqb c then y else .ite b x y
  | s => s
theorem SV.under_den (ρ : Env) (κ : Kap) (c : BE) (s : SV) (h : c.den ρ = true) : (s.under c).den ρ κ = s.den ρ κ := by
  unfold SV.under
  split
  · rename_i b x y
    cases hb : b.eqb c
    · cases hn : (mkNot b).eqb c
      · rfl
      · have := mkNot_den ρ b
        rw [BE.eqb_eq hn, h] at this
        simp only [cond_true, cond_false, SV.den]
        cases hd : b.den ρ
        · rfl
        · rw [hd] at this; cases this
    · rw [BE.eqb_eq hb]; simp only [cond_true, SV.den, h, if_true]
  · rfl
/-- a value guarded by c -/
def SV.guard (c : BE) (s : SV) : SV :=
  match c with
  | .lit true => s
  | .lit false => sundef
  | c => .ite c s sundef
theorem SV.guard_den (ρ : Env) (κ : Kap) (c : BE) (s : SV) : (s.guard c).den ρ κ = if c.den ρ then s.den ρ κ else undef := by
  unfold SV.guard; split <;> simp [BE.den, SV.den, sundef_den]
/-- a choice between two values -/
def SV.pick (c : BE) (x y : SV) : SV :=
  match x.under c, y.under (mkNot c) with
  | .a (.c (.bool p)), .a (.c (.bool q)) => .a (.c (.bool (mkIte c p q)))
  | x, y => match c with
    | .lit true => x
    | .lit false => y
    | c => .ite c x y
theorem SV.pick_den (ρ : Env) (κ : Kap) (c : BE) (x y : SV) : (SV.pick c x y).den ρ κ = if c.den ρ then x.den ρ κ else y.den ρ κ := by
  have hx : c.den ρ = true → (x.under c).den ρ κ = x.den ρ κ := SV.under_den ρ κ c x
  have hy : c.den ρ = false → (y.under (mkNot c)).den ρ κ = y.den ρ κ := fun h => SV.under_den ρ κ _ y (by rw [mkNot_den, h]; rfl)
  unfold SV.pick
  cases hc : c.den ρ
  · rw [if_neg (by simp), ← hy hc]
    split
    · rename_i p q h1 h2
      rw [h2]; simp [SV.den, SA.den, SC.den, mkIte_den, hc]
    · split <;> simp_all [SV.den, BE.den]
  · rw [if_pos rfl, ← hx hc]
    split
    · rename_i p q h1 h2
      rw [h1]; simp [SV.den, SA.den, SC.den, mkIte_den, hc]
    · split <;> simp_all [SV.den, BE.den]

/-! ### the frame's slots: a tree, so that looking and setting are quick -/
inductive Sl where
  | nil
  | node (v : SV) (l r : Sl)
def slotC : Sl → Nat → Option SV
  | .nil, _ => none
  | .node v _ _, 0 => some v
  | .node _ l r, m + 1 => bif Nat.beq (m % 2) 0 then slotC l (m / 2) else slotC r (m / 2)
noncomputable def slot (t : Sl) : Nat → Option SV := Sl.rec (motive := fun _ => Nat → Option SV) (fun _ => none)
  (fun v _ _ gl gr n => Nat.rec (motive := fun _ => Option SV) (some v) (fun m _ => Bool.rec (motive := fun _ => Option SV) (gr (m / 2)) (gl (m / 2)) (Nat.beq (m % 2) 0)) n) t
theorem slot_nil (n : Nat) : slot .nil n = none := rfl
theorem slot_zero (v : SV) (l r : Sl) : slot (.node v l r) 0 = some v := rfl
theorem slot_succ (v : SV) (l r : Sl) (m : Nat) : slot (.node v l r) (m + 1) = if m % 2 = 0 then slot l (m / 2) else slot r (m / 2) := by
  show Bool.rec (motive := fun _ => Option SV) (slot r (m / 2)) (slot l (m / 2)) (Nat.beq (m % 2) 0) = _
  cases h : Nat.beq (m % 2) 0
  · rw [if_neg fun e => by rw [e] at h; simp at h]
  · rw [if_pos (Nat.eq_of_beq_eq_true h)]
def setSlotC : Sl → Nat → SV → Sl
  | .nil, _, _ => .nil
  | .node _ l r, 0, x => .node x l r
  | .node v l r, m + 1, x => bif Nat.beq (m % 2) 0 then .node v (setSlotC l (m / 2) x) r else .node v l (setSlotC r (m / 2) x)
noncomputable def setSlot (t : Sl) : Nat → SV → Sl := Sl.rec (motive := fun _ => Nat → SV → Sl) (fun _ _ => .nil)
  (fun v l r sl sr n x => Nat.rec (motive := fun _ => Sl) (.node x l r) (fun m _ => Bool.rec (motive := fun _ => Sl) (.node v l (sr (m / 2) x)) (.node v (sl (m / 2) x) r) (Nat.beq (m % 2) 0)) n) t
theorem setSlot_nil (n : Nat) (x : SV) : setSlot .nil n x = .nil := rfl
theorem setSlot_zero (v x : SV) (l r : Sl) : setSlot (.node v l r) 0 x = .node x l r := rfl
theorem setSlot_succ (v x : SV) (l r : Sl) (m : Nat) : setSlot (.node v l r) (m + 1) x = if m % 2 = 0 then .node v (setSlot l (m / 2) x) r else .node v l (setSlot r (m / 2) x) := by
  show Bool.rec (motive := fun _ => Sl) (.node v l (setSlot r (m / 2) x)) (.node v (setSlot l (m / 2) x) r) (Nat.beq (m % 2) 0) = _
  cases h : Nat.beq (m % 2) 0
  · rw [if_neg fun e => by rw [e] at h; simp at h]
  · rw [if_pos (Nat.eq_of_beq_eq_true h)]
theorem half_ne {m k : Nat} (hp : m % 2 = k % 2) (h : m ≠ k) : m / 2 ≠ k / 2 := by omega
theorem slot_setSlot (t : Sl) : ∀ (d i : Nat) (x : SV), slot (setSlot t d x) i = if i = d then (slot t d).map fun _ => x else slot t i := by
  induction t with
  | nil => intro d i x; rw [setSlot_nil, slot_nil, slot_nil]; split <;> rfl
  | node v l r ihl ihr =>
    intro d i x
    cases d with
    | zero =>
      rw [setSlot_zero]
      cases i with
      | zero => rfl
      | succ i => rw [slot_succ, slot_succ, if_neg (Nat.succ_ne_zero i)]
    | succ m =>
      rw [setSlot_succ]
      cases i with
      | zero =>
        rw [if_neg (Nat.succ_ne_zero m).symm]
        split <;> rw [slot_zero, slot_zero]
      | succ i =>
        by_cases hm : m % 2 = 0
        · rw [if_pos hm, slot_succ, slot_succ, slot_succ, if_pos hm, ihl]
          by_cases hi : i % 2 = 0
          · rw [if_pos hi, if_pos hi]
            by_cases e : i = m
            · subst e; rw [if_pos rfl, if_pos rfl]
            · rw [if_neg (half_ne (by omega) e), if_neg (by omega)]
          · rw [if_neg hi, if_neg hi, if_neg (by omega)]
        · rw [if_neg hm, slot_succ, slot_succ, slot_succ, if_neg hm, ihr]
          by_cases hi : i % 2 = 0
          · rw [if_pos hi, if_pos hi, if_neg (by omega)]
          · rw [if_neg hi, if_neg hi]
            by_cases e : i = m
            · subst e; rw [if_pos rfl, if_pos rfl]
            · rw [if_neg (half_ne (by omega) e), if_neg (by omega)]
theorem setSlot_comm (t : Sl) : ∀ {d e : Nat}, d ≠ e → ∀ (v u : SV), setSlot (setSlot t d v) e u = setSlot (setSlot t e u) d v := by
  induction t with
  | nil => intro d e _ v u; rfl
  | node x l r ihl ihr =>
    intro d e h v u
    cases d with
    | zero =>
      cases e with
      | zero => exact absurd rfl h
      | succ k => rw [setSlot_zero, setSlot_succ, setSlot_succ]; split <;> rw [setSlot_zero]
    | succ m =>
      cases e with
      | zero => rw [setSlot_zero, setSlot_succ, setSlot_succ]; split <;> rw [setSlot_zero]
      | succ k =>
        rw [setSlot_succ x v, setSlot_succ x u]
        by_cases hm : m % 2 = 0 <;> by_cases hk : k % 2 = 0
        · rw [if_pos hm, if_pos hk, setSlot_succ, setSlot_succ, if_pos hm, if_pos hk, ihl (half_ne (by omega) (by omega))]
        · rw [if_pos hm, if_neg hk, setSlot_succ, setSlot_succ, if_pos hm, if_neg hk]
        · rw [if_neg hm, if_pos hk, setSlot_succ, setSlot_succ, if_neg hm, if_pos hk]
        · rw [if_neg hm, if_neg hk, setSlot_succ, setSlot_succ, if_neg hm, if_neg hk, ihr (half_ne (by omega) (by omega))]
/-- one more slot, with the slots that lead to it -/
def insSlotC : Nat → Sl → Nat → SV → Sl
  | 0, t, _, _ => t
  | _ + 1, .nil, 0, x => .node x .nil .nil
  | f + 1, .nil, m + 1, x => bif Nat.beq (m % 2) 0 then .node .any (insSlotC f .nil (m / 2) x) .nil else .node .any .nil (insSlotC f .nil (m / 2) x)
  | _ + 1, .node _ l r, 0, x => .node x l r
  | f + 1, .node v l r, m + 1, x => bif Nat.beq (m % 2) 0 then .node v (insSlotC f l (m / 2) x) r else .node v l (insSlotC f r (m / 2) x)
noncomputable def insSlot (f : Nat) : Sl → Nat → SV → Sl := Nat.rec (motive := fun _ => Sl → Nat → SV → Sl) (fun t _ _ => t)
  (fun _ ih t n x => Sl.rec (motive := fun _ => Sl)
    (Nat.rec (motive := fun _ => Sl) (.node x .nil .nil) (fun m _ => Bool.rec (motive := fun _ => Sl) (.node .any .nil (ih .nil (m / 2) x)) (.node .any (ih .nil (m / 2) x) .nil) (Nat.beq (m % 2) 0)) n)
    (fun v l r _ _ => Nat.rec (motive := fun _ => Sl) (.node x l r) (fun m _ => Bool.rec (motive := fun _ => Sl) (.node v l (ih r (m / 2) x)) (.node v (ih l (m / 2) x) r) (Nat.beq (m % 2) 0)) n) t) f
theorem insSlot_succ_nil (f m : Nat) (x : SV) : insSlot (f + 1) .nil (m + 1) x = if m % 2 = 0 then .node .any (insSlot f .nil (m / 2) x) .nil else .node .any .nil (insSlot f .nil (m / 2) x) := by
  show Bool.rec (motive := fun _ => Sl) (.node .any .nil (insSlot f .nil (m / 2) x)) (.node .any (insSlot f .nil (m / 2) x) .nil) (Nat.beq (m % 2) 0) = _
  cases h : Nat.beq (m % 2) 0
  · rw [if_neg fun e => by rw [e] at h; simp at h]
  · rw [if_pos (Nat.eq_of_beq_eq_true h)]
theorem insSlot_succ_node (f m : Nat) (v x : SV) (l r : Sl) : insSlot (f + 1) (.node v l r) (m + 1) x = if m % 2 = 0 then .node v (insSlot f l (m / 2) x) r else .node v l (insSlot f r (m / 2) x) := by
  show Bool.rec (motive := fun _ => Sl) (.node v l (insSlot f r (m / 2) x)) (.node v (insSlot f l (m / 2) x) r) (Nat.beq (m % 2) 0) = _
  cases h : Nat.beq (m % 2) 0
  · rw [if_neg fun e => by rw [e] at h; simp at h]
  · rw [if_pos (Nat.eq_of_beq_eq_true h)]
/-- what is there after it was there before, is the new one, or is nothing that is known -/
theorem insSlot_get : ∀ (f : Nat) (t : Sl) (d : Nat) (x : SV) (i : Nat) (s : SV), slot (insSlot f t d x) i = some s → slot t i = some s ∨ (i = d ∧ s = x) ∨ (i ≤ d ∧ s = .any)
  | 0, _, _, _, _, _, h => .inl h
  | f + 1, .nil, 0, x, i, s, h => by
    have h : slot (.node x .nil .nil) i = some s := h
    cases i with
    | zero => rw [slot_zero] at h; cases h; exact .inr (.inl ⟨rfl, rfl⟩)
    | succ i => rw [slot_succ, slot_nil] at h; split at h <;> cases h
  | f + 1, .nil, m + 1, x, i, s, h => by
    rw [insSlot_succ_nil] at h
    cases i with
    | zero => refine .inr (.inr ⟨Nat.zero_le _, ?_⟩); split at h <;> (rw [slot_zero] at h; cases h; rfl)
    | succ i =>
      by_cases hm : m % 2 = 0
      · rw [if_pos hm, slot_succ] at h
        by_cases hi : i % 2 = 0
        · rw [if_pos hi] at h
          rcases insSlot_get f _ _ _ _ _ h with h | ⟨h1, h2⟩ | ⟨h1, h2⟩
          · rw [slot_nil] at h; cases h
          · exact .inr (.inl ⟨by omega, h2⟩)
          · exact .inr (.inr ⟨by omega, h2⟩)
        · rw [if_neg hi, slot_nil] at h; cases h
      · rw [if_neg hm, slot_succ] at h
        by_cases hi : i % 2 = 0
        · rw [if_pos hi, slot_nil] at h; cases h
        · rw [if_neg hi] at h
          rcases insSlot_get f _ _ _ _ _ h with h | ⟨h1, h2⟩ | ⟨h1, h2⟩
          · rw [slot_nil] at h; cases h
          · exact .inr (.inl ⟨by omega, h2⟩)
          · exact .inr (.inr ⟨by omega, h2⟩)
  | f + 1, .node v l r, 0, x, i, s, h => by
    have h : slot (.node x l r) i = some s := h
    cases i with
    | zero => rw [slot_zero] at h; cases h; exact .inr (.inl ⟨rfl, rfl⟩)
    | succ i => rw [slot_succ] at h; exact .inl (by rw [slot_succ]; exact h)
  | f + 1, .node v l r, m + 1, x, i, s, h => by
    rw [insSlot_succ_node] at h
    cases i with
    | zero => refine .inl ?_; split at h <;> (rw [slot_zero] at h ⊢; exact h)
    | succ i =>
      by_cases hm : m % 2 = 0
      · rw [if_pos hm, slot_succ] at h
        by_cases hi : i % 2 = 0
        · rw [if_pos hi] at h
          rcases insSlot_get f _ _ _ _ _ h with h | ⟨h1, h2⟩ | ⟨h1, h2⟩
          · exact .inl (by rw [slot_succ, if_pos hi]; exact h)
          · exact .inr (.inl ⟨by omega, h2⟩)
          · exact .inr (.inr ⟨by omega, h2⟩)
        · rw [if_neg hi] at h; exact .inl (by rw [slot_succ, if_neg hi]; exact h)
      · rw [if_neg hm, slot_succ] at h
        by_cases hi : i % 2 = 0
        · rw [if_pos hi] at h; exact .inl (by rw [slot_succ, if_pos hi]; exact h)
        · rw [if_neg hi] at h
          rcases insSlot_get f _ _ _ _ _ h with h | ⟨h1, h2⟩ | ⟨h1, h2⟩
          · exact .inl (by rw [slot_succ, if_neg hi]; exact h)
          · exact .inr (.inl ⟨by omega, h2⟩)
          · exact .inr (.inr ⟨by omega, h2⟩)
def andQ (a b : Bool) : Bool := Bool.casesOn a false b
theorem andQ_eq (a b : Bool) : andQ a b = (a && b) := by cases a <;> rfl
def slAllC (f : SV → Bool) : Sl → Bool
  | .nil => true
  | .node v l r => f v && (slAllC f l && slAllC f r)
noncomputable def slAll (f : SV → Bool) (t : Sl) : Bool := Sl.rec (motive := fun _ => Bool) true (fun v _ _ a b => andQ (f v) (andQ a b)) t
def Sl.all (t : Sl) (f : SV → Bool) : Bool := slAll f t
theorem Sl.all_nil (f : SV → Bool) : Sl.nil.all f = true := rfl
theorem Sl.all_node (f : SV → Bool) (v : SV) (l r : Sl) : (Sl.node v l r).all f = (f v && (l.all f && r.all f)) := by
  show andQ (f v) (andQ (l.all f) (r.all f)) = _
  rw [andQ_eq, andQ_eq]
theorem Sl.all_get {f : SV → Bool} : ∀ {t : Sl} {i : Nat} {s : SV}, t.all f = true → slot t i = some s → f s = true
  | .nil, _, _, _, h => by rw [slot_nil] at h; cases h
  | .node v l r, 0, s, ha, h => by
    simp only [Sl.all_node, Bool.and_eq_true] at ha
    rw [slot_zero] at h; cases h; exact ha.1
  | .node v l r, i + 1, s, ha, h => by
    simp only [Sl.all_node, Bool.and_eq_true] at ha
    rw [slot_succ] at h
    split at h
    · exact Sl.all_get ha.2.1 h
    · exact Sl.all_get ha.2.2 h
theorem Sl.all_of {f : SV → Bool} : ∀ {t : Sl}, (∀ i s, slot t i = some s → f s = true) → t.all f = true
  | .nil, _ => rfl
  | .node v l r, h => by
    simp only [Sl.all_node, Bool.and_eq_true]
    refine ⟨h 0 v (slot_zero ..), Sl.all_of fun i s hs => h (2 * i + 1) s ?_, Sl.all_of fun i s hs => h (2 * i + 1 + 1) s ?_⟩
    · rw [slot_succ, if_pos (by omega), show 2 * i / 2 = i by omega]; exact hs
    · rw [slot_succ, if_neg (by omega), show (2 * i + 1) / 2 = i by omega]; exact hs
def Sl.map (f : SV → SV) : Sl → Sl
  | .nil => .nil
  | .node v l r => .node (f v) (l.map f) (r.map f)
theorem slot_map (f : SV → SV) : ∀ (t : Sl) (i : Nat), slot (t.map f) i = (slot t i).map f
  | .nil, i => by rw [Sl.map, slot_nil]; rfl
  | .node v l r, 0 => by rw [Sl.map, slot_zero, slot_zero]; rfl
  | .node v l r, i + 1 => by
    rw [Sl.map, slot_succ, slot_succ]
    split
    · exact slot_map f l _
    · exact slot_map f r _
def Sl.ids (f : SV → List Nat) : Sl → List Nat
  | .nil => []
  | .node v l r => f v ++ (l.ids f ++ r.ids f)
/-- n slots, all the same -/
def Sl.fill (v : SV) : Nat → Nat → Sl
  | 0, _ => .nil
  | _ + 1, 0 => .nil
  | f + 1, m + 1 => .node v (Sl.fill v f ((m + 1) / 2)) (Sl.fill v f (m / 2))
theorem fill_get (v : SV) : ∀ (f n i : Nat) (s : SV), slot (Sl.fill v f n) i = some s → i < n ∧ s = v
  | 0, _, _, _, h => by rw [Sl.fill, slot_nil] at h; cases h
  | _ + 1, 0, _, _, h => by rw [Sl.fill, slot_nil] at h; cases h
  | f + 1, m + 1, 0, s, h => by rw [Sl.fill, slot_zero] at h; cases h; exact ⟨Nat.succ_pos _, rfl⟩
  | f + 1, m + 1, i + 1, s, h => by
    rw [Sl.fill, slot_succ] at h
    split at h
    · obtain ⟨h1, h2⟩ := fill_get v f _ _ s h; exact ⟨by omega, h2⟩
    · obtain ⟨h1, h2⟩ := fill_get v f _ _ s h; exact ⟨by omega, h2⟩
end Go.SX

/- SxB: the symbolic heap; operations that give a value and leave the world alone. -/
set_option linter.unusedSimpArgs false
set_option linter.unusedVariables false
set_option linter.unusedSectionVars false
noncomputable section
namespace Go.SX
open Go Go.RowKit

/-- the kind of a cell of an array -/
inductive CK where
  | int (k : IntKind)
  | bool
  | val
 
def CK.den : CK → Dat → Value
  | .int k, d => .int k d.int
  | .bool, d => .bool d.bool
  | .val, d => d.val
theorem CK.den_one (k : CK) (d : Dat) : (k.den d).oneCell' = true := by cases k <;> first | rfl | exact Dat.val_one _
def CK.sc (c f : Nat) (x : IE) : CK → SC
  | .int k => .int k (.sel c f x)
  | .bool => .bool (.sel c f x)
  | .val => .axs c f x
theorem CK.sc_den (ρ : Env) (κ : Kap) (c f : Nat) (x : IE) (k : CK) : (k.sc c f x).den ρ κ = k.den (ρ.at c f (x.den ρ)) := by
  cases k <;> simp [CK.sc, CK.den, SC.den, IE.den, BE.den]
/-- the cells of one row -/
def rowCells : List CK → List Dat → List Value
  | [], _ => []
  | k :: p, r => k.den (r.headD (.i 0)) :: rowCells p r.tail
theorem rowCells_length (p : List CK) : ∀ (r : List Dat), (rowCells p r).length = p.length := by
  induction p with
  | nil => intro r; rfl
  | cons k p ih => intro r; simp [rowCells, ih]
theorem rowCells_get (p : List CK) : ∀ (r : List Dat) (f : Nat) (k : CK), p[f]? = some k → (rowCells p r)[f]? = some (k.den (r.getD f (.i 0))) := by
  induction p with
  | nil => intro r f k h; simp at h
  | cons k0 p ih =>
    intro r f k h
    cases f with
    | zero => simp at h; subst h; cases r <;> simp [rowCells]
    | succ f => simp at h; have := ih r.tail f k h; cases r <;> simp_all [rowCells]
theorem rowCells_one (p : List CK) : ∀ (r : List Dat), ∀ v ∈ rowCells p r, v.oneCell' = true := by
  induction p with
  | nil => intro r v h; cases h
  | cons k p ih =>
    intro r v h
    rcases List.mem_cons.1 h with rfl | h
    · exact CK.den_one _ _
    · exact ih _ v h
/-- the cells of an array -/
def arrCells (p : List CK) (l : List (List Dat)) : List Value := l.flatMap (rowCells p)
theorem arrCells_length (p : List CK) (l : List (List Dat)) : (arrCells p l).length = l.length * p.length := by
  induction l with
  | nil => simp [arrCells]
  | cons r l ih => simp only [arrCells, List.flatMap_cons, List.length_append, rowCells_length, List.length_cons] at ih ⊢; rw [ih, Nat.add_mul]; omega
theorem arrCells_get (p : List CK) : ∀ (l : List (List Dat)) (x f : Nat) (r : List Dat) (k : CK), l[x]? = some r → p[f]? = some k → (arrCells p l)[x * p.length + f]? = some (k.den (r.getD f (.i 0))) := by
  intro l
  induction l with
  | nil => intro x f r k h; simp at h
  | cons r0 l ih =>
    intro x f r k hx hf
    have hfl : f < p.length := (List.getElem?_eq_some_iff.1 hf).1
    simp only [arrCells, List.flatMap_cons, List.getElem?_append, rowCells_length]
    cases x with
    | zero => simp at hx; subst hx; simp [hfl, rowCells_get p _ f k hf]
    | succ x =>
      simp at hx
      have := ih x f r k hx hf
      simp only [arrCells] at this
      have h1 : ¬ (x + 1) * p.length + f < p.length := by rw [Nat.add_mul]; omega
      rw [if_neg h1, ← this]; congr 1; rw [Nat.add_mul]; omega
/-- the code at a place of a code -/
def codeAt : Code → List Bool → Option Code
  | c, [] => some c
  | .seq a _, false :: p => codeAt a p
  | .seq _ b, true :: p => codeAt b p
  | .cond _ a _, false :: p => codeAt a p
  | .cond _ _ b, true :: p => codeAt b p
  | .block _ b, false :: p => codeAt b p
  | .loop b, false :: p => codeAt b p
  | .scope b, false :: p => codeAt b p
  | .rangeFunc _ _ a _, false :: p => codeAt a p
  | .rangeFunc _ _ _ b, true :: p => codeAt b p
  | _, _ => none
theorem codeAt_nil (c : Code) : codeAt c [] = some c := by cases c <;> rfl
theorem codeAt_append : ∀ (p : List Bool) (c : Code) (q : List Bool), codeAt c (p ++ q) = (codeAt c p).bind fun d => codeAt d q
  | [], c, q => by rw [codeAt_nil]; rfl
  | b :: p, c, q => by
    cases c <;> cases b <;> (try simp only [List.cons_append, codeAt, Option.bind_none]) <;> exact codeAt_append p _ q
/-- the code at a place (told from its end) of a function -/
def placeOf (P : Program) (f : FuncId) (p : List Bool) : Option Code := match P.funcs[f]? with
  | some fn => match fn.body with
    | some c => codeAt c p.reverse
    | none => none
  | none => none
theorem placeOf_cons {P : Program} {f : FuncId} {p : List Bool} {b : Bool} {c d : Code} (h : placeOf P f p = some c) (hd : codeAt c [b] = some d) : placeOf P f (b :: p) = some d := by
  unfold placeOf at h ⊢
  split at h
  · split at h
    · rename_i fn _ c' hb; rw [List.reverse_cons, codeAt_append, h]; exact hd
    · cases h
  · cases h
/-- a loop over a function: the model's record, by terms; its code by its place -/
structure SLoop where
  state : LoopState
  pending : Option Code
  fn : FuncId
  path : List Bool
  sl : Sl
/-- what lies in a block of the call's own: cells (with g = some z: a row of elements of z cells, that may hold more behind these); a loop's record; a map with keys of an integer kind -/
inductive SObj where
  | cells (cs : List SC) (ty : TypeId) (g : Option Nat)
  | loop (r : SLoop)
  | map (k : IntKind) (es : List (IE × SA))
/-- what is known of a block: all of it; or an array that can be read (and, if it is the call's own row, written and appended to) -/
inductive HE where
  | obj (id : Nat) (o : SObj)
  | arr (j c : Nat) (pat : List CK) (row : Option TypeId)
abbrev Heap := List HE
def Heap.obj? (H : Heap) (id : Nat) : Option SObj :=
  match H with
  | [] => none
  | .obj i o :: H => bif Nat.beq i id then some o else Heap.obj? H id
  | _ :: H => Heap.obj? H id
def Heap.own? (H : Heap) (id : Nat) : Option (List SC × TypeId) := match H.obj? id with
  | some (.cells cs ty _) => some (cs, ty)
  | _ => none
def Heap.arr? (H : Heap) (j : Nat) : Option (Nat × List CK × Option TypeId) :=
  match H with
  | [] => none
  | .arr i c p o :: H => bif Nat.beq i j then some (c, p, o) else Heap.arr? H j
  | _ :: H => Heap.arr? H j
/-- the slots' values, where they are known -/
def SlotsOk (ρ : Env) (κ : Kap) (sl : Sl) (tm : Array Value) : Prop := (∀ (t : Nat) (s : SV), slot sl t = some s → t < tm.size) ∧ ∀ (t : Nat) (s : SV), slot sl t = some s → s.isAny = false → tm[t]? = some (s.den ρ κ)
def SObj.Is (P : Program) (ρ : Env) (κ : Kap) (id : Nat) : SObj → Obj → Prop
  | .cells cs ty none, b => b = .cells (cs.map (SC.den ρ κ)).toArray ty (0, 0)
  | .cells cs ty (some z), b => ∃ sp : List Value, b = .cells (cs.map (SC.den ρ κ) ++ sp).toArray ty (0, 0) ∧ cs.length + sp.length = κ.cap id * z ∧ κ.cap id ≤ maxLen
  | .loop r, b => ∃ tm f ps as bo D fn, placeOf P r.fn r.path = some (.rangeFunc f ps as bo) ∧ SlotsOk ρ κ r.sl tm ∧ b = .loop { state := r.state, pending := r.pending, fn := fn, tmps := tm, params := ps, assign := as, body := bo, defers := D }
  | .map k es, b => ∃ l clock, b = .map l clock ∧ l.toList.map (fun e => (e.key, e.val)) = es.map fun e => (.int k (e.1.den ρ), e.2.den ρ κ)
theorem own?_obj {H : Heap} {id : Nat} {cs : List SC} {ty : TypeId} (h : H.own? id = some (cs, ty)) : ∃ g, H.obj? id = some (.cells cs ty g) := by
  unfold Heap.own? at h
  split at h
  · rename_i cs' ty' g hg; cases h; exact ⟨g, hg⟩
  · cases h
/-- the slice that a whole row is -/
def rowVal (ρ : Env) (κ : Kap) (j n : Nat) : Value := .slice (if ρ.nl j then none else some ⟨κ.ab j, 0, none⟩) n (κ.cap j)
/-- what may not turn: the blocks below b, and some others -/
structure Bk where
  P : Program
  b : Nat
  top : Nat
  keep : Nat → Prop
  le : b ≤ top
  lt : ∀ k, keep k → k < top
theorem Bk.new (B : Bk) {k : Nat} (h : B.top ≤ k) : B.b ≤ k ∧ ¬ B.keep k := ⟨Nat.le_trans B.le h, fun hk => by have := B.lt k hk; omega⟩
/-- nothing has turned that may not -/
structure Kept (B : Bk) (w w' : World) : Prop where
  bl : Below B.b w w'
  kp : ∀ k, k < w.heap.size → B.keep k → w'.heap[k]? = w.heap[k]?
theorem Kept.refl (B : Bk) (w : World) : Kept B w w := ⟨Below.refl _ _, fun _ _ _ => rfl⟩
theorem Kept.trans {B : Bk} {w w' w'' : World} (h : Kept B w w') (h' : Kept B w' w'') : Kept B w w'' :=
  ⟨h.bl.trans h'.bl, fun k hk hp => (h'.kp k (Nat.lt_of_lt_of_le hk h.bl.size) hp).trans (h.kp k hk hp)⟩
theorem Kept.of_below {B : Bk} {w w' : World} (h : Below w.heap.size w w') (hz : B.b ≤ w.heap.size) : Kept B w w' := ⟨h.mono hz, fun k hk _ => h.block k hk⟩
theorem Kept.size {B : Bk} {w w' : World} (h : Kept B w w') : w.heap.size ≤ w'.heap.size := h.bl.size
structure HeapOk (ρ : Env) (κ : Kap) (base : Bk) (H : Heap) (w : World) : Prop where
  obj : ∀ id o, H.obj? id = some o → (∃ b, w.heap[κ.o id]? = some b ∧ o.Is base.P ρ κ id b) ∧ base.b ≤ κ.o id ∧ ¬ base.keep (κ.o id)
  inj : ∀ id o id' o', H.obj? id = some o → H.obj? id' = some o' → κ.o id = κ.o id' → id = id'
  arr : ∀ j c pat o, H.arr? j = some (c, pat, o) → (∀ (x f : Nat) r k, (ρ.a c)[x]? = some r → pat[f]? = some k → w.cell? ⟨κ.ab j, κ.ao j + x * pat.length + f, none⟩ = some (k.den (r.getD f (.i 0)))) ∧ (ρ.nl j = true → ρ.a c = [])
  sep : ∀ j c pat o id ob, H.arr? j = some (c, pat, o) → H.obj? id = some ob → (ρ.a c ≠ [] ∧ pat ≠ []) ∨ (o.isSome = true ∧ ρ.nl j = false) → κ.ab j ≠ κ.o id
  row : ∀ j c pat E, H.arr? j = some (c, pat, some E) → κ.ao j = 0 ∧ w.ownsRow base.b E pat.length (rowVal ρ κ j (ρ.a c).length) (ρ.a c).length (arrCells pat (ρ.a c)) ∧ (ρ.nl j = false → ¬ base.keep (κ.ab j))
  rsep : ∀ j c pat E j' c' pat' o', H.arr? j = some (c, pat, some E) → H.arr? j' = some (c', pat', o') → j ≠ j' → ρ.nl j = false → (ρ.a c' ≠ [] ∧ pat' ≠ []) ∨ (o'.isSome = true ∧ ρ.nl j' = false) → κ.ab j ≠ κ.ab j'
/-- the cells of a block of the call's own, and what lies behind them -/
theorem HeapOk.own {ρ : Env} {κ : Kap} {base : Bk} {H : Heap} {w : World} (h : HeapOk ρ κ base H w) {id : Nat} {cs : List SC} {ty : TypeId} (ho : H.own? id = some (cs, ty)) :
    ∃ sp : List Value, w.heap[κ.o id]? = some (.cells (cs.map (SC.den ρ κ) ++ sp).toArray ty (0, 0)) := by
  obtain ⟨g, hg⟩ := own?_obj ho
  obtain ⟨⟨b, h1, h2⟩, _⟩ := h.obj id _ hg
  cases g with
  | none => exact ⟨[], by simp only [SObj.Is] at h2; rw [h1, h2, List.append_nil]⟩
  | some z => obtain ⟨sp, e, _⟩ := h2; exact ⟨sp, by rw [h1, e]⟩

/-! ### data by terms -/
mutual
inductive LV where
  | i (e : IE)
  | b (e : BE)
  | v (s : SC)
  | l (a : AE)
  | n (e : BE)
/-- the rows of an array, by terms -/
inductive AE where
  | nil
  | arr (c : Nat)
  | sub (c : Nat) (x len : IE)
  | rows (l : List (List LV))
  | cat (a b : AE)
  | rep (n : IE) (row : List LV)
  | set (c : Nat) (x : IE) (vs : List LV)     -- row x turned
  | put (c : Nat) (x : IE) (a : AE)     -- the rows from x on turned to a
end
def kap0 : Kap := ⟨fun _ => 0, fun _ => 0, fun _ => 0, fun _ => 0⟩
/-- rows x, x + 1, .. turned -/
def putRows (l : List (List Dat)) (x : Nat) (a : List (List Dat)) : List (List Dat) := l.mapIdx fun i r => if x ≤ i then (a[i - x]?).getD r else r
theorem putRows_length (l : List (List Dat)) (x : Nat) (a : List (List Dat)) : (putRows l x a).length = l.length := by simp [putRows]
theorem putRows_eq {l a : List (List Dat)} {x : Nat} (h : x + a.length ≤ l.length) : putRows l x a = l.take x ++ a ++ l.drop (x + a.length) := by
  apply List.ext_getElem?
  intro i
  simp only [putRows, List.getElem?_mapIdx, List.getElem?_append, List.length_append, List.length_take, List.getElem?_take, List.getElem?_drop]
  have hm : min x l.length = x := Nat.min_eq_left (by omega)
  rw [hm]
  by_cases h1 : i < x
  · rw [if_pos (by omega), if_pos h1, if_pos h1]
    cases l[i]? <;> simp [h1]
    omega
  · by_cases h2 : i < x + a.length
    · rw [if_pos h2, if_neg h1]
      have h3 : i < l.length := by omega
      rw [List.getElem?_eq_getElem h3, List.getElem?_eq_getElem (show i - x < a.length by omega)]
      simp; omega
    · rw [if_neg h2, show x + a.length + (i - (x + a.length)) = i by omega]
      have h4 : a[i - x]? = none := List.getElem?_eq_none (by omega)
      rw [h4]
      cases l[i]? <;> simp
theorem putRows_all {l a : List (List Dat)} (h : a.length = l.length) : putRows l 0 a = a := by
  rw [putRows_eq (by omega)]; simp [h]
mutual
def LV.eval (ρ : Env) : LV → Dat
  | .i e => .i (e.den ρ)
  | .b e => .b (e.den ρ)
  | .v s => .v ⟨s.den ρ kap0, SC.den_one ρ kap0 s⟩
  | .l a => .l (a.den ρ)
  | .n e => .n (e.den ρ)
def AE.den (ρ : Env) : AE → List (List Dat)
  | .nil => []
  | .arr c => ρ.a c
  | .sub c x len => ((ρ.a c).drop (x.den ρ).toNat).take (len.den ρ).toNat
  | .rows l => LV.evalLL ρ l
  | .cat a b => a.den ρ ++ b.den ρ
  | .rep n row => List.replicate (n.den ρ).toNat (LV.evalL ρ row)
  | .set c x vs => (ρ.a c).set (x.den ρ).toNat (LV.evalL ρ vs)
  | .put c x a => putRows (ρ.a c) (x.den ρ).toNat (a.den ρ)
def LV.evalL (ρ : Env) : List LV → List Dat
  | [] => []
  | v :: l => v.eval ρ :: LV.evalL ρ l
def LV.evalLL (ρ : Env) : List (List LV) → List (List Dat)
  | [] => []
  | r :: l => LV.evalL ρ r :: LV.evalLL ρ l
end
theorem LV.evalL_eq (ρ : Env) (l : List LV) : LV.evalL ρ l = l.map (LV.eval ρ) := by
  induction l with
  | nil => rw [LV.evalL]; rfl
  | cons v l ih => rw [LV.evalL, ih]; rfl
theorem LV.evalLL_eq (ρ : Env) (l : List (List LV)) : LV.evalLL ρ l = l.map (LV.evalL ρ) := by
  induction l with
  | nil => rw [LV.evalLL]; rfl
  | cons v l ih => rw [LV.evalLL, ih]; rfl
/-- a value that names no block -/
def SC.free : SC → Bool
  | .vx _ | .axs .. | .lit _ | .str _ | .strA .. => true
  | _ => false
theorem SC.free_den {s : SC} (h : s.free = true) (ρ : Env) (κ κ' : Kap) : s.den ρ κ = s.den ρ κ' := by
  cases s <;> simp [SC.free] at h <;> simp only [SC.den]

/-! ### constants -/
def constSC : Value → Option SC
  | .int k n => some (.int k (.lit n))
  | .bool b => some (.bool (.lit b))
  | .agg _ | .tuple _ => none
  | v => some (.lit v)
theorem constSC_den {v : Value} {s : SC} (h : constSC v = some s) (ρ : Env) (κ : Kap) : s.den ρ κ = v := by
  cases v <;> simp [constSC] at h <;> subst h <;> simp [SC.den, IE.den, BE.den, bigCell, Value.oneCell']
def constSCs : List Value → Option (List SC)
  | [] => some []
  | v :: l => match constSC v, constSCs l with
    | some s, some r => some (s :: r)
    | _, _ => none
theorem constSCs_den {l : List Value} {r : List SC} (h : constSCs l = some r) (ρ : Env) (κ : Kap) : r.map (SC.den ρ κ) = l := by
  induction l generalizing r with
  | nil => simp [constSCs] at h; subst h; rfl
  | cons v l ih =>
    unfold constSCs at h
    split at h
    · rename_i s q h1 h2; simp at h; subst h; simp [constSC_den h1, ih h2]
    · cases h
def constSA : Value → Option SA
  | .agg vs => (constSCs vs.toList).map .agg
  | v => (constSC v).map .c
theorem constSA_den {v : Value} {s : SA} (h : constSA v = some s) (ρ : Env) (κ : Kap) : s.den ρ κ = v := by
  unfold constSA at h
  split at h
  · rename_i vs
    cases hc : constSCs vs.toList with
    | none => simp [hc] at h
    | some r => simp [hc] at h; subst h; simp [SA.den, constSCs_den hc]
  · simp at h
    obtain ⟨r, hc, rfl⟩ := h
    simp [SA.den, constSC_den hc]
def constSV : Value → Option SV
  | .tuple vs => if vs.toList.isEmpty then some (.tup []) else none
  | v => (constSA v).map .a
theorem constSV_den {v : Value} {s : SV} (h : constSV v = some s) (ρ : Env) (κ : Kap) : s.den ρ κ = v := by
  unfold constSV at h
  split at h
  · rename_i vs
    split at h
    · rename_i he
      simp at h; subst h
      have : vs = #[] := by simpa using he
      subst this; rfl
    · cases h
  · simp at h
    obtain ⟨r, hc, rfl⟩ := h
    simp [SV.den, constSA_den hc]

/-- an operand's value -/
def opv (sl : Sl) : Operand → Option SV
  | .tmp t => match slot sl t with
    | some s => bif s.isAny then none else some s
    | none => none
  | .const v => constSV v
  | .func f => some (.c (.fn ⟨.func f, [], []⟩ [] []))
  | .global _ => none
/-- the frame is the slots' values, where they are known -/
abbrev FrameOk (ρ : Env) (κ : Kap) (sl : Sl) (a : Act) : Prop := SlotsOk ρ κ sl a.tmps
theorem opv_den {ρ : Env} {κ : Kap} {sl : Sl} {a : Act} (hf : FrameOk ρ κ sl a) {x : Operand} {s : SV} (h : opv sl x = some s) : a.eval x = s.den ρ κ := by
  cases x with
  | tmp t =>
    simp only [opv] at h
    split at h
    · rename_i s' hs
      cases ha : s'.isAny
      · rw [ha] at h; cases h
        simp [Act.eval, hf.2 t s hs ha]
      · rw [ha] at h; cases h
    · cases h
  | const v => exact (constSV_den h ρ κ).symm
  | func f => simp [opv] at h; subst h; simp [Act.eval, SV.den, SA.den, SC.den, SC.denL, regroup]
  | global g => cases h

/-! ### tables -/
def sizeP (P : Program) (t : TypeId) : Option Nat := match P.info? t with | some i => some i.size | none => none
theorem run_sizeP {P : Program} {t : TypeId} {n : Nat} (h : sizeP P t = some n) (w : World) : (sizeOf t).run P w = .ok n w := by
  unfold sizeP at h
  split at h
  · rename_i i hi; simp at h; subst h; simp [sizeOf, typeInfo, hi]
  · cases h
def rowP (P : Program) (t : TypeId) : Option Bool := match P.underlying t with
  | some (.struct _) | some (.array _ _) => some true
  | some _ => some false
  | none => none
theorem run_rowP {P : Program} {t : TypeId} {b : Bool} (h : rowP P t = some b) (w : World) : (isAgg t).run P w = .ok b w := by
  unfold rowP at h
  unfold isAgg
  rw [Sem.run_bind]
  split at h
  · rename_i hu; rw [run_underlying hu]; simp at h; subst h; rfl
  · rename_i hu; rw [run_underlying hu]; simp at h; subst h; rfl
  · rename_i d h1 h2 hu
    rw [run_underlying hu]; simp at h; subst h
    cases d <;> first | rfl | (exfalso; simp at h1; done) | (exfalso; simp at h2; done)
  · cases h
def fieldP (P : Program) (t : TypeId) (f : Nat) : Option Field := match P.underlying t with
  | some (.struct fs) => fs[f]?
  | _ => none
/-- The part of a row. -/
def xpart (P : Program) (t : TypeId) (cs : List SC) (off : Nat) : Option SA :=
  match rowP P t, sizeP P t with
  | some true, some n => some (.agg ((cs.drop off).take n))
  | some false, _ => (cs[off]?).map .c
  | _, _ => none
theorem run_xpart {P : Program} {ρ : Env} {κ : Kap} {t : TypeId} {cs : List SC} {off : Nat} {s : SA} (h : xpart P t cs off = some s) (w : World) :
    (part t (cs.map (SC.den ρ κ)).toArray off).run P w = .ok (s.den ρ κ) w := by
  unfold xpart at h
  split at h
  · rename_i n hr hs
    simp at h; subst h
    simp only [part, Sem.run_bind, run_rowP hr, Result.andThen_ok, if_true, run_sizeP hs, Sem.run_pure, SA.den, List.map_take, List.map_drop]
    simp [List.extract_eq_take_drop]
  · rename_i hr
    cases hc : cs[off]? with
    | none => simp [hc] at h
    | some c =>
      simp [hc] at h; subst h
      simp [part, run_rowP hr, SA.den, hc]
  · cases h

/-! ### comparison of values -/
mutual
def xeq (P : Program) : Nat → TypeId → SA → SA → Option BE
  | 0, _, _, _ => none
  | d + 1, t, x, y => match P.underlying t, x, y with
    | some (.int _), .c (.int k a), .c (.int k' b) => bif Nat.beq (kn k) (kn k') then some (mkCmp .eql a b) else none
    | some .bool, .c (.bool a), .c (.bool b) => some (mkEq a b)
    | some (.struct fs), .agg xs, .agg ys => if P.stoodInHeld t then none else xeqF P d fs.toList xs ys
    | some (.array n e), .agg xs, .agg ys => match sizeP P e with
      | some m => xeqA P d e m n 0 xs ys
      | none => none
    | _, _, _ => none
def xeqF (P : Program) : Nat → List Field → List SC → List SC → Option BE
  | 0, _, _, _ => none
  | _ + 1, [], _, _ => some (.lit true)
  | d + 1, f :: fs, xs, ys => if f.name = "_" then none else match xpart P f.type xs f.offset, xpart P f.type ys f.offset with
    | some a, some b => match xeq P d f.type a b, xeqF P d fs xs ys with
      | some p, some q => some (mkAnd p q)
      | _, _ => none
    | _, _ => none
def xeqA (P : Program) : Nat → TypeId → Nat → Nat → Nat → List SC → List SC → Option BE
  | 0, _, _, _, _, _, _ => none
  | _ + 1, _, _, 0, _, _, _ => some (.lit true)
  | d + 1, e, m, n + 1, i, xs, ys => match xpart P e xs (i * m), xpart P e ys (i * m) with
    | some a, some b => match xeq P d e a b, xeqA P d e m n (i + 1) xs ys with
      | some p, some q => some (mkAnd p q)
      | _, _ => none
    | _, _ => none
end
def eqArr (d : Nat) (e : TypeId) (m : Nat) (xs ys : Array Value) : Nat → Nat → Sem Bool
  | 0, _ => pure true
  | n + 1, i => do
    let a ← part e xs (i * m)
    let b ← part e ys (i * m)
    let r ← Op.equalIn d e a b
    if (!r) = true then pure false else eqArr d e m xs ys n (i + 1)
theorem run_equalIn_array {P : Program} (w : World) (d : Nat) (t : TypeId) (n : Nat) (e : TypeId) (m : Nat) (xs ys : Array Value) (ht : P.underlying t = some (.array n e)) (hs : sizeP P e = some m) :
    (Op.equalIn (d + 1) t (.agg xs) (.agg ys)).run P w = (eqArr d e m xs ys n 0).run P w := by
  simp only [Op.equalIn, Sem.run_bind, run_underlying ht, Result.andThen_ok, run_sizeP hs]
  rw [Std.Legacy.Range.forIn_eq_forIn_range']
  have hsz : ({ start := 0, stop := n, step := 1, step_pos := Nat.one_pos } : Std.Legacy.Range).size = n := by simp [Std.Legacy.Range.size]
  simp only [hsz]
  generalize 0 = i
  clear ht hsz
  induction n generalizing i w with
  | zero => simp [eqArr]
  | succ n ih =>
    simp only [List.range'_succ, List.forIn_cons, eqArr, Sem.run_bind]
    generalize (part e xs (i * m)).run P w = r1
    cases r1 with
    | ok a w1 =>
      simp only [Result.andThen_ok]
      generalize (part e ys (i * m)).run P w1 = r2
      cases r2 with
      | ok b w2 =>
        simp only [Result.andThen_ok]
        generalize (Op.equalIn d e a b).run P w2 = r3
        cases r3 with
        | ok r w3 =>
          cases r
          · simp only [Result.andThen_ok, Bool.not_false, if_true, Sem.run_pure]
          · simp only [Result.andThen_ok, Bool.not_true, Bool.false_eq_true, if_false, Sem.run_pure]
            exact ih w3 (i + 1)
        | halt x w3 => simp [Result.andThen]
      | halt x w2 => simp [Result.andThen]
    | halt x w1 => simp [Result.andThen]
theorem xeq_sound (P : Program) (ρ : Env) (κ : Kap) (w : World) : ∀ d,
    (∀ t x y b, xeq P d t x y = some b → ∀ D, d ≤ D → (Op.equalIn D t (x.den ρ κ) (y.den ρ κ)).run P w = .ok (b.den ρ) w) ∧
    (∀ fs xs ys b, xeqF P d fs xs ys = some b → ∀ D, d ≤ D → (Op.eqFields D (xs.map (SC.den ρ κ)).toArray (ys.map (SC.den ρ κ)).toArray fs).run P w = .ok (b.den ρ) w) ∧
    (∀ e m n i xs ys b, xeqA P d e m n i xs ys = some b → ∀ D, d ≤ D → (eqArr D e m (xs.map (SC.den ρ κ)).toArray (ys.map (SC.den ρ κ)).toArray n i).run P w = .ok (b.den ρ) w) := by
  intro d
  induction d with
  | zero => exact ⟨fun t x y b h => by simp [xeq] at h, fun fs xs ys b h => by simp [xeqF] at h, fun e m n i xs ys b h => by simp [xeqA] at h⟩
  | succ d ih =>
    obtain ⟨ih1, ih2, ih3⟩ := ih
    refine ⟨fun t x y b h D hD => ?_, fun fs xs ys b h D hD => ?_, fun e m n i xs ys b h D hD => ?_⟩
    · obtain ⟨D, rfl⟩ : ∃ D', D = D' + 1 := ⟨D - 1, by omega⟩
      unfold xeq at h
      split at h
      · rename_i k0 k a k' b' hu
        cases hk : Nat.beq (kn k) (kn k')
        · rw [hk] at h; cases h
        · rw [hk] at h; simp at h; subst h
          have := kn_eq hk; subst this
          simp only [SA.den, SC.den, mkCmp_den, bc]
          exact run_equalIn_int w D t k _ _ _ hu
      · rename_i a b' hu
        simp at h; subst h
        simp only [SA.den, SC.den, mkEq_den]
        exact run_equalIn_bool' w D t _ _ hu
      · rename_i fs xs ys hu
        split at h
        · cases h
        · rename_i hp
          have hfo : P.fieldsOf t = fs := by simp [Program.fieldsOf, hu]
          simp only [SA.den]
          rw [run_equalIn_struct w D t _ _ (by rw [hfo]; exact hu) (by simpa using hp), hfo]
          exact ih2 _ _ _ _ h D (by omega)
      · rename_i n e xs ys hu
        split at h
        · rename_i m hm
          simp only [SA.den]
          rw [run_equalIn_array w D t n e m _ _ hu hm]
          exact ih3 _ _ _ _ _ _ _ h D (by omega)
        · cases h
      · cases h
    · cases fs with
      | nil => simp [xeqF] at h; subst h; simp [Op.eqFields, BE.den]
      | cons f fs =>
        unfold xeqF at h
        split at h
        · cases h
        · rename_i hne
          split at h
          · rename_i a b' ha hb
            split at h
            · rename_i p q hp hq
              simp at h; subst h
              have e1 := ih1 _ _ _ _ hp D (by omega)
              have e2 := ih2 _ _ _ _ hq D (by omega)
              simp only [Op.eqFields, hne, ne_eq, not_false_eq_true, if_true, Sem.run_bind, run_xpart ha, run_xpart hb, Result.andThen_ok, e1, mkAnd_den]
              cases p.den ρ <;> simp [e2]
            · cases h
          · cases h
    · cases n with
      | zero => simp [xeqA] at h; subst h; simp [eqArr, BE.den]
      | succ n =>
        unfold xeqA at h
        split at h
        · rename_i a b' ha hb
          split at h
          · rename_i p q hp hq
            simp at h; subst h
            have e1 := ih1 _ _ _ _ hp D (by omega)
            have e3 := ih3 _ _ _ _ _ _ _ hq D (by omega)
            simp only [eqArr, Sem.run_bind, run_xpart ha, run_xpart hb, Result.andThen_ok, e1, mkAnd_den]
            cases p.den ρ <;> simp [e3]
          · cases h
        · cases h
end Go.SX

/- SxC: operations that give a value and leave the world alone. -/
set_option linter.unusedSimpArgs false
set_option linter.unusedVariables false
set_option linter.unusedSectionVars false
noncomputable section
namespace Go.SX
open Go Go.RowKit

/-- what must hold, and the value -/
abbrev XV := Option (List BE × SV)
def needLss (a b : IE) : List BE := match mkCmp .lss a b with
  | .lit true => []
  | p => [p]
def needLeq (a b : IE) : List BE := match mkCmp .leq a b with
  | .lit true => []
  | p => [p]
theorem needLss_den {ρ : Env} {a b : IE} (h : ∀ p ∈ needLss a b, p.den ρ = true) : a.den ρ < b.den ρ := by
  have e := mkCmp_den ρ .lss a b
  unfold needLss at h
  split at h
  · rename_i hl; rw [hl] at e; simpa [BE.den, bc] using e.symm
  · have := h _ (List.mem_singleton.2 rfl); rw [this] at e; simpa [bc] using e.symm
theorem needLeq_den {ρ : Env} {a b : IE} (h : ∀ p ∈ needLeq a b, p.den ρ = true) : a.den ρ ≤ b.den ρ := by
  have e := mkCmp_den ρ .leq a b
  unfold needLeq at h
  split at h
  · rename_i hl; rw [hl] at e; simpa [BE.den, bc] using e.symm
  · have := h _ (List.mem_singleton.2 rfl); rw [this] at e; simpa [bc] using e.symm

/-! ### binary -/
def isAr : BinOp → Bool
  | .add | .sub | .mul | .and | .or | .xor | .andNot => true
  | _ => false
def isCmp : BinOp → Bool
  | .eql | .neq | .lss | .leq | .gtr | .geq => true
  | _ => false
def nzNeed (b : IE) : Option (List BE) := match b with
  | .lit n => bif iq n 0 then none else some []
  | b => some [.cmp .neq b (.lit 0)]
theorem nzNeed_den {ρ : Env} {b : IE} {ns : List BE} (h : nzNeed b = some ns) (hn : ∀ p ∈ ns, p.den ρ = true) : b.den ρ ≠ 0 := by
  unfold nzNeed at h
  split at h
  · rename_i n
    cases hq : iq n 0
    · rw [iq_beq] at hq; simpa [IE.den] using hq
    · simp [hq] at h
  · simp at h; subst h
    simpa [BE.den, bc, IE.den] using hn _ (List.mem_singleton.2 rfl)
def eqv (op : BinOp) (b : BE) : Option SV := match op with
  | .eql => some (.c (.bool b))
  | .neq => some (.c (.bool (mkNot b)))
  | _ => none
/-- whether it is not nil -/
def nilness : SC → Option BE
  | .ptr .. | .aptr .. | .oslice .. | .fn .. | .gslice .. | .yld .. | .mref .. => some (.lit true)
  | .slice j .. => some (.not (.nl j))
  | .lit (.slice none _ _) | .lit (.pointer none) | .lit .nilFunc | .lit (.map none) => some (.lit false)
  | _ => none
def sort : SC → Nat
  | .ptr .. | .aptr .. | .lit (.pointer none) => 1
  | .slice .. | .oslice .. | .gslice .. | .lit (.slice none _ _) => 2
  | .fn .. | .yld .. | .lit .nilFunc => 3
  | .mref .. | .lit (.map none) => 4
  | _ => 0
def sortD (P : Program) (t : TypeId) : Nat := match P.underlying t with
  | some (.pointer _) => 1
  | some (.slice _) => 2
  | some (.func ..) => 3
  | some (.map ..) => 4
  | _ => 9
def xbin (P : Program) (op : BinOp) (t : TypeId) (x y : SV) : XV :=
  match x, y with
  | .a (.c (.int k a)), .a (.c (.int k' b)) =>
    match op with
    | .shl | .shr => some (needLeq (.lit 0) b, .c (.int k (mkBin op k a b)))
    | _ => bif Nat.beq (kn k) (kn k') then
        match op with
        | .quo | .rem => (nzNeed b).map fun ns => (ns, .c (.int k (mkBin op k a b)))
        | _ => bif isAr op then some ([], .c (.int k (mkBin op k a b))) else bif isCmp op then some ([], .c (.bool (mkCmp op a b))) else none
      else none
  | .a (.c (.bool a)), .a (.c (.bool b)) => match P.underlying t with
    | some .bool => (eqv op (mkEq a b)).map fun v => ([], v)
    | _ => none
  | .a (.agg xs), .a (.agg ys) => if P.eqGuardType P.depth t then none else (xeq P 2000 t (.agg xs) (.agg ys)).bind fun b => (eqv op b).map fun v => ([], v)
  | .a (.c x), .a (.c y) => bif Nat.beq (sort x) (sortD P t) && Nat.beq (sort y) (sortD P t) then
      match nilness x, nilness y with
      | some a, some (.lit false) => (eqv op (mkNot a)).map fun v => ([], v)
      | some (.lit false), some b => (eqv op (mkNot b)).map fun v => ([], v)
      | _, _ => none
    else none
  | _, _ => none
theorem run_ints {P : Program} (w : World) (op : BinOp) (t : TypeId) (x y : Operand) (k : IntKind) (m n : Int) (h : isAr op = true ∨ ((op = .quo ∨ op = .rem) ∧ n ≠ 0)) :
    (do eqGuard op t x y (.int k m) (.int k n); binOp op t (.int k m) (.int k n)).run P w = .ok (.int k (bi op k m n)) w := by
  rcases h with h | ⟨h | h, hn⟩
  · cases op <;> simp [isAr] at h <;> simp [eqGuard, binOp, Op.intArith, Op.intBits, bi, bits]
  · subst h; simp [eqGuard, binOp, Op.intDiv, bi, hn]
  · subst h; simp [eqGuard, binOp, Op.intDiv, bi, hn]
theorem run_cmps {P : Program} (w : World) (op : BinOp) (t : TypeId) (x y : Operand) (k : IntKind) (m n : Int) (h : isCmp op = true) :
    (do eqGuard op t x y (.int k m) (.int k n); binOp op t (.int k m) (.int k n)).run P w = .ok (.bool (bc op m n)) w := by
  cases op <;> simp [isCmp] at h <;> simp [eqGuard, binOp, Op.intCmp, bc]
theorem run_shifts {P : Program} (w : World) (op : BinOp) (t : TypeId) (x y : Operand) (k k' : IntKind) (m n : Int) (h : op = .shl ∨ op = .shr) (hn : 0 ≤ n) :
    (do eqGuard op t x y (.int k m) (.int k' n); binOp op t (.int k m) (.int k' n)).run P w = .ok (.int k (bi op k m n)) w := by
  have : ¬ n < 0 := by omega
  rcases h with h | h <;> subst h <;> simp [eqGuard, binOp, Op.shift, bi, this]
theorem eqv_den {ρ : Env} {κ : Kap} {op : BinOp} {b : BE} {v : SV} (h : eqv op b = some v) : (op = .eql ∧ v.den ρ κ = .bool (b.den ρ)) ∨ (op = .neq ∧ v.den ρ κ = .bool (!(b.den ρ))) := by
  unfold eqv at h
  split at h <;> simp at h <;> subst h <;> simp [SV.den, SA.den, SC.den, mkNot_den]
/-- a value that is nil, or surely not -/
inductive NV : Nat → Value → Bool → Prop where
  | p0 : NV 1 (.pointer none) false
  | p1 (a : Addr) : NV 1 (.pointer (some a)) true
  | s0 (n c : Nat) : NV 2 (.slice none n c) false
  | s1 (a : Addr) (n c : Nat) : NV 2 (.slice (some a) n c) true
  | f0 : NV 3 .nilFunc false
  | f1 (f : Fn) (a b : Array Value) : NV 3 (.func f a b) true
  | m0 : NV 4 (.map none) false
  | m1 (a : Nat) : NV 4 (.map (some a)) true
theorem nv_of {ρ : Env} {κ : Kap} {x : SC} {a : BE} (h : nilness x = some a) : NV (sort x) (x.den ρ κ) (a.den ρ) := by
  cases x <;> simp only [nilness, Option.some.injEq, reduceCtorEq] at h
  · subst h; simp only [SC.den, sort, BE.den]; exact .p1 _
  · subst h; simp only [SC.den, sort, BE.den]; exact .p1 _
  · subst h; simp only [SC.den, sort, BE.den, slAddr]
    cases ρ.nl _
    · exact .s1 _ _ _
    · exact .s0 _ _
  · subst h; simp only [SC.den, sort, BE.den]; exact .s1 _ _ _
  · split at h <;> simp only [Option.some.injEq, reduceCtorEq] at h <;> rename_i heq <;> cases heq <;> subst h <;> simp only [SC.den, sort, bigCell, Value.oneCell', if_true, BE.den]
    · exact .s0 _ _
    · exact .p0
    · exact .f0
    · exact .m0
  · subst h; simp only [SC.den, sort, BE.den]; exact .f1 _ _ _
  · subst h; simp only [SC.den, sort, BE.den]; exact .s1 _ _ _
  · subst h; simp only [SC.den, sort, BE.den]; exact .f1 _ _ _
  · subst h; simp only [SC.den, sort, BE.den]; exact .m1 _
theorem run_equal_nv {P : Program} (w : World) (d : Nat) {t : TypeId} {s : Nat} {u z : Value} {a b : Bool} (hu : NV s u a) (hz : NV s z b) (hs : s = sortD P t) (hab : a = false ∨ b = false) :
    (Op.equalIn (d + 1) t u z).run P w = .ok (a == b) w := by
  unfold sortD at hs
  cases hd : P.underlying t with
  | none => rw [hd] at hs; cases hu <;> simp at hs
  | some D =>
    rw [hd] at hs
    cases hu <;> cases hz <;> simp at hab <;> cases D <;> simp only [] at hs <;> first | (exfalso; omega) | simp [Op.equalIn, run_underlying hd]
theorem run_eqGuard_nv {P : Program} (w : World) {op : BinOp} {t : TypeId} {X Y : Operand} {s : Nat} {u z : Value} {a b : Bool} (hu : NV s u a) (hz : NV s z b) : (eqGuard op t X Y u z).run P w = .ok () w := by
  cases hu <;> cases hz <;> cases op <;> simp [eqGuard]
theorem binOp_nv {t : TypeId} {s : Nat} {u z : Value} {a b : Bool} (hu : NV s u a) (hz : NV s z b) :
    (binOp .eql t u z = do pure (.bool (← Op.equal t u z))) ∧ (binOp .neq t u z = do pure (.bool (!(← Op.equal t u z)))) := by
  cases hu <;> cases hz <;> exact ⟨by simp only [binOp], by simp only [binOp]⟩
theorem run_nil {P : Program} {ρ : Env} {κ : Kap} (w : World) (op : BinOp) (t : TypeId) (X Y : Operand) (x y : SC) {a b : BE} (hx : sort x = sortD P t) (hy : sort y = sortD P t) (ha : nilness x = some a) (hb : nilness y = some b)
    (hab : a.den ρ = false ∨ b.den ρ = false) {v : SV} {q : BE} (hq : q.den ρ = (a.den ρ == b.den ρ)) (hv : eqv op q = some v) :
    (do eqGuard op t X Y (x.den ρ κ) (y.den ρ κ); binOp op t (x.den ρ κ) (y.den ρ κ)).run P w = .ok (v.den ρ κ) w := by
  have n1 : NV (sortD P t) (x.den ρ κ) (a.den ρ) := hx ▸ nv_of ha
  have n2 : NV (sortD P t) (y.den ρ κ) (b.den ρ) := hy ▸ nv_of hb
  have k2 : (Op.equal t (x.den ρ κ) (y.den ρ κ)).run P w = .ok (a.den ρ == b.den ρ) w := run_equal_nv w 9999 n1 n2 rfl hab
  obtain ⟨k3, k4⟩ := binOp_nv (t := t) n1 n2
  rw [Sem.run_bind, run_eqGuard_nv w n1 n2, Result.andThen_ok]
  rcases eqv_den (ρ := ρ) (κ := κ) hv with ⟨rfl, hd⟩ | ⟨rfl, hd⟩
  · rw [k3, Sem.run_bind, k2, Result.andThen_ok, hd, hq]; rfl
  · rw [k4, Sem.run_bind, k2, Result.andThen_ok, hd, hq]; rfl
theorem xbin_sound {P : Program} {ρ : Env} {κ : Kap} (w : World) {op : BinOp} {t : TypeId} {X Y : Operand} {x y : SV} {ns : List BE} {s : SV} (h : xbin P op t x y = some (ns, s)) (hn : ∀ p ∈ ns, p.den ρ = true) :
    (do eqGuard op t X Y (x.den ρ κ) (y.den ρ κ); binOp op t (x.den ρ κ) (y.den ρ κ)).run P w = .ok (s.den ρ κ) w := by
  unfold xbin at h
  split at h
  · rename_i k a k' b
    simp only [SV.den, SA.den, SC.den]
    split at h
    · simp at h; obtain ⟨rfl, rfl⟩ := h
      simp only [SV.den, SA.den, SC.den, mkBin_den]
      exact run_shifts w _ t X Y k k' _ _ (.inl rfl) (by simpa [IE.den] using needLeq_den hn)
    · simp at h; obtain ⟨rfl, rfl⟩ := h
      simp only [SV.den, SA.den, SC.den, mkBin_den]
      exact run_shifts w _ t X Y k k' _ _ (.inr rfl) (by simpa [IE.den] using needLeq_den hn)
    · cases hk : Nat.beq (kn k) (kn k')
      · rw [hk] at h; cases h
      · have := kn_eq hk; subst this
        rw [hk] at h; simp only [cond_true] at h
        split at h
        · simp at h; obtain ⟨a', h1, rfl, rfl⟩ := h
          simp only [SV.den, SA.den, SC.den, mkBin_den]
          exact run_ints w _ t X Y k _ _ (.inr ⟨.inl rfl, nzNeed_den h1 hn⟩)
        · simp at h; obtain ⟨a', h1, rfl, rfl⟩ := h
          simp only [SV.den, SA.den, SC.den, mkBin_den]
          exact run_ints w _ t X Y k _ _ (.inr ⟨.inr rfl, nzNeed_den h1 hn⟩)
        · cases h1 : isAr op
          · rw [h1] at h; simp only [cond_false] at h
            cases h2 : isCmp op
            · rw [h2] at h; cases h
            · rw [h2] at h; simp at h; obtain ⟨rfl, rfl⟩ := h
              simp only [SV.den, SA.den, SC.den, mkCmp_den]
              exact run_cmps w op t X Y k _ _ h2
          · rw [h1] at h; simp at h; obtain ⟨rfl, rfl⟩ := h
            simp only [SV.den, SA.den, SC.den, mkBin_den]
            exact run_ints w op t X Y k _ _ (.inl h1)
  · rename_i a b
    split at h
    · rename_i hu
      obtain ⟨v, hv, he⟩ := Option.map_eq_some_iff.1 h; cases he
      have e : (Op.equal t (.bool (a.den ρ)) (.bool (b.den ρ))).run P w = .ok (a.den ρ == b.den ρ) w := by
        simp only [Op.equal, Op.maxDepth]; exact run_equalIn_bool' w 9999 t _ _ hu
      simp only [SV.den, SA.den, SC.den]
      rcases eqv_den (ρ := ρ) (κ := κ) hv with ⟨rfl, hd⟩ | ⟨rfl, hd⟩
      · rw [hd]; simp [eqGuard, binOp, e, mkEq_den]
      · rw [hd]; simp [eqGuard, binOp, e, mkEq_den]
    · cases h
  · rename_i xs ys
    split at h
    · cases h
    · rename_i hg
      obtain ⟨b, hb, h⟩ := Option.bind_eq_some_iff.1 h
      obtain ⟨v, hv, he⟩ := Option.map_eq_some_iff.1 h; cases he
      have e := (xeq_sound P ρ κ w 2000).1 _ _ _ _ hb 10000 (by omega)
      simp only [SA.den] at e
      simp only [SV.den, SA.den]
      rcases eqv_den (ρ := ρ) (κ := κ) hv with ⟨rfl, hd⟩ | ⟨rfl, hd⟩
      · rw [hd, Sem.run_bind, run_eqGuard_agg w _ _ _ _ _ _ (by simpa using hg), Result.andThen_ok, run_eql_struct, e]; rfl
      · rw [hd, Sem.run_bind, run_eqGuard_agg w _ _ _ _ _ _ (by simpa using hg), Result.andThen_ok, run_neq_struct, e]; rfl
  · rename_i x y _ _
    cases hs : (Nat.beq (sort x) (sortD P t) && Nat.beq (sort y) (sortD P t))
    · rw [hs] at h; cases h
    · rw [hs] at h; simp only [cond_true] at h
      simp only [Bool.and_eq_true, Nat.beq_eq] at hs
      split at h
      · rename_i a ha hb
        obtain ⟨v, hv, he⟩ := Option.map_eq_some_iff.1 h; cases he
        exact run_nil w op t X Y x y hs.1 hs.2 ha hb (.inr rfl) (by rw [mkNot_den]; simp only [BE.den]; cases a.den ρ <;> rfl) hv
      · rename_i b _ ha hb
        obtain ⟨v, hv, he⟩ := Option.map_eq_some_iff.1 h; cases he
        exact run_nil w op t X Y x y hs.1 hs.2 ha hb (.inl rfl) (by rw [mkNot_den]; simp only [BE.den]; cases b.den ρ <;> rfl) hv
      · cases h
  · cases h
end Go.SX

/- SxD: addresses, loads, parts, builds, slices of slices. -/
set_option linter.unusedSimpArgs false
set_option linter.unusedVariables false
set_option linter.unusedSectionVars false
noncomputable section
namespace Go.SX
open Go Go.RowKit

/-! ### addresses -/
def movePtr (p : SC) (n : Nat) : Option SC := match p with
  | .ptr id off => some (.ptr id (off + n))
  | .aptr j s c x => some (.aptr j s (c + n) x)
  | _ => none
theorem movePtr_den {ρ : Env} {κ : Kap} {p q : SC} {n : Nat} (h : movePtr p n = some q) : ∃ a : Addr, p.den ρ κ = .pointer (some a) ∧ q.den ρ κ = .pointer (some (a.add n)) := by
  unfold movePtr at h
  split at h <;> simp at h <;> subst h <;> simp only [SC.den]
  · exact ⟨_, rfl, by rw [Addr.add_mid]⟩
  · exact ⟨_, rfl, by rw [Addr.add_mid]; simp only [Nat.add_assoc]⟩
def xfieldAddr (P : Program) (t : TypeId) (p : SV) (f : Nat) : XV :=
  match p with
  | .a (.c p) => match fieldP P t f with
    | some fd => match sizeP P fd.type with
      | some (_ + 1) => (movePtr p fd.offset).map fun q => ([], .c q)
      | _ => none
    | none => none
  | _ => none
theorem xfieldAddr_sound {P : Program} {ρ : Env} {κ : Kap} (w : World) {t : TypeId} {p : SV} {f : Nat} {ns : List BE} {s : SV} (h : xfieldAddr P t p f = some (ns, s)) :
    (Instr.fieldAt t (p.den ρ κ) f).run P w = .ok (s.den ρ κ) w := by
  unfold xfieldAddr at h
  split at h
  · rename_i p
    split at h
    · rename_i fd hfd
      split at h
      · rename_i n hs
        obtain ⟨q, hq, he⟩ := Option.map_eq_some_iff.1 h; cases he
        obtain ⟨a, e1, e2⟩ := movePtr_den (ρ := ρ) (κ := κ) hq
        unfold fieldP at hfd
        split at hfd
        · rename_i fs hu
          simp only [SV.den, SA.den, e1, e2, Instr.fieldAt, Sem.run_bind, run_underlying hu, Result.andThen_ok, hfd, Instr.sureAddr, Sem.run_pure, fieldPlace, run_sizeP hs]
          simp
        · cases hfd
      · cases h
    · cases h
  · cases h
/-- an index into a row that is known by number, or into an array -/
def xindexAddr (P : Program) (H : Heap) (t : TypeId) (p i : SV) : XV :=
  match p, i with
  | .a (.c p), .a (.c (.int _ i)) => match P.underlying t, p, i with
    | some (.array n e), p, .lit (.ofNat m) => bif Nat.blt m n then match sizeP P e with
        | some z => (movePtr p (m * z)).map fun q => ([], .c q)
        | none => none
      else none
    | some (.slice e), .oslice id off len _, .lit (.ofNat m) => bif Nat.blt m len then match sizeP P e with
        | some z => some ([], .c (.ptr id (off + m * z)))
        | none => none
      else none
    | some (.slice e), .gslice id off len _, .lit (.ofNat m) => bif Nat.blt m len then match sizeP P e with
        | some z => some ([], .c (.ptr id (off + m * z)))
        | none => none
      else none
    | some (.slice e), .slice j s c x len _, i => match sizeP P e, H.arr? j with
        | some z, some (ct, _, _) => bif Nat.beq z s then some (needLeq (.lit 0) i ++ (needLss i len ++ (needLeq (.lit 0) x ++ needLss (mkPlus x i) (.alen ct))), .c (.aptr j s c (mkPlus x i))) else none
        | _, _ => none
    | _, _, _ => none
  | _, _ => none
theorem forall_append {p q : List BE} {ρ : Env} (h : ∀ n ∈ p ++ q, n.den ρ = true) : (∀ n ∈ p, n.den ρ = true) ∧ (∀ n ∈ q, n.den ρ = true) :=
  ⟨fun n hn => h n (List.mem_append_left _ hn), fun n hn => h n (List.mem_append_right _ hn)⟩
theorem xindexAddr_sound {P : Program} {ρ : Env} {κ : Kap} {base : Bk} {H : Heap} {w : World} (hH : HeapOk ρ κ base H w) {t : TypeId} {p i : SV} {ns : List BE} {s : SV} (h : xindexAddr P H t p i = some (ns, s)) (hn : ∀ p ∈ ns, p.den ρ = true) :
    (Instr.indexAt t (p.den ρ κ) (i.den ρ κ)).run P w = .ok (s.den ρ κ) w := by
  unfold xindexAddr at h
  split at h
  · rename_i p k i
    simp only [SV.den, SA.den, SC.den]
    split at h
    · rename_i n e m hu
      cases hb : Nat.blt m n
      · rw [hb] at h; cases h
      · rw [hb] at h; simp only [cond_true] at h
        rw [Nat.blt_eq] at hb
        split at h
        · rename_i z hz
          obtain ⟨q, hq, he⟩ := Option.map_eq_some_iff.1 h; cases he
          obtain ⟨a, e1, e2⟩ := movePtr_den (ρ := ρ) (κ := κ) hq
          have h0 : (0 : Int) ≤ Int.ofNat m ∧ Int.ofNat m < (n : Int) := by constructor <;> (simp; try omega)
          simp only [SV.den, SA.den, e1, e2, Instr.indexAt, asIntOf, Sem.run_bind, Sem.run_pure, run_underlying hu, Result.andThen_ok, Instr.sureAddr, IE.den, Sem.run_ite, h0, and_self, if_true, run_sizeP hz]
          rfl
        · cases h
    · rename_i e id off len cap m hu
      cases hb : Nat.blt m len
      · rw [hb] at h; cases h
      · rw [hb] at h; simp only [cond_true] at h
        rw [Nat.blt_eq] at hb
        split at h
        · rename_i z hz
          cases h
          have h0 : (0 : Int) ≤ Int.ofNat m ∧ Int.ofNat m < (len : Int) := by constructor <;> (simp; try omega)
          simp only [SV.den, SA.den, SC.den, Instr.indexAt, asIntOf, Sem.run_bind, Sem.run_pure, run_underlying hu, Result.andThen_ok, IE.den, Sem.run_ite, h0, and_self, if_true, run_sizeP hz, Addr.add_mid]
          rfl
        · cases h
    · rename_i e id off len k m hu
      cases hb : Nat.blt m len
      · rw [hb] at h; cases h
      · rw [hb] at h; simp only [cond_true] at h
        rw [Nat.blt_eq] at hb
        split at h
        · rename_i z hz
          cases h
          have h0 : (0 : Int) ≤ Int.ofNat m ∧ Int.ofNat m < (len : Int) := by constructor <;> (simp; try omega)
          simp only [SV.den, SA.den, SC.den, Instr.indexAt, asIntOf, Sem.run_bind, Sem.run_pure, run_underlying hu, Result.andThen_ok, IE.den, Sem.run_ite, h0, and_self, if_true, run_sizeP hz, Addr.add_mid]
          rfl
        · cases h
    · rename_i i _ _ _ e j s c x len cap hu
      split at h
      · rename_i z ct pat o hz harr
        cases hb : Nat.beq z s
        · rw [hb] at h; cases h
        · rw [hb] at h; simp only [cond_true] at h
          rw [Nat.beq_eq] at hb; subst hb
          cases h
          obtain ⟨n1, n2⟩ := forall_append hn
          obtain ⟨n2, n3⟩ := forall_append n2
          obtain ⟨n3, n4⟩ := forall_append n3
          have m1 := needLeq_den n1
          have m2 := needLss_den n2
          have m3 := needLeq_den n3
          have m4 := needLss_den n4
          simp only [IE.den, mkPlus_den] at m1 m3 m4
          have hnl : ρ.nl j = false := by
            cases hn : ρ.nl j
            · rfl
            · have := (hH.arr j ct pat o harr).2 hn
              rw [this] at m4; simp at m4; omega
          have h0 : (0 : Int) ≤ i.den ρ ∧ i.den ρ < (((len.den ρ).toNat : Nat) : Int) := by omega
          simp only [SV.den, SA.den, SC.den, Instr.indexAt, asIntOf, Sem.run_bind, Sem.run_pure, run_underlying hu, Result.andThen_ok, Sem.run_ite, h0, and_self, if_true, run_sizeP hz, Addr.add_mid, mkPlus_den, slAddr, hnl, Bool.false_eq_true, if_false]
          have e : (x.den ρ + i.den ρ).toNat = (x.den ρ).toNat + (i.den ρ).toNat := by omega
          rw [e, Nat.add_mul]
          have e2 : κ.ao j + (x.den ρ).toNat * z + c + (i.den ρ).toNat * z = κ.ao j + ((x.den ρ).toNat * z + (i.den ρ).toNat * z) + c := by omega
          rw [e2]
      · cases h
    · cases h
  · cases h

/-! ### loads -/
def ckRow (pat : List CK) (j : Nat) (x : IE) : Nat → Nat → Option (List SC)
  | _, 0 => some []
  | c, n + 1 => match pat[c]?, ckRow pat j x (c + 1) n with
    | some k, some r => some (k.sc j c x :: r)
    | _, _ => none
theorem ckRow_spec {ρ : Env} {κ : Kap} {pat : List CK} {j : Nat} {x : IE} : ∀ {n c : Nat} {l : List SC}, ckRow pat j x c n = some l →
    l.length = n ∧ ∀ q s, l[q]? = some s → ∃ k, pat[c + q]? = some k ∧ s.den ρ κ = k.den (ρ.at j (c + q) (x.den ρ)) := by
  intro n
  induction n with
  | zero => intro c l h; simp [ckRow] at h; subst h; exact ⟨rfl, fun q s hq => by simp at hq⟩
  | succ n ih =>
    intro c l h
    unfold ckRow at h
    split at h
    · rename_i k r hk hr
      simp at h; subst h
      obtain ⟨h1, h2⟩ := ih hr
      refine ⟨by simp [h1], fun q s hq => ?_⟩
      cases q with
      | zero => simp at hq; subst hq; exact ⟨k, by simpa using hk, by rw [CK.sc_den]; rfl⟩
      | succ q => simp at hq; obtain ⟨k', e1, e2⟩ := h2 q s hq; exact ⟨k', by rw [← e1]; congr 1; omega, by rw [e2, show c + 1 + q = c + (q + 1) by omega]⟩
    · cases h
/-- the cells from a place on -/
def xcells (H : Heap) (p : SC) (n : Nat) : Option (List BE × List SC) :=
  match p with
  | .ptr id off => match H.own? id with
    | some (cs, _) => let r := (cs.drop off).take n; bif Nat.beq r.length n then some ([], r) else none
    | none => none
  | .aptr j s c x => match H.arr? j with
    | some (ct, pat, _) => bif Nat.beq s pat.length then (ckRow pat ct x c n).map fun r => (needLeq (.lit 0) x ++ needLss x (.alen ct), r) else none
    | none => none
  | _ => none
theorem xcells_range {ρ : Env} {κ : Kap} {base : Bk} {H : Heap} {w : World} (hH : HeapOk ρ κ base H w) {p : SC} {n : Nat} {ns : List BE} {l : List SC} (h : xcells H p n = some (ns, l)) (hn : ∀ p ∈ ns, p.den ρ = true) :
    l.length = n ∧ ∃ b o, p.den ρ κ = .pointer (some ⟨b, o, none⟩) ∧ w.rangeAt b o (l.map (SC.den ρ κ)) := by
  unfold xcells at h
  split at h
  · rename_i id off
    split at h
    · rename_i cs ty ho
      dsimp only at h
      cases hb : Nat.beq ((cs.drop off).take n).length n
      · rw [hb] at h; cases h
      · rw [hb] at h; simp only [cond_true] at h; cases h
        rw [Nat.beq_eq] at hb
        refine ⟨hb, _, _, by simp only [SC.den]; rfl, ?_⟩
        obtain ⟨sp, hw⟩ := hH.own ho
        have hr := World.rangeAt_of_block hw off n
        have hl : n = 0 ∨ off + n ≤ cs.length := by simp at hb; omega
        have he : ((cs.map (SC.den ρ κ) ++ sp).drop off).take n = ((cs.drop off).take n).map (SC.den ρ κ) := by
          rcases hl with rfl | hl
          · simp
          · rw [List.drop_append_of_le_length (by simp; omega), List.take_append_of_le_length (by simp; omega), List.map_take, List.map_drop]
        simpa [List.extract_eq_take_drop, he] using hr
    · cases h
  · rename_i j s c x
    split at h
    · rename_i ct pat o ha
      cases hb : Nat.beq s pat.length
      · rw [hb] at h; cases h
      · rw [hb] at h; simp only [cond_true] at h
        rw [Nat.beq_eq] at hb; subst hb
        obtain ⟨r, hr, he⟩ := Option.map_eq_some_iff.1 h; cases he
        obtain ⟨h1, h2⟩ := ckRow_spec (ρ := ρ) (κ := κ) hr
        obtain ⟨n1, n2⟩ := forall_append hn
        have m1 := needLeq_den n1
        have m2 := needLss_den n2
        simp only [IE.den] at m1
        refine ⟨h1, _, _, by simp only [SC.den]; rfl, fun q v hv => ?_⟩
        simp only [List.getElem?_map, Option.map_eq_some_iff] at hv
        obtain ⟨s, hs, rfl⟩ := hv
        obtain ⟨k, hk, e⟩ := h2 q s hs
        simp only [IE.den] at m2
        have hlt : (x.den ρ).toNat < (ρ.a ct).length := by omega
        have hrow : (ρ.a ct)[(x.den ρ).toNat]? = some ((ρ.a ct)[(x.den ρ).toNat]) := List.getElem?_eq_getElem hlt
        have := (hH.arr j ct pat o ha).1 (x.den ρ).toNat (c + q) _ k hrow hk
        have hat : ρ.at ct (c + q) (x.den ρ) = ((ρ.a ct)[(x.den ρ).toNat]).getD (c + q) (.i 0) := by
          simp [Env.at, List.getD_eq_getElem?_getD, hrow]
        rw [e, hat, ← this]; congr 2; omega
    · cases h
  · cases h
def xload (P : Program) (H : Heap) (t : TypeId) (p : SV) : XV :=
  match p with
  | .a (.c p) => match rowP P t, sizeP P t with
    | some true, some n => (xcells H p n).map fun (ns, l) => (ns, .agg l)
    | some false, _ => match xcells H p 1 with
      | some (ns, [s]) => some (ns, .c s)
      | _ => none
    | _, _ => none
  | _ => none
theorem sizeP_info {P : Program} {t : TypeId} {n : Nat} (h : sizeP P t = some n) : (P.info? t).map (·.size) = some n := by
  unfold sizeP at h; split at h <;> simp_all
theorem rowP_desc {P : Program} {t : TypeId} (h : rowP P t = some true) : ∃ d, P.underlying t = some d ∧ d.isRow = true := by
  unfold rowP at h; split at h
  · rename_i hu; exact ⟨_, hu, rfl⟩
  · rename_i hu; exact ⟨_, hu, rfl⟩
  · cases h
  · cases h
theorem run_loadVar_x {P : Program} {ρ : Env} {κ : Kap} {base : Bk} {H : Heap} {w : World} (hH : HeapOk ρ κ base H w) {t : TypeId} {p : SV} {ns : List BE} {s : SV} (h : xload P H t p = some (ns, s)) (hn : ∀ p ∈ ns, p.den ρ = true) :
    ∃ a : Addr, p.den ρ κ = .pointer (some a) ∧ (loadVar t a).run P w = .ok (s.den ρ κ) w := by
  unfold xload at h
  split at h
  · rename_i p
    split at h
    · rename_i n hr hs
      obtain ⟨⟨ns', l⟩, hl, he⟩ := Option.map_eq_some_iff.1 h; cases he
      obtain ⟨h1, b, o, e, hra⟩ := xcells_range hH hl hn
      obtain ⟨d, hd, hd'⟩ := rowP_desc hr
      exact ⟨_, e, run_loadVar_mid w b o t _ d hra hd hd' (by rw [sizeP_info hs]; simp [h1])⟩
    · rename_i hr
      split at h
      · rename_i ns' s' hl
        cases h
        obtain ⟨h1, b, o, e, hra⟩ := xcells_range hH hl hn
        refine ⟨_, e, ?_⟩
        have hc := hra 0 _ rfl
        simp only [Nat.add_zero] at hc
        simp [loadVar, run_rowP hr, hc, SV.den, SA.den]
      · cases h
    · cases h
  · cases h
theorem xload_sound {P : Program} {ρ : Env} {κ : Kap} {base : Bk} {H : Heap} {w : World} (hH : HeapOk ρ κ base H w) {t : TypeId} {p : SV} {ns : List BE} {s : SV} (h : xload P H t p = some (ns, s)) (hn : ∀ p ∈ ns, p.den ρ = true) :
    (Instr.loadAt t (p.den ρ κ)).run P w = .ok (s.den ρ κ) w := by
  obtain ⟨a, e, hr⟩ := run_loadVar_x hH h hn
  simp only [Instr.loadAt, e, Instr.sureAddr, Sem.run_bind, Sem.run_pure, Result.andThen_ok, hr]

/-! ### parts of rows -/
def xfield (P : Program) (t : TypeId) (x : SV) (f : Nat) : XV :=
  match x with
  | .a (.agg l) => match fieldP P t f with
    | some fd => (xpart P fd.type l fd.offset).map fun s => ([], .a s)
    | none => none
  | _ => none
theorem xfield_sound {P : Program} {ρ : Env} {κ : Kap} (w : World) {t : TypeId} {x : SV} {f : Nat} {ns : List BE} {s : SV} (h : xfield P t x f = some (ns, s)) :
    (Instr.field t (x.den ρ κ) f).run P w = .ok (s.den ρ κ) w := by
  unfold xfield at h
  split at h
  · rename_i l
    split at h
    · rename_i fd hfd
      obtain ⟨q, hq, he⟩ := Option.map_eq_some_iff.1 h; cases he
      unfold fieldP at hfd
      split at hfd
      · rename_i fs hu
        simp only [SV.den, SA.den, Instr.field, Sem.run_bind, run_underlying hu, Result.andThen_ok, hfd, asAgg, Sem.run_pure, run_xpart hq]
      · cases hfd
    · cases h
  · cases h
def xindex (P : Program) (t : TypeId) (x i : SV) : XV :=
  match x, i with
  | .a (.agg l), .a (.c (.int _ (.lit (.ofNat m)))) => match P.underlying t with
    | some (.array n e) => bif Nat.blt m n then match sizeP P e with
        | some z => (xpart P e l (m * z)).map fun s => ([], .a s)
        | none => none
      else none
    | _ => none
  | _, _ => none
theorem xindex_sound {P : Program} {ρ : Env} {κ : Kap} (w : World) {t : TypeId} {x i : SV} {ns : List BE} {s : SV} (h : xindex P t x i = some (ns, s)) :
    (Instr.index t (x.den ρ κ) (i.den ρ κ)).run P w = .ok (s.den ρ κ) w := by
  unfold xindex at h
  split at h
  · rename_i l k m
    split at h
    · rename_i n e hu
      cases hb : Nat.blt m n
      · rw [hb] at h; cases h
      · rw [hb] at h; simp only [cond_true] at h
        rw [Nat.blt_eq] at hb
        split at h
        · rename_i z hz
          obtain ⟨q, hq, he⟩ := Option.map_eq_some_iff.1 h; cases he
          have h0 : (0 : Int) ≤ Int.ofNat m ∧ Int.ofNat m < (n : Int) := by constructor <;> (simp; try omega)
          simp only [SV.den, SA.den, SC.den, IE.den, Instr.index, asIntOf, Sem.run_bind, Sem.run_pure, run_underlying hu, Result.andThen_ok, Sem.run_ite, h0, and_self, if_true, run_sizeP hz]
          exact run_xpart hq w
        · cases h
    · cases h
  · cases h
def xextract (x : SV) (i : Nat) : XV :=
  match x with
  | .tup l => (l[i]?).map fun s => ([], .a s)
  | _ => none
theorem xextract_sound {P : Program} {ρ : Env} {κ : Kap} (w : World) {x : SV} {i : Nat} {ns : List BE} {s : SV} (h : xextract x i = some (ns, s)) :
    (Instr.extract (x.den ρ κ) i).run P w = .ok (s.den ρ κ) w := by
  unfold xextract at h
  split at h
  · obtain ⟨q, hq, he⟩ := Option.map_eq_some_iff.1 h; cases he
    simp [SV.den, Instr.extract, hq]
  · cases h

/-! ### builds -/
def setMany : List SC → Nat → List SC → List SC
  | cs, _, [] => cs
  | cs, o, v :: vs => setMany (cs.set o v) (o + 1) vs
theorem setMany_length (vs : List SC) : ∀ (cs : List SC) (o : Nat), (setMany cs o vs).length = cs.length := by
  induction vs with
  | nil => intro cs o; rfl
  | cons v vs ih => intro cs o; simp [setMany, ih]
theorem setMany_den (ρ : Env) (κ : Kap) (vs : List SC) : ∀ (cs : List SC) (o off : Nat),
    ((vs.map (SC.den ρ κ)).zipIdx o).foldl (fun (a : Array Value) (x : Value × Nat) => a.setIfInBounds (off + x.2) x.1) (cs.map (SC.den ρ κ)).toArray = ((setMany cs (off + o) vs).map (SC.den ρ κ)).toArray := by
  induction vs with
  | nil => intro cs o off; rfl
  | cons v vs ih =>
    intro cs o off
    simp only [List.map_cons, List.zipIdx_cons, List.foldl_cons, setMany]
    have : (cs.map (SC.den ρ κ)).toArray.setIfInBounds (off + o) (v.den ρ κ) = ((cs.set (off + o) v).map (SC.den ρ κ)).toArray := by
      simp [List.map_set]
    rw [this, ih]; rw [Nat.add_assoc]
def xfill (place : Nat → Option (Nat × Nat)) (cells : List SC) : List (Nat × SV) → Option (List SC)
  | [] => some cells
  | (i, v) :: rest => match place i, v with
    | some (off, size), .a s => bif Nat.beq s.cells.length size && Nat.ble (off + s.cells.length) cells.length then xfill place (setMany cells off s.cells) rest else none
    | _, _ => none
theorem xfill_den {ρ : Env} {κ : Kap} {place : Nat → Option (Nat × Nat)} {ps : List (Nat × SV)} : ∀ {cells r : List SC}, xfill place cells ps = some r →
    Instr.fill place (cells.map (SC.den ρ κ)).toArray (ps.map fun p => (p.1, p.2.den ρ κ)) = some (r.map (SC.den ρ κ)).toArray := by
  induction ps with
  | nil => intro cells r h; simp [xfill] at h; subst h; rfl
  | cons p ps ih =>
    intro cells r h
    obtain ⟨i, v⟩ := p
    unfold xfill at h
    split at h
    · rename_i off size s hp
      cases hb : (Nat.beq s.cells.length size && Nat.ble (off + s.cells.length) cells.length)
      · rw [hb] at h; cases h
      · rw [hb] at h; simp only [cond_true] at h
        simp only [Bool.and_eq_true, Nat.beq_eq, Nat.ble_eq] at hb
        simp only [List.map_cons, SV.den, Instr.fill, hp, SA.den_cells]
        have h1 : ¬ ((s.cells.map (SC.den ρ κ)).toArray.size ≠ size ∨ off + (s.cells.map (SC.den ρ κ)).toArray.size > (cells.map (SC.den ρ κ)).toArray.size) := by
          simp; omega
        have h2 : (decide ((s.cells.map (SC.den ρ κ)).toArray.size ≠ size) || decide (off + (s.cells.map (SC.den ρ κ)).toArray.size > (cells.map (SC.den ρ κ)).toArray.size)) = false := by
          simp; omega
        simp only [h2, Bool.false_eq_true, if_false]
        rw [← ih h]
        congr 1
        have hm := setMany_den ρ κ s.cells cells 0 off
        rw [Nat.add_zero] at hm
        rw [← hm]
        simp
    · cases h
def xparts (ev : Operand → Option SV) : List (Nat × Operand) → Option (List (Nat × SV))
  | [] => some []
  | (i, x) :: r => match ev x, xparts ev r with
    | some s, some q => some ((i, s) :: q)
    | _, _ => none
theorem xparts_den {ρ : Env} {κ : Kap} {ev : Operand → Option SV} {e : Operand → Value} (hev : ∀ x s, ev x = some s → e x = s.den ρ κ) {ps : List (Nat × Operand)} : ∀ {r}, xparts ev ps = some r →
    ps.map (fun p => (p.1, e p.2)) = r.map fun p => (p.1, p.2.den ρ κ) := by
  induction ps with
  | nil => intro r h; simp [xparts] at h; subst h; rfl
  | cons p ps ih =>
    intro r h
    obtain ⟨i, x⟩ := p
    unfold xparts at h
    split at h
    · rename_i s q h1 h2
      simp at h; subst h
      simp [hev _ _ h1, ih h2]
    · cases h
def zeroP (P : Program) (t : TypeId) : Option SA := match P.info? t with
  | some i => match i.zero with
    | some z => constSA z
    | none => none
  | none => none
theorem run_zeroP {P : Program} {t : TypeId} {s : SA} (h : zeroP P t = some s) (ρ : Env) (κ : Kap) (w : World) : (zeroValue t).run P w = .ok (s.den ρ κ) w := by
  unfold zeroP at h
  split at h
  · rename_i i hi
    split at h
    · rename_i z hz; simp [zeroValue, typeInfo, hi, hz, constSA_den h]
    · cases h
  · cases h
def placesP (P : Program) (fs : List Field) : Option (List (Nat × Nat)) := fs.mapM fun f => (P.info? f.type).map fun i => (f.offset, i.size)
def xbuild (P : Program) (ev : Operand → Option SV) (t : TypeId) (parts : List (Nat × Operand)) : XV :=
  match zeroP P t, xparts ev parts with
  | some z, some ps => match P.underlying t with
    | some (.struct fs) => match placesP P fs.toList with
      | some places => (xfill (fun i => places.toArray[i]?) z.cells ps).map fun r => ([], .agg r)
      | none => none
    | some (.array _ e) => match sizeP P e with
      | some n => (xfill (fun i => some (i * n, n)) z.cells ps).map fun r => ([], .agg r)
      | none => none
    | _ => none
  | _, _ => none
theorem zeroP_spec {P : Program} {t : TypeId} {s : SA} (h : zeroP P t = some s) : ∃ i z, P.info? t = some i ∧ i.zero = some z ∧ ∀ ρ κ, z = s.den ρ κ := by
  unfold zeroP at h
  split at h
  · rename_i i hi
    split at h
    · rename_i z hz; exact ⟨i, z, hi, hz, fun ρ κ => (constSA_den h ρ κ).symm⟩
    · cases h
  · cases h
theorem sizeP_spec {P : Program} {t : TypeId} {n : Nat} (h : sizeP P t = some n) : ∃ i, P.info? t = some i ∧ i.size = n := by
  unfold sizeP at h
  split at h
  · rename_i i hi; simp at h; exact ⟨i, hi, h⟩
  · cases h
theorem xbuild_sound {P : Program} {ρ : Env} {κ : Kap} (w : World) {ev : Operand → Option SV} {e : Operand → Value} (hev : ∀ x s, ev x = some s → e x = s.den ρ κ) {t : TypeId} {parts : Array (Nat × Operand)} {ns : List BE} {s : SV} (h : xbuild P ev t parts.toList = some (ns, s)) :
    (Instr.build t (parts.map fun (i, x) => (i, e x))).run P w = .ok (s.den ρ κ) w := by
  unfold xbuild at h
  split at h
  · rename_i z ps hz hps
    have hpd := xparts_den hev hps
    have hl : (parts.map fun (i, x) => (i, e x)).toList = ps.map fun p => (p.1, p.2.den ρ κ) := by
      rw [← hpd]; simp
    obtain ⟨it, zv, hit, hzv, hzd⟩ := zeroP_spec hz
    have hzd := hzd ρ κ
    split at h
    · rename_i fs hu
      split at h
      · rename_i places hpl
        obtain ⟨r, hr, he⟩ := Option.map_eq_some_iff.1 h; cases he
        have hf := xfill_den (ρ := ρ) (κ := κ) hr
        refine run_build w t _ _ ?_
        unfold placesP at hpl
        simp only [Program.built, hit, hu, hzv, hpl, hl, hzd, SA.den_cells, hf]
      · cases h
    · rename_i n e' hu
      split at h
      · rename_i n' hs
        obtain ⟨r, hr, he⟩ := Option.map_eq_some_iff.1 h; cases he
        have hf := xfill_den (ρ := ρ) (κ := κ) hr
        obtain ⟨ie, hie, hies⟩ := sizeP_spec hs
        refine run_build w t _ _ ?_
        simp only [Program.built, hit, hu, hzv, hie, hl, hzd, SA.den_cells, hies, hf]
      · cases h
    · cases h
  · cases h

/-! ### slices of slices -/
def xint : Option SV → Option (Option IE)
  | none => some none
  | some (.a (.c (.int _ i))) => some (some i)
  | _ => none
/-- where a slice begins that is taken from lo to hi: at its end only if nothing is left -/
def swH (hi cap lo a b : IE) : IE := match lo, hi with
  | .lit (.ofNat l), .lit (.ofNat h) => bif Nat.blt l h then b else mkSw cap lo a b
  | _, _ => mkSw cap lo a b
theorem swH_den {ρ : Env} {hi cap lo a b : IE} (h : hi.den ρ ≤ cap.den ρ) : (swH hi cap lo a b).den ρ = (mkSw cap lo a b).den ρ := by
  unfold swH
  split
  · rename_i l h'
    cases hq : Nat.blt l h'
    · rfl
    · rw [Nat.blt_eq] at hq
      simp only [cond_true, mkSw_den]
      have h1 : (IE.lit (Int.ofNat h')).den ρ = (h' : Int) := rfl
      have h2 : (IE.lit (Int.ofNat l)).den ρ = (l : Int) := rfl
      rw [h1] at h
      have : ¬ cap.den ρ = (IE.lit (Int.ofNat l)).den ρ := by rw [h2]; omega
      rw [if_neg this]
  · rfl
def xslice (P : Program) (H : Heap) (t : TypeId) (x : SV) (lo hi mx : Option SV) : XV :=
  match x, xint lo, xint hi, xint mx with
  | .a (.c x), some lo, some hi, some mx =>
    match P.underlying t, x with
    | some (.slice e), .slice j s c x len cap => match sizeP P e with
      | some z => bif Nat.beq z s then
          match cap, mx, hi with
          | .e cap, none, hi =>
            some (needLeq (.lit 0) (lo.getD (.lit 0)) ++ (needLeq (lo.getD (.lit 0)) (hi.getD len) ++ (needLeq (hi.getD len) cap ++ needLeq (.lit 0) x)),
              .c (.slice j s c (swH (hi.getD len) cap (lo.getD (.lit 0)) x (mkPlus x (lo.getD (.lit 0)))) (mkMinus (hi.getD len) (lo.getD (.lit 0))) (.e (mkMinus cap (lo.getD (.lit 0))))))
          | .e cap, some m, some h =>
            some (needLeq (.lit 0) (lo.getD (.lit 0)) ++ (needLeq (lo.getD (.lit 0)) h ++ (needLeq h m ++ (needLeq m cap ++ needLeq (.lit 0) x))),
              .c (.slice j s c (swH h m (lo.getD (.lit 0)) x (mkPlus x (lo.getD (.lit 0)))) (mkMinus h (lo.getD (.lit 0))) (.e (mkMinus m (lo.getD (.lit 0))))))
          | .k j', none, some h => match lo.getD (.lit 0), H.arr? j with
            | .lit (.ofNat 0), some (ct, _, some _) => bif Nat.beq j j' then some (needLeq (.lit 0) h ++ needLeq h (.alen ct), .c (.slice j s c x h (.k j))) else none
            | _, _ => none
          | .k j', some m, some h => match H.arr? j with
            | some (ct, _, some _) => bif Nat.beq j j' then
              some (needLeq (.lit 0) (lo.getD (.lit 0)) ++ (needLeq (lo.getD (.lit 0)) h ++ (needLeq h m ++ (needLeq m (.alen ct) ++ needLeq (.lit 0) x))),
                .c (.slice j s c (swH h m (lo.getD (.lit 0)) x (mkPlus x (lo.getD (.lit 0)))) (mkMinus h (lo.getD (.lit 0))) (.e (mkMinus m (lo.getD (.lit 0)))))) else none
            | _ => none
          | _, _, _ => none
        else none
      | none => none
    | some (.slice e), .oslice id off len cap => match sizeP P e, lo.getD (.lit 0), hi.getD (.lit (.ofNat len)), mx with
      | some z, .lit (.ofNat l), .lit (.ofNat h), none => bif Nat.ble l h && Nat.ble h cap then some ([], .c (.oslice id (bif Nat.beq cap l then off else off + l * z) (h - l) (cap - l))) else none
      | some z, .lit (.ofNat l), .lit (.ofNat h), some (.lit (.ofNat m)) => bif Nat.ble l h && (Nat.ble h m && Nat.ble m cap) then (if hi.isNone then none else some ([], .c (.oslice id (bif Nat.beq m l then off else off + l * z) (h - l) (m - l)))) else none
      | _, _, _, _ => none
    | some (.slice e), .gslice id off len k => match sizeP P e, lo.getD (.lit 0), hi.getD (.lit (.ofNat len)), mx, H.obj? id with
      | some z, .lit (.ofNat l), .lit (.ofNat h), none, some (.cells cs _ (some z')) =>
        bif (Nat.beq z z' && Nat.ble l h) && (Nat.ble ((k + h) * z) cs.length && (Nat.beq l 0 || Nat.blt ((k + l) * z) cs.length)) && Nat.blt 0 z then some ([], .c (.gslice id (off + l * z) (h - l) (k + l))) else none
      | some z, .lit (.ofNat l), .lit (.ofNat h), some (.lit (.ofNat m)), some (.cells cs _ (some z')) =>
        bif (Nat.beq z z' && Nat.ble l h) && (Nat.ble ((k + m) * z) cs.length && Nat.ble h m) && Nat.blt 0 z then (if hi.isNone then none else some ([], .c (.oslice id (bif Nat.beq m l then off else off + l * z) (h - l) (m - l)))) else none
      | _, _, _, _, _ => none
    | some (.array n e), .ptr id off => match sizeP P e, lo.getD (.lit 0), hi.getD (.lit (.ofNat n)), mx with
      | some z, .lit (.ofNat l), .lit (.ofNat h), none => bif Nat.ble l h && Nat.ble h n then some ([], .c (.oslice id (bif Nat.beq n l then off else off + l * z) (h - l) (n - l))) else none
      | _, _, _, _ => none
    | _, _ => none
  | _, _, _, _ => none
theorem xint_den {ρ : Env} {κ : Kap} {o : Option SV} {r : Option IE} (h : xint o = some r) :
    (o = none ∧ r = none) ∨ ∃ k i, r = some i ∧ o.map (SV.den ρ κ) = some (.int k (i.den ρ)) := by
  unfold xint at h
  split at h <;> simp at h
  · subst h; exact .inl ⟨rfl, rfl⟩
  · subst h; exact .inr ⟨_, _, rfl, rfl⟩
theorem run_bound {P : Program} (w : World) (k : IntKind) (i : Int) (y : Nat) (code : BoundsCode) (h0 : 0 ≤ i) (h1 : i ≤ (y : Int)) : (Instr.sliceBound (.int k i) y code).run P w = .ok i.toNat w := by
  simp [Instr.sliceBound, asIntOf, h0, h1]
/-- 'sliceBounds' without a maximum. -/
theorem run_bounds2 {P : Program} (w : World) (b : Bool) (len cap : Nat) {ρ : Env} {κ : Kap} {lo hi : Option SV} {l h : Option IE} (hl : xint lo = some l) (hh : xint hi = some h)
    (h0 : 0 ≤ (l.getD (.lit 0)).den ρ) (h1 : (l.getD (.lit 0)).den ρ ≤ (h.getD (.lit len)).den ρ) (h2 : h.isSome → (h.getD (.lit len)).den ρ ≤ (cap : Int)) :
    (Instr.sliceBounds b len cap (lo.map (SV.den ρ κ)) (hi.map (SV.den ρ κ)) none).run P w = .ok (((l.getD (.lit 0)).den ρ).toNat, ((h.getD (.lit len)).den ρ).toNat, cap) w := by
  rcases xint_den (ρ := ρ) (κ := κ) hl with ⟨rfl, rfl⟩ | ⟨kl, li, rfl, el⟩ <;> rcases xint_den (ρ := ρ) (κ := κ) hh with ⟨rfl, rfl⟩ | ⟨kh, hi', rfl, eh⟩
  · simp [Instr.sliceBounds, IE.den]
  · simp only [Option.getD_some, Option.getD_none, IE.den] at h0 h1 h2
    have := h2 rfl
    simp only [Instr.sliceBounds, eh, Option.map_none, Sem.run_bind, Sem.run_pure, Result.andThen_ok, run_bound w kh _ cap _ h1 this, Option.getD_some, Option.getD_none, IE.den]
    rfl
  · simp only [Option.getD_some, Option.getD_none, IE.den] at h0 h1 h2
    simp only [Instr.sliceBounds, el, Option.map_none, Sem.run_bind, Sem.run_pure, Result.andThen_ok, run_bound w kl _ len _ h0 h1, Option.getD_some, Option.getD_none, IE.den]
    simp
  · simp only [Option.getD_some] at h0 h1 h2
    have := h2 rfl
    simp only [Instr.sliceBounds, el, eh, Sem.run_bind, Sem.run_pure, Result.andThen_ok, run_bound w kh _ cap _ (by omega) this, run_bound w kl _ (hi'.den ρ).toNat _ h0 (by omega), Option.getD_some]
theorem run_bounds3 {P : Program} (w : World) (b : Bool) (len cap : Nat) {ρ : Env} {κ : Kap} {lo hi mx : Option SV} {l : Option IE} {h m : IE} (hl : xint lo = some l) (hh : xint hi = some (some h)) (hm : xint mx = some (some m))
    (h0 : 0 ≤ (l.getD (.lit 0)).den ρ) (h1 : (l.getD (.lit 0)).den ρ ≤ h.den ρ) (h2 : h.den ρ ≤ m.den ρ) (h3 : m.den ρ ≤ (cap : Int)) :
    (Instr.sliceBounds b len cap (lo.map (SV.den ρ κ)) (hi.map (SV.den ρ κ)) (mx.map (SV.den ρ κ))).run P w = .ok (((l.getD (.lit 0)).den ρ).toNat, (h.den ρ).toNat, (m.den ρ).toNat) w := by
  rcases xint_den (ρ := ρ) (κ := κ) hh with ⟨_, hx⟩ | ⟨kh, hi', hx, eh⟩
  · cases hx
  · cases hx
    rcases xint_den (ρ := ρ) (κ := κ) hm with ⟨_, hx⟩ | ⟨km, mi', hx, em⟩
    · cases hx
    · cases hx
      rcases xint_den (ρ := ρ) (κ := κ) hl with ⟨rfl, rfl⟩ | ⟨kl, li, rfl, el⟩
      · simp only [Option.getD_none, IE.den] at h0 h1 h2
        simp only [Instr.sliceBounds, eh, em, Option.map_none, Sem.run_bind, Sem.run_pure, Result.andThen_ok, run_bound w km _ cap _ (by omega) h3, run_bound w kh _ (m.den ρ).toNat _ h1 (by omega), Option.getD_none, IE.den]
        rfl
      · simp only [Option.getD_some] at h0 h1 h2
        simp only [Instr.sliceBounds, el, eh, em, Sem.run_bind, Sem.run_pure, Result.andThen_ok, run_bound w km (m.den ρ) cap _ (by omega) h3, run_bound w kh (h.den ρ) (m.den ρ).toNat _ (by omega) (by omega), run_bound w kl (li.den ρ) (h.den ρ).toNat _ h0 (by omega), Option.getD_some]
theorem row_cap {ρ : Env} {κ : Kap} {base : Bk} {H : Heap} {w : World} (hH : HeapOk ρ κ base H w) {j c : Nat} {pat : List CK} {E : TypeId} (h : H.arr? j = some (c, pat, some E)) : (ρ.a c).length ≤ κ.cap j := by
  obtain ⟨_, ⟨_, ho⟩, _⟩ := hH.row j c pat E h
  rcases ho with ⟨_, hn⟩ | ⟨g, cap, cur, hv, _, _, hle, _⟩
  · omega
  · simp only [rowVal, Value.slice.injEq] at hv; rw [hv.2.2]; exact hle
theorem HeapOk.capge {ρ : Env} {κ : Kap} {base : Bk} {H : Heap} {w : World} (hH : HeapOk ρ κ base H w) {id : Nat} {cs : List SC} {ty : TypeId} {z : Nat} (h : H.obj? id = some (.cells cs ty (some z))) : cs.length ≤ κ.cap id * z := by
  obtain ⟨⟨b, _, sp, _, h2, _⟩, _⟩ := hH.obj id _ h
  omega
theorem xslice_sound {P : Program} {ρ : Env} {κ : Kap} {base : Bk} {H : Heap} {w : World} (hH : HeapOk ρ κ base H w) {t : TypeId} {x : SV} {lo hi mx : Option SV} {ns : List BE} {s : SV} (h : xslice P H t x lo hi mx = some (ns, s)) (hn : ∀ p ∈ ns, p.den ρ = true) :
    (Instr.sliceAt t (x.den ρ κ) (lo.map (SV.den ρ κ)) (hi.map (SV.den ρ κ)) (mx.map (SV.den ρ κ))).run P w = .ok (s.den ρ κ) w := by
  unfold xslice at h
  split at h
  · rename_i x lo' hi' mx' hlo hhi hmx
    split at h
    · rename_i e j st c x0 len cap hu
      split at h
      · rename_i z hz
        cases hb : Nat.beq z st
        · rw [hb] at h; cases h
        · rw [hb] at h; simp only [cond_true] at h
          rw [Nat.beq_eq] at hb; subst hb
          have hsz : ∀ w, (sizeOf e).run P w = .ok z w := fun w => run_sizeP hz w
          have place : ∀ (l m : Nat) (li mi : IE), l = (li.den ρ).toNat → m = (mi.den ρ).toNat → 0 ≤ li.den ρ → 0 ≤ mi.den ρ → 0 ≤ x0.den ρ →
              (if m = l then slAddr ρ κ j z c (x0.den ρ) else (slAddr ρ κ j z c (x0.den ρ)).map (·.add (l * z))) = slAddr ρ κ j z c ((mkSw mi li x0 (mkPlus x0 li)).den ρ) := by
            intro l m li mi e1 e2 p1 p2 p3
            rw [mkSw_den, mkPlus_den]
            by_cases hq : m = l
            · have : mi.den ρ = li.den ρ := by omega
              rw [if_pos hq, if_pos this]
            · have : ¬ mi.den ρ = li.den ρ := by omega
              rw [if_neg hq, if_neg this]
              simp only [slAddr]
              cases ρ.nl j
              · simp only [Bool.false_eq_true, if_false, Option.map_some, Addr.add_mid]
                have e3 : (x0.den ρ + li.den ρ).toNat = (x0.den ρ).toNat + l := by omega
                rw [e3, Nat.add_mul]
                have e4 : κ.ab j = κ.ab j ∧ κ.ao j + (x0.den ρ).toNat * z + c + l * z = κ.ao j + ((x0.den ρ).toNat * z + l * z) + c := ⟨rfl, by omega⟩
                rw [e4.2]
              · rfl
          split at h
          · rename_i cap'
            cases h
            obtain ⟨n1, n2⟩ := forall_append hn
            obtain ⟨n2, n3⟩ := forall_append n2
            obtain ⟨n3, n4⟩ := forall_append n3
            have m1 := needLeq_den n1
            have m2 := needLeq_den n2
            have m3 := needLeq_den n3
            have m4 := needLeq_den n4
            simp only [IE.den] at m1 m4
            have hmn : mx = none := by
              rcases xint_den (ρ := ρ) (κ := κ) hmx with ⟨rfl, _⟩ | ⟨_, _, hx, _⟩
              · rfl
              · cases hx
            subst hmn
            have hlen : ((hi'.getD (.lit (((len.den ρ).toNat : Nat) : Int))).den ρ) = ((hi'.getD len).den ρ).toNat ∧ ((hi'.getD len).den ρ).toNat = (hi'.getD len).den ρ := by
              cases hi' with
              | none =>
                simp only [Option.getD_none] at m2 m3
                simp only [Option.getD_none, IE.den]
                exact ⟨trivial, by omega⟩
              | some h' =>
                simp only [Option.getD_some] at m2 m3
                simp only [Option.getD_some]
                omega
            have hb2 := run_bounds2 (P := P) w true (len.den ρ).toNat (cap'.den ρ).toNat (κ := κ) hlo hhi m1 (by rw [hlen.1]; omega) (by
              intro hs
              cases hi' with
              | none => cases hs
              | some h' => simp only [Option.getD_some] at m3 ⊢; omega)
            simp only [SV.den, SA.den, SC.den, CE.den, Instr.sliceAt, Instr.slice, Sem.run_bind, run_underlying hu, Result.andThen_ok, Option.map_none, hb2, hsz, Sem.run_pure]
            rw [place _ _ (lo'.getD (.lit 0)) cap' rfl rfl m1 (by omega) m4, ← swH_den m3]
            simp only [mkMinus_den]
            have e1 : ((hi'.getD (.lit (((len.den ρ).toNat : Nat) : Int))).den ρ).toNat - ((lo'.getD (.lit 0)).den ρ).toNat = ((hi'.getD len).den ρ - (lo'.getD (.lit 0)).den ρ).toNat := by omega
            have e2 : (cap'.den ρ).toNat - ((lo'.getD (.lit 0)).den ρ).toNat = (cap'.den ρ - (lo'.getD (.lit 0)).den ρ).toNat := by omega
            rw [e1, e2]
          · rename_i cap' m' h'
            cases h
            obtain ⟨n1, n2⟩ := forall_append hn
            obtain ⟨n2, n3⟩ := forall_append n2
            obtain ⟨n3, n4⟩ := forall_append n3
            obtain ⟨n4, n5⟩ := forall_append n4
            have m1 := needLeq_den n1
            have m2 := needLeq_den n2
            have m3 := needLeq_den n3
            have m4 := needLeq_den n4
            have m5 := needLeq_den n5
            simp only [IE.den] at m1 m5
            have hb3 := run_bounds3 (P := P) w true (len.den ρ).toNat (cap'.den ρ).toNat (κ := κ) hlo hhi hmx m1 m2 m3 (by omega)
            simp only [SV.den, SA.den, SC.den, CE.den, Instr.sliceAt, Instr.slice, Sem.run_bind, run_underlying hu, Result.andThen_ok, hb3, hsz, Sem.run_pure]
            rw [place _ _ (lo'.getD (.lit 0)) m' rfl rfl m1 (by omega) m5, ← swH_den m3]
            simp only [mkMinus_den]
            have e1 : (h'.den ρ).toNat - ((lo'.getD (.lit 0)).den ρ).toNat = (h'.den ρ - (lo'.getD (.lit 0)).den ρ).toNat := by omega
            have e2 : (m'.den ρ).toNat - ((lo'.getD (.lit 0)).den ρ).toNat = (m'.den ρ - (lo'.getD (.lit 0)).den ρ).toNat := by omega
            rw [e1, e2]
          · rename_i j' h'
            split at h
            · rename_i ct pat E hlz harr
              cases hjj : Nat.beq j j'
              · rw [hjj] at h; cases h
              · rw [hjj] at h; simp only [cond_true] at h; cases h
                rw [Nat.beq_eq] at hjj; subst hjj
                obtain ⟨n1, n2⟩ := forall_append hn
                have m1 := needLeq_den n1
                have m2 := needLeq_den n2
                simp only [IE.den] at m1 m2
                have hcap := row_cap hH harr
                have hmn : mx = none := by
                  rcases xint_den (ρ := ρ) (κ := κ) hmx with ⟨rfl, _⟩ | ⟨_, _, hx, _⟩
                  · rfl
                  · cases hx
                subst hmn
                have hl0 : (lo'.getD (.lit 0)).den ρ = 0 := by rw [hlz]; rfl
                have hb2 := run_bounds2 (P := P) w true (len.den ρ).toNat (κ.cap j) (ρ := ρ) (κ := κ) hlo hhi (by omega) (by simp only [Option.getD_some]; omega) (by intro _; simp only [Option.getD_some]; omega)
                simp only [hl0, Option.getD_some] at hb2
                simp only [SV.den, SA.den, SC.den, CE.den, Instr.sliceAt, Instr.slice, Sem.run_bind, run_underlying hu, Result.andThen_ok, Option.map_none, hb2, hsz, Sem.run_pure]
                simp only [Int.toNat_zero, Nat.sub_zero, Nat.zero_mul]
                have : (if κ.cap j = 0 then slAddr ρ κ j z c (x0.den ρ) else (slAddr ρ κ j z c (x0.den ρ)).map (·.add 0)) = slAddr ρ κ j z c (x0.den ρ) := by
                  split
                  · rfl
                  · cases slAddr ρ κ j z c (x0.den ρ) <;> simp [Addr.add]
                rw [this]
            · cases h
          · rename_i j' m' h'
            split at h
            · rename_i ct pat E harr
              cases hjj : Nat.beq j j'
              · rw [hjj] at h; cases h
              · rw [hjj] at h; simp only [cond_true] at h; cases h
                rw [Nat.beq_eq] at hjj; subst hjj
                obtain ⟨n1, n2⟩ := forall_append hn
                obtain ⟨n2, n3⟩ := forall_append n2
                obtain ⟨n3, n4⟩ := forall_append n3
                obtain ⟨n4, n5⟩ := forall_append n4
                have m1 := needLeq_den n1
                have m2 := needLeq_den n2
                have m3 := needLeq_den n3
                have m4 := needLeq_den n4
                have m5 := needLeq_den n5
                have hcap := row_cap hH harr
                simp only [IE.den] at m1 m4 m5
                have hb3 := run_bounds3 (P := P) w true (len.den ρ).toNat (κ.cap j) (κ := κ) hlo hhi hmx m1 m2 m3 (by omega)
                simp only [SV.den, SA.den, SC.den, CE.den, Instr.sliceAt, Instr.slice, Sem.run_bind, run_underlying hu, Result.andThen_ok, hb3, hsz, Sem.run_pure]
                rw [place _ _ (lo'.getD (.lit 0)) m' rfl rfl m1 (by omega) m5, ← swH_den m3]
                simp only [mkMinus_den]
                have e1 : (h'.den ρ).toNat - ((lo'.getD (.lit 0)).den ρ).toNat = (h'.den ρ - (lo'.getD (.lit 0)).den ρ).toNat := by omega
                have e2 : (m'.den ρ).toNat - ((lo'.getD (.lit 0)).den ρ).toNat = (m'.den ρ - (lo'.getD (.lit 0)).den ρ).toNat := by omega
                rw [e1, e2]
            · cases h
          · cases h
      · cases h
    · rename_i e id off len cap hu
      split at h
      · rename_i z l h' hz hl hh
        cases hb : (Nat.ble l h' && Nat.ble h' cap)
        · rw [hb] at h; cases h
        · rw [hb] at h; simp only [cond_true] at h; cases h
          simp only [Bool.and_eq_true, Nat.ble_eq] at hb
          have hmn : mx = none := by
            rcases xint_den (ρ := ρ) (κ := κ) hmx with ⟨rfl, _⟩ | ⟨_, _, hx, _⟩
            · rfl
            · cases hx
          subst hmn
          have hl' : (lo'.getD (.lit 0)).den ρ = (l : Int) := by rw [hl]; rfl
          have hh' : (hi'.getD (.lit (len : Int))).den ρ = (h' : Int) := by have : hi'.getD (.lit (len : Int)) = .lit (.ofNat h') := hh; rw [this]; rfl
          have hb2 := run_bounds2 (P := P) w true len cap (ρ := ρ) (κ := κ) hlo hhi (by omega) (by omega) (by intro _; omega)
          rw [hl', hh'] at hb2
          simp only [SV.den, SA.den, SC.den, Instr.sliceAt, Instr.slice, Sem.run_bind, run_underlying hu, Result.andThen_ok, Option.map_none, hb2, run_sizeP hz, Sem.run_pure, Int.toNat_natCast]
          cases hq : Nat.beq cap l
          · have hne : ¬ cap = l := fun e => by subst e; simp at hq
            simp [hne, Addr.add_mid]
          · rw [Nat.beq_eq] at hq; subst hq; simp
      · rename_i z l h' m hz hl hh
        cases hb : (Nat.ble l h' && (Nat.ble h' m && Nat.ble m cap))
        · rw [hb] at h; cases h
        · rw [hb] at h; simp only [cond_true] at h
          split at h
          · cases h
          · rename_i hns
            cases h
            simp only [Bool.and_eq_true, Nat.ble_eq] at hb
            have hhs : hi' = some (.lit (.ofNat h')) := by
              cases hi' with
              | none => simp at hns
              | some y => simpa using hh
            subst hhs
            have hl' : (lo'.getD (.lit 0)).den ρ = (l : Int) := by rw [hl]; rfl
            have hb3 := run_bounds3 (P := P) w true len cap (ρ := ρ) (κ := κ) hlo hhi hmx (by omega) (by simp only [IE.den]; rw [hl']; simp; omega) (by simp only [IE.den]; simp; omega) (by simp only [IE.den]; simp; omega)
            rw [hl'] at hb3
            simp only [IE.den, Int.ofNat_eq_natCast, Int.toNat_natCast] at hb3
            simp only [SV.den, SA.den, SC.den, Instr.sliceAt, Instr.slice, Sem.run_bind, run_underlying hu, Result.andThen_ok, hb3, run_sizeP hz, Sem.run_pure]
            cases hq : Nat.beq m l
            · have hne : ¬ m = l := fun e => by subst e; simp at hq
              simp [hne, Addr.add_mid]
            · rw [Nat.beq_eq] at hq; subst hq; simp
      · cases h
    · rename_i e id off len k hu
      split at h
      · rename_i z l h' cs ty z' hz hl hh hob
        cases hb : ((Nat.beq z z' && Nat.ble l h') && (Nat.ble ((k + h') * z) cs.length && (Nat.beq l 0 || Nat.blt ((k + l) * z) cs.length)) && Nat.blt 0 z)
        · rw [hb] at h; cases h
        · rw [hb] at h; simp only [cond_true] at h; cases h
          simp only [Bool.and_eq_true, Nat.ble_eq, Nat.beq_eq, Bool.or_eq_true, Nat.blt_eq] at hb
          obtain ⟨⟨⟨rfl, hlh⟩, hkh, hl0⟩, hz0⟩ := hb
          have hcap := hH.capge hob
          have c1 : k + h' ≤ κ.cap id := Nat.le_of_mul_le_mul_right (Nat.le_trans hkh hcap) hz0
          have hmn : mx = none := by
            rcases xint_den (ρ := ρ) (κ := κ) hmx with ⟨rfl, _⟩ | ⟨_, _, hx, _⟩
            · rfl
            · cases hx
          subst hmn
          have hl' : (lo'.getD (.lit 0)).den ρ = (l : Int) := by rw [hl]; rfl
          have hh' : (hi'.getD (.lit (len : Int))).den ρ = (h' : Int) := by have : hi'.getD (.lit (len : Int)) = .lit (.ofNat h') := hh; rw [this]; rfl
          have hb2 := run_bounds2 (P := P) w true len (κ.cap id - k) (ρ := ρ) (κ := κ) hlo hhi (by omega) (by omega) (by intro _; omega)
          rw [hl', hh'] at hb2
          simp only [SV.den, SA.den, SC.den, Instr.sliceAt, Instr.slice, Sem.run_bind, run_underlying hu, Result.andThen_ok, Option.map_none, hb2, run_sizeP hz, Sem.run_pure, Int.toNat_natCast]
          have e1 : κ.cap id - k - l = κ.cap id - (k + l) := by omega
          rw [e1]
          rcases hl0 with rfl | hl0
          · simp [Addr.add]
          · have c2 : k + l < κ.cap id := Nat.lt_of_mul_lt_mul_right (Nat.lt_of_lt_of_le hl0 hcap)
            have hne : ¬ κ.cap id - k = l := by omega
            rw [if_neg hne]
            simp only [Option.map_some, Addr.add_mid]
      · rename_i z l h' m cs ty z' hz hl hh hob
        cases hb : ((Nat.beq z z' && Nat.ble l h') && (Nat.ble ((k + m) * z) cs.length && Nat.ble h' m) && Nat.blt 0 z)
        · rw [hb] at h; cases h
        · rw [hb] at h; simp only [cond_true] at h
          split at h
          · cases h
          · rename_i hns
            cases h
            simp only [Bool.and_eq_true, Nat.ble_eq, Nat.beq_eq, Nat.blt_eq] at hb
            obtain ⟨⟨⟨rfl, hlh⟩, hkm, hhm⟩, hz0⟩ := hb
            have hcap := hH.capge hob
            have c1 : k + m ≤ κ.cap id := Nat.le_of_mul_le_mul_right (Nat.le_trans hkm hcap) hz0
            have hhs : hi' = some (.lit (.ofNat h')) := by
              cases hi' with
              | none => simp at hns
              | some y => simpa using hh
            subst hhs
            have hl' : (lo'.getD (.lit 0)).den ρ = (l : Int) := by rw [hl]; rfl
            have hb3 := run_bounds3 (P := P) w true len (κ.cap id - k) (ρ := ρ) (κ := κ) hlo hhi hmx (by omega) (by simp only [IE.den]; rw [hl']; simp; omega) (by simp only [IE.den]; simp; omega) (by simp only [IE.den]; simp; omega)
            rw [hl'] at hb3
            simp only [IE.den, Int.ofNat_eq_natCast, Int.toNat_natCast] at hb3
            simp only [SV.den, SA.den, SC.den, Instr.sliceAt, Instr.slice, Sem.run_bind, run_underlying hu, Result.andThen_ok, hb3, run_sizeP hz, Sem.run_pure]
            cases hq : Nat.beq m l
            · have hne : ¬ m = l := fun e => by subst e; simp at hq
              simp [hne, Addr.add_mid]
            · rw [Nat.beq_eq] at hq; subst hq; simp
      · cases h
    · rename_i n e id off hu
      split at h
      · rename_i z l h' hz hl hh
        cases hb : (Nat.ble l h' && Nat.ble h' n)
        · rw [hb] at h; cases h
        · rw [hb] at h; simp only [cond_true] at h; cases h
          simp only [Bool.and_eq_true, Nat.ble_eq] at hb
          have hmn : mx = none := by
            rcases xint_den (ρ := ρ) (κ := κ) hmx with ⟨rfl, _⟩ | ⟨_, _, hx, _⟩
            · rfl
            · cases hx
          subst hmn
          have hl' : (lo'.getD (.lit 0)).den ρ = (l : Int) := by rw [hl]; rfl
          have hh' : (hi'.getD (.lit (n : Int))).den ρ = (h' : Int) := by have : hi'.getD (.lit (n : Int)) = .lit (.ofNat h') := hh; rw [this]; rfl
          have hb2 := run_bounds2 (P := P) w false n n (ρ := ρ) (κ := κ) hlo hhi (by omega) (by omega) (by intro _; omega)
          rw [hl', hh'] at hb2
          simp only [SV.den, SA.den, SC.den, Instr.sliceAt, Instr.sureAddr, Sem.run_bind, run_underlying hu, Result.andThen_ok, Option.map_none, hb2, run_sizeP hz, Sem.run_pure, Int.toNat_natCast]
          cases hq : Nat.beq n l
          · have hne : ¬ n = l := fun e => by subst e; simp at hq
            simp [hne, Addr.add_mid]
          · rw [Nat.beq_eq] at hq; subst hq; simp
      · cases h
    · cases h
  · cases h
end Go.SX

/- SxE: bounds on the names in use; the state; its meaning; operations that make or write memory. -/
set_option linter.unusedSimpArgs false
set_option linter.unusedVariables false
set_option linter.unusedSectionVars false
noncomputable section
set_option linter.unusedSectionVars false
namespace Go.SX
open Go Go.RowKit

/-! ### the names in use lie below n -/
def IE.bnd (n : Nat) : IE → Bool
  | .v i => Nat.blt i n
  | .lit _ => true
  | .bin _ _ a b => a.bnd n && b.bnd n
  | .conv _ a => a.bnd n
  | .sel j _ x => Nat.blt j n && x.bnd n
  | .alen j => Nat.blt j n
  | .nat a => a.bnd n
  | .plus a b => a.bnd n && b.bnd n
  | .minus a b => a.bnd n && b.bnd n
  | .sw _ a b c d => a.bnd n && (b.bnd n && (c.bnd n && d.bnd n))
def BE.bnd (n : Nat) : BE → Bool
  | .v i => Nat.blt i n
  | .lit _ => true
  | .cmp _ a b => a.bnd n && b.bnd n
  | .not a => a.bnd n
  | .and a b => a.bnd n && b.bnd n
  | .or a b => a.bnd n && b.bnd n
  | .eq a b => a.bnd n && b.bnd n
  | .ite c a b => c.bnd n && (a.bnd n && b.bnd n)
  | .sel j _ x => Nat.blt j n && x.bnd n
  | .nl j => Nat.blt j n
def IE.bndL (n : Nat) : List IE → Bool
  | [] => true
  | e :: l => e.bnd n && IE.bndL n l
def CE.bnd (n : Nat) : CE → Bool
  | .e x => x.bnd n
  | .k j => Nat.blt j n
mutual
def SC.bnd (n : Nat) : SC → Bool
  | .int _ e => e.bnd n
  | .bool b => b.bnd n
  | .ptr id _ => Nat.blt id n
  | .aptr j _ _ x => Nat.blt j n && x.bnd n
  | .slice j _ _ x len cap => Nat.blt j n && (x.bnd n && (len.bnd n && cap.bnd n))
  | .oslice id _ _ _ => Nat.blt id n
  | .lit _ => true
  | .vx i => Nat.blt i n
  | .axs j _ x => Nat.blt j n && x.bnd n
  | .fn _ a b => SC.bndL n a && SC.bndL n b
  | .gslice id _ _ _ => Nat.blt id n
  | .str l => IE.bndL n l
  | .strA c x len => Nat.blt c n && (x.bnd n && len.bnd n)
  | .yld l => Nat.blt l n
  | .mref id => Nat.blt id n
def SC.bndL (n : Nat) : List SC → Bool
  | [] => true
  | s :: l => s.bnd n && SC.bndL n l
end
def SA.bnd (n : Nat) : SA → Bool
  | .c s => s.bnd n
  | .agg l => SC.bndL n l
def SA.bndL (n : Nat) : List SA → Bool
  | [] => true
  | s :: l => s.bnd n && SA.bndL n l
def SV.bnd (n : Nat) : SV → Bool
  | .a s => s.bnd n
  | .tup l => SA.bndL n l
  | .ite b x y => b.bnd n && (x.bnd n && y.bnd n)
  | .any => true
def SV.bndL (n : Nat) : List SV → Bool
  | [] => true
  | s :: l => s.bnd n && SV.bndL n l
def esBnd (n : Nat) : List (IE × SA) → Bool
  | [] => true
  | e :: l => (e.1.bnd n && e.2.bnd n) && esBnd n l
def SObj.bnd (n : Nat) : SObj → Bool
  | .cells cs _ _ => SC.bndL n cs
  | .loop r => r.sl.all (SV.bnd n)
  | .map _ es => esBnd n es
def HE.bnd (n : Nat) : HE → Bool
  | .obj id o => Nat.blt id n && o.bnd n
  | .arr j c _ _ => Nat.blt j n && Nat.blt c n
def Heap.bnd (n : Nat) : Heap → Bool
  | [] => true
  | e :: H => e.bnd n && Heap.bnd n H
def BE.bndL (n : Nat) : List BE → Bool
  | [] => true
  | b :: l => b.bnd n && BE.bndL n l
structure Agree (n : Nat) (ρ ρ' : Env) (κ κ' : Kap) : Prop where
  i : ∀ j, j < n → ρ'.i j = ρ.i j
  b : ∀ j, j < n → ρ'.b j = ρ.b j
  v : ∀ j, j < n → ρ'.v j = ρ.v j
  a : ∀ j, j < n → ρ'.a j = ρ.a j
  nl : ∀ j, j < n → ρ'.nl j = ρ.nl j
  o : ∀ j, j < n → κ'.o j = κ.o j
  kb : ∀ j, j < n → κ'.ab j = κ.ab j
  ko : ∀ j, j < n → κ'.ao j = κ.ao j
  kc : ∀ j, j < n → κ'.cap j = κ.cap j
theorem Agree.refl (n : Nat) (ρ : Env) (κ : Kap) : Agree n ρ ρ κ κ := ⟨fun _ _ => rfl, fun _ _ => rfl, fun _ _ => rfl, fun _ _ => rfl, fun _ _ => rfl, fun _ _ => rfl, fun _ _ => rfl, fun _ _ => rfl, fun _ _ => rfl⟩
theorem Agree.trans {n m : Nat} {ρ ρ' ρ'' : Env} {κ κ' κ'' : Kap} (h : Agree n ρ ρ' κ κ') (h' : Agree m ρ' ρ'' κ' κ'') (hm : n ≤ m) : Agree n ρ ρ'' κ κ'' :=
  ⟨fun j hj => (h'.i j (by omega)).trans (h.i j hj), fun j hj => (h'.b j (by omega)).trans (h.b j hj), fun j hj => (h'.v j (by omega)).trans (h.v j hj), fun j hj => (h'.a j (by omega)).trans (h.a j hj),
    fun j hj => (h'.nl j (by omega)).trans (h.nl j hj), fun j hj => (h'.o j (by omega)).trans (h.o j hj), fun j hj => (h'.kb j (by omega)).trans (h.kb j hj), fun j hj => (h'.ko j (by omega)).trans (h.ko j hj), fun j hj => (h'.kc j (by omega)).trans (h.kc j hj)⟩
section
variable {n : Nat} {ρ ρ' : Env} {κ κ' : Kap} (A : Agree n ρ ρ' κ κ')
include A
theorem at_agree {c : Nat} (hc : c < n) (f : Nat) (x : Int) : ρ'.at c f x = ρ.at c f x := by simp only [Env.at, A.a c hc]
theorem IE.agree : ∀ {e : IE}, e.bnd n = true → e.den ρ' = e.den ρ := by
  intro e
  induction e with
  | v i => intro h; exact A.i i (by simpa [IE.bnd, Nat.blt_eq] using h)
  | lit n => intro _; rfl
  | bin o k a b iha ihb => intro h; simp only [IE.bnd, Bool.and_eq_true] at h; simp only [IE.den, iha h.1, ihb h.2]
  | conv k a ih => intro h; simp only [IE.bnd] at h; simp only [IE.den, ih h]
  | sel j f x ih => intro h; simp only [IE.bnd, Bool.and_eq_true, Nat.blt_eq] at h; simp only [IE.den, ih h.2, at_agree A h.1]
  | alen c => intro h; simp only [IE.bnd, Nat.blt_eq] at h; simp only [IE.den, A.a c h]
  | nat a ih => intro h; simp only [IE.bnd] at h; simp only [IE.den, ih h]
  | plus a b iha ihb => intro h; simp only [IE.bnd, Bool.and_eq_true] at h; simp only [IE.den, iha h.1, ihb h.2]
  | minus a b iha ihb => intro h; simp only [IE.bnd, Bool.and_eq_true] at h; simp only [IE.den, iha h.1, ihb h.2]
  | sw o a b c d iha ihb ihc ihd => intro h; simp only [IE.bnd, Bool.and_eq_true] at h; simp only [IE.den, iha h.1, ihb h.2.1, ihc h.2.2.1, ihd h.2.2.2]
theorem BE.agree : ∀ {e : BE}, e.bnd n = true → e.den ρ' = e.den ρ := by
  intro e
  induction e with
  | v i => intro h; exact A.b i (by simpa [BE.bnd, Nat.blt_eq] using h)
  | lit n => intro _; rfl
  | cmp o a b => intro h; simp only [BE.bnd, Bool.and_eq_true] at h; simp only [BE.den, IE.agree A h.1, IE.agree A h.2]
  | not a ih => intro h; simp only [BE.bnd] at h; simp only [BE.den, ih h]
  | and a b iha ihb => intro h; simp only [BE.bnd, Bool.and_eq_true] at h; simp only [BE.den, iha h.1, ihb h.2]
  | or a b iha ihb => intro h; simp only [BE.bnd, Bool.and_eq_true] at h; simp only [BE.den, iha h.1, ihb h.2]
  | eq a b iha ihb => intro h; simp only [BE.bnd, Bool.and_eq_true] at h; simp only [BE.den, iha h.1, ihb h.2]
  | ite c a b ihc iha ihb => intro h; simp only [BE.bnd, Bool.and_eq_true] at h; simp only [BE.den, ihc h.1, iha h.2.1, ihb h.2.2]
  | sel j f x => intro h; simp only [BE.bnd, Bool.and_eq_true, Nat.blt_eq] at h; simp only [BE.den, IE.agree A h.2, at_agree A h.1]
  | nl j => intro h; exact A.nl j (by simpa [BE.bnd, Nat.blt_eq] using h)
theorem IE.agreeL {l : List IE} (h : IE.bndL n l = true) : l.map (IE.den ρ') = l.map (IE.den ρ) := by
  induction l with
  | nil => rfl
  | cons e l ih => simp only [IE.bndL, Bool.and_eq_true] at h; simp only [List.map_cons, IE.agree A h.1, ih h.2]
theorem CE.agree {e : CE} (h : e.bnd n = true) : e.den ρ' κ' = e.den ρ κ := by
  cases e with
  | e x => simp only [CE.den, IE.agree A (show x.bnd n = true from h)]
  | k j => exact A.kc j (by simpa [CE.bnd, Nat.blt_eq] using h)
theorem slAddr_agree {j : Nat} (hj : j < n) (s c : Nat) (x : Int) : slAddr ρ' κ' j s c x = slAddr ρ κ j s c x := by simp only [slAddr, A.nl j hj, A.kb j hj, A.ko j hj]
mutual
theorem SC.agree : ∀ (s : SC), s.bnd n = true → s.den ρ' κ' = s.den ρ κ
  | .int k e, h => by simp only [SC.bnd] at h; simp only [SC.den, IE.agree A h]
  | .bool b, h => by simp only [SC.bnd] at h; simp only [SC.den, BE.agree A h]
  | .ptr id off, h => by simp only [SC.bnd, Nat.blt_eq] at h; simp only [SC.den, A.o id h]
  | .aptr j s c x, h => by simp only [SC.bnd, Bool.and_eq_true, Nat.blt_eq] at h; simp only [SC.den, A.kb j h.1, A.ko j h.1, IE.agree A h.2]
  | .slice j s c x len cap, h => by simp only [SC.bnd, Bool.and_eq_true, Nat.blt_eq] at h; simp only [SC.den, slAddr_agree A h.1, IE.agree A h.2.1, IE.agree A h.2.2.1, CE.agree A h.2.2.2]
  | .oslice id a b c, h => by simp only [SC.bnd, Nat.blt_eq] at h; simp only [SC.den, A.o id h]
  | .lit v, _ => by simp only [SC.den]
  | .vx i, h => by simp only [SC.bnd, Nat.blt_eq] at h; simp only [SC.den, A.v i h]
  | .axs j f x, h => by simp only [SC.bnd, Bool.and_eq_true, Nat.blt_eq] at h; simp only [SC.den, at_agree A h.1, IE.agree A h.2]
  | .fn f a b, h => by simp only [SC.bnd, Bool.and_eq_true] at h; simp only [SC.den, SC.agreeL a h.1, SC.agreeL b h.2]
  | .gslice id _ _ _, h => by simp only [SC.bnd, Nat.blt_eq] at h; simp only [SC.den, A.o id h, A.kc id h]
  | .str l, h => by simp only [SC.bnd] at h; simp only [SC.den, IE.agreeL A h]
  | .strA c x len, h => by simp only [SC.bnd, Bool.and_eq_true, Nat.blt_eq] at h; simp only [SC.den, A.a c h.1, IE.agree A h.2.1, IE.agree A h.2.2]
  | .yld l, h => by simp only [SC.bnd, Nat.blt_eq] at h; simp only [SC.den, A.o l h]
  | .mref l, h => by simp only [SC.bnd, Nat.blt_eq] at h; simp only [SC.den, A.o l h]
theorem SC.agreeL : ∀ (l : List SC), SC.bndL n l = true → SC.denL ρ' κ' l = SC.denL ρ κ l
  | [], _ => by simp only [SC.denL]
  | s :: l, h => by simp only [SC.bndL, Bool.and_eq_true] at h; simp only [SC.denL, SC.agree s h.1, SC.agreeL l h.2]
end
theorem SC.agreeM {l : List SC} (h : SC.bndL n l = true) : l.map (SC.den ρ' κ') = l.map (SC.den ρ κ) := by
  rw [← SC.denL_eq, ← SC.denL_eq, SC.agreeL A l h]
theorem SA.agree {s : SA} (h : s.bnd n = true) : s.den ρ' κ' = s.den ρ κ := by
  cases s with
  | c s => exact SC.agree A s h
  | agg l => simp only [SA.den, SC.agreeM A h]
theorem SA.agreeM {l : List SA} (h : SA.bndL n l = true) : l.map (SA.den ρ' κ') = l.map (SA.den ρ κ) := by
  induction l with
  | nil => rfl
  | cons s l ih => simp only [SA.bndL, Bool.and_eq_true] at h; simp only [List.map_cons, SA.agree A h.1, ih h.2]
theorem SV.agree {s : SV} (h : s.bnd n = true) : s.den ρ' κ' = s.den ρ κ := by
  induction s with
  | a s => exact SA.agree A h
  | tup l => simp only [SV.den, SA.agreeM A h]
  | ite b x y ihx ihy => simp only [SV.bnd, Bool.and_eq_true] at h; simp only [SV.den, BE.agree A h.1, ihx h.2.1, ihy h.2.2]
  | any => rfl
theorem SV.agreeM {l : List SV} (h : SV.bndL n l = true) : l.map (SV.den ρ' κ') = l.map (SV.den ρ κ) := by
  induction l with
  | nil => rfl
  | cons s l ih => simp only [SV.bndL, Bool.and_eq_true] at h; simp only [List.map_cons, SV.agree A h.1, ih h.2]
omit A in
theorem SV.bndL_get {l : List SV} (h : SV.bndL n l = true) {t : Nat} {s : SV} (ht : l[t]? = some s) : s.bnd n = true := by
  induction l generalizing t with
  | nil => simp at ht
  | cons x l ih =>
    simp only [SV.bndL, Bool.and_eq_true] at h
    cases t with
    | zero => simp at ht; subst ht; exact h.1
    | succ t => simp at ht; exact ih h.2 ht
theorem SlotsOk.agree {sl : Sl} {a : Array Value} (h : SlotsOk ρ κ sl a) (hb : sl.all (SV.bnd n) = true) : SlotsOk ρ' κ' sl a :=
  ⟨h.1, fun t s hs ha => by rw [h.2 t s hs ha, SV.agree A (Sl.all_get (f := SV.bnd n) hb hs)]⟩
theorem es_agree : ∀ {es : List (IE × SA)}, esBnd n es = true → ∀ (k : IntKind), (es.map fun e => (Value.int k (e.1.den ρ'), e.2.den ρ' κ')) = es.map fun e => (.int k (e.1.den ρ), e.2.den ρ κ)
  | [], _, _ => rfl
  | e :: l, h, k => by simp only [esBnd, Bool.and_eq_true] at h; simp only [List.map_cons, IE.agree A h.1.1, SA.agree A h.1.2, es_agree h.2 k]
theorem SObj.agree {o : SObj} {id : Nat} (hi : id < n) (h : o.bnd n = true) {P : Program} {b : Obj} (hb : o.Is P ρ κ id b) : o.Is P ρ' κ' id b := by
  cases o with
  | cells cs ty g =>
    cases g with
    | none => simp only [SObj.Is] at hb ⊢; rw [SC.agreeM A h]; exact hb
    | some z => simp only [SObj.Is] at hb ⊢; rw [SC.agreeM A h, A.kc id hi]; exact hb
  | loop r =>
    obtain ⟨tm, f, ps, as, bo, D, fn, h0, h1, h2⟩ := hb
    exact ⟨tm, f, ps, as, bo, D, fn, h0, h1.agree A h, h2⟩
  | map k es =>
    obtain ⟨l, clock, h1, h2⟩ := hb
    exact ⟨l, clock, h1, by rw [h2, es_agree A h k]⟩
omit A in
theorem Heap.bnd_obj {H : Heap} (h : H.bnd n = true) {id : Nat} {o : SObj} (ho : H.obj? id = some o) : id < n ∧ o.bnd n = true := by
  induction H with
  | nil => cases ho
  | cons e H ih =>
    simp only [Heap.bnd, Bool.and_eq_true] at h
    cases e with
    | obj i c =>
      unfold Heap.obj? at ho
      cases hb : Nat.beq i id
      · rw [hb] at ho; exact ih h.2 ho
      · rw [hb] at ho; cases ho; rw [Nat.beq_eq] at hb; subst hb
        have := h.1; simp only [HE.bnd, Bool.and_eq_true, Nat.blt_eq] at this; exact this
    | arr j c p o => exact ih h.2 ho
omit A in
theorem Heap.bnd_arr {H : Heap} (h : H.bnd n = true) {j c : Nat} {p : List CK} {o : Option TypeId} (ho : H.arr? j = some (c, p, o)) : j < n ∧ c < n := by
  induction H with
  | nil => cases ho
  | cons e H ih =>
    simp only [Heap.bnd, Bool.and_eq_true] at h
    cases e with
    | arr i c' t o' =>
      unfold Heap.arr? at ho
      cases hb : Nat.beq i j
      · rw [hb] at ho; exact ih h.2 ho
      · rw [hb] at ho; cases ho; rw [Nat.beq_eq] at hb; subst hb
        have := h.1; simp only [HE.bnd, Bool.and_eq_true, Nat.blt_eq] at this; exact this
    | obj j c => exact ih h.2 ho
theorem HeapOk.agree {base : Bk} {H : Heap} {w : World} (h : HeapOk ρ κ base H w) (hb : H.bnd n = true) : HeapOk ρ' κ' base H w where
  obj id o ho := by
    obtain ⟨h1, h2⟩ := Heap.bnd_obj hb ho
    obtain ⟨⟨b, e1, e2⟩, e3⟩ := h.obj id o ho
    rw [A.o id h1]; exact ⟨⟨b, e1, SObj.agree A h1 h2 e2⟩, e3⟩
  inj id o id' o' ho ho' := by
    rw [A.o id (Heap.bnd_obj hb ho).1, A.o id' (Heap.bnd_obj hb ho').1]; exact h.inj id o id' o' ho ho'
  arr j c pat o ha := by
    obtain ⟨h1, h2⟩ := Heap.bnd_arr hb ha
    rw [A.a c h2, A.nl j h1, A.kb j h1, A.ko j h1]; exact h.arr j c pat o ha
  sep j c pat o id ob ha ho := by
    obtain ⟨h1, h2⟩ := Heap.bnd_arr hb ha
    rw [A.a c h2, A.nl j h1, A.kb j h1, A.o id (Heap.bnd_obj hb ho).1]; exact h.sep j c pat o id ob ha ho
  row j c pat E ha := by
    obtain ⟨h1, h2⟩ := Heap.bnd_arr hb ha
    simp only [rowVal, A.a c h2, A.nl j h1, A.kb j h1, A.ko j h1, A.kc j h1]; exact h.row j c pat E ha
  rsep j c pat E j' c' pat' o' ha ha' hne := by
    obtain ⟨h1, h2⟩ := Heap.bnd_arr hb ha
    obtain ⟨h1', h2'⟩ := Heap.bnd_arr hb ha'
    rw [A.a c' h2', A.nl j h1, A.nl j' h1', A.kb j h1, A.kb j' h1']; exact h.rsep j c pat E j' c' pat' o' ha ha' hne
theorem facts_agree {l : List BE} (hb : BE.bndL n l = true) (h : ∀ p ∈ l, p.den ρ = true) : ∀ p ∈ l, p.den ρ' = true := by
  induction l with
  | nil => intro p hp; cases hp
  | cons q l ih =>
    simp only [BE.bndL, Bool.and_eq_true] at hb
    intro p hp
    rcases List.mem_cons.1 hp with rfl | hp
    · rw [BE.agree A hb.1]; exact h _ (List.mem_cons_self ..)
    · exact ih hb.2 (fun r hr => h r (List.mem_cons_of_mem _ hr)) p hp
end

/-! ### which names occur in a value -/
/-- the places are the same, but at the names of p -/
structure KBut (p : Nat → Bool) (κ κ' : Kap) : Prop where
  o : ∀ j, p j = false → κ'.o j = κ.o j
  ab : ∀ j, p j = false → κ'.ab j = κ.ab j
  ao : ∀ j, p j = false → κ'.ao j = κ.ao j
  cap : ∀ j, p j = false → κ'.cap j = κ.cap j
def one (n : Nat) : Nat → Bool := fun j => Nat.beq j n
theorem beq_false {a b : Nat} (h : Nat.beq a b = false) : a ≠ b := fun e => by subst e; simp at h
theorem one_false {n j : Nat} : one n j = false ↔ j ≠ n := ⟨fun h => beq_false h, fun h => by cases hq : one n j; rfl; exact absurd (Nat.eq_of_beq_eq_true hq) h⟩
def CE.has (p : Nat → Bool) : CE → Bool
  | .e _ => false
  | .k j => p j
mutual
def SC.has (p : Nat → Bool) : SC → Bool
  | .ptr id _ => p id
  | .oslice id _ _ _ => p id
  | .aptr j _ _ _ => p j
  | .slice j _ _ _ _ cap => p j || cap.has p
  | .fn _ a b => SC.hasL p a || SC.hasL p b
  | .gslice id _ _ _ => p id
  | .yld id => p id
  | .mref id => p id
  | _ => false
def SC.hasL (p : Nat → Bool) : List SC → Bool
  | [] => false
  | s :: l => s.has p || SC.hasL p l
end
def SA.has (p : Nat → Bool) : SA → Bool
  | .c s => s.has p
  | .agg l => SC.hasL p l
def SA.hasL (p : Nat → Bool) : List SA → Bool
  | [] => false
  | s :: l => s.has p || SA.hasL p l
def SV.has (p : Nat → Bool) : SV → Bool
  | .a s => s.has p
  | .tup l => SA.hasL p l
  | .ite _ x y => x.has p || y.has p
  | .any => false
def SV.hasL (p : Nat → Bool) : List SV → Bool
  | [] => false
  | s :: l => s.has p || SV.hasL p l
def esHas (p : Nat → Bool) : List (IE × SA) → Bool
  | [] => false
  | e :: l => e.2.has p || esHas p l
def SObj.has (p : Nat → Bool) : SObj → Bool
  | .cells cs _ _ => SC.hasL p cs
  | .loop r => !(r.sl.all fun s => !(s.has p))
  | .map _ es => esHas p es
section
variable {p : Nat → Bool} {ρ : Env} {κ κ' : Kap} (K : KBut p κ κ')
include K
theorem CE.has_den {c : CE} (h : c.has p = false) : c.den ρ κ' = c.den ρ κ := by
  cases c with
  | e x => rfl
  | k j => exact K.cap j h
mutual
theorem SC.has_den : ∀ (s : SC), s.has p = false → s.den ρ κ' = s.den ρ κ
  | .int _ _, _ => by simp only [SC.den]
  | .bool _, _ => by simp only [SC.den]
  | .ptr id _, h => by simp only [SC.has] at h; simp only [SC.den, K.o id h]
  | .aptr j _ _ _, h => by simp only [SC.has] at h; simp only [SC.den, K.ab j h, K.ao j h]
  | .slice j _ _ _ _ _, h => by simp only [SC.has, Bool.or_eq_false_iff] at h; simp only [SC.den, slAddr, K.ab j h.1, K.ao j h.1, CE.has_den K h.2]
  | .oslice id _ _ _, h => by simp only [SC.has] at h; simp only [SC.den, K.o id h]
  | .lit _, _ => by simp only [SC.den]
  | .vx _, _ => by simp only [SC.den]
  | .axs _ _ _, _ => by simp only [SC.den]
  | .fn f a b, h => by simp only [SC.has, Bool.or_eq_false_iff] at h; simp only [SC.den, SC.hasL_den a h.1, SC.hasL_den b h.2]
  | .gslice id _ _ _, h => by simp only [SC.has] at h; simp only [SC.den, K.o id h, K.cap id h]
  | .str _, _ => by simp only [SC.den]
  | .strA _ _ _, _ => by simp only [SC.den]
  | .yld id, h => by simp only [SC.has] at h; simp only [SC.den, K.o id h]
  | .mref id, h => by simp only [SC.has] at h; simp only [SC.den, K.o id h]
theorem SC.hasL_den : ∀ (l : List SC), SC.hasL p l = false → SC.denL ρ κ' l = SC.denL ρ κ l
  | [], _ => by simp only [SC.denL]
  | s :: l, h => by simp only [SC.hasL, Bool.or_eq_false_iff] at h; simp only [SC.denL, SC.has_den s h.1, SC.hasL_den l h.2]
end
theorem SC.hasM_den {l : List SC} (h : SC.hasL p l = false) : l.map (SC.den ρ κ') = l.map (SC.den ρ κ) := by
  rw [← SC.denL_eq, ← SC.denL_eq, SC.hasL_den K l h]
theorem SA.has_den {s : SA} (h : s.has p = false) : s.den ρ κ' = s.den ρ κ := by
  cases s with
  | c s => exact SC.has_den K s h
  | agg l => simp only [SA.den, SC.hasM_den K (show SC.hasL p l = false from h)]
theorem SA.hasL_den {l : List SA} (h : SA.hasL p l = false) : l.map (SA.den ρ κ') = l.map (SA.den ρ κ) := by
  induction l with
  | nil => rfl
  | cons s l ih => simp only [SA.hasL, Bool.or_eq_false_iff] at h; simp only [List.map_cons, SA.has_den K h.1, ih h.2]
theorem SV.has_den {s : SV} (h : s.has p = false) : s.den ρ κ' = s.den ρ κ := by
  induction s with
  | a s => exact SA.has_den K h
  | tup l => simp only [SV.den, SA.hasL_den K (show SA.hasL p l = false from h)]
  | ite c x y ihx ihy => simp only [SV.has, Bool.or_eq_false_iff] at h; simp only [SV.den, ihx h.1, ihy h.2]
  | any => rfl
theorem SlotsOk.kbut {sl : Sl} {tm : Array Value} (h : SlotsOk ρ κ sl tm) (hs : (!(sl.all fun s => !(s.has p))) = false) : SlotsOk ρ κ' sl tm := by
  refine ⟨h.1, fun t s ht ha => ?_⟩
  have : s.has p = false := by
    have := Sl.all_get (f := fun s => !(s.has p)) (by simpa using hs) ht
    simpa using this
  rw [h.2 t s ht ha, SV.has_den K this]
theorem esHas_den : ∀ {es : List (IE × SA)}, esHas p es = false → ∀ (k : IntKind), (es.map fun e => (Value.int k (e.1.den ρ), e.2.den ρ κ')) = es.map fun e => (.int k (e.1.den ρ), e.2.den ρ κ)
  | [], _, _ => rfl
  | e :: l, h, k => by simp only [esHas, Bool.or_eq_false_iff] at h; simp only [List.map_cons, SA.has_den K h.1, esHas_den h.2 k]
theorem SObj.kbut {o : SObj} {id : Nat} (hi : p id = false) (h : o.has p = false) {P : Program} {b : Obj} (hb : o.Is P ρ κ id b) : o.Is P ρ κ' id b := by
  cases o with
  | cells cs ty g =>
    cases g with
    | none => simp only [SObj.Is] at hb ⊢; rw [SC.hasM_den K (show SC.hasL p cs = false from h)]; exact hb
    | some z => simp only [SObj.Is] at hb ⊢; rw [SC.hasM_den K (show SC.hasL p cs = false from h), K.cap id hi]; exact hb
  | loop r =>
    obtain ⟨tm, f, ps, as, bo, D, fn, h0, h1, h2⟩ := hb
    exact ⟨tm, f, ps, as, bo, D, fn, h0, h1.kbut K h, h2⟩
  | map k es =>
    obtain ⟨l, clock, h1, h2⟩ := hb
    exact ⟨l, clock, h1, by rw [h2, esHas_den K h k]⟩
end
section
variable {n : Nat} {p : Nat → Bool} (hp : ∀ j, j < n → p j = false)
include hp
theorem hp_blt {i : Nat} (h : Nat.blt i n = true) : p i = false := hp i (by simpa [Nat.blt_eq] using h)
mutual
theorem SC.bnd_has : ∀ (s : SC), s.bnd n = true → s.has p = false
  | .ptr id _, h => by simp only [SC.bnd] at h; simp only [SC.has, hp_blt hp h]
  | .oslice id _ _ _, h => by simp only [SC.bnd] at h; simp only [SC.has, hp_blt hp h]
  | .aptr j _ _ _, h => by simp only [SC.bnd, Bool.and_eq_true] at h; simp only [SC.has, hp_blt hp h.1]
  | .slice j _ _ _ _ cap, h => by
    simp only [SC.bnd, Bool.and_eq_true] at h
    simp only [SC.has, hp_blt hp h.1, Bool.false_or]
    cases cap with
    | e x => rfl
    | k i => exact hp_blt hp h.2.2.2
  | .fn f a b, h => by
    simp only [SC.bnd, Bool.and_eq_true] at h
    simp only [SC.has, SC.bndL_has a h.1, SC.bndL_has b h.2, Bool.or_self]
  | .gslice id _ _ _, h => by simp only [SC.bnd] at h; simp only [SC.has, hp_blt hp h]
  | .yld id, h => by simp only [SC.bnd] at h; simp only [SC.has, hp_blt hp h]
  | .mref id, h => by simp only [SC.bnd] at h; simp only [SC.has, hp_blt hp h]
  | .int _ _, _ => by simp only [SC.has]
  | .bool _, _ => by simp only [SC.has]
  | .lit _, _ => by simp only [SC.has]
  | .vx _, _ => by simp only [SC.has]
  | .axs _ _ _, _ => by simp only [SC.has]
  | .str _, _ => by simp only [SC.has]
  | .strA _ _ _, _ => by simp only [SC.has]
theorem SC.bndL_has : ∀ (l : List SC), SC.bndL n l = true → SC.hasL p l = false
  | [], _ => by simp only [SC.hasL]
  | s :: l, h => by simp only [SC.bndL, Bool.and_eq_true] at h; simp only [SC.hasL, SC.bnd_has s h.1, SC.bndL_has l h.2, Bool.or_self]
end
theorem SA.bnd_has {s : SA} (h : s.bnd n = true) : s.has p = false := by
  cases s with
  | c s => exact SC.bnd_has hp s h
  | agg l => exact SC.bndL_has hp l h
theorem SA.bndL_has {l : List SA} (h : SA.bndL n l = true) : SA.hasL p l = false := by
  induction l with
  | nil => rfl
  | cons s l ih => simp only [SA.bndL, Bool.and_eq_true] at h; simp only [SA.hasL, SA.bnd_has hp h.1, ih h.2, Bool.or_self]
theorem SV.bnd_has {s : SV} (h : s.bnd n = true) : s.has p = false := by
  induction s with
  | a s => exact SA.bnd_has hp h
  | tup l => exact SA.bndL_has hp h
  | ite c x y ihx ihy => simp only [SV.bnd, Bool.and_eq_true] at h; simp only [SV.has, ihx h.2.1, ihy h.2.2, Bool.or_self]
  | any => rfl
theorem SV.bndL_has {l : List SV} (h : SV.bndL n l = true) : SV.hasL p l = false := by
  induction l with
  | nil => rfl
  | cons s l ih => simp only [SV.bndL, Bool.and_eq_true] at h; simp only [SV.hasL, SV.bnd_has hp h.1, ih h.2, Bool.or_self]
theorem es_bnd_has : ∀ {es : List (IE × SA)}, esBnd n es = true → esHas p es = false
  | [], _ => rfl
  | e :: l, h => by simp only [esBnd, Bool.and_eq_true] at h; simp only [esHas, SA.bnd_has hp h.1.2, es_bnd_has h.2, Bool.or_self]
theorem SObj.bnd_has {o : SObj} (h : o.bnd n = true) : o.has p = false := by
  cases o with
  | cells cs ty g => exact SC.bndL_has hp cs h
  | loop r =>
    have h : r.sl.all (SV.bnd n) = true := h
    show (!(r.sl.all fun s => !(s.has p))) = false
    rw [Sl.all_of fun i s hs => by rw [SV.bnd_has hp (Sl.all_get (f := SV.bnd n) h hs)]; rfl]; rfl
  | map k es => exact es_bnd_has hp h
end
theorem one_lt {n m : Nat} (hm : n ≤ m) : ∀ j, j < n → one m j = false := fun j hj => one_false.2 (by omega)

/-! ### bounds of data -/
mutual
def LV.bnd (n : Nat) : LV → Bool
  | .i e => e.bnd n
  | .b e => e.bnd n
  | .v s => s.bnd n
  | .l a => a.bnd n
  | .n e => e.bnd n
def AE.bnd (n : Nat) : AE → Bool
  | .nil => true
  | .arr c => Nat.blt c n
  | .sub c x len => Nat.blt c n && (x.bnd n && len.bnd n)
  | .rows l => LV.bndLL n l
  | .cat a b => a.bnd n && b.bnd n
  | .rep e row => e.bnd n && LV.bndL n row
  | .set c x vs => Nat.blt c n && (x.bnd n && LV.bndL n vs)
  | .put c x a => Nat.blt c n && (x.bnd n && a.bnd n)
def LV.bndL (n : Nat) : List LV → Bool
  | [] => true
  | v :: l => v.bnd n && LV.bndL n l
def LV.bndLL (n : Nat) : List (List LV) → Bool
  | [] => true
  | r :: l => LV.bndL n r && LV.bndLL n l
end
section
variable {n : Nat} {ρ ρ' : Env} (A : Agree n ρ ρ' kap0 kap0)
include A
mutual
theorem LV.agree : ∀ (v : LV), v.bnd n = true → v.eval ρ' = v.eval ρ
  | .i e, h => by simp only [LV.bnd] at h; simp only [LV.eval, IE.agree A h]
  | .b e, h => by simp only [LV.bnd] at h; simp only [LV.eval, BE.agree A h]
  | .v s, h => by simp only [LV.bnd] at h; simp only [LV.eval, SC.agree A s h]
  | .l a, h => by simp only [LV.bnd] at h; simp only [LV.eval, AE.agree a h]
  | .n e, h => by simp only [LV.bnd] at h; simp only [LV.eval, BE.agree A h]
theorem AE.agree : ∀ (a : AE), a.bnd n = true → a.den ρ' = a.den ρ
  | .nil, _ => by simp only [AE.den]
  | .arr c, h => by simp only [AE.bnd, Nat.blt_eq] at h; simp only [AE.den, A.a c h]
  | .sub c x len, h => by simp only [AE.bnd, Bool.and_eq_true, Nat.blt_eq] at h; simp only [AE.den, A.a c h.1, IE.agree A h.2.1, IE.agree A h.2.2]
  | .rows l, h => by simp only [AE.bnd] at h; simp only [AE.den, LV.agreeLL l h]
  | .cat a b, h => by simp only [AE.bnd, Bool.and_eq_true] at h; simp only [AE.den, AE.agree a h.1, AE.agree b h.2]
  | .rep e row, h => by simp only [AE.bnd, Bool.and_eq_true] at h; simp only [AE.den, IE.agree A h.1, LV.agreeL row h.2]
  | .set c x vs, h => by simp only [AE.bnd, Bool.and_eq_true, Nat.blt_eq] at h; simp only [AE.den, A.a c h.1, IE.agree A h.2.1, LV.agreeL vs h.2.2]
  | .put c x a, h => by simp only [AE.bnd, Bool.and_eq_true, Nat.blt_eq] at h; simp only [AE.den, A.a c h.1, IE.agree A h.2.1, AE.agree a h.2.2]
theorem LV.agreeL : ∀ (l : List LV), LV.bndL n l = true → LV.evalL ρ' l = LV.evalL ρ l
  | [], _ => by simp only [LV.evalL]
  | v :: l, h => by simp only [LV.bndL, Bool.and_eq_true] at h; simp only [LV.evalL, LV.agree v h.1, LV.agreeL l h.2]
theorem LV.agreeLL : ∀ (l : List (List LV)), LV.bndLL n l = true → LV.evalLL ρ' l = LV.evalLL ρ l
  | [], _ => by simp only [LV.evalLL]
  | r :: l, h => by simp only [LV.bndLL, Bool.and_eq_true] at h; simp only [LV.evalLL, LV.agreeL r h.1, LV.agreeLL l h.2]
end
end

/-! ### the state -/
structure St where
  sl : Sl
  H : Heap
  n : Nat
  facts : List BE
  d : Nat          -- how many loops are open
  fn : Nat         -- the function whose code is walked
  rnd : Option Nat -- the loop over a function, of which this frame is a round
def St.bnd (st : St) : Bool := (st.sl.all (SV.bnd st.n) && (st.H.bnd st.n && BE.bndL st.n st.facts)) && (match st.rnd with
  | some l => Nat.blt l st.n
  | none => true)
/-- more blocks that may not turn -/
def Bk.plus (B : Bk) (Ds : List Nat) (t : Nat) (ht : B.top ≤ t) (hD : ∀ D ∈ Ds, D < t) : Bk := ⟨B.P, B.b, t, fun k => B.keep k ∨ k ∈ Ds, Nat.le_trans B.le ht, fun k hk => hk.elim (fun h => Nat.lt_of_lt_of_le (B.lt k h) ht) (hD k)⟩
/-- what B forbids, B' forbids -/
structure Bk.Le (B B' : Bk) : Prop where
  P : B'.P = B.P
  b : B'.b = B.b
  keep : ∀ k, B.keep k → B'.keep k
  top : B.top ≤ B'.top
theorem Bk.Le.refl (B : Bk) : B.Le B := ⟨rfl, rfl, fun _ h => h, Nat.le_refl _⟩
theorem Bk.Le.plus (B : Bk) (Ds : List Nat) (t : Nat) (ht : B.top ≤ t) (hD : ∀ D ∈ Ds, D < t) : B.Le (B.plus Ds t ht hD) := ⟨rfl, rfl, fun _ h => .inl h, ht⟩
theorem HeapOk.le {ρ : Env} {κ : Kap} {B B' : Bk} {H : Heap} {w : World} (h : HeapOk ρ κ B' H w) (hl : B.Le B') : HeapOk ρ κ B H w :=
  ⟨fun id o g => by obtain ⟨h1, h2, h3⟩ := h.obj id o g; rw [hl.P, hl.b] at *; exact ⟨h1, h2, fun hk => h3 (hl.keep _ hk)⟩, h.inj, h.arr, h.sep,
    fun j c p E g => by obtain ⟨h1, h2, h3⟩ := h.row j c p E g; rw [hl.b] at h2; exact ⟨h1, h2, fun hn hk => h3 hn (hl.keep _ hk)⟩, h.rsep⟩
theorem Kept.le {B B' : Bk} {w w' : World} (h : Kept B' w w') (hl : B.Le B') : Kept B w w' := ⟨by have := h.bl; rw [hl.b] at this; exact this, fun k hk hp => h.kp k hk (hl.keep k hp)⟩
def markOf (D : Nat) : Deferred := { target := .collected D, args := #[] }
/-- WHAT A STATE SAYS OF A FRAME AND A WORLD; Ds: the blocks of the deferred calls of the frame's loops over functions. -/
structure SimD (base : Bk) (w0 : World) (Ds : List Nat) (ρ : Env) (κ : Kap) (st : St) (a : Act) (w : World) : Prop where
  fr : FrameOk ρ κ st.sl a
  df : a.defers = Ds.map markOf
  dn : Ds.Nodup
  db : ∀ D ∈ Ds, D < w.heap.size ∧ base.b ≤ D ∧ ¬ base.keep D ∧ w.heap[D]? = some (.deferred (some []))
  sz : base.top ≤ w.heap.size
  hp : HeapOk ρ κ (base.plus Ds w.heap.size sz fun D h => (db D h).1) st.H w
  bl : Kept base w0 w
  fc : ∀ p ∈ st.facts, p.den ρ = true
  rb : ∀ l, st.rnd = some l → l < st.n
def Sim (base : Bk) (w0 : World) (ρ : Env) (κ : Kap) (st : St) (a : Act) (w : World) : Prop := ∃ Ds, SimD base w0 Ds ρ κ st a w
theorem Sim.agree {base : Bk} {w0 : World} {ρ ρ' : Env} {κ κ' : Kap} {st : St} {a : Act} {w : World} (h : Sim base w0 ρ κ st a w) (A : Agree st.n ρ ρ' κ κ') (hb : st.bnd = true) : Sim base w0 ρ' κ' st a w := by
  simp only [St.bnd, Bool.and_eq_true] at hb
  obtain ⟨Ds, h⟩ := h
  exact ⟨Ds, h.fr.agree A hb.1.1, h.df, h.dn, h.db, h.sz, h.hp.agree A hb.1.2.1, h.bl, facts_agree A hb.1.2.2 h.fc, h.rb⟩
def St.put (st : St) (d : Option Nat) (v : SV) : St := match d with
  | some d => { st with sl := setSlot st.sl d v }
  | none => st
theorem SlotsOk.put {ρ : Env} {κ : Kap} {sl : Sl} {tm : Array Value} (h : SlotsOk ρ κ sl tm) (d : Nat) {v : SV} {u : Value} (hv : v.isAny = false → u = v.den ρ κ) : SlotsOk ρ κ (setSlot sl d v) (tm.setIfInBounds d u) := by
  have key : ∀ t s, slot (setSlot sl d v) t = some s → (t = d ∧ s = v ∧ d < tm.size) ∨ (t ≠ d ∧ slot sl t = some s) := by
    intro t s hs
    rw [slot_setSlot] at hs
    split at hs
    · rename_i e
      obtain ⟨x, hx, hx2⟩ := Option.map_eq_some_iff.1 hs
      exact .inl ⟨e, hx2.symm, h.1 d x hx⟩
    · rename_i e; exact .inr ⟨e, hs⟩
  refine ⟨fun t s hs => ?_, fun t s hs ha => ?_⟩
  · rw [Array.size_setIfInBounds]
    rcases key t s hs with ⟨rfl, _, hd⟩ | ⟨_, hs⟩
    · exact hd
    · exact h.1 t s hs
  · simp only [Array.getElem?_setIfInBounds]
    rcases key t s hs with ⟨rfl, rfl, hd⟩ | ⟨hne, hs⟩
    · rw [if_pos rfl, if_pos hd, hv ha]
    · rw [if_neg hne.symm]; exact h.2 t s hs ha
theorem Sim.put {base : Bk} {w0 : World} {ρ : Env} {κ : Kap} {st : St} {a : Act} {w : World} (h : Sim base w0 ρ κ st a w) (d : Option Nat) {v : SV} {u : Value} (hv : v.isAny = false → u = v.den ρ κ) : Sim base w0 ρ κ (st.put d v) (a.put d u) w := by
  cases d with
  | none => exact h
  | some d => obtain ⟨Ds, h⟩ := h; exact ⟨Ds, h.fr.put d hv, h.df, h.dn, h.db, h.sz, h.hp, h.bl, h.fc, h.rb⟩

/-! ### new blocks, turned blocks -/
def Kap.setO (κ : Kap) (n b c : Nat) : Kap := { κ with o := fun j => if j = n then b else κ.o j, cap := fun j => if j = n then c else κ.cap j }
theorem Agree.setO (n b c : Nat) (ρ : Env) (κ : Kap) : Agree n ρ ρ κ (κ.setO n b c) :=
  ⟨fun _ _ => rfl, fun _ _ => rfl, fun _ _ => rfl, fun _ _ => rfl, fun _ _ => rfl, fun j hj => by simp [Kap.setO]; omega, fun _ _ => rfl, fun _ _ => rfl, fun j hj => by simp [Kap.setO]; omega⟩
theorem KBut.setO (n b c : Nat) (κ : Kap) : KBut (one n) κ (κ.setO n b c) := ⟨fun j hj => by simp [Kap.setO, one_false.1 hj], fun _ _ => rfl, fun _ _ => rfl, fun j hj => by simp [Kap.setO, one_false.1 hj]⟩
theorem KBut.agree {n : Nat} {p : Nat → Bool} {κ κ' : Kap} (K : KBut p κ κ') (hp : ∀ j, j < n → p j = false) (ρ : Env) : Agree n ρ ρ κ κ' :=
  ⟨fun _ _ => rfl, fun _ _ => rfl, fun _ _ => rfl, fun _ _ => rfl, fun _ _ => rfl, fun j hj => K.o j (hp j hj), fun j hj => K.ab j (hp j hj), fun j hj => K.ao j (hp j hj), fun j hj => K.cap j (hp j hj)⟩
theorem HeapOk.lt {ρ : Env} {κ : Kap} {base : Bk} {H : Heap} {w : World} (h : HeapOk ρ κ base H w) {id : Nat} {o : SObj} (ho : H.obj? id = some o) : κ.o id < w.heap.size := by
  obtain ⟨⟨b, h1, _⟩, _⟩ := h.obj id o ho
  exact (Array.getElem?_eq_some_iff.1 h1).1
/-- an array's block is there, if it holds anything or is a row -/
theorem HeapOk.arrlt {ρ : Env} {κ : Kap} {base : Bk} {H : Heap} {w : World} (h : HeapOk ρ κ base H w) {j c : Nat} {pat : List CK} {o : Option TypeId} (ha : H.arr? j = some (c, pat, o)) (hc : (ρ.a c ≠ [] ∧ pat ≠ []) ∨ (o.isSome = true ∧ ρ.nl j = false)) : κ.ab j < w.heap.size := by
  rcases hc with ⟨hc, hp⟩ | ⟨ho, hn⟩
  · cases pat with
    | nil => exact absurd rfl hp
    | cons k pat =>
      cases hl : ρ.a c with
      | nil => exact absurd hl hc
      | cons r l => exact World.block_lt_of_cell? w _ ((h.arr j c _ o ha).1 0 0 r k (by rw [hl]; rfl) rfl)
  · cases o with
    | none => cases ho
    | some E =>
      obtain ⟨_, hrow, _⟩ := h.row j c pat E ha
      have := hrow.lt (κ.ab j) (by simp [rowVal, hn, Value.ownBlock])
      exact this.2
/-- Worlds in which the blocks stand that the heap speaks of. -/
theorem HeapOk.stands {ρ : Env} {κ : Kap} {base : Bk} {H : Heap} {w w' : World} (h : HeapOk ρ κ base H w) (ho : ∀ id o, H.obj? id = some o → w'.heap[κ.o id]? = w.heap[κ.o id]?)
    (ha : ∀ j c pat o, H.arr? j = some (c, pat, o) → (ρ.a c ≠ [] ∧ pat ≠ []) ∨ (o.isSome = true ∧ ρ.nl j = false) → w'.heap[κ.ab j]? = w.heap[κ.ab j]?) : HeapOk ρ κ base H w' where
  obj id o hi := by rw [ho id o hi]; exact h.obj id o hi
  inj := h.inj
  arr j c pat o hi := by
    refine ⟨fun x f r k hx hf => ?_, (h.arr j c pat o hi).2⟩
    have := (h.arr j c pat o hi).1 x f r k hx hf
    rw [World.cell?_of_block (w := w) (ha j c pat o hi (.inl ⟨fun e => by rw [e] at hx; simp at hx, fun e => by subst e; simp at hf⟩))]; exact this
  sep := h.sep
  row j c pat E hi := by
    obtain ⟨h1, h2, h4⟩ := h.row j c pat E hi
    refine ⟨h1, ⟨h2.1, ?_⟩, h4⟩
    rcases h2.2 with h3 | ⟨g, cap, cur, hv, hg, hh, hr⟩
    · exact .inl h3
    · have hn : ρ.nl j = false ∧ κ.ab j = g := by
        simp only [rowVal] at hv
        cases hn : ρ.nl j
        · rw [hn] at hv; simp at hv; exact ⟨rfl, hv.1⟩
        · rw [hn] at hv; simp at hv
      have := ha j c pat _ hi (.inr ⟨rfl, hn.1⟩)
      rw [hn.2] at this
      exact .inr ⟨g, cap, cur, hv, hg, by rw [this]; exact hh, hr⟩
  rsep := h.rsep
/-- nothing that existed has turned -/
theorem HeapOk.below {ρ : Env} {κ : Kap} {base : Bk} {H : Heap} {w w' : World} (h : HeapOk ρ κ base H w) (hb : ∀ k, k < w.heap.size → w'.heap[k]? = w.heap[k]?) : HeapOk ρ κ base H w' :=
  h.stands (fun _ _ ho => hb _ (h.lt ho)) (fun _ _ _ _ ha hex => hb _ (h.arrlt ha hex))
/-- no part of a heap bears a name of p -/
structure Heap.Free (p : Nat → Bool) (H : Heap) : Prop where
  obj : ∀ id o, H.obj? id = some o → p id = false ∧ o.has p = false
  arr : ∀ j c pat o, H.arr? j = some (c, pat, o) → p j = false
theorem Heap.free_of_bnd {n : Nat} {p : Nat → Bool} (hp : ∀ j, j < n → p j = false) {H : Heap} (h : H.bnd n = true) : H.Free p :=
  ⟨fun id o ho => ⟨hp _ (Heap.bnd_obj h ho).1, SObj.bnd_has hp (Heap.bnd_obj h ho).2⟩, fun j c pat o ha => hp _ (Heap.bnd_arr h ha).1⟩
/-- the places turn at names that do not occur -/
theorem HeapOk.kbut {ρ : Env} {κ κ' : Kap} {base : Bk} {H : Heap} {w : World} (h : HeapOk ρ κ base H w) {p : Nat → Bool} (hf : H.Free p) (K : KBut p κ κ') : HeapOk ρ κ' base H w where
  obj id o ho := by
    obtain ⟨⟨b, e1, e2⟩, e3⟩ := h.obj id o ho
    rw [K.o id (hf.obj id o ho).1]; exact ⟨⟨b, e1, SObj.kbut K (hf.obj id o ho).1 (hf.obj id o ho).2 e2⟩, e3⟩
  inj id o id' o' ho ho' := by rw [K.o id (hf.obj id o ho).1, K.o id' (hf.obj id' o' ho').1]; exact h.inj id o id' o' ho ho'
  arr j c pat o ha := by rw [K.ab j (hf.arr j c pat o ha), K.ao j (hf.arr j c pat o ha)]; exact h.arr j c pat o ha
  sep j c pat o id ob ha ho := by rw [K.ab j (hf.arr j c pat o ha), K.o id (hf.obj id ob ho).1]; exact h.sep j c pat o id ob ha ho
  row j c pat E ha := by simp only [rowVal, K.ab j (hf.arr j c pat _ ha), K.ao j (hf.arr j c pat _ ha), K.cap j (hf.arr j c pat _ ha)]; exact h.row j c pat E ha
  rsep j c pat E j' c' pat' o' ha ha' := by rw [K.ab j (hf.arr j c pat _ ha), K.ab j' (hf.arr j' c' pat' o' ha')]; exact h.rsep j c pat E j' c' pat' o' ha ha'
theorem obj?_cons (id : Nat) (o : SObj) (H : Heap) (x : Nat) : Heap.obj? (.obj id o :: H) x = if x = id then some o else H.obj? x := by
  simp only [Heap.obj?]
  cases hq : Nat.beq id x
  · have : x ≠ id := (beq_false hq).symm
    simp [this]
  · rw [Nat.beq_eq] at hq; subst hq; simp
theorem arr?_cons (n c : Nat) (pat : List CK) (o : Option TypeId) (H : Heap) (x : Nat) : Heap.arr? (.arr n c pat o :: H) x = if x = n then some (c, pat, o) else H.arr? x := by
  simp only [Heap.arr?]
  cases hq : Nat.beq n x
  · have : x ≠ n := (beq_false hq).symm
    simp [this]
  · rw [Nat.beq_eq] at hq; subst hq; simp
theorem HeapOk.sub {ρ : Env} {κ : Kap} {base : Bk} {H H' : Heap} {w : World} (h : HeapOk ρ κ base H w) (ho : ∀ x y, H'.obj? x = some y → H.obj? x = some y) (ha : ∀ x y, H'.arr? x = some y → H.arr? x = some y) : HeapOk ρ κ base H' w :=
  ⟨fun id o g => h.obj id o (ho _ _ g), fun id o id' o' g g' => h.inj id o id' o' (ho _ _ g) (ho _ _ g'), fun j c p o g => h.arr j c p o (ha _ _ g), fun j c p o id ob g g' => h.sep j c p o id ob (ha _ _ g) (ho _ _ g'), fun j c p E g => h.row j c p E (ha _ _ g), fun j c p E j' c' p' o' g g' => h.rsep j c p E j' c' p' o' (ha _ _ g) (ha _ _ g')⟩
/-- without one block of the call's own -/
def Heap.delO (H : Heap) (id : Nat) : Heap := match H with
  | [] => []
  | .obj i o :: H => bif Nat.beq i id then Heap.delO H id else .obj i o :: Heap.delO H id
  | .arr i c p o :: H => .arr i c p o :: Heap.delO H id
theorem Heap.delO_arr (H : Heap) (j x : Nat) : (H.delO j).arr? x = H.arr? x := by
  induction H with
  | nil => rfl
  | cons e H ih =>
    cases e with
    | obj i o => simp only [Heap.delO]; cases Nat.beq i j <;> simp only [cond_true, cond_false, Heap.arr?, ih]
    | arr i c p o => simp only [Heap.delO, Heap.arr?, ih]
theorem Heap.delO_obj (H : Heap) (j x : Nat) : (H.delO j).obj? x = if x = j then none else H.obj? x := by
  induction H with
  | nil => simp [Heap.delO, Heap.obj?]
  | cons e H ih =>
    cases e with
    | arr i c p o => simp only [Heap.delO, Heap.obj?, ih]
    | obj i o =>
      simp only [Heap.delO]
      cases hq : Nat.beq i j
      · simp only [cond_false, Heap.obj?]
        cases hx : Nat.beq i x
        · simp only [cond_false]; exact ih
        · rw [Nat.beq_eq] at hx; subst hx
          rw [if_neg (beq_false hq)]; rfl
      · rw [Nat.beq_eq] at hq; subst hq
        simp only [cond_true, Heap.obj?, ih]
        cases hx : Nat.beq i x
        · rfl
        · rw [Nat.beq_eq] at hx; subst hx; simp
def Heap.delS (H : Heap) : Option Nat → Heap
  | none => H
  | some id => H.delO id
theorem Heap.delS_arr (H : Heap) (s : Option Nat) (x : Nat) : (H.delS s).arr? x = H.arr? x := by cases s <;> simp [Heap.delS, Heap.delO_arr]
theorem Heap.delS_obj {H : Heap} {s : Option Nat} {x : Nat} {o : SObj} (h : (H.delS s).obj? x = some o) : H.obj? x = some o ∧ s ≠ some x := by
  cases s with
  | none => exact ⟨h, by simp⟩
  | some id =>
    simp only [Heap.delS, Heap.delO_obj] at h
    split at h
    · cases h
    · rename_i hne; exact ⟨h, by simp; exact fun e => hne e.symm⟩
/-- A NEW BLOCK, or one that another name now bears. -/
theorem HeapOk.newObj {ρ : Env} {κ κ' : Kap} {base : Bk} {H : Heap} {w w' : World} (h : HeapOk ρ κ base H w) (hz : base.top ≤ w.heap.size) {n : Nat} (hf : H.Free (one n)) (K : KBut (one n) κ κ') {s : Option Nat} (hs : ∀ id, s = some id → ∃ o, H.obj? id = some o)
    {o : SObj} {b : Obj} (hb : w'.heap[κ'.o n]? = some b) (hi : o.Is base.P ρ κ' n b) (hn : κ'.o n = w.heap.size ∨ ∃ id, s = some id ∧ κ'.o n = κ.o id)
    (hst : ∀ k, k < w.heap.size → (∀ id, s = some id → k ≠ κ.o id) → w'.heap[k]? = w.heap[k]?) : HeapOk ρ κ' base (.obj n o :: H.delS s) w' := by
  have hF : (H.delS s).Free (one n) := ⟨fun id o ho => hf.obj id o (Heap.delS_obj ho).1, fun j c pat o ha => hf.arr j c pat o (by rw [Heap.delS_arr] at ha; exact ha)⟩
  have hne : ∀ id o, (H.delS s).obj? id = some o → ∀ id', s = some id' → κ.o id ≠ κ.o id' := fun id o ho id' e he => by
    obtain ⟨g1, g2⟩ := Heap.delS_obj ho
    obtain ⟨o', g3⟩ := hs id' e
    exact g2 (by rw [e, h.inj _ _ _ _ g1 g3 he])
  have h1 : HeapOk ρ κ base (H.delS s) w' := (h.sub (fun x y g => (Heap.delS_obj g).1) (fun x y g => by rw [Heap.delS_arr] at g; exact g)).stands
    (fun id o ho => hst _ (h.lt (Heap.delS_obj ho).1) (hne id o ho))
    (fun j c pat o ha hex => by
      rw [Heap.delS_arr] at ha
      exact hst _ (h.arrlt ha hex) fun id e => by obtain ⟨o', g3⟩ := hs id e; exact h.sep j c pat o id o' ha g3 hex)
  have h2 := h1.kbut hF K
  have part : ∀ id o, (H.delS s).obj? id = some o → κ'.o id ≠ κ'.o n := fun id o ho => by
    rw [K.o id (hF.obj id o ho).1]
    rcases hn with e | ⟨id', e1, e⟩
    · have := h.lt (Heap.delS_obj ho).1; omega
    · rw [e]; exact hne id o ho id' e1
  constructor
  · intro id x ho
    rw [obj?_cons] at ho
    split at ho
    · rename_i e; cases ho; subst e
      refine ⟨⟨b, hb, hi⟩, ?_⟩
      rcases hn with e | ⟨id', e1, e⟩
      · rw [e]; exact base.new hz
      · obtain ⟨o', g3⟩ := hs id' e1; rw [e]; exact (h.obj _ _ g3).2
    · exact h2.obj id x ho
  · intro id x id' x' ho ho' he
    rw [obj?_cons] at ho ho'
    split at ho <;> split at ho'
    · rename_i e e'; rw [e, e']
    · rename_i e e'; subst e; exact absurd he.symm (part _ _ ho')
    · rename_i e e'; subst e'; exact absurd he (part _ _ ho)
    · exact h2.inj _ _ _ _ ho ho' he
  · exact fun j c pat o ha => h2.arr j c pat o ha
  · intro j c pat o' id ob ha ho hex
    rw [obj?_cons] at ho
    split at ho
    · rename_i e; subst e
      have ha' : (H.delS s).arr? j = some (c, pat, o') := ha
      rw [K.ab j (hF.arr j c pat o' ha')]
      rw [Heap.delS_arr] at ha'
      rcases hn with e | ⟨id', e1, e⟩
      · have := h.arrlt ha' hex; omega
      · obtain ⟨o2, g3⟩ := hs id' e1; rw [e]; exact h.sep j c pat o' id' o2 ha' g3 hex
    · exact h2.sep j c pat o' id ob ha ho hex
  · exact fun j c pat E ha => h2.row j c pat E ha
  · exact fun j c pat E j' c' pat' o' ha ha' => h2.rsep j c pat E j' c' pat' o' ha ha'
theorem HeapOk.alloc {ρ : Env} {κ : Kap} {base : Bk} {H : Heap} {w : World} (h : HeapOk ρ κ base H w) {n : Nat} (hf : H.Free (one n)) (hz : base.top ≤ w.heap.size) (c : Nat) (o : SObj) (b : Obj) (hi : o.Is base.P ρ (κ.setO n w.heap.size c) n b) :
    HeapOk ρ (κ.setO n w.heap.size c) base (.obj n o :: H) (w.alloc b) := by
  have hn : (κ.setO n w.heap.size c).o n = w.heap.size := by simp [Kap.setO]
  refine h.newObj (s := none) hz hf (KBut.setO n _ c κ) (fun id e => by cases e) (b := b) ?_ hi (.inl hn) fun k hk _ => Below.heap_alloc w _ k hk
  rw [hn]; show (w.heap.push _)[w.heap.size]? = _; simp

/-! ### a store -/
theorem setCells_heap (b : Nat) : ∀ (vs : List Value) (o : Nat) (w : World) (C : Array Value) (ty : TypeId), w.heap[b]? = some (.cells C ty (0, 0)) →
    (w.setCells b o vs).heap[b]? = some (.cells (vs.zipIdx.foldl (fun a x => a.setIfInBounds (o + x.2) x.1) C) ty (0, 0)) ∧ (w.setCells b o vs).heap.size = w.heap.size ∧
    (∀ k, k ≠ b → (w.setCells b o vs).heap[k]? = w.heap[k]?) ∧ (w.setCells b o vs).os = w.os ∧ (w.setCells b o vs).tape = w.tape ∧ (w.setCells b o vs).output = w.output
  | [], o, w, C, ty, h => ⟨h, rfl, fun _ _ => rfl, rfl, rfl, rfl⟩
  | v :: vs, o, w, C, ty, h => by
    have h1 : (w.setCell ⟨b, o, none⟩ v).heap[b]? = some (.cells (C.setIfInBounds o v) ty (0, 0)) := by
      simp only [World.setCell, Array.getElem?_modify, if_true, h, Option.map_some]; rfl
    obtain ⟨k1, k2, k3, k4, k5, k6⟩ := setCells_heap b vs (o + 1) (w.setCell ⟨b, o, none⟩ v) _ ty h1
    refine ⟨?_, ?_, ?_, ?_, ?_, ?_⟩
    · rw [World.setCells, k1, List.zipIdx_cons, List.foldl_cons]
      congr 1
      have : ∀ (l : List Value) (m : Nat) (A : Array Value), (l.zipIdx m).foldl (fun a x => a.setIfInBounds (o + 1 + x.2) x.1) A = (l.zipIdx (m + 1)).foldl (fun a x => a.setIfInBounds (o + x.2) x.1) A := by
        intro l
        induction l with
        | nil => intro m A; rfl
        | cons x l ih => intro m A; simp only [List.zipIdx_cons, List.foldl_cons]; rw [ih]; congr 2; omega
      rw [this]
      rfl
    · rw [World.setCells, k2, World.size_setCell]
    · intro k hk; rw [World.setCells, k3 k hk, Below.heap_setCell _ _ _ _ hk]
    · rw [World.setCells, k4]; rfl
    · rw [World.setCells, k5]; rfl
    · rw [World.setCells, k6]; rfl
def Heap.setObj (H : Heap) (id : Nat) (o : SObj) : Heap :=
  match H with
  | [] => []
  | .obj i c :: H => bif Nat.beq i id then .obj i o :: Heap.setObj H id o else .obj i c :: Heap.setObj H id o
  | .arr j c p q :: H => .arr j c p q :: Heap.setObj H id o
theorem Heap.obj?_setObj (H : Heap) (id : Nat) (o : SObj) (i : Nat) : (H.setObj id o).obj? i = if i = id then (H.obj? i).map fun _ => o else H.obj? i := by
  induction H with
  | nil => simp [Heap.setObj, Heap.obj?]
  | cons e H ih =>
    cases e with
    | obj j c =>
      unfold Heap.setObj
      cases hq : Nat.beq j id
      · simp only [cond_false, Heap.obj?]
        cases hi : Nat.beq j i
        · simp only [cond_false]; exact ih
        · rw [Nat.beq_eq] at hi; subst hi
          rw [if_neg (beq_false hq)]; rfl
      · rw [Nat.beq_eq] at hq; subst hq
        simp only [cond_true, Heap.obj?]
        cases hi : Nat.beq j i
        · simp only [cond_false]; exact ih
        · rw [Nat.beq_eq] at hi; subst hi; simp
    | arr j c p o => simp only [Heap.setObj, Heap.obj?]; exact ih
theorem Heap.arr?_setObj (H : Heap) (id : Nat) (o : SObj) (i : Nat) : (H.setObj id o).arr? i = H.arr? i := by
  induction H with
  | nil => rfl
  | cons e H ih =>
    cases e with
    | obj j c =>
      unfold Heap.setObj
      cases hq : Nat.beq j id <;> simp only [cond_true, cond_false, Heap.arr?] <;> exact ih
    | arr j c p o => simp only [Heap.setObj, Heap.arr?, ih]
/-- A BLOCK THAT TURNS. -/
theorem HeapOk.setObj {ρ : Env} {κ : Kap} {base : Bk} {H : Heap} {w w' : World} (h : HeapOk ρ κ base H w) {id : Nat} {o0 o : SObj} (ho : H.obj? id = some o0) {b : Obj} (hb : w'.heap[κ.o id]? = some b) (hi : o.Is base.P ρ κ id b) (hst : ∀ k, k ≠ κ.o id → w'.heap[k]? = w.heap[k]?) :
    HeapOk ρ κ base (H.setObj id o) w' := by
  have old : ∀ i c, (H.setObj id o).obj? i = some c → ∃ c', H.obj? i = some c' := by
    intro i c hi
    rw [Heap.obj?_setObj] at hi
    split at hi
    · rename_i e; subst e; exact ⟨_, ho⟩
    · exact ⟨_, hi⟩
  constructor
  · intro i c hx
    rw [Heap.obj?_setObj] at hx
    split at hx
    · rename_i e; subst e; rw [ho] at hx; cases hx; exact ⟨⟨b, hb, hi⟩, (h.obj _ _ ho).2⟩
    · rename_i hne
      rw [hst _ (fun e => hne (h.inj _ _ _ _ hx ho e))]
      exact h.obj _ _ hx
  · intro i c i' c' hi hi' he
    obtain ⟨_, g1⟩ := old _ _ hi
    obtain ⟨_, g2⟩ := old _ _ hi'
    exact h.inj _ _ _ _ g1 g2 he
  · intro j c pat p ha
    rw [Heap.arr?_setObj] at ha
    refine ⟨fun x f r k hx hf => ?_, (h.arr j c pat p ha).2⟩
    have hne : κ.ab j ≠ κ.o id := h.sep j c pat p id _ ha ho (.inl ⟨fun e => by rw [e] at hx; simp at hx, fun e => by subst e; simp at hf⟩)
    rw [World.cell?_of_block (w := w) (hst _ hne)]
    exact (h.arr j c pat p ha).1 x f r k hx hf
  · intro j c pat p i ob ha hi hc
    rw [Heap.arr?_setObj] at ha
    obtain ⟨_, g1⟩ := old _ _ hi
    exact h.sep j c pat p i _ ha g1 hc
  · intro j c pat E ha
    rw [Heap.arr?_setObj] at ha
    obtain ⟨h1, h2, h4⟩ := h.row j c pat E ha
    refine ⟨h1, ⟨h2.1, ?_⟩, h4⟩
    rcases h2.2 with h3 | ⟨g, cap, cur, hv, hg, hh, hr⟩
    · exact .inl h3
    · refine .inr ⟨g, cap, cur, hv, hg, ?_, hr⟩
      have hnl : ρ.nl j = false ∧ κ.ab j = g := by
        simp only [rowVal] at hv
        cases hn : ρ.nl j
        · rw [hn] at hv; simp at hv; exact ⟨rfl, hv.1⟩
        · rw [hn] at hv; simp at hv
      have hne : κ.ab j ≠ κ.o id := h.sep j c pat _ id _ ha ho (.inr ⟨rfl, hnl.1⟩)
      rw [hst g (by rw [← hnl.2]; exact hne)]; exact hh
  · intro j c pat E j' c' pat' o' ha ha'
    rw [Heap.arr?_setObj] at ha ha'
    exact h.rsep j c pat E j' c' pat' o' ha ha'
def Heap.setOwn (H : Heap) (id : Nat) (cs : List SC) : Heap := match H.obj? id with
  | some (.cells _ ty g) => H.setObj id (.cells cs ty g)
  | _ => H
theorem HeapOk.store {ρ : Env} {κ : Kap} {base : Bk} {H : Heap} {w : World} (h : HeapOk ρ κ base H w) {id : Nat} {cs : List SC} {ty : TypeId} (ho : H.own? id = some (cs, ty)) (off : Nat) (vs : List SC) (hl : off + vs.length ≤ cs.length) :
    HeapOk ρ κ base (H.setOwn id (SX.setMany cs off vs)) (w.setCells (κ.o id) off (vs.map (SC.den ρ κ))) ∧ Kept base w (w.setCells (κ.o id) off (vs.map (SC.den ρ κ))) := by
  obtain ⟨g, hg⟩ := own?_obj ho
  obtain ⟨⟨b, e1, e2⟩, e3, e4⟩ := h.obj id _ hg
  obtain ⟨sp, hw⟩ := h.own ho
  obtain ⟨k1, k2, k3, k4, k5, k6⟩ := setCells_heap (κ.o id) (vs.map (SC.den ρ κ)) off w _ ty hw
  have hm := setMany_den ρ κ vs cs 0 off
  rw [Nat.add_zero] at hm
  have hp : ∀ (us : List Value) (i : Nat) (C : List Value) (S : List Value), off + i + us.length ≤ C.length → (us.zipIdx i).foldl (fun (a : Array Value) (x : Value × Nat) => a.setIfInBounds (off + x.2) x.1) (C ++ S).toArray = (((us.zipIdx i).foldl (fun (a : Array Value) (x : Value × Nat) => a.setIfInBounds (off + x.2) x.1) C.toArray).toList ++ S).toArray := by
    intro us
    induction us with
    | nil => intro i C S _; simp
    | cons u us ih =>
      intro i C S hle
      simp only [List.length_cons] at hle
      simp only [List.zipIdx_cons, List.foldl_cons]
      have e : (C ++ S).toArray.setIfInBounds (off + i) u = (C.set (off + i) u ++ S).toArray := by
        simp [List.set_append]; omega
      rw [e, ih (i + 1) (C.set (off + i) u) S (by simp; omega)]
      simp
  rw [hp _ 0 _ _ (by simp; omega), hm] at k1
  simp only [List.toList_toArray] at k1
  constructor
  · simp only [Heap.setOwn, hg]
    refine h.setObj hg k1 ?_ k3
    rw [e1] at hw; cases hw
    cases g with
    | none =>
      simp only [SObj.Is] at e2 ⊢
      have hsp : sp = [] := by have := congrArg (fun b : Obj => match b with | .cells c _ _ => c.size | _ => 0) e2; simp at this; exact this
      rw [hsp]; simp
    | some z =>
      obtain ⟨sp', q1, q2, q3⟩ := e2
      have hsp : sp = sp' := by simp only [Obj.cells.injEq, and_true, Array.mk.injEq] at q1; exact List.append_cancel_left q1
      subst hsp
      exact ⟨sp, rfl, by rw [setMany_length]; exact q2, q3⟩
  · exact ⟨⟨k4, k5, k6, by rw [k2]; exact Nat.le_refl _, fun k hk => k3 k (by omega)⟩, fun k hk hp => k3 k (fun e => e4 (e ▸ hp))⟩
theorem run_store_x {P : Program} {ρ : Env} {κ : Kap} {base : Bk} {H : Heap} {w : World} (h : HeapOk ρ κ base H w) {id : Nat} {cs : List SC} {ty : TypeId} (ho : H.own? id = some (cs, ty)) (off : Nat) {t : TypeId} {s : SA}
    (hs : sizeP P t = some s.cells.length) (hl : off + s.cells.length ≤ cs.length) :
    (Instr.storeAt t (.pointer (some ⟨κ.o id, off, none⟩)) (s.den ρ κ)).run P w = .ok () (w.setCells (κ.o id) off (s.cells.map (SC.den ρ κ))) := by
  obtain ⟨sp, hw⟩ := h.own ho
  have hcell : ∀ j, j < s.cells.length → (w.cell? ⟨κ.o id, off + j, none⟩).isSome = true := fun j hj => by
    rw [cell_of_row w _ _ _ _ _ hw]; simp; omega
  have hfz : ∀ j, w.frozen? ⟨κ.o id, off + j, none⟩ = false := fun j => by
    simp [World.frozen?, hw]
  have := run_storeCells_cells (P := P) (κ.o id) off (s.cells.map (SC.den ρ κ)) 0 w (fun j hj => by simpa using hcell j (by simpa using hj)) (fun j _ => by simpa using hfz j)
    (fun v hv => by obtain ⟨x, _, rfl⟩ := List.mem_map.1 hv; exact SC.den_one ρ κ x)
  simp only [Nat.add_zero] at this
  simp only [Instr.storeAt, Instr.sureAddr, Sem.run_bind, Sem.run_pure, Result.andThen_ok, storeVar, run_sizeP hs, SA.den_cells]
  simp [this]

/-! ### the bounds, quick in the kernel -/
def IE.bndQ (n : Nat) (e : IE) : Bool := match e with
  | .lit _ => true
  | .v i => Nat.blt i n
  | e => e.bnd n
theorem IE.bndQ_eq (n : Nat) (e : IE) : e.bndQ n = e.bnd n := by cases e <;> rfl
def BE.bndQ (n : Nat) (e : BE) : Bool := match e with
  | .lit _ => true
  | .v i => Nat.blt i n
  | e => e.bnd n
theorem BE.bndQ_eq (n : Nat) (e : BE) : e.bndQ n = e.bnd n := by cases e <;> rfl
def SC.bndQ (n : Nat) (s : SC) : Bool := match s with
  | .int _ e => e.bndQ n
  | .bool b => b.bndQ n
  | .ptr id _ => Nat.blt id n
  | .oslice id _ _ _ => Nat.blt id n
  | .gslice id _ _ _ => Nat.blt id n
  | .lit _ => true
  | .vx i => Nat.blt i n
  | .yld l => Nat.blt l n
  | .mref id => Nat.blt id n
  | s => s.bnd n
theorem SC.bndQ_eq (n : Nat) (s : SC) : s.bndQ n = s.bnd n := by cases s <;> simp only [SC.bndQ, SC.bnd, IE.bndQ_eq, BE.bndQ_eq]
def bndLC (n : Nat) : List SC → Bool
  | [] => true
  | s :: l => s.bndQ n && bndLC n l
noncomputable def bndLQ (n : Nat) (l : List SC) : Bool := List.rec (motive := fun _ => Bool) true (fun s _ ih => andQ (s.bndQ n) ih) l
theorem bndLQ_eq (n : Nat) : ∀ (l : List SC), bndLQ n l = SC.bndL n l
  | [] => by simp only [SC.bndL]; rfl
  | s :: l => by
    show andQ (s.bndQ n) (bndLQ n l) = _
    rw [andQ_eq, SC.bndQ_eq, bndLQ_eq n l]; simp only [SC.bndL]
def SV.bndQ (n : Nat) (s : SV) : Bool := match s with
  | .any => true
  | .a (.c s) => s.bndQ n
  | .a (.agg l) => bndLQ n l
  | s => s.bnd n
theorem SV.bndQ_eq (n : Nat) : SV.bndQ n = SV.bnd n := by
  funext s
  unfold SV.bndQ
  split
  · rfl
  · rw [SC.bndQ_eq]; rfl
  · rw [bndLQ_eq]; rfl
  · rfl
def HE.bndQ (n : Nat) (e : HE) : Bool := match e with
  | .obj id (.cells cs _ _) => andQ (Nat.blt id n) (bndLQ n cs)
  | .arr j c _ _ => andQ (Nat.blt j n) (Nat.blt c n)
  | e => e.bnd n
theorem HE.bndQ_eq (n : Nat) (e : HE) : e.bndQ n = e.bnd n := by
  unfold HE.bndQ
  split
  · rw [andQ_eq, bndLQ_eq]; rfl
  · rw [andQ_eq]; rfl
  · rfl
def heapBndC (n : Nat) : Heap → Bool
  | [] => true
  | e :: H => e.bndQ n && heapBndC n H
noncomputable def heapBndQ (n : Nat) (H : Heap) : Bool := List.rec (motive := fun _ => Bool) true (fun e _ ih => andQ (e.bndQ n) ih) H
theorem heapBndQ_eq (n : Nat) : ∀ (H : Heap), heapBndQ n H = H.bnd n
  | [] => rfl
  | e :: H => by
    show andQ (e.bndQ n) (heapBndQ n H) = _
    rw [andQ_eq, HE.bndQ_eq, heapBndQ_eq n H]; rfl
def BE.bndF (n : Nat) (e : BE) : Bool := match e with
  | .cmp _ a b => andQ (a.bndQ n) (b.bndQ n)
  | .not e => match e with
    | .cmp _ a b => andQ (a.bndQ n) (b.bndQ n)
    | e => e.bnd n
  | e => e.bnd n
theorem BE.bndF_eq (n : Nat) (e : BE) : e.bndF n = e.bnd n := by
  unfold BE.bndF
  split
  · rw [andQ_eq, IE.bndQ_eq, IE.bndQ_eq]; rfl
  · split
    · rw [andQ_eq, IE.bndQ_eq, IE.bndQ_eq]; rfl
    · rfl
  · rfl
def factBndC (n : Nat) : List BE → Bool
  | [] => true
  | e :: H => e.bnd n && factBndC n H
noncomputable def factBndQ (n : Nat) (H : List BE) : Bool := List.rec (motive := fun _ => Bool) true (fun e _ ih => andQ (e.bndF n) ih) H
theorem factBndQ_eq (n : Nat) : ∀ (H : List BE), factBndQ n H = BE.bndL n H
  | [] => rfl
  | e :: H => by
    show andQ (e.bndF n) (factBndQ n H) = _
    rw [andQ_eq, BE.bndF_eq, factBndQ_eq n H]; rfl
def St.bndQ (st : St) : Bool := andQ (andQ (slAll (SV.bndQ st.n) st.sl) (andQ (heapBndQ st.n st.H) (factBndQ st.n st.facts))) (match st.rnd with
  | some l => Nat.blt l st.n
  | none => true)
theorem St.bndQ_eq (st : St) : st.bndQ = st.bnd := by
  simp only [St.bndQ, St.bnd, andQ_eq, SV.bndQ_eq, heapBndQ_eq, factBndQ_eq]; rfl
end Go.SX

/- SxR: rows of the call's own: append, make, a store into a row. -/
set_option linter.unusedSimpArgs false
set_option linter.unusedVariables false
set_option linter.unusedSectionVars false
noncomputable section
namespace Go.SX
open Go Go.RowKit

/-! ### append onto a row -/
theorem run_append_x {P : Program} (w : World) (base : Nat) (t ty e : TypeId) (i : TypeInfo) (z : Value) (size bytes : Nat) (ht : P.underlying t = some (.slice e)) (hi : P.info? e = some i) (hz : i.zero = some z)
    (hsize : i.size = size) (hby : i.bytes = bytes) (hzs : z.cells.size = size) (hsz : 0 < size)
    (v : Value) (n : Nat) (xs : List Value) (hown : w.ownsRow base e size v n xs)
    (oa : Option Addr) (m c : Nat) (news : List Value) (hl : news.length = m * size) (hx : match oa with
      | some a => ∀ j u, news[j]? = some u → w.cell? (a.add j) = some u
      | none => m = 0) (h1 : ∀ u ∈ news, u.oneCell' = true)
    (h63 : n + m ≤ maxLen) (hbytes : (n + m) * bytes ≤ 140737488355328) (hbase : base ≤ w.heap.size) :
    ∃ v' w', (Builtin.append_ #[t, t] ty #[v, .slice oa m c]).run P w = .ok v' w' ∧ w'.ownsRow base e size v' (n + m) (xs ++ news) ∧ w.grownBy w' v.ownBlock ∧
      (v' = .slice none 0 0 ↔ v = .slice none 0 0 ∧ m = 0) ∧ (v'.ownBlock = v.ownBlock ∨ v'.ownBlock = some w.heap.size) := by
  subst hsize
  subst hby
  cases oa with
  | none =>
    simp only at hx
    subst hx
    have hn : news = [] := List.eq_nil_of_length_eq_zero (by simpa using hl)
    subst hn
    refine ⟨v, w, ?_, by simpa using hown, ⟨rfl, rfl, rfl, Nat.le_refl _, fun _ _ _ => rfl⟩, by simp, .inl rfl⟩
    rcases hown.2 with ⟨rfl, rfl⟩ | ⟨g, cap, cur, rfl, hbg, hg, hnc, hcm, hcs, htake⟩
    · simp [Builtin.append_, run_underlying ht, sizeOf, typeInfo, hi, Builtin.lenOf, Builtin.firstCells]
    · simp [Builtin.append_, run_underlying ht, sizeOf, typeInfo, hi, Builtin.lenOf, Builtin.firstCells, hnc, storeCells]
  | some a =>
    simp only at hx
    have hsmall : n + m ≤ 9223372036854775807 := by simp only [maxLen] at h63; omega
    have hlen : (xs ++ news).length = (n + m) * i.size := by rw [List.length_append, hown.1, hl, Nat.add_mul]
    have grown : ∀ (old : Nat), old < n + m → ∀ (row : Option Nat),
        (w.drew.alloc (.cells (xs.toArray ++ news.toArray ++ Builtin.zeroCells z.cells (grownCap w (n + m) old e - (n + m))) e)).ownsRow base e i.size
          (.slice (some ⟨w.heap.size, 0, none⟩) (n + m) (grownCap w (n + m) old e)) (n + m) (xs ++ news) ∧
        w.grownBy (w.drew.alloc (.cells (xs.toArray ++ news.toArray ++ Builtin.zeroCells z.cells (grownCap w (n + m) old e - (n + m))) e)) row := by
      intro old ho row
      have hge := grownCap_ge w (n + m) old e
      have hcm : grownCap w (n + m) old e ≤ maxLen := grownCap_le_maxLen w (n + m) old e h63
      refine ⟨⟨hlen, .inr ⟨w.heap.size, _, _, rfl, hbase, heap_alloc_new w.drew _, hge, hcm, ?_, ?_⟩⟩, ⟨rfl, rfl, rfl, by simp, fun k hk _ => (by exact Below.heap_alloc w.drew _ k hk)⟩⟩
      · simp only [Array.size_append, List.size_toArray, size_zeroCells, hzs, hown.1, hl, ← Nat.add_mul]
        congr 1
        omega
      · simp only [Array.toList_append, List.append_assoc]
        rw [← List.append_assoc, ← hlen]
        exact List.take_left
    rcases hown.2 with ⟨rfl, rfl⟩ | ⟨g, cap, cur, rfl, hbg, hg, hnc, hcm, hcs, htake⟩
    · have hxs : xs = [] := List.eq_nil_of_length_eq_zero (by simpa using hown.1)
      subst hxs
      by_cases hm : m = 0
      · subst hm
        have hn : news = [] := List.eq_nil_of_length_eq_zero (by simpa using hl)
        subst hn
        refine ⟨.slice none 0 0, w, ?_, World.ownsRow_nil w base e i.size, ⟨rfl, rfl, rfl, Nat.le_refl _, fun _ _ _ => rfl⟩, by simp, .inl rfl⟩
        simp [Builtin.append_, run_underlying ht, sizeOf, typeInfo, hi, Builtin.lenOf, Builtin.firstCells, loadCells, loadCellsFrom]
      · have hr := run_append_nil (P := P) w t ty e i z ht hi hz a m c news hl hx (by omega) (by omega) (by have hb := hbytes; simp only [Nat.zero_add] at hb; omega)
        have hgr := grown 0 (by omega) (Value.ownBlock (.slice none 0 0))
        simp only [Nat.zero_add, List.nil_append, Array.empty_append] at hgr ⊢
        exact ⟨_, _, hr, hgr.1, hgr.2, by simp [hm], .inr rfl⟩
    · by_cases hroom : n + m ≤ cap
      · have hfit : n * i.size + news.length ≤ cur.size := by rw [hl, hcs, ← Nat.add_mul]; exact Nat.mul_le_mul_right _ hroom
        have hr := run_append_room (P := P) w t ty e i ht hi g n cap cur hg a m c news hl hx h1 hroom hfit
        refine ⟨_, _, hr, ⟨hlen, .inr ⟨g, cap, _, rfl, hbg, setRow_heap w g cur _ e _ hg, hroom, hcm, ?_, ?_⟩⟩, ⟨rfl, rfl, rfl, by simp, fun k _ hk => setRow_other w g k _ (fun e => hk (by simp [Value.ownBlock, e]))⟩, by simp, .inl rfl⟩
        · simp only [List.size_toArray, List.length_append, List.length_take, List.length_drop, Array.length_toList]
          omega
        · rw [htake, ← hlen]
          exact List.take_left
      · have holds : ∀ j u, xs[j]? = some u → w.cell? ((⟨g, 0, none⟩ : Addr).add j) = some u := hown.cells (g := g) rfl
        have hr := run_append_grow (P := P) w t ty e i z ht hi hz ⟨g, 0, none⟩ n cap xs hown.1 holds a m c news hl hx (by omega) (by omega) (growslice_fits (by omega) hbytes)
        have hgr := grown cap (by omega) (Value.ownBlock (.slice (some ⟨g, 0, none⟩) n cap))
        exact ⟨_, _, hr, hgr.1, hgr.2, by simp, .inr rfl⟩

/-! ### rows as data -/
def patOf (P : Program) : Nat → TypeId → Option (List CK)
  | 0, _ => none
  | d + 1, t => match P.underlying t with
    | some (.int k) => some [.int k]
    | some .bool => some [.bool]
    | some (.struct fs) => patFs P d fs.toList
    | some (.array n e) => (patOf P d e).map fun p => (List.replicate n p).flatten
    | some _ => some [.val]
    | none => none
where
  patFs (P : Program) : Nat → List Field → Option (List CK)
  | 0, _ => none
  | _ + 1, [] => some []
  | d + 1, f :: fs => match patOf P d f.type, patFs P d fs with
    | some a, some b => some (a ++ b)
    | _, _ => none
def ckq : CK → CK → Bool
  | .int k, .int k' => Nat.beq (kn k) (kn k')
  | .bool, .bool => true
  | .val, .val => true
  | _, _ => false
theorem ckq_eq {a b : CK} (h : ckq a b = true) : a = b := by
  cases a <;> cases b <;> simp only [ckq, Bool.false_eq_true] at h <;> first | rfl | rw [kn_eq h]
def patq : List CK → List CK → Bool
  | [], [] => true
  | a :: l, b :: r => ckq a b && patq l r
  | _, _ => false
theorem patq_eq : ∀ {a b : List CK}, patq a b = true → a = b
  | [], [], _ => rfl
  | [], _ :: _, h => by cases h
  | _ :: _, [], h => by cases h
  | a :: l, b :: r, h => by simp only [patq, Bool.and_eq_true] at h; rw [ckq_eq h.1, patq_eq h.2]
def cellLV : CK → SC → Option LV
  | .int k, .int k' e => bif Nat.beq (kn k) (kn k') then some (.i e) else none
  | .bool, .bool b => some (.b b)
  | .val, s => bif s.free then some (.v s) else none
  | _, _ => none
theorem cellLV_den {ρ : Env} {κ : Kap} {k : CK} {s : SC} {v : LV} (h : cellLV k s = some v) : k.den (v.eval ρ) = s.den ρ κ := by
  unfold cellLV at h
  split at h
  · rename_i k k' e
    cases hq : Nat.beq (kn k) (kn k')
    · rw [hq] at h; cases h
    · rw [hq] at h; cases h; rw [kn_eq hq]; simp only [LV.eval, CK.den, Dat.int, SC.den]
  · cases h; simp only [LV.eval, CK.den, Dat.bool, SC.den]
  · cases hq : s.free
    · rw [hq] at h; cases h
    · rw [hq] at h; cases h; simp only [LV.eval, CK.den, Dat.val, SC.free_den hq ρ κ kap0]
  · cases h
def rowLV : List CK → List SC → Option (List LV)
  | [], [] => some []
  | k :: p, s :: l => match cellLV k s, rowLV p l with
    | some v, some r => some (v :: r)
    | _, _ => none
  | _, _ => none
theorem rowLV_den {ρ : Env} {κ : Kap} : ∀ {p : List CK} {l : List SC} {r : List LV}, rowLV p l = some r → rowCells p (LV.evalL ρ r) = l.map (SC.den ρ κ)
  | [], [], _, h => by cases h; rfl
  | [], _ :: _, _, h => by cases h
  | _ :: _, [], _, h => by cases h
  | k :: p, s :: l, r, h => by
    unfold rowLV at h
    split at h
    · rename_i v r' h1 h2
      cases h
      simp only [LV.evalL, rowCells, List.headD_cons, List.tail_cons, List.map_cons, cellLV_den (κ := κ) h1, rowLV_den (κ := κ) h2]
    · cases h
def rowsLV (p : List CK) : Nat → List SC → Option (List (List LV))
  | 0, [] => some []
  | 0, _ :: _ => none
  | m + 1, l => match rowLV p (l.take p.length), rowsLV p m (l.drop p.length) with
    | some r, some rs => some (r :: rs)
    | _, _ => none
theorem rowsLV_den {ρ : Env} {κ : Kap} {p : List CK} : ∀ {m : Nat} {l : List SC} {rs : List (List LV)}, rowsLV p m l = some rs → arrCells p (LV.evalLL ρ rs) = l.map (SC.den ρ κ) ∧ rs.length = m
  | 0, [], _, h => by cases h; exact ⟨rfl, rfl⟩
  | 0, _ :: _, _, h => by cases h
  | m + 1, l, rs, h => by
    unfold rowsLV at h
    split at h
    · rename_i r rs' h1 h2
      cases h
      obtain ⟨e1, e2⟩ := rowsLV_den (ρ := ρ) (κ := κ) h2
      refine ⟨?_, by simp [e2]⟩
      simp only [LV.evalLL, arrCells, List.flatMap_cons]
      rw [rowLV_den (κ := κ) h1]
      simp only [arrCells] at e1
      rw [e1, ← List.map_append, List.take_append_drop]
    · cases h
theorem evalLL_length (ρ : Env) (l : List (List LV)) : (LV.evalLL ρ l).length = l.length := by rw [LV.evalLL_eq]; simp
theorem arrCells_append (p : List CK) (a b : List (List Dat)) : arrCells p (a ++ b) = arrCells p a ++ arrCells p b := by simp [arrCells]
theorem arrCells_one (p : List CK) (l : List (List Dat)) : ∀ v ∈ arrCells p l, v.oneCell' = true := by
  intro v hv
  obtain ⟨r, _, hr⟩ := List.mem_flatMap.1 hv
  exact rowCells_one p r v hr

/-! ### the heap behind an append, a make -/
inductive Src where
  | nil
  | row (j : Nat)
  | own (id : Nat)
def Heap.delA (H : Heap) (j : Nat) : Heap := match H with
  | [] => []
  | .obj i o :: H => .obj i o :: Heap.delA H j
  | .arr i c p o :: H => bif Nat.beq i j then Heap.delA H j else .arr i c p o :: Heap.delA H j
def Heap.del (H : Heap) : Src → Heap
  | .nil => H
  | .row j => H.delA j
  | .own id => H.delO id
theorem Heap.delA_obj (H : Heap) (j x : Nat) : (H.delA j).obj? x = H.obj? x := by
  induction H with
  | nil => rfl
  | cons e H ih =>
    cases e with
    | obj i o => simp only [Heap.delA, Heap.obj?, ih]
    | arr i c p o => simp only [Heap.delA]; cases Nat.beq i j <;> simp only [cond_true, cond_false, Heap.obj?, ih]
theorem Heap.delA_arr (H : Heap) (j x : Nat) : (H.delA j).arr? x = if x = j then none else H.arr? x := by
  induction H with
  | nil => simp [Heap.delA, Heap.arr?]
  | cons e H ih =>
    cases e with
    | obj i o => simp only [Heap.delA, Heap.arr?, ih]
    | arr i c p o =>
      simp only [Heap.delA]
      cases hq : Nat.beq i j
      · simp only [cond_false, Heap.arr?]
        cases hx : Nat.beq i x
        · simp only [cond_false]; exact ih
        · rw [Nat.beq_eq] at hx; subst hx
          rw [if_neg (beq_false hq)]; rfl
      · rw [Nat.beq_eq] at hq; subst hq
        simp only [cond_true, Heap.arr?, ih]
        cases hx : Nat.beq i x
        · rfl
        · rw [Nat.beq_eq] at hx; subst hx; simp
theorem Heap.del_obj {H : Heap} {s : Src} {x : Nat} {y : SObj} (h : (H.del s).obj? x = some y) : H.obj? x = some y ∧ ∀ id, s = .own id → x ≠ id := by
  cases s with
  | nil => exact ⟨h, fun _ e => by cases e⟩
  | row j => simp only [Heap.del, Heap.delA_obj] at h; exact ⟨h, fun _ e => by cases e⟩
  | own id =>
    simp only [Heap.del, Heap.delO_obj] at h
    split at h
    · cases h
    · rename_i hne; exact ⟨h, fun _ e => by cases e; exact hne⟩
theorem Heap.del_arr {H : Heap} {s : Src} {x : Nat} {y : Nat × List CK × Option TypeId} (h : (H.del s).arr? x = some y) : H.arr? x = some y ∧ ∀ j, s = .row j → x ≠ j := by
  cases s with
  | nil => exact ⟨h, fun _ e => by cases e⟩
  | own id => simp only [Heap.del, Heap.delO_arr] at h; exact ⟨h, fun _ e => by cases e⟩
  | row j =>
    simp only [Heap.del, Heap.delA_arr] at h
    split at h
    · cases h
    · rename_i hne; exact ⟨h, fun _ e => by cases e; exact hne⟩
def Kap.setA (κ : Kap) (n b cap : Nat) : Kap := { κ with ab := fun j => if j = n then b else κ.ab j, ao := fun j => if j = n then 0 else κ.ao j, cap := fun j => if j = n then cap else κ.cap j }
theorem KBut.setA (n b cap : Nat) (κ : Kap) : KBut (one n) κ (κ.setA n b cap) := ⟨fun _ _ => rfl, fun j hj => by simp [Kap.setA, one_false.1 hj], fun j hj => by simp [Kap.setA, one_false.1 hj], fun j hj => by simp [Kap.setA, one_false.1 hj]⟩
/-- the whole new row, as a slice -/
def rowSV (n : Nat) (pat : List CK) : SV := .c (.slice n pat.length 0 (.lit 0) (.alen n) (.k n))
theorem rowSV_den {ρ : Env} {κ : Kap} {n : Nat} {pat : List CK} (h : κ.ao n = 0) : (rowSV n pat).den ρ κ = rowVal ρ κ n (ρ.a n).length := by
  simp only [rowSV, SV.den, SA.den, SC.den, slAddr, rowVal, CE.den, IE.den, h]
  simp
/-- A NEW OR TURNED ROW: the block that it lies in is its source's, or new. -/
theorem HeapOk.newRow {ρ : Env} {κ : Kap} {base : Bk} {H : Heap} {w w' : World} (h : HeapOk ρ κ base H w) (hz : base.top ≤ w.heap.size) {s : Src} {n : Nat} (hf : H.Free (one n)) {v v' : Value} {pat : List CK} {E : TypeId}
    (hsrc : match s with
      | .nil => v.ownBlock = none
      | .row j => ∃ c pat E, H.arr? j = some (c, pat, some E) ∧ (v.ownBlock = none ∨ (ρ.nl j = false ∧ v.ownBlock = some (κ.ab j)))
      | .own id => ∃ o, H.obj? id = some o ∧ v.ownBlock = some (κ.o id))
    (hown : w'.ownsRow base.b E pat.length v' (ρ.a n).length (arrCells pat (ρ.a n))) (hg : w.grownBy w' v.ownBlock) (hnl : v' = .slice none 0 0 ↔ ρ.nl n = true) (hfr : v'.ownBlock = v.ownBlock ∨ v'.ownBlock = some w.heap.size) (hpat : pat ≠ []) :
    Kept base w w' ∧ ∃ κ', KBut (one n) κ κ' ∧ v' = (rowSV n pat).den ρ κ' ∧ HeapOk ρ κ' base (.arr n n pat (some E) :: H.del s) w' := by
  -- where it lies
  have hshape : (v' = .slice none 0 0 ∧ (ρ.a n).length = 0) ∨ ∃ g cap, v' = .slice (some ⟨g, 0, none⟩) (ρ.a n).length cap := by
    rcases hown.2 with ⟨e1, e2⟩ | ⟨g, cap, cur, e, _⟩
    · exact .inl ⟨e1, e2⟩
    · exact .inr ⟨g, cap, e⟩
  obtain ⟨b, cap, hv'⟩ : ∃ b cap, v' = .slice (if ρ.nl n then none else some ⟨b, 0, none⟩) (ρ.a n).length cap := by
    rcases hshape with ⟨e1, e2⟩ | ⟨g, cap, e⟩
    · exact ⟨0, 0, by rw [e1, hnl.1 e1, e2]; rfl⟩
    · refine ⟨g, cap, ?_⟩
      have : ρ.nl n = false := by
        cases hn : ρ.nl n
        · rfl
        · have := hnl.2 hn; rw [e] at this; simp at this
      rw [this]; exact e
  have K := KBut.setA n b cap κ
  have hb : (κ.setA n b cap).ab n = b := by simp [Kap.setA]
  have ho : (κ.setA n b cap).ao n = 0 := by simp [Kap.setA]
  have hc : (κ.setA n b cap).cap n = cap := by simp [Kap.setA]
  have hval : v' = rowVal ρ (κ.setA n b cap) n (ρ.a n).length := by rw [hv', rowVal, hb, hc]
  -- the source's block may turn
  have hsk : ∀ k, v.ownBlock = some k → base.b ≤ k ∧ ¬ base.keep k ∧ k < w.heap.size := by
    intro k hk
    cases s with
    | nil => rw [hsrc] at hk; cases hk
    | row j =>
      obtain ⟨c, pat, E, ha, hv⟩ := hsrc
      rcases hv with hv | ⟨hnlj, hv⟩
      · rw [hv] at hk; cases hk
      · rw [hv] at hk; cases hk
        obtain ⟨_, hr, hkp⟩ := h.row j c pat E ha
        have := hr.lt (κ.ab j) (by simp [rowVal, hnlj, Value.ownBlock])
        exact ⟨this.1, hkp hnlj, this.2⟩
    | own id =>
      obtain ⟨o, ho', hv⟩ := hsrc
      rw [hv] at hk; cases hk
      exact ⟨(h.obj _ _ ho').2.1, (h.obj _ _ ho').2.2, h.lt ho'⟩
  -- a block that is not the source's stands
  have stands : ∀ k, k < w.heap.size → v.ownBlock ≠ some k → w'.heap[k]? = w.heap[k]? := fun k hk hne => hg.block k hk (fun e => hne e.symm)
  have hkept : Kept base w w' := by
    refine ⟨⟨hg.os, hg.tape, hg.output, hg.size, fun k hk => stands k (Nat.lt_of_lt_of_le hk (Nat.le_trans base.le hz)) fun e => ?_⟩, fun k hk hp => stands k hk fun e => (hsk k e).2.1 hp⟩
    have := (hsk k e).1; omega
  -- the blocks of what is left are not the source's
  have ownNe : ∀ id o, (H.del s).obj? id = some o → v.ownBlock ≠ some (κ.o id) := by
    intro id o hi0 hcon
    obtain ⟨hi, hne⟩ := Heap.del_obj hi0
    clear hi0
    cases s with
    | nil => rw [hsrc] at hcon; cases hcon
    | row j =>
      obtain ⟨c, pat, E, ha, hv⟩ := hsrc
      rcases hv with hv | ⟨hnlj, hv⟩
      · rw [hv] at hcon; cases hcon
      · rw [hv] at hcon; simp at hcon
        exact h.sep j c pat _ id o ha hi (.inr ⟨rfl, hnlj⟩) hcon
    | own id' =>
      obtain ⟨o', ho', hv⟩ := hsrc
      rw [hv] at hcon; simp at hcon
      exact hne id' rfl (h.inj _ _ _ _ hi ho' hcon.symm)
  have arrNe : ∀ j c pat o, (H.del s).arr? j = some (c, pat, o) → (ρ.a c ≠ [] ∧ pat ≠ []) ∨ (o.isSome = true ∧ ρ.nl j = false) → v.ownBlock ≠ some (κ.ab j) := by
    intro j c pat o ha0 hex hcon
    obtain ⟨ha, hne⟩ := Heap.del_arr ha0
    clear ha0
    cases s with
    | nil => rw [hsrc] at hcon; cases hcon
    | row i =>
      obtain ⟨c', pat', E', ha', hv⟩ := hsrc
      rcases hv with hv | ⟨hnlj, hv⟩
      · rw [hv] at hcon; cases hcon
      · rw [hv] at hcon; simp at hcon
        exact h.rsep i c' pat' E' j c pat o ha' ha (fun e => hne i rfl e.symm) hnlj hex hcon
    | own id' =>
      obtain ⟨o', ho', hv⟩ := hsrc
      rw [hv] at hcon; simp at hcon
      exact h.sep j c pat o id' o' ha ho' hex hcon.symm
  -- the heap that is left, in the new world
  have hF : (H.del s).Free (one n) := ⟨fun id o hi => hf.obj id o (Heap.del_obj hi).1, fun j c pat o ha => hf.arr j c pat o (Heap.del_arr ha).1⟩
  have hleft : HeapOk ρ κ base (H.del s) w' := (h.sub (fun x y g => (Heap.del_obj g).1) (fun x y g => (Heap.del_arr g).1)).stands
    (fun id o hi => stands _ (h.lt (Heap.del_obj hi).1) (ownNe id o hi)) (fun j c pat o ha hex => stands _ (h.arrlt (Heap.del_arr ha).1 hex) (arrNe j c pat o ha hex))
  have hleft' := hleft.kbut hF K
  -- the new row's block parts from all others
  have newNe : ∀ k, k < w.heap.size → v.ownBlock ≠ some k → ρ.nl n = false → b ≠ k := by
    intro k hk hne hn e
    subst e
    have hvb : v'.ownBlock = some b := by rw [hv', hn]; rfl
    rcases hfr with hfr | hfr
    · rw [hvb] at hfr; exact hne hfr.symm
    · rw [hvb] at hfr; simp at hfr; omega
  have key : ∀ j c p o, Heap.arr? (.arr n n pat (some E) :: H.del s) j = some (c, p, o) → (j = n ∧ c = n ∧ p = pat ∧ o = some E) ∨ (j ≠ n ∧ (H.del s).arr? j = some (c, p, o)) := by
    intro j c p o ha
    rw [arr?_cons] at ha
    split at ha
    · rename_i e; cases ha; exact .inl ⟨e, rfl, rfl, rfl⟩
    · rename_i e; exact .inr ⟨e, ha⟩
  have keyo : ∀ id, Heap.obj? (.arr n n pat (some E) :: H.del s) id = (H.del s).obj? id := fun id => rfl
  refine ⟨hkept, κ.setA n b cap, K, by rw [rowSV_den ho]; exact hval, ?_⟩
  -- the new row's part of sep and rsep: what is there is not empty, so it is not nil
  have nn : (ρ.a n ≠ [] ∧ pat ≠ []) ∨ ((some E : Option TypeId).isSome = true ∧ ρ.nl n = false) → ρ.nl n = false := by
    intro hx
    rcases hx with ⟨hx, _⟩ | ⟨_, hx⟩
    · cases hn : ρ.nl n
      · rfl
      · have := hnl.2 hn
        rw [this] at hown
        rcases hown.2 with ⟨_, e2⟩ | ⟨g, cap, cur, e, _⟩
        · exact absurd (List.eq_nil_of_length_eq_zero e2) hx
        · simp at e
    · exact hx
  have lt_of_arr : ∀ j c p o, (H.del s).arr? j = some (c, p, o) → (ρ.a c ≠ [] ∧ p ≠ []) ∨ (o.isSome = true ∧ ρ.nl j = false) → κ.ab j < w.heap.size := fun j c p o ha hex => h.arrlt (Heap.del_arr ha).1 hex
  constructor
  · intro id o hi; rw [keyo] at hi; exact hleft'.obj id o hi
  · intro id o id' o' hi hi'; rw [keyo] at hi hi'; exact hleft'.inj id o id' o' hi hi'
  · intro j c p o ha0
    rcases key j c p o ha0 with ⟨e1, e2, e3, e4⟩ | ⟨hj, ha⟩
    · subst e1 e2 e3 e4
      refine ⟨fun x f r k hx hk => ?_, fun hn => ?_⟩
      · have hne : ρ.nl c = false := nn (.inl ⟨fun e => by rw [e] at hx; simp at hx, hpat⟩)
        have hcell := hown.cells (g := b) (by rw [hv', hne]; rfl) (x * p.length + f) _ (arrCells_get p (ρ.a c) x f r k hx hk)
        rw [hb, ho, Nat.zero_add]
        rw [Addr.add_mid, Nat.zero_add] at hcell
        exact hcell
      · have := hnl.2 hn
        rw [this] at hown
        rcases hown.2 with ⟨_, e2⟩ | ⟨g, cap, cur, e, _⟩
        · exact List.eq_nil_of_length_eq_zero e2
        · simp at e
    · exact hleft'.arr j c p o ha
  · intro j c p o id ob ha0 hi hex
    rw [keyo] at hi
    have hid := (hf.obj id ob (Heap.del_obj hi).1).1
    rcases key j c p o ha0 with ⟨e1, e2, e3, e4⟩ | ⟨hj, ha⟩
    · subst e1 e2 e3 e4
      rw [hb, K.o id hid]
      exact newNe _ (h.lt (Heap.del_obj hi).1) (ownNe id ob hi) (nn hex)
    · exact hleft'.sep j c p o id ob ha hi hex
  · intro j c p E' ha0
    rcases key j c p _ ha0 with ⟨e1, e2, e3, he⟩ | ⟨hj, ha⟩
    · subst e1 e2 e3; cases he
      refine ⟨ho, ?_, fun hn => ?_⟩
      · rw [← hval]; exact hown
      · rw [hb]
        have hvb : v'.ownBlock = some b := by rw [hv', hn]; rfl
        rcases hfr with hfr | hfr
        · rw [hvb] at hfr; exact (hsk b hfr.symm).2.1
        · rw [hvb] at hfr; simp at hfr; rw [hfr]; exact (base.new hz).2
    · exact hleft'.row j c p E' ha
  · intro j c p E' j' c' p' o' ha0 ha0' hne hn hex
    rcases key j c p _ ha0 with ⟨e1, e2, e3, he⟩ | ⟨hj, ha⟩ <;> rcases key j' c' p' o' ha0' with ⟨g1, g2, g3, g4⟩ | ⟨hj', ha'⟩
    · exact absurd (e1.trans g1.symm) hne
    · subst e1
      rw [hb, K.ab j' (hF.arr _ _ _ _ ha')]
      exact newNe _ (lt_of_arr _ _ _ _ ha' hex) (arrNe j' c' p' o' ha' hex) hn
    · subst g1 g2 g3 g4
      rw [hb, K.ab j (hF.arr _ _ _ _ ha)]
      exact (newNe _ (lt_of_arr _ _ _ _ ha (.inr ⟨rfl, hn⟩)) (arrNe j c p _ ha (.inr ⟨rfl, hn⟩)) (nn hex)).symm
    · exact hleft'.rsep j c p E' j' c' p' o' ha ha' hne hn hex

/-! ### a row that turns where it lies -/
def Heap.turnA (H : Heap) (j n : Nat) : Heap := match H with
  | [] => []
  | .arr i c p o :: H => bif Nat.beq i j then .arr i n p o :: Heap.turnA H j n else .arr i c p o :: Heap.turnA H j n
  | .obj i o :: H => .obj i o :: Heap.turnA H j n
theorem Heap.turnA_obj (H : Heap) (j n x : Nat) : (H.turnA j n).obj? x = H.obj? x := by
  induction H with
  | nil => rfl
  | cons e H ih =>
    cases e with
    | obj i o => simp only [Heap.turnA, Heap.obj?, ih]
    | arr i c p o => simp only [Heap.turnA]; cases Nat.beq i j <;> simp only [cond_true, cond_false, Heap.obj?, ih]
theorem Heap.turnA_arr (H : Heap) (j n x : Nat) : (H.turnA j n).arr? x = if x = j then (H.arr? x).map fun y => (n, y.2) else H.arr? x := by
  induction H with
  | nil => simp [Heap.turnA, Heap.arr?]
  | cons e H ih =>
    cases e with
    | obj i o => simp only [Heap.turnA, Heap.arr?, ih]
    | arr i c p o =>
      simp only [Heap.turnA]
      cases hq : Nat.beq i j
      · simp only [cond_false, Heap.arr?]
        cases hx : Nat.beq i x
        · simp only [cond_false]; exact ih
        · rw [Nat.beq_eq] at hx; subst hx
          rw [if_neg (beq_false hq)]; rfl
      · rw [Nat.beq_eq] at hq; subst hq
        simp only [cond_true, Heap.arr?, ih]
        cases hx : Nat.beq i x
        · rfl
        · rw [Nat.beq_eq] at hx; subst hx; simp
theorem foldset_eq (off : Nat) : ∀ (us : List Value) (i : Nat) (C : List Value), off + i + us.length ≤ C.length →
    (us.zipIdx i).foldl (fun (a : Array Value) (x : Value × Nat) => a.setIfInBounds (off + x.2) x.1) C.toArray = (C.take (off + i) ++ us ++ C.drop (off + i + us.length)).toArray
  | [], i, C, _ => by simp
  | u :: us, i, C, h => by
    simp only [List.length_cons] at h
    simp only [List.zipIdx_cons, List.foldl_cons]
    have e : C.toArray.setIfInBounds (off + i) u = (C.set (off + i) u).toArray := by simp
    rw [e, foldset_eq off us (i + 1) (C.set (off + i) u) (by simp; omega)]
    congr 1
    apply List.ext_getElem?
    intro p
    simp only [List.getElem?_append, List.length_append, List.length_take, List.getElem?_take, List.getElem?_drop, List.length_set, List.getElem?_set, List.length_cons, List.getElem?_cons]
    have m1 : min (off + (i + 1)) C.length = off + i + 1 := by omega
    have m2 : min (off + i) C.length = off + i := by omega
    rw [m1, m2]
    by_cases h1 : p < off + i
    · simp only [show p < off + i + 1 + us.length by omega, show p < off + i + 1 by omega, show p < off + (i + 1) by omega, show ¬ off + i = p by omega, h1, show p < off + i + (us.length + 1) by omega, if_true, if_false]
    · by_cases h2 : p = off + i
      · subst h2
        simp only [show off + i < off + i + 1 + us.length by omega, show off + i < off + i + 1 by omega, show off + i < off + (i + 1) by omega, Nat.lt_irrefl, show off + i < off + i + (us.length + 1) by omega, Nat.sub_self, if_true, if_false, show off + i < C.length by omega]
      · by_cases h3 : p < off + i + 1 + us.length
        · simp only [h3, show ¬ p < off + i + 1 by omega, h1, show p < off + i + (us.length + 1) by omega, show ¬ p - (off + i) = 0 by omega, if_true, if_false]
          congr 1 <;> omega
        · simp only [h3, show ¬ p < off + i + (us.length + 1) by omega, if_false]
          rw [if_neg (by omega)]
          congr 1; omega
/-- A ROW THAT TURNS: cells are written within its length; its name and place stay. -/
theorem HeapOk.turnRow {ρ : Env} {κ : Kap} {base : Bk} {H : Heap} {w : World} (h : HeapOk ρ κ base H w) {j c : Nat} {pat : List CK} {E : TypeId} (ha : H.arr? j = some (c, pat, some E)) {n o : Nat} {vs : List Value}
    (hle : o + vs.length ≤ (arrCells pat (ρ.a c)).length) (hn : arrCells pat (ρ.a n) = (arrCells pat (ρ.a c)).take o ++ vs ++ (arrCells pat (ρ.a c)).drop (o + vs.length)) (hl : (ρ.a n).length = (ρ.a c).length) :
    HeapOk ρ κ base (H.turnA j n) (w.setCells (κ.ab j) o vs) ∧ Kept base w (w.setCells (κ.ab j) o vs) := by
  obtain ⟨r1, r2, r3⟩ := h.row j c pat E ha
  have hnl := (h.arr j c pat _ ha).2
  have key : ∀ x c' p q, (H.turnA j n).arr? x = some (c', p, q) → (x = j ∧ c' = n ∧ p = pat ∧ q = some E) ∨ (x ≠ j ∧ H.arr? x = some (c', p, q)) := by
    intro x c' p q hx
    rw [Heap.turnA_arr] at hx
    split at hx
    · rename_i e; subst e; rw [ha] at hx; cases hx; exact .inl ⟨rfl, rfl, rfl, rfl⟩
    · rename_i e; exact .inr ⟨e, hx⟩
  have exj : ∀ p' : List CK, ((ρ.a n ≠ [] ∧ p' ≠ []) ∨ ((some E : Option TypeId).isSome = true ∧ ρ.nl j = false)) → ((ρ.a c ≠ [] ∧ p' ≠ []) ∨ ((some E : Option TypeId).isSome = true ∧ ρ.nl j = false)) := fun p' hx => by
    rcases hx with ⟨h1, h2⟩ | h1
    · refine .inl ⟨fun e => h1 ?_, h2⟩
      rw [e] at hl; exact List.eq_nil_of_length_eq_zero hl
    · exact .inr h1
  -- the parts that are the same whichever way it turned
  have main : ∀ w' : World, (∀ k : Nat, k ≠ κ.ab j → w'.heap[k]? = w.heap[k]?) → (∀ k : Nat, ρ.nl j = true → w'.heap[k]? = w.heap[k]?) → w'.ownsRow base.b E pat.length (rowVal ρ κ j (ρ.a n).length) (ρ.a n).length (arrCells pat (ρ.a n)) → HeapOk ρ κ base (H.turnA j n) w' := by
    intro w' hst hst0 hown
    have stands : ∀ k : Nat, (ρ.nl j = false → k ≠ κ.ab j) → w'.heap[k]? = w.heap[k]? := fun k hk => by
      cases hq : ρ.nl j
      · exact hst k (hk hq)
      · exact hst0 k hq
    have so : ∀ id o, H.obj? id = some o → w'.heap[κ.o id]? = w.heap[κ.o id]? := fun id o ho => stands _ fun hq => (h.sep j c pat _ id o ha ho (.inr ⟨rfl, hq⟩)).symm
    have sa : ∀ x c' p q, x ≠ j → H.arr? x = some (c', p, q) → (ρ.a c' ≠ [] ∧ p ≠ []) ∨ (q.isSome = true ∧ ρ.nl x = false) → w'.heap[κ.ab x]? = w.heap[κ.ab x]? :=
      fun x c' p q hx hxa hex => stands _ fun hq => (h.rsep j c pat E x c' p q ha hxa hx.symm hq hex).symm
    -- without the row that turned
    have hrest : HeapOk ρ κ base (H.delA j) w' := (h.sub (fun x y g => by rw [Heap.delA_obj] at g; exact g) (fun x y g => by
        rw [Heap.delA_arr] at g
        split at g
        · cases g
        · exact g)).stands (fun id o ho => by rw [Heap.delA_obj] at ho; exact so id o ho) (fun x c' p q hx hex => by
        rw [Heap.delA_arr] at hx
        split at hx
        · cases hx
        · rename_i hne; exact sa x c' p q hne hx hex)
    have other : ∀ x c' p q, x ≠ j → H.arr? x = some (c', p, q) → (H.delA j).arr? x = some (c', p, q) := fun x c' p q hx hxa => by rw [Heap.delA_arr, if_neg hx]; exact hxa
    constructor
    · intro id o ho; rw [Heap.turnA_obj] at ho; exact hrest.obj id o (by rw [Heap.delA_obj]; exact ho)
    · intro id o id' o' ho ho'; rw [Heap.turnA_obj] at ho ho'; exact h.inj id o id' o' ho ho'
    · intro x c' p q hx
      rcases key x c' p q hx with ⟨rfl, rfl, rfl, rfl⟩ | ⟨hne, hxa⟩
      · refine ⟨fun y f r k hy hk => ?_, fun hq => ?_⟩
        · have hq : ρ.nl x = false := by
            cases hq : ρ.nl x
            · rfl
            · have : ρ.a c' = [] := List.eq_nil_of_length_eq_zero (by rw [hl, hnl hq]; rfl)
              rw [this] at hy; simp at hy
          have hcell := hown.cells (g := κ.ab x) (by simp [rowVal, hq, Value.ownBlock]) (y * p.length + f) _ (arrCells_get p (ρ.a c') y f r k hy hk)
          rw [Addr.add_mid, Nat.zero_add] at hcell
          rw [r1, Nat.zero_add]; exact hcell
        · exact List.eq_nil_of_length_eq_zero (by rw [hl, hnl hq]; rfl)
      · exact hrest.arr x c' p q (other x c' p q hne hxa)
    · intro x c' p q id ob hx ho hex
      rw [Heap.turnA_obj] at ho
      rcases key x c' p q hx with ⟨rfl, rfl, rfl, rfl⟩ | ⟨hne, hxa⟩
      · exact h.sep x c p _ id ob ha ho (exj _ hex)
      · exact h.sep x c' p q id ob hxa ho hex
    · intro x c' p E' hx
      rcases key x c' p _ hx with ⟨rfl, rfl, rfl, he⟩ | ⟨hne, hxa⟩
      · cases he; exact ⟨r1, hown, r3⟩
      · exact hrest.row x c' p E' (other x c' p _ hne hxa)
    · intro x c' p E' x' c'' p' q' hx hx' hne hq hex
      rcases key x c' p _ hx with ⟨rfl, rfl, rfl, he⟩ | ⟨hn1, hxa⟩ <;> rcases key x' c'' p' q' hx' with ⟨rfl, rfl, rfl, rfl⟩ | ⟨hn2, hxa'⟩
      · exact absurd rfl hne
      · cases he; exact h.rsep _ _ _ _ _ _ _ _ ha hxa' hne hq hex
      · exact h.rsep _ _ _ _ _ _ _ _ hxa ha hne hq (exj _ hex)
      · exact h.rsep _ _ _ _ _ _ _ _ hxa hxa' hne hq hex
  cases hq : ρ.nl j
  · -- it lies in a block of the call's own
    have hown := r2
    rcases r2.2 with ⟨e1, _⟩ | ⟨g, cap, cur, hv, hbg, hg, hnc, hcm, hcs, htake⟩
    · simp [rowVal, hq] at e1
    · have hgb : κ.ab j = g ∧ cap = κ.cap j := by simp [rowVal, hq] at hv; exact ⟨hv.1, hv.2.symm⟩
      obtain ⟨hgb, hcap⟩ := hgb
      have hg' : w.heap[κ.ab j]? = some (.cells cur E (0, 0)) := by rw [hgb]; exact hg
      obtain ⟨k1, k2, k3, k4, k5, k6⟩ := setCells_heap (κ.ab j) vs o w cur E hg'
      have hlen : (arrCells pat (ρ.a c)).length = (ρ.a c).length * pat.length := arrCells_length _ _
      have hcur : cur.toList.length = cap * pat.length := by simpa using hcs
      have hroom : (ρ.a c).length * pat.length ≤ cap * pat.length := Nat.mul_le_mul_right _ hnc
      have hfold := foldset_eq o vs 0 cur.toList (by omega)
      simp only [Array.toArray_toList] at hfold
      rw [hfold] at k1
      simp only [Nat.add_zero] at k1
      refine ⟨main _ k3 (fun k hh => by rw [hq] at hh; cases hh) ⟨by rw [arrCells_length], .inr ⟨κ.ab j, κ.cap j, _, by simp [rowVal, hq], by rw [hgb]; exact hbg, k1, by rw [hl, ← hcap]; exact hnc, by rw [← hcap]; exact hcm, ?_, ?_⟩⟩, ?_⟩
      · simp only [List.size_toArray, List.length_append, List.length_take, List.length_drop, ← hcap]; omega
      · simp only [hl, hn]
        rw [← htake]
        apply List.ext_getElem?
        intro p
        simp only [List.getElem?_take, List.getElem?_append, List.length_append, List.length_take, List.getElem?_drop, List.length_drop]
        have m0 : min o cur.toList.length = o := by omega
        have m1 : min ((ρ.a c).length * pat.length) cur.toList.length = (ρ.a c).length * pat.length := by omega
        have m2 : min o ((ρ.a c).length * pat.length) = o := by omega
        rw [m0, m1, m2]
        by_cases h1 : p < o
        · simp only [h1, show p < o + vs.length by omega, show p < (ρ.a c).length * pat.length by omega, if_true]
        · by_cases h2 : p < o + vs.length
          · simp only [h1, h2, show p < (ρ.a c).length * pat.length by omega, if_true, if_false]
          · simp only [h2, if_false]
            by_cases h3 : p < (ρ.a c).length * pat.length
            · rw [if_pos h3, if_pos (by omega)]
            · rw [if_neg h3, if_neg (by omega)]
      · have hge : base.b ≤ κ.ab j := by rw [hgb]; exact hbg
        exact ⟨⟨k4, k5, k6, by rw [k2]; exact Nat.le_refl _, fun k hk => k3 k (by omega)⟩, fun k hk hp => k3 k (fun e => r3 hq (e ▸ hp))⟩
  · -- nothing is there
    have hc := hnl hq
    have hvs : vs = [] := by
      rw [hc] at hle; simp [arrCells] at hle; exact hle.2
    subst hvs
    have hn0 : ρ.a n = [] := List.eq_nil_of_length_eq_zero (by rw [hl, hc]; rfl)
    refine ⟨main _ (fun _ _ => rfl) (fun _ _ => rfl) ?_, Kept.refl _ _⟩
    rw [hn0]; rw [hc] at r2; exact r2
end Go.SX
