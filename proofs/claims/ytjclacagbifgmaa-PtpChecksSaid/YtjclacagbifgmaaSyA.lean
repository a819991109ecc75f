/- SyA: symbolic integers, booleans and values for a symbolic execution of the model's code. Nothing of a program stands here. -/
import Derived.WalkKit
import Derived.Deep.MidRow
set_option linter.unusedSimpArgs false
set_option linter.unusedVariables false
set_option linter.unusedSectionVars false
noncomputable section
namespace Go.SX
open Go

/-- A datum: a number, a bool, a value of one cell, the rows of an array, whether a slice is nil. -/
inductive Dat where
  | i (n : Int)
  | b (b : Bool)
  | v (v : { v : Value // v.oneCell' = true })
  | l (rows : List (List Dat))
  | n (b : Bool)
def Dat.int : Dat → Int
  | .i x => x
  | _ => 0
def Dat.bool : Dat → Bool
  | .b x => x
  | _ => false
def Dat.val : Dat → Value
  | .v x => x.1
  | _ => .nilFunc
theorem Dat.val_one (d : Dat) : d.val.oneCell' = true := by
  cases d <;> first | rfl | (rename_i x; exact x.2)
/-- The data environment: what the symbolic variables stand for. -/
structure Env where
  i : Nat → Int
  b : Nat → Bool
  v : Nat → Value
  a : Nat → List (List Dat)
  nl : Nat → Bool
  one : ∀ j, (v j).oneCell' = true
/-- what stands in row x, place f of array c -/
def Env.at (ρ : Env) (c f : Nat) (x : Int) : Dat := ((ρ.a c).getD x.toNat []).getD f (.i 0)

/-- Where the symbolic blocks lie. -/
structure Kap where
  o : Nat → Nat
  ab : Nat → Nat
  ao : Nat → Nat
  cap : Nat → Nat

/-- What a binary operation on integers of kind k gives. -/
def bi (o : BinOp) (k : IntKind) (a b : Int) : Int :=
  match o with
  | .add => k.wrap (a + b)
  | .sub => k.wrap (a - b)
  | .mul => k.wrap (a * b)
  | .quo => k.wrap (a.tdiv b)
  | .rem => a.tmod b
  | .and | .or | .xor | .andNot => bits o k a b
  | .shl => k.wrap (a * 2 ^ (min b.toNat k.bits))
  | .shr => a.fdiv (2 ^ (min b.toNat k.bits))
  | _ => 0
/-- What a comparison of integers gives. -/
def bc (o : BinOp) (a b : Int) : Bool :=
  match o with
  | .eql => a == b
  | .neq => a != b
  | .lss => decide (a < b)
  | .leq => decide (a ≤ b)
  | .gtr => decide (b < a)
  | .geq => decide (b ≤ a)
  | _ => false

inductive IE where
  | v (i : Nat)
  | lit (n : Int)
  | bin (o : BinOp) (k : IntKind) (a b : IE)
  | conv (k : IntKind) (a : IE)
  | sel (c f : Nat) (x : IE)
  | alen (c : Nat)
  | nat (a : IE)
  | plus (a b : IE)
  | minus (a b : IE)
  | sw (o : BinOp) (a b c d : IE)
 

inductive BE where
  | v (i : Nat)
  | lit (b : Bool)
  | cmp (o : BinOp) (a b : IE)
  | not (a : BE)
  | and (a b : BE)
  | or (a b : BE)
  | eq (a b : BE)
  | ite (c a b : BE)
  | sel (c f : Nat) (x : IE)
  | nl (j : Nat)
 

def IE.den (ρ : Env) : IE → Int
  | .v i => ρ.i i
  | .lit n => n
  | .bin o k a b => bi o k (a.den ρ) (b.den ρ)
  | .conv k a => k.wrap (a.den ρ)
  | .sel c f x => (ρ.at c f (x.den ρ)).int
  | .alen c => ((ρ.a c).length : Int)
  | .nat a => ((a.den ρ).toNat : Int)
  | .plus a b => a.den ρ + b.den ρ
  | .minus a b => a.den ρ - b.den ρ
  | .sw o a b c d => if bc o (a.den ρ) (b.den ρ) = true then c.den ρ else d.den ρ

def BE.den (ρ : Env) : BE → Bool
  | .v i => ρ.b i
  | .lit b => b
  | .cmp o a b => bc o (a.den ρ) (b.den ρ)
  | .not a => !(a.den ρ)
  | .and a b => a.den ρ && b.den ρ
  | .or a b => a.den ρ || b.den ρ
  | .eq a b => a.den ρ == b.den ρ
  | .ite c a b => if c.den ρ then a.den ρ else b.den ρ
  | .sel c f x => (ρ.at c f (x.den ρ)).bool
  | .nl j => ρ.nl j

/-! ### equality by looking, quick in the kernel -/
def iq : Int → Int → Bool
  | .ofNat a, .ofNat b => Nat.beq a b
  | .negSucc a, .negSucc b => Nat.beq a b
  | _, _ => false
theorem iq_eq {a b : Int} (h : iq a b = true) : a = b := by
  cases a <;> cases b <;> simp [iq] at h <;> simp [h]
def kn : IntKind → Nat
  | .i8 => 0 | .i16 => 1 | .i32 => 2 | .i64 => 3 | .u8 => 4 | .u16 => 5 | .u32 => 6 | .u64 => 7
theorem kn_eq {a b : IntKind} (h : Nat.beq (kn a) (kn b) = true) : a = b := by
  cases a <;> cases b <;> first | rfl | (simp [kn] at h)
def on : BinOp → Nat
  | .add => 0 | .sub => 1 | .mul => 2 | .quo => 3 | .rem => 4 | .and => 5 | .or => 6 | .xor => 7 | .shl => 8 | .shr => 9 | .andNot => 10
  | .eql => 11 | .neq => 12 | .lss => 13 | .leq => 14 | .gtr => 15 | .geq => 16
theorem on_eq {a b : BinOp} (h : Nat.beq (on a) (on b) = true) : a = b := by
  cases a <;> cases b <;> first | rfl | (simp [on] at h)
def IE.eqb : IE → IE → Bool
  | .v i, .v j => Nat.beq i j
  | .lit a, .lit b => iq a b
  | .bin o k a b, .bin o' k' a' b' => Nat.beq (on o) (on o') && Nat.beq (kn k) (kn k') && a.eqb a' && b.eqb b'
  | .conv k a, .conv k' a' => Nat.beq (kn k) (kn k') && a.eqb a'
  | .sel j f x, .sel j' f' x' => Nat.beq j j' && Nat.beq f f' && x.eqb x'
  | .alen c, .alen d => Nat.beq c d
  | .nat a, .nat b => a.eqb b
  | .plus a b, .plus a' b' => a.eqb a' && b.eqb b'
  | .minus a b, .minus a' b' => a.eqb a' && b.eqb b'
  | .sw o a b c d, .sw o' a' b' c' d' => Nat.beq (on o) (on o') && a.eqb a' && b.eqb b' && c.eqb c' && d.eqb d'
  | _, _ => false
theorem IE.eqb_eq : ∀ {a b : IE}, a.eqb b = true → a = b := by
  intro a
  induction a with
  | v i => intro b h; cases b <;> simp [IE.eqb] at h; simp [h]
  | lit n => intro b h; cases b <;> simp [IE.eqb] at h; rw [iq_eq h]
  | bin o k a b iha ihb =>
    intro c h
    cases c <;> simp only [IE.eqb, Bool.and_eq_true, Bool.false_eq_true] at h
    obtain ⟨⟨⟨h1, h2⟩, h3⟩, h4⟩ := h
    rw [on_eq h1, kn_eq h2, iha h3, ihb h4]
  | conv k a ih =>
    intro c h
    cases c <;> simp only [IE.eqb, Bool.and_eq_true, Bool.false_eq_true] at h
    rw [kn_eq h.1, ih h.2]
  | sel j f x ih =>
    intro c h
    cases c <;> simp only [IE.eqb, Bool.and_eq_true, Bool.false_eq_true, Nat.beq_eq] at h
    rw [h.1.1, h.1.2, ih h.2]
  | alen c => intro b h; cases b <;> simp only [IE.eqb, Bool.false_eq_true, Nat.beq_eq] at h; rw [h]
  | nat a ih => intro b h; cases b <;> simp only [IE.eqb, Bool.false_eq_true] at h; rw [ih h]
  | plus a b iha ihb => intro c h; cases c <;> simp only [IE.eqb, Bool.and_eq_true, Bool.false_eq_true] at h; rw [iha h.1, ihb h.2]
  | minus a b iha ihb => intro c h; cases c <;> simp only [IE.eqb, Bool.and_eq_true, Bool.false_eq_true] at h; rw [iha h.1, ihb h.2]
  | sw o a b c d iha ihb ihc ihd => intro e h; cases e <;> simp only [IE.eqb, Bool.and_eq_true, Bool.false_eq_true] at h; rw [on_eq h.1.1.1.1, iha h.1.1.1.2, ihb h.1.1.2, ihc h.1.2, ihd h.2]
def bq : Bool → Bool → Bool
  | true, true => true
  | false, false => true
  | _, _ => false
theorem bq_eq {a b : Bool} (h : bq a b = true) : a = b := by cases a <;> cases b <;> simp [bq] at h <;> rfl
def BE.eqb : BE → BE → Bool
  | .v i, .v j => Nat.beq i j
  | .lit a, .lit b => bq a b
  | .cmp o a b, .cmp o' a' b' => Nat.beq (on o) (on o') && a.eqb a' && b.eqb b'
  | .not a, .not b => a.eqb b
  | .and a b, .and a' b' => a.eqb a' && b.eqb b'
  | .or a b, .or a' b' => a.eqb a' && b.eqb b'
  | .eq a b, .eq a' b' => a.eqb a' && b.eqb b'
  | .ite c a b, .ite c' a' b' => c.eqb c' && a.eqb a' && b.eqb b'
  | .sel j f x, .sel j' f' x' => Nat.beq j j' && Nat.beq f f' && x.eqb x'
  | .nl j, .nl j' => Nat.beq j j'
  | _, _ => false
theorem BE.eqb_eq : ∀ {a b : BE}, a.eqb b = true → a = b := by
  intro a
  induction a with
  | v i => intro b h; cases b <;> simp [BE.eqb] at h; simp [h]
  | lit n => intro b h; cases b <;> simp only [BE.eqb, Bool.false_eq_true] at h; rw [bq_eq h]
  | cmp o a b =>
    intro c h
    cases c <;> simp only [BE.eqb, Bool.and_eq_true, Bool.false_eq_true] at h
    rw [on_eq h.1.1, IE.eqb_eq h.1.2, IE.eqb_eq h.2]
  | not a ih => intro c h; cases c <;> simp only [BE.eqb, Bool.false_eq_true] at h; rw [ih h]
  | and a b iha ihb => intro c h; cases c <;> simp only [BE.eqb, Bool.and_eq_true, Bool.false_eq_true] at h; rw [iha h.1, ihb h.2]
  | or a b iha ihb => intro c h; cases c <;> simp only [BE.eqb, Bool.and_eq_true, Bool.false_eq_true] at h; rw [iha h.1, ihb h.2]
  | eq a b iha ihb => intro c h; cases c <;> simp only [BE.eqb, Bool.and_eq_true, Bool.false_eq_true] at h; rw [iha h.1, ihb h.2]
  | ite c a b ihc iha ihb => intro c h; cases c <;> simp only [BE.eqb, Bool.and_eq_true, Bool.false_eq_true] at h; rw [ihc h.1.1, iha h.1.2, ihb h.2]
  | sel j f x =>
    intro c h
    cases c <;> simp only [BE.eqb, Bool.and_eq_true, Bool.false_eq_true, Nat.beq_eq] at h
    rw [h.1.1, h.1.2, IE.eqb_eq h.2]
  | nl j => intro c h; cases c <;> simp only [BE.eqb, Bool.false_eq_true, Nat.beq_eq] at h; rw [h]

/-! ### folding -/
/-- in the range of its kind, by a look at the numeral -/
def fits : IntKind → Int → Bool
  | .i8, .ofNat n => Nat.blt n 128 | .i8, .negSucc n => Nat.blt n 128
  | .i16, .ofNat n => Nat.blt n 32768 | .i16, .negSucc n => Nat.blt n 32768
  | .i32, .ofNat n => Nat.blt n 2147483648 | .i32, .negSucc n => Nat.blt n 2147483648
  | .i64, .ofNat n => Nat.blt n 9223372036854775808 | .i64, .negSucc n => Nat.blt n 9223372036854775808
  | .u8, .ofNat n => Nat.blt n 256 | .u16, .ofNat n => Nat.blt n 65536 | .u32, .ofNat n => Nat.blt n 4294967296 | .u64, .ofNat n => Nat.blt n 18446744073709551616
  | _, _ => false
theorem wrap_of_fits {k : IntKind} {n : Int} (h : fits k n = true) : k.wrap n = n := by
  cases k <;> cases n <;> simp [fits, Nat.blt_eq] at h <;> simp only [IntKind.wrap, IntKind.bits, IntKind.signed] <;> simp <;> (try split) <;> omega
def foldWrap (k : IntKind) (n : Int) : Int := bif fits k n then n else k.wrap n
theorem foldWrap_eq (k : IntKind) (n : Int) : foldWrap k n = k.wrap n := by
  unfold foldWrap
  cases h : fits k n
  · rfl
  · rw [wrap_of_fits h]; rfl
/-- 'bi' at two numerals -/
def biLit (o : BinOp) (k : IntKind) (a b : Int) : Int :=
  match o with
  | .add => foldWrap k (a + b)
  | .sub => foldWrap k (a - b)
  | .mul => foldWrap k (a * b)
  | .quo => foldWrap k (a.tdiv b)
  | o => bi o k a b
theorem biLit_eq (o : BinOp) (k : IntKind) (a b : Int) : biLit o k a b = bi o k a b := by
  cases o <;> simp only [biLit, bi, foldWrap_eq]
def mkBin (o : BinOp) (k : IntKind) : IE → IE → IE
  | .lit a, .lit b => .lit (biLit o k a b)
  | a, b => .bin o k a b
theorem mkBin_den (ρ : Env) (o : BinOp) (k : IntKind) (a b : IE) : (mkBin o k a b).den ρ = bi o k (a.den ρ) (b.den ρ) := by
  unfold mkBin; split <;> simp [IE.den, biLit_eq]
def mkConv (k : IntKind) : IE → IE
  | .lit a => .lit (foldWrap k a)
  | a => .conv k a
theorem mkConv_den (ρ : Env) (k : IntKind) (a : IE) : (mkConv k a).den ρ = k.wrap (a.den ρ) := by
  unfold mkConv; split <;> simp [IE.den, foldWrap_eq]
def mkNat : IE → IE
  | .lit (.ofNat n) => .lit (.ofNat n)
  | .lit (.negSucc _) => .lit 0
  | .nat a => .nat a
  | .alen c => .alen c
  | a => .nat a
theorem mkNat_den (ρ : Env) (a : IE) : (mkNat a).den ρ = ((a.den ρ).toNat : Int) := by
  unfold mkNat; split <;> simp [IE.den]
def mkPlus : IE → IE → IE
  | .lit a, .lit b => .lit (a + b)
  | .lit 0, b => b
  | a, .lit 0 => a
  | .plus a (.lit m), .lit n => .plus a (.lit (m + n))
  | a, b => .plus a b
theorem mkPlus_den (ρ : Env) (a b : IE) : (mkPlus a b).den ρ = a.den ρ + b.den ρ := by
  unfold mkPlus; split <;> simp [IE.den, Int.add_assoc]
def mkMinus : IE → IE → IE
  | .lit a, .lit b => .lit (a - b)
  | a, .lit 0 => a
  | .minus a (.lit m), .lit n => .minus a (.lit (m + n))
  | a, b => .minus a b
theorem mkMinus_den (ρ : Env) (a b : IE) : (mkMinus a b).den ρ = a.den ρ - b.den ρ := by
  unfold mkMinus; split <;> simp [IE.den]
  omega
/-- 'bc' at two numerals, quick in the kernel -/
def ble : Int → Int → Bool
  | .ofNat a, .ofNat b => Nat.ble a b
  | .negSucc a, .negSucc b => Nat.ble b a
  | .negSucc _, .ofNat _ => true
  | .ofNat _, .negSucc _ => false
theorem ble_eq (a b : Int) : ble a b = decide (a ≤ b) := by
  cases a <;> cases b <;> simp only [ble] <;> rw [Bool.eq_iff_iff] <;> simp <;> omega
theorem iq_beq (a b : Int) : iq a b = (a == b) := by
  cases h : iq a b
  · symm; rw [beq_eq_false_iff_ne]; intro e; subst e
    cases a <;> simp [iq] at h
  · rw [iq_eq h]; simp
def bcLit (o : BinOp) (a b : Int) : Bool :=
  match o with
  | .eql => iq a b
  | .neq => !(iq a b)
  | .lss => !(ble b a)
  | .leq => ble a b
  | .gtr => !(ble a b)
  | .geq => ble b a
  | _ => false
theorem bcLit_eq (o : BinOp) (a b : Int) : bcLit o a b = bc o a b := by
  cases o <;> simp only [bcLit, bc, iq_beq, ble_eq, bne] <;> rw [Bool.eq_iff_iff] <;> simp <;> omega
/-- a choice between numbers -/
def mkCs (o : BinOp) : IE → IE → IE → IE → IE
  | .lit a, .lit b, c, d => bif bcLit o a b then c else d
  | a, b, c, d => bif c.eqb d then c else .sw o a b c d
theorem mkCs_den (ρ : Env) (o : BinOp) (a b c d : IE) : (mkCs o a b c d).den ρ = if bc o (a.den ρ) (b.den ρ) = true then c.den ρ else d.den ρ := by
  unfold mkCs; split
  · rename_i m n
    rw [bcLit_eq]
    show (bif bc o m n then c else d).den ρ = if bc o m n = true then c.den ρ else d.den ρ
    cases bc o m n <;> rfl
  · cases h : c.eqb d
    · rfl
    · rw [IE.eqb_eq h]; simp
def mkSw (a b c d : IE) : IE := mkCs .eql a b c d
theorem mkSw_den (ρ : Env) (a b c d : IE) : (mkSw a b c d).den ρ = if a.den ρ = b.den ρ then c.den ρ else d.den ρ := by
  unfold mkSw; rw [mkCs_den]; simp [bc]
def mkCmp (o : BinOp) : IE → IE → BE
  | .lit a, .lit b => .lit (bcLit o a b)
  | a, b => .cmp o a b
theorem mkCmp_den (ρ : Env) (o : BinOp) (a b : IE) : (mkCmp o a b).den ρ = bc o (a.den ρ) (b.den ρ) := by
  unfold mkCmp; split <;> simp [BE.den, IE.den, bcLit_eq]
def mkNot : BE → BE
  | .lit b => .lit (!b)
  | .not a => a
  | a => .not a
theorem mkNot_den (ρ : Env) (a : BE) : (mkNot a).den ρ = !(a.den ρ) := by
  unfold mkNot; split <;> simp [BE.den]
def mkAnd : BE → BE → BE
  | .lit true, b => b
  | .lit false, _ => .lit false
  | a, .lit true => a
  | _, .lit false => .lit false
  | a, b => bif a.eqb b then a else bif (mkNot a).eqb b then .lit false else .and a b
theorem mkAnd_den (ρ : Env) (a b : BE) : (mkAnd a b).den ρ = (a.den ρ && b.den ρ) := by
  unfold mkAnd; split <;> (try simp [BE.den])
  cases h : a.eqb b
  · cases h2 : (mkNot a).eqb b
    · simp [BE.den]
    · have e := mkNot_den ρ a
      rw [BE.eqb_eq h2] at e
      simp [BE.den, e]
  · rw [BE.eqb_eq h]; simp
def mkOr : BE → BE → BE
  | .lit false, b => b
  | .lit true, _ => .lit true
  | a, .lit false => a
  | _, .lit true => .lit true
  | a, b => bif a.eqb b then a else bif (mkNot a).eqb b then .lit true else .or a b
theorem mkOr_den (ρ : Env) (a b : BE) : (mkOr a b).den ρ = (a.den ρ || b.den ρ) := by
  unfold mkOr; split <;> (try simp [BE.den])
  cases h : a.eqb b
  · cases h2 : (mkNot a).eqb b
    · simp [BE.den]
    · have e := mkNot_den ρ a
      rw [BE.eqb_eq h2] at e
      simp [BE.den, e]
  · rw [BE.eqb_eq h]; simp
def mkEq : BE → BE → BE
  | .lit true, b => b
  | .lit false, b => mkNot b
  | a, .lit true => a
  | a, .lit false => mkNot a
  | a, b => .eq a b
theorem mkEq_den (ρ : Env) (a b : BE) : (mkEq a b).den ρ = (a.den ρ == b.den ρ) := by
  unfold mkEq; split <;> simp [BE.den, mkNot_den]
def mkIte : BE → BE → BE → BE
  | .lit true, a, _ => a
  | .lit false, _, b => b
  | c, .lit true, b => mkOr c b
  | c, a, .lit false => mkAnd c a
  | c, a, b => .ite c a b
theorem mkIte_den (ρ : Env) (c a b : BE) : (mkIte c a b).den ρ = if c.den ρ then a.den ρ else b.den ρ := by
  unfold mkIte; split <;> simp [BE.den, mkOr_den, mkAnd_den] <;> (cases c.den ρ <;> simp)

/-! ### values -/
/-- a capacity: a number, or that of a row of the call's own -/
inductive CE where
  | e (e : IE)
  | k (j : Nat)
def CE.den (ρ : Env) (κ : Kap) : CE → Nat
  | .e x => (x.den ρ).toNat
  | .k j => κ.cap j
def CE.eqb : CE → CE → Bool
  | .e a, .e b => a.eqb b
  | .k i, .k j => Nat.beq i j
  | _, _ => false
theorem CE.eqb_eq {a b : CE} (h : a.eqb b = true) : a = b := by
  cases a <;> cases b <;> simp only [CE.eqb, Bool.false_eq_true, Nat.beq_eq] at h
  · rw [IE.eqb_eq h]
  · rw [h]
/-- the address of a slice -/
def slAddr (ρ : Env) (κ : Kap) (j s c : Nat) (x : Int) : Option Addr := if ρ.nl j then none else some ⟨κ.ab j, κ.ao j + x.toNat * s + c, none⟩
/-- one cell -/
inductive SC where
  | int (k : IntKind) (n : IE)
  | bool (b : BE)
  | ptr (id : Nat) (off : Nat)
  | aptr (j : Nat) (s c : Nat) (x : IE)
  | slice (j : Nat) (s c : Nat) (x len : IE) (cap : CE)
  | oslice (id off len cap : Nat)
  | lit (v : Value)
  | vx (i : Nat)
  | axs (c f : Nat) (x : IE)
  | fn (f : Fn) (first cap : List SC)
  | gslice (id off len k : Nat)
  | str (l : List IE)
  | strA (c : Nat) (x len : IE)
  | yld (l : Nat)
  | mref (id : Nat)
/-- the bytes of a string -/
def bytesOf (l : List Int) : Value := .string ⟨(l.map fun n => UInt8.ofNat n.toNat).toArray⟩
def bigCell (v : Value) : Value := if v.oneCell' then v else .nilFunc
mutual
def SC.den (ρ : Env) (κ : Kap) : SC → Value
  | .int k n => .int k (n.den ρ)
  | .bool b => .bool (b.den ρ)
  | .ptr id off => .pointer (some ⟨κ.o id, off, none⟩)
  | .aptr j s c x => .pointer (some ⟨κ.ab j, κ.ao j + (x.den ρ).toNat * s + c, none⟩)
  | .slice j s c x len cap => .slice (slAddr ρ κ j s c (x.den ρ)) (len.den ρ).toNat (cap.den ρ κ)
  | .oslice id off len cap => .slice (some ⟨κ.o id, off, none⟩) len cap
  | .lit v => bigCell v
  | .vx i => ρ.v i
  | .axs c f x => (ρ.at c f (x.den ρ)).val
  | .fn f first cap => .func f (SC.denL ρ κ first).toArray (SC.denL ρ κ cap).toArray
  | .gslice id off len k => .slice (some ⟨κ.o id, off, none⟩) len (κ.cap id - k)
  | .str l => bytesOf (l.map (IE.den ρ))
  | .strA c x len => bytesOf ((((ρ.a c).drop (x.den ρ).toNat).take (len.den ρ).toNat).map fun r => (r.getD 0 (.i 0)).int)
  | .yld l => .func (.yield (κ.o l)) #[] #[]
  | .mref id => .map (some (κ.o id))
def SC.denL (ρ : Env) (κ : Kap) : List SC → List Value
  | [] => []
  | s :: l => s.den ρ κ :: SC.denL ρ κ l
end
theorem SC.denL_eq (ρ : Env) (κ : Kap) (l : List SC) : SC.denL ρ κ l = l.map (SC.den ρ κ) := by
  induction l with
  | nil => rw [SC.denL]; rfl
  | cons s l ih => rw [SC.denL, ih]; rfl
theorem SC.den_one (ρ : Env) (κ : Kap) (s : SC) : (s.den ρ κ).oneCell' = true := by
  cases s <;> first | (simp only [SC.den]; rfl) | skip
  · simp only [SC.den, bigCell]; split <;> first | assumption | rfl
  · simp only [SC.den]; exact ρ.one _
  · simp only [SC.den]; exact Dat.val_one _
theorem Value.cells_one {v : Value} (h : v.oneCell' = true) : v.cells = #[v] := by cases v <;> first | rfl | cases h
/-- a cell, or a row of cells -/
inductive SA where
  | c (s : SC)
  | agg (l : List SC)
def SA.den (ρ : Env) (κ : Kap) : SA → Value
  | .c s => s.den ρ κ
  | .agg l => .agg (l.map (SC.den ρ κ)).toArray
def SA.cells : SA → List SC
  | .c s => [s]
  | .agg l => l
theorem SA.den_cells (ρ : Env) (κ : Kap) (s : SA) : (s.den ρ κ).cells = (s.cells.map (SC.den ρ κ)).toArray := by
  cases s with
  | c s => simp only [SA.den, SA.cells, Value.cells_one (SC.den_one ρ κ s)]; rfl
  | agg l => rfl
inductive SV where
  | a (s : SA)
  | tup (l : List SA)
  | ite (b : BE) (x y : SV)
  | any
def SV.isAny : SV → Bool
  | .any => true
  | _ => false
def SV.den (ρ : Env) (κ : Kap) : SV → Value
  | .a s => s.den ρ κ
  | .tup l => .tuple (l.map (SA.den ρ κ)).toArray
  | .ite b x y => if b.den ρ then x.den ρ κ else y.den ρ κ
  | .any => undef
abbrev SV.c (s : SC) : SV := .a (.c s)
abbrev SV.agg (l : List SC) : SV := .a (.agg l)
def sundef : SV := .tup []
theorem sundef_den (ρ : Env) (κ : Kap) : sundef.den ρ κ = undef := rfl
/-- what a value is where c holds -/
def SV.under (c : BE) : SV → SV
  | .ite b x y => bif b.eqb c then x else bif (mkNot b).eqb c then y else .ite b x y
  | s => s
theorem SV.under_den (ρ : Env) (κ : Kap) (c : BE) (s : SV) (h : c.den ρ = true) : (s.under c).den ρ κ = s.den ρ κ := by
  unfold SV.under
  split
  · rename_i b x y
    cases hb : b.eqb c
    · cases hn : (mkNot b).eqb c
      · rfl
      · have := mkNot_den ρ b
        rw [BE.eqb_eq hn, h] at this
        simp only [cond_true, cond_false, SV.den]
        cases hd : b.den ρ
        · rfl
        · rw [hd] at this; cases this
    · rw [BE.eqb_eq hb]; simp only [cond_true, SV.den, h, if_true]
  · rfl
/-- a value guarded by c -/
def SV.guard (c : BE) (s : SV) : SV :=
  match c with
  | .lit true => s
  | .lit false => sundef
  | c => .ite c s sundef
theorem SV.guard_den (ρ : Env) (κ : Kap) (c : BE) (s : SV) : (s.guard c).den ρ κ = if c.den ρ then s.den ρ κ else undef := by
  unfold SV.guard; split <;> simp [BE.den, SV.den, sundef_den]
/-- a choice between two values -/
def SV.pick (c : BE) (x y : SV) : SV :=
  match x.under c, y.under (mkNot c) with
  | .a (.c (.bool p)), .a (.c (.bool q)) => .a (.c (.bool (mkIte c p q)))
  | x, y => match c with
    | .lit true => x
    | .lit false => y
    | c => .ite c x y
theorem SV.pick_den (ρ : Env) (κ : Kap) (c : BE) (x y : SV) : (SV.pick c x y).den ρ κ = if c.den ρ then x.den ρ κ else y.den ρ κ := by
  have hx : c.den ρ = true → (x.under c).den ρ κ = x.den ρ κ := SV.under_den ρ κ c x
  have hy : c.den ρ = false → (y.under (mkNot c)).den ρ κ = y.den ρ κ := fun h => SV.under_den ρ κ _ y (by rw [mkNot_den, h]; rfl)
  unfold SV.pick
  cases hc : c.den ρ
  · rw [if_neg (by simp), ← hy hc]
    split
    · rename_i p q h1 h2
      rw [h2]; simp [SV.den, SA.den, SC.den, mkIte_den, hc]
    · split <;> simp_all [SV.den, BE.den]
  · rw [if_pos rfl, ← hx hc]
    split
    · rename_i p q h1 h2
      rw [h1]; simp [SV.den, SA.den, SC.den, mkIte_den, hc]
    · split <;> simp_all [SV.den, BE.den]

/-! ### the frame's slots: a tree, so that looking and setting are quick -/
inductive Sl where
  | nil
  | node (v : SV) (l r : Sl)
def slotC : Sl → Nat → Option SV
  | .nil, _ => none
  | .node v _ _, 0 => some v
  | .node _ l r, m + 1 => bif Nat.beq (m % 2) 0 then slotC l (m / 2) else slotC r (m / 2)
noncomputable def slot (t : Sl) : Nat → Option SV := Sl.rec (motive := fun _ => Nat → Option SV) (fun _ => none)
  (fun v _ _ gl gr n => Nat.rec (motive := fun _ => Option SV) (some v) (fun m _ => Bool.rec (motive := fun _ => Option SV) (gr (m / 2)) (gl (m / 2)) (Nat.beq (m % 2) 0)) n) t
theorem slot_nil (n : Nat) : slot .nil n = none := rfl
theorem slot_zero (v : SV) (l r : Sl) : slot (.node v l r) 0 = some v := rfl
theorem slot_succ (v : SV) (l r : Sl) (m : Nat) : slot (.node v l r) (m + 1) = if m % 2 = 0 then slot l (m / 2) else slot r (m / 2) := by
  show Bool.rec (motive := fun _ => Option SV) (slot r (m / 2)) (slot l (m / 2)) (Nat.beq (m % 2) 0) = _
  cases h : Nat.beq (m % 2) 0
  · rw [if_neg fun e => by rw [e] at h; simp at h]
  · rw [if_pos (Nat.eq_of_beq_eq_true h)]
def setSlotC : Sl → Nat → SV → Sl
  | .nil, _, _ => .nil
  | .node _ l r, 0, x => .node x l r
  | .node v l r, m + 1, x => bif Nat.beq (m % 2) 0 then .node v (setSlotC l (m / 2) x) r else .node v l (setSlotC r (m / 2) x)
noncomputable def setSlot (t : Sl) : Nat → SV → Sl := Sl.rec (motive := fun _ => Nat → SV → Sl) (fun _ _ => .nil)
  (fun v l r sl sr n x => Nat.rec (motive := fun _ => Sl) (.node x l r) (fun m _ => Bool.rec (motive := fun _ => Sl) (.node v l (sr (m / 2) x)) (.node v (sl (m / 2) x) r) (Nat.beq (m % 2) 0)) n) t
theorem setSlot_nil (n : Nat) (x : SV) : setSlot .nil n x = .nil := rfl
theorem setSlot_zero (v x : SV) (l r : Sl) : setSlot (.node v l r) 0 x = .node x l r := rfl
theorem setSlot_succ (v x : SV) (l r : Sl) (m : Nat) : setSlot (.node v l r) (m + 1) x = if m % 2 = 0 then .node v (setSlot l (m / 2) x) r else .node v l (setSlot r (m / 2) x) := by
  show Bool.rec (motive := fun _ => Sl) (.node v l (setSlot r (m / 2) x)) (.node v (setSlot l (m / 2) x) r) (Nat.beq (m % 2) 0) = _
  cases h : Nat.beq (m % 2) 0
  · rw [if_neg fun e => by rw [e] at h; simp at h]
  · rw [if_pos (Nat.eq_of_beq_eq_true h)]
theorem half_ne {m k : Nat} (hp : m % 2 = k % 2) (h : m ≠ k) : m / 2 ≠ k / 2 := by omega
theorem slot_setSlot (t : Sl) : ∀ (d i : Nat) (x : SV), slot (setSlot t d x) i = if i = d then (slot t d).map fun _ => x else slot t i := by
  induction t with
  | nil => intro d i x; rw [setSlot_nil, slot_nil, slot_nil]; split <;> rfl
  | node v l r ihl ihr =>
    intro d i x
    cases d with
    | zero =>
      rw [setSlot_zero]
      cases i with
      | zero => rfl
      | succ i => rw [slot_succ, slot_succ, if_neg (Nat.succ_ne_zero i)]
    | succ m =>
      rw [setSlot_succ]
      cases i with
      | zero =>
        rw [if_neg (Nat.succ_ne_zero m).symm]
        split <;> rw [slot_zero, slot_zero]
      | succ i =>
        by_cases hm : m % 2 = 0
        · rw [if_pos hm, slot_succ, slot_succ, slot_succ, if_pos hm, ihl]
          by_cases hi : i % 2 = 0
          · rw [if_pos hi, if_pos hi]
            by_cases e : i = m
            · subst e; rw [if_pos rfl, if_pos rfl]
            · rw [if_neg (half_ne (by omega) e), if_neg (by omega)]
          · rw [if_neg hi, if_neg hi, if_neg (by omega)]
        · rw [if_neg hm, slot_succ, slot_succ, slot_succ, if_neg hm, ihr]
          by_cases hi : i % 2 = 0
          · rw [if_pos hi, if_pos hi, if_neg (by omega)]
          · rw [if_neg hi, if_neg hi]
            by_cases e : i = m
            · subst e; rw [if_pos rfl, if_pos rfl]
            · rw [if_neg (half_ne (by omega) e), if_neg (by omega)]
theorem setSlot_comm (t : Sl) : ∀ {d e : Nat}, d ≠ e → ∀ (v u : SV), setSlot (setSlot t d v) e u = setSlot (setSlot t e u) d v := by
  induction t with
  | nil => intro d e _ v u; rfl
  | node x l r ihl ihr =>
    intro d e h v u
    cases d with
    | zero =>
      cases e with
      | zero => exact absurd rfl h
      | succ k => rw [setSlot_zero, setSlot_succ, setSlot_succ]; split <;> rw [setSlot_zero]
    | succ m =>
      cases e with
      | zero => rw [setSlot_zero, setSlot_succ, setSlot_succ]; split <;> rw [setSlot_zero]
      | succ k =>
        rw [setSlot_succ x v, setSlot_succ x u]
        by_cases hm : m % 2 = 0 <;> by_cases hk : k % 2 = 0
        · rw [if_pos hm, if_pos hk, setSlot_succ, setSlot_succ, if_pos hm, if_pos hk, ihl (half_ne (by omega) (by omega))]
        · rw [if_pos hm, if_neg hk, setSlot_succ, setSlot_succ, if_pos hm, if_neg hk]
        · rw [if_neg hm, if_pos hk, setSlot_succ, setSlot_succ, if_neg hm, if_pos hk]
        · rw [if_neg hm, if_neg hk, setSlot_succ, setSlot_succ, if_neg hm, if_neg hk, ihr (half_ne (by omega) (by omega))]
/-- one more slot, with the slots that lead to it -/
def insSlotC : Nat → Sl → Nat → SV → Sl
  | 0, t, _, _ => t
  | _ + 1, .nil, 0, x => .node x .nil .nil
  | f + 1, .nil, m + 1, x => bif Nat.beq (m % 2) 0 then .node .any (insSlotC f .nil (m / 2) x) .nil else .node .any .nil (insSlotC f .nil (m / 2) x)
  | _ + 1, .node _ l r, 0, x => .node x l r
  | f + 1, .node v l r, m + 1, x => bif Nat.beq (m % 2) 0 then .node v (insSlotC f l (m / 2) x) r else .node v l (insSlotC f r (m / 2) x)
noncomputable def insSlot (f : Nat) : Sl → Nat → SV → Sl := Nat.rec (motive := fun _ => Sl → Nat → SV → Sl) (fun t _ _ => t)
  (fun _ ih t n x => Sl.rec (motive := fun _ => Sl)
    (Nat.rec (motive := fun _ => Sl) (.node x .nil .nil) (fun m _ => Bool.rec (motive := fun _ => Sl) (.node .any .nil (ih .nil (m / 2) x)) (.node .any (ih .nil (m / 2) x) .nil) (Nat.beq (m % 2) 0)) n)
    (fun v l r _ _ => Nat.rec (motive := fun _ => Sl) (.node x l r) (fun m _ => Bool.rec (motive := fun _ => Sl) (.node v l (ih r (m / 2) x)) (.node v (ih l (m / 2) x) r) (Nat.beq (m % 2) 0)) n) t) f
theorem insSlot_succ_nil (f m : Nat) (x : SV) : insSlot (f + 1) .nil (m + 1) x = if m % 2 = 0 then .node .any (insSlot f .nil (m / 2) x) .nil else .node .any .nil (insSlot f .nil (m / 2) x) := by
  show Bool.rec (motive := fun _ => Sl) (.node .any .nil (insSlot f .nil (m / 2) x)) (.node .any (insSlot f .nil (m / 2) x) .nil) (Nat.beq (m % 2) 0) = _
  cases h : Nat.beq (m % 2) 0
  · rw [if_neg fun e => by rw [e] at h; simp at h]
  · rw [if_pos (Nat.eq_of_beq_eq_true h)]
theorem insSlot_succ_node (f m : Nat) (v x : SV) (l r : Sl) : insSlot (f + 1) (.node v l r) (m + 1) x = if m % 2 = 0 then .node v (insSlot f l (m / 2) x) r else .node v l (insSlot f r (m / 2) x) := by
  show Bool.rec (motive := fun _ => Sl) (.node v l (insSlot f r (m / 2) x)) (.node v (insSlot f l (m / 2) x) r) (Nat.beq (m % 2) 0) = _
  cases h : Nat.beq (m % 2) 0
  · rw [if_neg fun e => by rw [e] at h; simp at h]
  · rw [if_pos (Nat.eq_of_beq_eq_true h)]
/-- what is there after it was there before, is the new one, or is nothing that is known -/
theorem insSlot_get : ∀ (f : Nat) (t : Sl) (d : Nat) (x : SV) (i : Nat) (s : SV), slot (insSlot f t d x) i = some s → slot t i = some s ∨ (i = d ∧ s = x) ∨ (i ≤ d ∧ s = .any)
  | 0, _, _, _, _, _, h => .inl h
  | f + 1, .nil, 0, x, i, s, h => by
    have h : slot (.node x .nil .nil) i = some s := h
    cases i with
    | zero => rw [slot_zero] at h; cases h; exact .inr (.inl ⟨rfl, rfl⟩)
    | succ i => rw [slot_succ, slot_nil] at h; split at h <;> cases h
  | f + 1, .nil, m + 1, x, i, s, h => by
    rw [insSlot_succ_nil] at h
    cases i with
    | zero => refine .inr (.inr ⟨Nat.zero_le _, ?_⟩); split at h <;> (rw [slot_zero] at h; cases h; rfl)
    | succ i =>
      by_cases hm : m % 2 = 0
      · rw [if_pos hm, slot_succ] at h
        by_cases hi : i % 2 = 0
        · rw [if_pos hi] at h
          rcases insSlot_get f _ _ _ _ _ h with h | ⟨h1, h2⟩ | ⟨h1, h2⟩
          · rw [slot_nil] at h; cases h
          · exact .inr (.inl ⟨by omega, h2⟩)
          · exact .inr (.inr ⟨by omega, h2⟩)
        · rw [if_neg hi, slot_nil] at h; cases h
      · rw [if_neg hm, slot_succ] at h
        by_cases hi : i % 2 = 0
        · rw [if_pos hi, slot_nil] at h; cases h
        · rw [if_neg hi] at h
          rcases insSlot_get f _ _ _ _ _ h with h | ⟨h1, h2⟩ | ⟨h1, h2⟩
          · rw [slot_nil] at h; cases h
          · exact .inr (.inl ⟨by omega, h2⟩)
          · exact .inr (.inr ⟨by omega, h2⟩)
  | f + 1, .node v l r, 0, x, i, s, h => by
    have h : slot (.node x l r) i = some s := h
    cases i with
    | zero => rw [slot_zero] at h; cases h; exact .inr (.inl ⟨rfl, rfl⟩)
    | succ i => rw [slot_succ] at h; exact .inl (by rw [slot_succ]; exact h)
  | f + 1, .node v l r, m + 1, x, i, s, h => by
    rw [insSlot_succ_node] at h
    cases i with
    | zero => refine .inl ?_; split at h <;> (rw [slot_zero] at h ⊢; exact h)
    | succ i =>
      by_cases hm : m % 2 = 0
      · rw [if_pos hm, slot_succ] at h
        by_cases hi : i % 2 = 0
        · rw [if_pos hi] at h
          rcases insSlot_get f _ _ _ _ _ h with h | ⟨h1, h2⟩ | ⟨h1, h2⟩
          · exact .inl (by rw [slot_succ, if_pos hi]; exact h)
          · exact .inr (.inl ⟨by omega, h2⟩)
          · exact .inr (.inr ⟨by omega, h2⟩)
        · rw [if_neg hi] at h; exact .inl (by rw [slot_succ, if_neg hi]; exact h)
      · rw [if_neg hm, slot_succ] at h
        by_cases hi : i % 2 = 0
        · rw [if_pos hi] at h; exact .inl (by rw [slot_succ, if_pos hi]; exact h)
        · rw [if_neg hi] at h
          rcases insSlot_get f _ _ _ _ _ h with h | ⟨h1, h2⟩ | ⟨h1, h2⟩
          · exact .inl (by rw [slot_succ, if_neg hi]; exact h)
          · exact .inr (.inl ⟨by omega, h2⟩)
          · exact .inr (.inr ⟨by omega, h2⟩)
def andQ (a b : Bool) : Bool := Bool.casesOn a false b
theorem andQ_eq (a b : Bool) : andQ a b = (a && b) := by cases a <;> rfl
def slAllC (f : SV → Bool) : Sl → Bool
  | .nil => true
  | .node v l r => f v && (slAllC f l && slAllC f r)
noncomputable def slAll (f : SV → Bool) (t : Sl) : Bool := Sl.rec (motive := fun _ => Bool) true (fun v _ _ a b => andQ (f v) (andQ a b)) t
def Sl.all (t : Sl) (f : SV → Bool) : Bool := slAll f t
theorem Sl.all_nil (f : SV → Bool) : Sl.nil.all f = true := rfl
theorem Sl.all_node (f : SV → Bool) (v : SV) (l r : Sl) : (Sl.node v l r).all f = (f v && (l.all f && r.all f)) := by
  show andQ (f v) (andQ (l.all f) (r.all f)) = _
  rw [andQ_eq, andQ_eq]
theorem Sl.all_get {f : SV → Bool} : ∀ {t : Sl} {i : Nat} {s : SV}, t.all f = true → slot t i = some s → f s = true
  | .nil, _, _, _, h => by rw [slot_nil] at h; cases h
  | .node v l r, 0, s, ha, h => by
    simp only [Sl.all_node, Bool.and_eq_true] at ha
    rw [slot_zero] at h; cases h; exact ha.1
  | .node v l r, i + 1, s, ha, h => by
    simp only [Sl.all_node, Bool.and_eq_true] at ha
    rw [slot_succ] at h
    split at h
    · exact Sl.all_get ha.2.1 h
    · exact Sl.all_get ha.2.2 h
theorem Sl.all_of {f : SV → Bool} : ∀ {t : Sl}, (∀ i s, slot t i = some s → f s = true) → t.all f = true
  | .nil, _ => rfl
  | .node v l r, h => by
    simp only [Sl.all_node, Bool.and_eq_true]
    refine ⟨h 0 v (slot_zero ..), Sl.all_of fun i s hs => h (2 * i + 1) s ?_, Sl.all_of fun i s hs => h (2 * i + 1 + 1) s ?_⟩
    · rw [slot_succ, if_pos (by omega), show 2 * i / 2 = i by omega]; exact hs
    · rw [slot_succ, if_neg (by omega), show (2 * i + 1) / 2 = i by omega]; exact hs
def Sl.map (f : SV → SV) : Sl → Sl
  | .nil => .nil
  | .node v l r => .node (f v) (l.map f) (r.map f)
theorem slot_map (f : SV → SV) : ∀ (t : Sl) (i : Nat), slot (t.map f) i = (slot t i).map f
  | .nil, i => by rw [Sl.map, slot_nil]; rfl
  | .node v l r, 0 => by rw [Sl.map, slot_zero, slot_zero]; rfl
  | .node v l r, i + 1 => by
    rw [Sl.map, slot_succ, slot_succ]
    split
    · exact slot_map f l _
    · exact slot_map f r _
def Sl.ids (f : SV → List Nat) : Sl → List Nat
  | .nil => []
  | .node v l r => f v ++ (l.ids f ++ r.ids f)
/-- n slots, all the same -/
def Sl.fill (v : SV) : Nat → Nat → Sl
  | 0, _ => .nil
  | _ + 1, 0 => .nil
  | f + 1, m + 1 => .node v (Sl.fill v f ((m + 1) / 2)) (Sl.fill v f (m / 2))
theorem fill_get (v : SV) : ∀ (f n i : Nat) (s : SV), slot (Sl.fill v f n) i = some s → i < n ∧ s = v
  | 0, _, _, _, h => by rw [Sl.fill, slot_nil] at h; cases h
  | _ + 1, 0, _, _, h => by rw [Sl.fill, slot_nil] at h; cases h
  | f + 1, m + 1, 0, s, h => by rw [Sl.fill, slot_zero] at h; cases h; exact ⟨Nat.succ_pos _, rfl⟩
  | f + 1, m + 1, i + 1, s, h => by
    rw [Sl.fill, slot_succ] at h
    split at h
    · obtain ⟨h1, h2⟩ := fill_get v f _ _ s h; exact ⟨by omega, h2⟩
    · obtain ⟨h1, h2⟩ := fill_get v f _ _ s h; exact ⟨by omega, h2⟩
end Go.SX
