/- A part of the proof: see the text that states the theorem. -/
import Derived.Test.YthigggddccklpaaA0
set_option linter.unusedSimpArgs false
set_option linter.unusedVariables false
set_option linter.unusedSectionVars false
noncomputable section
namespace Go.Proofs.Y23
open Go Go.SX Go.RowKit

def okS (p f l : Int) : Bool := decide (1 ≤ p ∧ p ≤ 960 ∧ 0 ≤ f ∧ f < p ∧ 1 ≤ l ∧ l ≤ p)
theorem okS_iff {p f l : Int} : okS p f l = true ↔ 1 ≤ p ∧ p ≤ 960 ∧ 0 ≤ f ∧ f < p ∧ 1 ≤ l ∧ l ≤ p := by simp [okS]
abbrev vI (n : Int) : Value := .int .i64 n
abbrev vB (b : Bool) : Value := .bool b
abbrev vS (p f l : Int) : Value := .agg #[vI p, vI f, vI l]
abbrev vBE (b : Bool) (e : Int) : Value := .tuple #[.bool b, vI e]
abbrev vIE (n : Int) (e : Int) : Value := .tuple #[vI n, vI e]
theorem c_Check (p f l : Int) : Ret Try.prog 13 #[vS p f l] (vI (if okS p f l then 0 else 330)) := by
  refine ret_of t_Check (mkEnv [.i p, .i f, .i l]) (fun w => ?_)
  simp [okS]
  omega
theorem tmod_pos {a m : Int} (h : 0 < m) : a.tmod m = if 0 ≤ a.tmod m then a % m else a % m - m := by
  have h1 := Int.emod_nonneg a (show m ≠ 0 by omega)
  have h2 := Int.emod_lt_of_pos a h
  rw [Int.tmod_eq_emod]
  by_cases hd : 0 ≤ a ∨ m ∣ a
  · simp [hd, h1]
  · simp only [hd, if_false]
    have hne : a % m ≠ 0 := fun e => hd (.inr (Int.dvd_of_emod_eq_zero e))
    rw [if_neg (by omega)]; omega
theorem tmod_bd {a m : Int} (h : 0 < m) : -m < a.tmod m ∧ a.tmod m < m := by
  have h1 := Int.emod_nonneg a (show m ≠ 0 by omega)
  have h2 := Int.emod_lt_of_pos a h
  rw [Int.tmod_eq_emod]
  split
  · omega
  · rename_i hd
    have hne : a % m ≠ 0 := fun e => hd (.inr (Int.dvd_of_emod_eq_zero e))
    omega
theorem c_refMod (a m : Int) (h1 : 0 < m) (h2 : m < 1000000000000) : Ret Try.prog 28 #[vI a, vI m] (vI (a % m)) := by
  refine ret_of t_refMod (mkEnv [.i a, .i m]) (fun w => ?_)
  have e1 := Int.emod_nonneg a (show m ≠ 0 by omega)
  have e2 := Int.emod_lt_of_pos a h1
  have e3 := tmod_bd (a := a) h1
  simp
  refine ⟨by omega, fun h => ?_, fun h => ?_⟩
  · rw [wrap64 (by omega) (by omega), tmod_pos h1, if_neg (by omega)]; omega
  · rw [tmod_pos h1, if_pos h]
theorem c_mod (a m : Int) (h1 : 0 < m) (h2 : m < 1000000000000) : Ret Try.prog 30 #[vI a, vI m] (vI (a % m)) := by
  refine ret_of t_mod (mkEnv [.i a, .i m]) (fun w => ?_)
  have e1 := Int.emod_nonneg a (show m ≠ 0 by omega)
  have e2 := Int.emod_lt_of_pos a h1
  have e3 := tmod_bd (a := a) h1
  simp
  refine ⟨by omega, ?_⟩
  rw [wrap64 (by omega) (by omega), Int.tmod_eq_emod_of_nonneg (by omega), Int.add_emod_right, tmod_pos h1]
  split
  · exact Int.emod_emod_of_dvd a (Int.dvd_refl m)
  · rw [Int.sub_emod_right]; exact Int.emod_emod_of_dvd a (Int.dvd_refl m)
theorem c_refRight (p f l : Int) : Ret Try.prog 31 #[vS p f l] (vB (okS p f l)) := by
  refine ret_of t_refRight (mkEnv [.i p, .i f, .i l]) (fun w => ?_)
  simp [okS, Bool.and_assoc]
theorem c_refCheck (p f l : Int) : Ret Try.prog 14 #[vS p f l] (vI (if okS p f l then 0 else 330)) := by
  refine ret_of t_refCheck (mkEnv [.i p, .i f, .i l]) (fun w => ?_)
  simp [okS]
  omega
/-- Covers -/
def coversB (p f l t : Int) : Bool := okS p f l && (decide (-1099511627776 ≤ t ∧ t ≤ 1099511627776) && decide ((t - f) % p < l))
def coversE (p f l t : Int) : Int := if okS p f l = false then 330 else if -1099511627776 ≤ t ∧ t ≤ 1099511627776 then 0 else 2
theorem c_refCovers (p f l t : Int) : Ret Try.prog 12 #[vS p f l, vI t] (vBE (coversB p f l t) (coversE p f l t)) := by
  refine ret_of t_refCovers (mkEnv [.i p, .i f, .i l, .i t]) (fun w => ?_)
  cases hok : okS p f l
  · have h := (not_congr (okS_iff (p := p) (f := f) (l := l))).1 (by simp [hok])
    simp [coversB, coversE, hok]
    omega
  · have h := okS_iff.1 hok
    simp [coversB, coversE, hok]
    refine ⟨by omega, fun _ _ _ _ _ _ => ⟨by omega, fun h1 h2 => ⟨_, c_refMod _ _ (by omega) (by omega), ?_⟩⟩⟩
    rw [wrap64 (by omega) (by omega)]
    simp [h1, h2]
theorem c_Covers (p f l t : Int) : Ret Try.prog 11 #[vS p f l, vI t] (vBE (coversB p f l t) (coversE p f l t)) := by
  refine ret_of t_Covers (mkEnv [.i p, .i f, .i l, .i t]) (fun w => ?_)
  cases hok : okS p f l
  · have h := (not_congr (okS_iff (p := p) (f := f) (l := l))).1 (by simp [hok])
    simp [coversB, coversE, hok]
    omega
  · have h := okS_iff.1 hok
    simp [coversB, coversE, hok]
    refine ⟨by omega, fun _ _ _ _ _ _ => ⟨by omega, fun h1 h2 => ⟨_, c_mod _ _ (by omega) (by omega), ?_⟩⟩⟩
    rw [wrap64 (by omega) (by omega)]
    simp [h1, h2]
theorem gcd_tmod {x y : Int} (hx : 0 ≤ x) (hy : 0 ≤ y) : Int.gcd y (x.tmod y) = Int.gcd x y := by
  obtain ⟨m, rfl⟩ := Int.eq_ofNat_of_zero_le hx
  obtain ⟨n, rfl⟩ := Int.eq_ofNat_of_zero_le hy
  rw [Int.tmod_eq_emod_of_nonneg (by omega), ← Int.natCast_emod]
  simp only [Int.gcd, Int.natAbs_natCast]
  rw [Nat.gcd_comm m n, Nat.gcd_rec n m, Nat.gcd_comm]
theorem c_gcd (a b : Int) (ha : 0 < a) (hb : 0 ≤ b) : Ret Try.prog 42 #[vI a, vI b] (vI (Int.gcd a b)) := by
  refine ret_of t_gcd (mkEnv [.i a, .i b]) (fun w => ?_)
  simp
  refine ⟨fun l => match l with
    | [.i x, .i y] => 0 < x ∧ 0 ≤ y ∧ Int.gcd x y = Int.gcd a b
    | _ => False, ⟨ha, hb, rfl⟩, fun l => match l with
    | [_, .i y] => y.toNat
    | _ => 0, fun x y ⟨h1, h2, h3⟩ => ⟨fun h => ⟨by omega, ⟨h, ?_, ?_⟩, ?_⟩, fun h => ?_⟩⟩
  · exact Int.tmod_nonneg _ (by omega)
  · rw [← h3, gcd_tmod (by omega) (by omega)]
  · have := tmod_bd (a := x) h
    simp only
    omega
  · have : y = 0 := by omega
    subst this
    rw [← h3]; simp; omega
/-- facts on the greatest common divisor -/
theorem gfacts {a b : Int} (ha : 1 ≤ a) (hb : 1 ≤ b) : 1 ≤ (Int.gcd a b : Int) ∧ (Int.gcd a b : Int) ≤ a ∧ (Int.gcd a b : Int) ≤ b ∧ (Int.gcd a b : Int) ∣ a ∧ (Int.gcd a b : Int) ∣ b := by
  have h1 := Int.gcd_pos_of_ne_zero_left b (show a ≠ 0 by omega)
  have d1 := Int.gcd_dvd_left a b
  have d2 := Int.gcd_dvd_right a b
  exact ⟨by omega, Int.le_of_dvd (by omega) d1, Int.le_of_dvd (by omega) d2, d1, d2⟩
theorem tmod_zero {a m : Int} (_h : 0 < m) : a.tmod m = 0 ↔ m ∣ a := ⟨Int.dvd_of_tmod_eq_zero, Int.tmod_eq_zero_of_dvd⟩
theorem c_refGcd (a b : Int) (ha : 0 < a) (ha2 : a < 1000000000000) (hb : 0 < b) : Ret Try.prog 37 #[vI a, vI b] (vI (Int.gcd a b)) := by
  refine ret_of t_refGcd (mkEnv [.i a, .i b]) (fun w => ?_)
  obtain ⟨g1, g2, g3, g4, g5⟩ := gfacts (show 1 ≤ a by omega) (show 1 ≤ b by omega)
  simp
  refine ⟨fun l => match l with
    | [.i d] => 1 ≤ d ∧ d ≤ a ∧ ∀ e, d < e → e ≤ a → ¬ (e ∣ a ∧ e ∣ b)
    | _ => False, ⟨by omega, by omega, fun e h1 h2 => by omega⟩, fun l => match l with
    | [.i d] => d.toNat
    | _ => 0, fun d ⟨h1, h2, h3⟩ => ⟨fun h => ⟨by omega, fun ha hb => ?_, fun hn => ⟨⟨?_, ?_, ?_⟩, ?_⟩⟩, fun h => ?_⟩⟩
  · rw [tmod_zero (by omega)] at ha hb
    have hd := Int.le_of_dvd (by omega) (Int.dvd_coe_gcd ha hb)
    rcases Int.lt_or_eq_of_le hd with hlt | heq
    · exact absurd ⟨g4, g5⟩ (h3 _ hlt g2)
    · exact heq
  · rw [wrap64 (by omega) (by omega)]; omega
  · rw [wrap64 (by omega) (by omega)]; omega
  · rw [wrap64 (by omega) (by omega)]
    intro e he1 he2 ⟨hea, heb⟩
    by_cases hed : e = d
    · subst hed
      exact hn ((tmod_zero (by omega)).2 hea) ((tmod_zero (by omega)).2 heb)
    · exact h3 e (by omega) he2 ⟨hea, heb⟩
  · simp only; rw [wrap64 (by omega) (by omega)]; omega
  · have hd : d = 1 := by omega
    subst hd
    rcases Int.lt_or_eq_of_le g1 with hlt | heq
    · exact absurd ⟨g4, g5⟩ (h3 _ hlt g2)
    · exact heq
/-- two valid spans are apart -/
def sepB (ap af al bp bf bl : Int) : Bool := decide (al ≤ (bf - af) % (Int.gcd ap bp : Int) ∧ (bf - af) % (Int.gcd ap bp : Int) ≤ (Int.gcd ap bp : Int) - bl)
theorem sep_law {D g al bl : Int} (hg : 1 ≤ g) (hal : 1 ≤ al) (hbl : 1 ≤ bl) : (al ≤ D % g ∧ D % g ≤ g - bl) ↔ ∀ x, 1 - bl ≤ x → x < al → (D - x) % g ≠ 0 := by
  have e1 := Int.emod_nonneg D (show g ≠ 0 by omega)
  have e2 := Int.emod_lt_of_pos D (show 0 < g by omega)
  have e3 := Int.emod_add_mul_ediv D g
  constructor
  · intro ⟨h1, h2⟩ x hx1 hx2 hz
    obtain ⟨k, hk⟩ := Int.dvd_of_emod_eq_zero hz
    have hx : x = D % g + g * (D / g - k) := by rw [Int.mul_sub]; omega
    generalize D / g - k = j at hx
    rcases Int.lt_or_le j 0 with hj | hj
    · have : g * j ≤ g * (-1) := Int.mul_le_mul_of_nonneg_left (by omega) (by omega)
      omega
    · have : 0 ≤ g * j := Int.mul_nonneg (by omega) hj
      omega
  · intro h
    refine ⟨?_, ?_⟩
    · rcases Int.lt_or_le (D % g) al with hlt | hle
      · exact absurd (Int.emod_eq_zero_of_dvd ⟨D / g, by omega⟩) (h (D % g) (by omega) hlt)
      · exact hle
    · rcases Int.lt_or_le (g - bl) (D % g) with hlt | hle
      · exact absurd (Int.emod_eq_zero_of_dvd ⟨D / g + 1, by rw [Int.mul_add]; omega⟩) (h (D % g - g) (by omega) (by omega))
      · exact hle
theorem c_Separate {ap af al bp bf bl : Int} (ha : okS ap af al = true) (hb : okS bp bf bl = true) : Ret Try.prog 35 #[vS ap af al, vS bp bf bl] (vB (sepB ap af al bp bf bl)) := by
  refine ret_of t_Separate (mkEnv [.i ap, .i af, .i al, .i bp, .i bf, .i bl]) (fun w => ?_)
  rw [okS_iff] at ha hb
  obtain ⟨g1, g2, g3, g4, g5⟩ := gfacts (a := ap) (b := bp) (by omega) (by omega)
  simp
  refine ⟨_, c_refGcd ap bp (by omega) (by omega) (by omega), ?_⟩
  have hlaw := sep_law (D := bf - af) (g := (Int.gcd ap bp : Int)) (al := al) (bl := bl) g1 (by omega) (by omega)
  refine ⟨fun l => match l with
    | [.i x] => 1 - bl ≤ x ∧ x ≤ max al (1 - bl) ∧ ∀ y, 1 - bl ≤ y → y < x → ((bf - af) - y) % (Int.gcd ap bp : Int) ≠ 0
    | _ => False, ?_, fun l => match l with
    | [.i x] => (al - x).toNat
    | _ => 0, fun x ⟨h1, h2, h3⟩ => ⟨fun h => ?_, fun h => ?_⟩⟩
  · rw [wrap64 (by omega) (by omega)]
    exact ⟨by omega, by omega, fun y h1 h2 => by omega⟩
  · refine ⟨_, c_refMod _ _ (by omega) (by omega), ?_⟩
    rw [wrap64 (x := bf - af) (by omega) (by omega), wrap64 (x := bf - af - x) (by omega) (by omega), wrap64 (x := x + 1) (by omega) (by omega)]
    refine ⟨fun hz => ?_, fun hz => ⟨⟨by omega, by omega, fun y hy1 hy2 => ?_⟩, by simp only; omega⟩⟩
    · simp only [sepB, decide_eq_false_iff_not]
      exact fun hc => (hlaw.1 hc) x h1 h hz
    · by_cases hyx : y = x
      · subst hyx; exact hz
      · exact h3 y hy1 (by omega)
  · simp only [sepB, decide_eq_true_eq]
    exact hlaw.2 fun y hy1 hy2 => h3 y hy1 (by omega)
end Go.Proofs.Y23
