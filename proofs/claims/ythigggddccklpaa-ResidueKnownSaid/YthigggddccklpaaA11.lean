/- A part of the proof: see the text that states the theorem. -/
import Derived.Test.YthigggddccklpaaA9
set_option linter.unusedSimpArgs false
set_option linter.unusedVariables false
set_option linter.unusedSectionVars false
namespace Go.Proofs.Y23
open Go Go.SX Go.RowKit
theorem neg_mod {D g : Int} (hg : 1 ≤ g) (h : D % g ≠ 0) : (-D) % g = g - D % g := by
  have e1 := Int.emod_nonneg D (show g ≠ 0 by omega)
  have e2 := Int.emod_lt_of_pos D (show 0 < g by omega)
  have e3 := Int.emod_add_mul_ediv D g
  have : -D = (g - D % g) + g * (-(D / g) - 1) := by rw [Int.mul_sub, Int.mul_neg]; omega
  rw [this, Int.add_mul_emod_self_left]
  exact Int.emod_eq_of_lt (by omega) (by omega)
theorem sep_comm {ap af al bp bf bl : Int} (ha : okS ap af al = true) (hb : okS bp bf bl = true) : sepB ap af al bp bf bl = sepB bp bf bl ap af al := by
  rw [okS_iff] at ha hb
  obtain ⟨g1, g2, g3, g4, g5⟩ := gfacts (a := ap) (b := bp) (by omega) (by omega)
  simp only [sepB, Int.gcd_comm bp ap]
  generalize (Int.gcd ap bp : Int) = G at *
  have e1 := Int.emod_nonneg (bf - af) (show G ≠ 0 by omega)
  have e2 := Int.emod_lt_of_pos (bf - af) (show 0 < G by omega)
  rw [show af - bf = -(bf - af) by omega]
  by_cases hz : (bf - af) % G = 0
  · have h2 : (-(bf - af)) % G = 0 := Int.emod_eq_zero_of_dvd (Int.dvd_neg.2 (Int.dvd_of_emod_eq_zero hz))
    rw [hz, h2]
    rw [decide_eq_false (by omega), decide_eq_false (by omega)]
  · rw [neg_mod g1 hz]
    exact decide_eq_decide.2 (by omega)
theorem sep_both {ap af al bp bf bl k : Int} (ha : 1 ≤ ap) (hb : 1 ≤ bp) : sepB ap ((af + k) % ap) al bp ((bf + k) % bp) bl = sepB ap af al bp bf bl := by
  obtain ⟨g1, g2, g3, g4, g5⟩ := gfacts (a := ap) (b := bp) ha hb
  simp only [sepB]
  have : ((bf + k) % bp - (af + k) % ap) % (Int.gcd ap bp : Int) = (bf - af) % (Int.gcd ap bp : Int) := by
    rw [Int.sub_emod, Int.emod_emod_of_dvd _ g5, Int.emod_emod_of_dvd _ g4, ← Int.sub_emod, show bf + k - (af + k) = bf - af by omega]
  rw [this]
theorem ok_shift {p f l : Int} (k : Int) (h : okS p f l = true) : okS p ((f + k) % p) l = true := by
  rw [okS_iff] at h ⊢
  have h1 := Int.emod_nonneg (f + k) (show p ≠ 0 by omega)
  have h2 := Int.emod_lt_of_pos (f + k) (show 0 < p by omega)
  omega
set_option maxRecDepth 100000 in
theorem l_Moves (a b c d e g by_ : Int) (ha : 0 ≤ a ∧ a < 256) (hb : 0 ≤ b ∧ b < 256) (hc : 0 ≤ c ∧ c < 256) (hd : 0 ≤ d ∧ d < 256) (he : 0 ≤ e ∧ e < 256) (hg : 0 ≤ g ∧ g < 256) (hby : 0 ≤ by_ ∧ by_ < 256) :
    Ret Try.prog 7 #[.agg #[vU a, vU b, vU c, vU d, vU e, vU g], vU by_] (vB true) := by
  refine ret_of t_Moves (mkEnv [.i a, .i b, .i c, .i d, .i e, .i g, .i by_]) (fun w => ?_)
  simp [-Bool.exists_bool, -Bool.forall_bool]
  refine ⟨true, c_works, rfl, fun _ => ?_⟩
  refine ⟨_, _, _, c_Of ha hb hc, _, _, _, c_Of hd he hg, ?_⟩
  have ok1 := ok_of a b c
  have ok2 := ok_of d e g
  have k1 := okS_iff.1 ok1
  have k2 := okS_iff.1 ok2
  generalize ofP a = ap at *
  generalize ofF a b = af at *
  generalize ofL a c = al at *
  generalize ofP d = bp at *
  generalize ofF d e = bf at *
  generalize ofL d g = bl at *
  rw [wrap64 (x := by_) (by omega) (by omega)]
  have okx := ok_shift by_ ok1
  have oky := ok_shift by_ ok2
  refine ⟨_, _, _, c_Shifted (by omega) (by omega) (by omega), _, _, _, c_Shifted (by omega) (by omega) (by omega), ?_⟩
  refine ⟨_, c_apart _ _ _ _ _ _, _, c_apart _ _ _ _ _ _, _, c_apart _ _ _ _ _ _, _, c_apart _ _ _ _ _ _, ?_⟩
  rw [apart_at ok1 ok2, apart_at ok2 ok1, apart_at okx oky]
  refine ⟨⟨sep_comm ok1 ok2, (sep_both (by omega) (by omega)).symm⟩, fun _ _ => ?_⟩
  refine ⟨_, _, _, _, c_Room _ _ _ _ _ _, ?_⟩
  rw [ok1, ok2]
  obtain ⟨g1, g2, g3, g4, g5⟩ := gfacts (a := ap) (b := bp) (by omega) (by omega)
  by_cases hgap : al ≤ (Int.gcd ap bp : Int) - bl
  · simp only [roomF, Bool.and_self, if_true, if_pos hgap]
    refine ⟨fun h => by omega, fun _ => ⟨by omega, by omega, ?_, fun _ _ _ _ _ _ => ?_⟩⟩
    · rw [wrap64 (by omega) (by omega)]
      exact ⟨⟨⟨⟨⟨trivial, g1⟩, Int.tmod_eq_zero_of_dvd g4⟩, Int.tmod_eq_zero_of_dvd g5⟩, by omega⟩, hgap⟩
    · refine ⟨fun l => match l with
        | [.i k] => 0 ≤ k ∧ k ≤ bp
        | _ => False, ⟨by omega, by omega⟩, fun l => match l with
        | [.i k] => (bp - k).toNat
        | _ => 0, fun k ⟨i1, i2⟩ => ?_⟩
      intro hk
      have hk1 := okS_iff.1 (ok_shift k ok2)
      refine ⟨_, _, _, c_Shifted (by omega) (by omega) (by omega), _, c_refMod _ _ (by omega) (by omega), _, c_apart _ _ _ _ _ _, ?_⟩
      rw [apart_at ok1 (ok_shift k ok2), wrap64 (x := (bf + k) % bp - af) (by omega) (by omega), wrap64 (x := k + 1) (by omega) (by omega)]
      exact ⟨by simp [sepB], fun _ => ⟨⟨by omega, by omega⟩, by simp only; omega⟩⟩
  · simp only [roomF, Bool.and_self, if_true, if_neg hgap]
    refine ⟨fun _ => ?_, fun h => absurd trivial h⟩
    refine ⟨fun l => match l with
      | [.i k] => 0 ≤ k ∧ k ≤ bp
      | _ => False, ⟨by omega, by omega⟩, fun l => match l with
      | [.i k] => (bp - k).toNat
      | _ => 0, fun k ⟨i1, i2⟩ => ?_⟩
    intro hk
    have hk1 := okS_iff.1 (ok_shift k ok2)
    refine ⟨_, _, _, c_Shifted (by omega) (by omega) (by omega), _, c_apart _ _ _ _ _ _, ?_⟩
    rw [apart_at ok1 (ok_shift k ok2), wrap64 (x := k + 1) (by omega) (by omega)]
    exact ⟨by simp only [sepB, decide_eq_false_iff_not]; omega, fun _ => ⟨⟨by omega, by omega⟩, by simp only; omega⟩⟩
end Go.Proofs.Y23
