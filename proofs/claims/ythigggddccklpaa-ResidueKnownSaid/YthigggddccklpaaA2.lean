/- A part of the proof: see the text that states the theorem. -/
import Derived.Test.YthigggddccklpaaA1
set_option linter.unusedSimpArgs false
set_option linter.unusedVariables false
set_option linter.unusedSectionVars false
noncomputable section
namespace Go.Proofs.Y23
open Go Go.SX Go.RowKit

def apartB (ap af al bp bf bl : Int) : Bool := okS ap af al && (okS bp bf bl && sepB ap af al bp bf bl)
def apartE (ap af al bp bf bl : Int) : Int := if okS ap af al && okS bp bf bl then 0 else 330
theorem not_ok {p f l : Int} (h : okS p f l = false) : ((((p < 1 ∨ 960 < p) ∨ f < 0) ∨ p ≤ f) ∨ l < 1) ∨ p < l := by
  have h := (not_congr (okS_iff (p := p) (f := f) (l := l))).1 (by simp [h])
  omega
theorem c_Apart (ap af al bp bf bl : Int) : Ret Try.prog 16 #[vS ap af al, vS bp bf bl] (vBE (apartB ap af al bp bf bl) (apartE ap af al bp bf bl)) := by
  refine ret_of t_Apart (mkEnv [.i ap, .i af, .i al, .i bp, .i bf, .i bl]) (fun w => ?_)
  cases hoa : okS ap af al
  · have h := not_ok hoa
    simp [apartB, apartE, hoa]
    omega
  cases hob : okS bp bf bl
  · have h := not_ok hob
    have ha := okS_iff.1 hoa
    simp [apartB, apartE, hoa, hob]
    omega
  have ha := okS_iff.1 hoa
  have hb := okS_iff.1 hob
  obtain ⟨g1, g2, g3, g4, g5⟩ := gfacts (a := ap) (b := bp) (by omega) (by omega)
  simp [apartB, apartE, hoa, hob]
  refine ⟨by omega, fun _ _ _ _ _ _ => ⟨by omega, fun _ _ _ _ _ _ => ⟨fun h1 h2 h3 => ?_, fun _ => ⟨_, c_gcd ap bp (by omega) (by omega), _, c_mod _ _ (by omega) (by omega), ?_⟩⟩⟩⟩
  · subst h1; subst h2; subst h3
    simp [sepB]; omega
  · rw [wrap64 (x := bf - af) (by omega) (by omega), wrap64 (by omega) (by omega)]
    simp [sepB]
theorem c_refApart (ap af al bp bf bl : Int) : Ret Try.prog 17 #[vS ap af al, vS bp bf bl] (vBE (apartB ap af al bp bf bl) (apartE ap af al bp bf bl)) := by
  refine ret_of t_refApart (mkEnv [.i ap, .i af, .i al, .i bp, .i bf, .i bl]) (fun w => ?_)
  cases hoa : okS ap af al
  · have h := not_ok hoa
    simp [apartB, apartE, hoa]
    omega
  cases hob : okS bp bf bl
  · have h := not_ok hob
    have ha := okS_iff.1 hoa
    simp [apartB, apartE, hoa, hob]
    omega
  have ha := okS_iff.1 hoa
  have hb := okS_iff.1 hob
  simp [apartB, apartE, hoa, hob]
  refine ⟨fun _ _ _ _ _ _ => ⟨by omega, fun _ _ _ _ _ _ => c_Separate hoa hob⟩, by omega⟩
/-- Of -/
abbrev ofP (p : Int) : Int := 1 + p % 48
abbrev ofF (p f : Int) : Int := f % ofP p
abbrev ofL (p l : Int) : Int := 1 + l % ofP p
abbrev vU (n : Int) : Value := .int .u8 n
theorem c_Of {p f l : Int} (hp : 0 ≤ p ∧ p < 256) (hf : 0 ≤ f ∧ f < 256) (hl : 0 ≤ l ∧ l < 256) : Ret Try.prog 10 #[vU p, vU f, vU l] (vS (ofP p) (ofF p f) (ofL p l)) := by
  refine ret_of t_Of (mkEnv [.i p, .i f, .i l]) (fun w => ?_)
  have e : p.tmod 48 = p % 48 := Int.tmod_eq_emod_of_nonneg (by omega)
  have h1 := Int.emod_nonneg p (show (48 : Int) ≠ 0 by omega)
  have h2 := Int.emod_lt_of_pos p (show (0 : Int) < 48 by omega)
  have h3 := Int.emod_nonneg l (show 1 + p % 48 ≠ 0 by omega)
  have h4 := Int.emod_lt_of_pos l (show 0 < 1 + p % 48 by omega)
  simp
  rw [e, wrap64 (x := p % 48) (by omega) (by omega), wrap64 (x := 1 + p % 48) (by omega) (by omega), wrap64 (x := f) (by omega) (by omega), wrap64 (x := l) (by omega) (by omega),
    Int.tmod_eq_emod_of_nonneg (a := f) (by omega), Int.tmod_eq_emod_of_nonneg (a := l) (by omega), wrap64 (by omega) (by omega)]
  exact ⟨by omega, rfl, rfl, rfl⟩
theorem ok_of (p f l : Int) : okS (ofP p) (ofF p f) (ofL p l) = true := by
  have h1 := Int.emod_nonneg p (show (48 : Int) ≠ 0 by omega)
  have h2 := Int.emod_lt_of_pos p (show (0 : Int) < 48 by omega)
  have h3 := Int.emod_nonneg l (show 1 + p % 48 ≠ 0 by omega)
  have h4 := Int.emod_lt_of_pos l (show 0 < 1 + p % 48 by omega)
  have h5 := Int.emod_nonneg f (show 1 + p % 48 ≠ 0 by omega)
  have h6 := Int.emod_lt_of_pos f (show 0 < 1 + p % 48 by omega)
  rw [okS_iff]; simp only [ofP, ofF, ofL]; omega
theorem c_Shifted {p f l k : Int} (hp : 0 < p) (hf : 0 ≤ f ∧ f < 100000) (hk : 0 ≤ k ∧ k < 100000) : Ret Try.prog 27 #[vS p f l, vI k] (vS p ((f + k) % p) l) := by
  refine ret_of t_Shifted (mkEnv [.i p, .i f, .i l, .i k]) (fun w => ?_)
  simp
  rw [wrap64 (by omega) (by omega), Int.tmod_eq_emod_of_nonneg (by omega)]
  exact ⟨by omega, rfl⟩
/-- Room -/
def roomF (ap _af al bp _bf bl : Int) (ok : Bool) : Int × Int × Int × Int :=
  if ok then (if al ≤ (Int.gcd ap bp : Int) - bl then (al, (Int.gcd ap bp : Int) - bl, (Int.gcd ap bp : Int), 0) else (0, 0, 0, 4)) else (0, 0, 0, 330)
abbrev vRoom (q : Int × Int × Int × Int) : Value := .tuple #[vI q.1, vI q.2.1, vI q.2.2.1, vI q.2.2.2]
theorem c_Room (ap af al bp bf bl : Int) : Ret Try.prog 18 #[vS ap af al, vS bp bf bl] (vRoom (roomF ap af al bp bf bl (okS ap af al && okS bp bf bl))) := by
  refine ret_of t_Room (mkEnv [.i ap, .i af, .i al, .i bp, .i bf, .i bl]) (fun w => ?_)
  cases hoa : okS ap af al
  · have h := not_ok hoa
    simp [roomF]
    omega
  cases hob : okS bp bf bl
  · have h := not_ok hob
    have ha := okS_iff.1 hoa
    simp [roomF]
    omega
  have ha := okS_iff.1 hoa
  have hb := okS_iff.1 hob
  obtain ⟨g1, g2, g3, g4, g5⟩ := gfacts (a := ap) (b := bp) (by omega) (by omega)
  simp [roomF]
  refine ⟨by omega, fun _ _ _ _ _ _ => ⟨by omega, fun _ _ _ _ _ _ => ⟨_, c_gcd ap bp (by omega) (by omega), ?_⟩⟩⟩
  rw [wrap64 (by omega) (by omega)]
  refine ⟨fun h => ?_, fun h => ?_⟩
  · rw [if_neg (by omega)]; simp
  · rw [if_pos (by omega)]; simp
theorem sep_at {ap af al bp bl d : Int} (ha : 1 ≤ ap) (hb : 1 ≤ bp) (hd : 0 ≤ d ∧ d < (Int.gcd ap bp : Int)) : sepB ap af al bp ((af + d) % bp) bl = decide (al ≤ d ∧ d ≤ (Int.gcd ap bp : Int) - bl) := by
  obtain ⟨g1, g2, g3, g4, g5⟩ := gfacts (a := ap) (b := bp) ha hb
  have e : ((af + d) % bp - af) % (Int.gcd ap bp : Int) = d := by
    rw [Int.sub_emod, Int.emod_emod_of_dvd _ g5, ← Int.sub_emod, show af + d - af = d by omega]
    exact Int.emod_eq_of_lt hd.1 hd.2
  simp only [sepB, e]
theorem c_refRoom (ap af al bp bf bl : Int) : Ret Try.prog 19 #[vS ap af al, vS bp bf bl] (vRoom (roomF ap af al bp bf bl (okS ap af al && okS bp bf bl))) := by
  refine ret_of t_refRoom (mkEnv [.i ap, .i af, .i al, .i bp, .i bf, .i bl]) (fun w => ?_)
  cases hoa : okS ap af al
  · have h := not_ok hoa
    simp [roomF]
    omega
  cases hob : okS bp bf bl
  · have h := not_ok hob
    have ha := okS_iff.1 hoa
    simp [roomF]
    omega
  have ha := okS_iff.1 hoa
  have hb := okS_iff.1 hob
  obtain ⟨g1, g2, g3, g4, g5⟩ := gfacts (a := ap) (b := bp) (by omega) (by omega)
  simp [roomF, -Bool.exists_bool]
  refine ⟨fun _ _ _ _ _ _ => ⟨by omega, fun _ _ _ _ _ _ => ⟨_, c_refGcd ap bp (by omega) (by omega) (by omega), ?_⟩⟩, by omega⟩
  generalize hg : (Int.gcd ap bp : Int) = g at *
  refine ⟨fun l => match l with
    | [.i fr, .i to, .i d, .i _] => 0 ≤ d ∧ d ≤ g ∧ fr = (if al < d ∧ al ≤ g - bl then al else g) ∧ to = (if al < d ∧ al ≤ g - bl then min (d - 1) (g - bl) else -1)
    | _ => False, ?_, fun l => match l with
    | [_, _, .i d, _] => (g - d).toNat
    | _ => 0, fun fr to d b0 ⟨h1, h2, h3, h4⟩ => ⟨fun h => ?_, fun h => ?_⟩⟩
  · refine ⟨by omega, by omega, ?_, ?_⟩
    · rw [if_neg (by omega)]
    · rw [if_neg (by omega)]
  · have hm := Int.emod_nonneg (af + d) (show bp ≠ 0 by omega)
    have hm2 := Int.emod_lt_of_pos (af + d) (show 0 < bp by omega)
    refine ⟨_, c_refMod _ _ (by omega) (by omega), ?_⟩
    rw [wrap64 (x := af + d) (by omega) (by omega), wrap64 (x := d + 1) (by omega) (by omega)]
    have hokb : okS bp ((af + d) % bp) bl = true := okS_iff.2 (by omega)
    have hsep := sep_at (ap := ap) (af := af) (al := al) (bp := bp) (bl := bl) (d := d) (by omega) (by omega) (by rw [hg]; omega)
    rw [hg] at hsep
    refine ⟨_, c_Separate hoa hokb, ?_⟩
    rw [hsep]
    subst h3; subst h4
    simp only [decide_eq_true_eq, decide_eq_false_iff_not]
    refine ⟨fun hs => ⟨⟨by omega, by omega, ?_, ?_⟩, by omega⟩, fun hs => ⟨⟨by omega, by omega, ?_, ?_⟩, by omega⟩⟩
    · split <;> split <;> (try split) <;> omega
    · split <;> omega
    · split <;> split <;> omega
    · split <;> split <;> omega
  · have hd : d = g := by omega
    subst hd
    subst h3; subst h4
    refine ⟨fun h => ?_, fun h => ?_⟩
    · split at h
      · omega
      · rw [if_neg (by omega)]; simp
    · split at h
      · rw [if_pos (by omega), if_pos (by omega), if_pos (by omega)]
        simp; omega
      · omega
end Go.Proofs.Y23
