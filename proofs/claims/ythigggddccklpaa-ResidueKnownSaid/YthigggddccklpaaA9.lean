/- A part of the proof: see the text that states the theorem. -/
import Derived.Test.YthigggddccklpaaA6
set_option linter.unusedSimpArgs false
set_option linter.unusedVariables false
set_option linter.unusedSectionVars false
namespace Go.Proofs.Y23
open Go Go.SX Go.RowKit
noncomputable def C3 : Cfg := { P := Try.prog, ct := ctOf [(10, rSp), (11, rBE), (12, rBE), (13, rI), (14, rI), (15, rB), (16, rBE), (17, rBE), (18, rRoom), (19, rRoom), (21, rIE), (22, rIE), (23, rIE), (24, rIE), (25, rB), (26, rB), (27, rSp), (28, rI), (29, rSp), (32, rB)], ann := annOf [((6, 6), [.slot 7, .slot 8]), ((7, 10), [.slot 13]), ((7, 18), [.slot 14])] }
@[simp] theorem C3_P : C3.P = Try.prog := rfl
theorem t_Means : callTree C3 300 6 [u8x 0 6, i64 6] [] 20 = some
  (.call 15 [] [] 21 [.b] (.a (.c (.bool (.v 21)))) []
  (.ite (.not (.v 21))
    (.done (.a (.c (.bool (.lit false)))) [])
    (.call 10 [(.a (.c (.int .u8 (.v 0)))), (.a (.c (.int .u8 (.v 1)))), (.a (.c (.int .u8 (.v 2))))] [] 22 [.i, .i, .i] (.a (.agg [(.int .i64 (.v 22)), (.int .i64 (.v 23)), (.int .i64 (.v 24))])) []
    (.call 10 [(.a (.c (.int .u8 (.v 3)))), (.a (.c (.int .u8 (.v 4)))), (.a (.c (.int .u8 (.v 5))))] [] 25 [.i, .i, .i] (.a (.agg [(.int .i64 (.v 25)), (.int .i64 (.v 26)), (.int .i64 (.v 27))])) []
    (.loop [.b, .i] 30 [(.b (.lit false)), (.i (.lit 0))]
      (.ite (.cmp .lss (.v 31) (.bin .mul .i64 (.v 22) (.v 25)))
        (.ite (.not (.v 30))
          (.call 25 [(.a (.agg [(.int .i64 (.v 22)), (.int .i64 (.v 23)), (.int .i64 (.v 24))])), (.a (.c (.int .i64 (.v 31))))] [] 32 [.b] (.a (.c (.bool (.v 32)))) []
          (.ite (.v 32)
            (.call 25 [(.a (.agg [(.int .i64 (.v 25)), (.int .i64 (.v 26)), (.int .i64 (.v 27))])), (.a (.c (.int .i64 (.v 31))))] [] 33 [.b] (.a (.c (.bool (.v 33)))) []
            (.cont 0 [(.b (.v 33)), (.i (.bin .add .i64 (.v 31) (.lit 1)))]))
            (.cont 0 [(.b (.lit false)), (.i (.bin .add .i64 (.v 31) (.lit 1)))])))
          (.cont 0 [(.b (.lit true)), (.i (.bin .add .i64 (.v 31) (.lit 1)))]))
        (.call 25 [(.a (.agg [(.int .i64 (.v 22)), (.int .i64 (.v 23)), (.int .i64 (.v 24))])), (.a (.c (.int .i64 (.bin .rem .i64 (.v 6) (.lit 100000)))))] [] 32 [.b] (.a (.c (.bool (.v 32)))) []
        (.call 25 [(.a (.agg [(.int .i64 (.v 22)), (.int .i64 (.v 23)), (.int .i64 (.v 24))])), (.a (.c (.int .i64 (.bin .add .i64 (.bin .rem .i64 (.v 6) (.lit 100000)) (.v 22)))))] [] 33 [.b] (.a (.c (.bool (.v 33)))) []
        (.call 25 [(.a (.agg [(.int .i64 (.v 22)), (.int .i64 (.v 23)), (.int .i64 (.v 24))])), (.a (.c (.int .i64 (.bin .rem .i64 (.v 6) (.lit 100000)))))] [] 34 [.b] (.a (.c (.bool (.v 34)))) []
        (.call 25 [(.a (.agg [(.int .i64 (.v 22)), (.int .i64 (.v 23)), (.int .i64 (.v 24))])), (.a (.c (.int .i64 (.bin .sub .i64 (.bin .rem .i64 (.v 6) (.lit 100000)) (.bin .mul .i64 (.lit 3) (.v 22))))))] [] 35 [.b] (.a (.c (.bool (.v 35)))) []
        (.call 26 [(.a (.agg [(.int .i64 (.v 22)), (.int .i64 (.v 23)), (.int .i64 (.v 24))])), (.a (.agg [(.int .i64 (.v 25)), (.int .i64 (.v 26)), (.int .i64 (.v 27))]))] [] 36 [.b] (.a (.c (.bool (.v 36)))) []
        (.done (.a (.c (.bool (.and (.eq (.v 36) (.not (.v 30))) (.and (.eq (.v 32) (.v 33)) (.eq (.v 34) (.v 35))))))) [])))))))))))) := by kernel_rfl
theorem t_Moves : callTree C3 300 7 [u8x 0 6, u8 6] [] 20 = some
  (.call 15 [] [] 21 [.b] (.a (.c (.bool (.v 21)))) []
  (.ite (.not (.v 21))
    (.done (.a (.c (.bool (.lit false)))) [])
    (.call 10 [(.a (.c (.int .u8 (.v 0)))), (.a (.c (.int .u8 (.v 1)))), (.a (.c (.int .u8 (.v 2))))] [] 22 [.i, .i, .i] (.a (.agg [(.int .i64 (.v 22)), (.int .i64 (.v 23)), (.int .i64 (.v 24))])) []
    (.call 10 [(.a (.c (.int .u8 (.v 3)))), (.a (.c (.int .u8 (.v 4)))), (.a (.c (.int .u8 (.v 5))))] [] 25 [.i, .i, .i] (.a (.agg [(.int .i64 (.v 25)), (.int .i64 (.v 26)), (.int .i64 (.v 27))])) []
    (.call 27 [(.a (.agg [(.int .i64 (.v 22)), (.int .i64 (.v 23)), (.int .i64 (.v 24))])), (.a (.c (.int .i64 (.conv .i64 (.v 6)))))] [] 30 [.i, .i, .i] (.a (.agg [(.int .i64 (.v 30)), (.int .i64 (.v 31)), (.int .i64 (.v 32))])) []
    (.call 27 [(.a (.agg [(.int .i64 (.v 25)), (.int .i64 (.v 26)), (.int .i64 (.v 27))])), (.a (.c (.int .i64 (.conv .i64 (.v 6)))))] [] 33 [.i, .i, .i] (.a (.agg [(.int .i64 (.v 33)), (.int .i64 (.v 34)), (.int .i64 (.v 35))])) []
    (.call 26 [(.a (.agg [(.int .i64 (.v 22)), (.int .i64 (.v 23)), (.int .i64 (.v 24))])), (.a (.agg [(.int .i64 (.v 25)), (.int .i64 (.v 26)), (.int .i64 (.v 27))]))] [] 38 [.b] (.a (.c (.bool (.v 38)))) []
    (.call 26 [(.a (.agg [(.int .i64 (.v 25)), (.int .i64 (.v 26)), (.int .i64 (.v 27))])), (.a (.agg [(.int .i64 (.v 22)), (.int .i64 (.v 23)), (.int .i64 (.v 24))]))] [] 39 [.b] (.a (.c (.bool (.v 39)))) []
    (.call 26 [(.a (.agg [(.int .i64 (.v 22)), (.int .i64 (.v 23)), (.int .i64 (.v 24))])), (.a (.agg [(.int .i64 (.v 25)), (.int .i64 (.v 26)), (.int .i64 (.v 27))]))] [] 40 [.b] (.a (.c (.bool (.v 40)))) []
    (.call 26 [(.a (.agg [(.int .i64 (.v 30)), (.int .i64 (.v 31)), (.int .i64 (.v 32))])), (.a (.agg [(.int .i64 (.v 33)), (.int .i64 (.v 34)), (.int .i64 (.v 35))]))] [] 41 [.b] (.a (.c (.bool (.v 41)))) []
    (.ite (.or (.not (.eq (.v 38) (.v 39))) (.not (.eq (.v 40) (.v 41))))
      (.done (.a (.c (.bool (.lit false)))) [])
      (.call 18 [(.a (.agg [(.int .i64 (.v 22)), (.int .i64 (.v 23)), (.int .i64 (.v 24))])), (.a (.agg [(.int .i64 (.v 25)), (.int .i64 (.v 26)), (.int .i64 (.v 27))]))] [] 42 [.i, .i, .i, .i] (.tup [(.c (.int .i64 (.v 42))), (.c (.int .i64 (.v 43))), (.c (.int .i64 (.v 44))), (.c (.int .i64 (.v 45)))]) []
      (.ite (.cmp .eql (.v 45) (.lit 4))
        (.loop [.i] 46 [(.i (.lit 0))]
          (.ite (.cmp .lss (.v 46) (.v 25))
            (.call 27 [(.a (.agg [(.int .i64 (.v 25)), (.int .i64 (.v 26)), (.int .i64 (.v 27))])), (.a (.c (.int .i64 (.v 46))))] [] 47 [.i, .i, .i] (.a (.agg [(.int .i64 (.v 47)), (.int .i64 (.v 48)), (.int .i64 (.v 49))])) []
            (.call 26 [(.a (.agg [(.int .i64 (.v 22)), (.int .i64 (.v 23)), (.int .i64 (.v 24))])), (.a (.agg [(.int .i64 (.v 47)), (.int .i64 (.v 48)), (.int .i64 (.v 49))]))] [] 50 [.b] (.a (.c (.bool (.v 50)))) []
            (.ite (.v 50)
              (.done (.a (.c (.bool (.lit false)))) [])
              (.cont 0 [(.i (.bin .add .i64 (.v 46) (.lit 1)))]))))
            (.done (.a (.c (.bool (.lit true)))) [])))
        (.need [(.or (.or (.cmp .neq (.v 45) (.lit 0)) (.cmp .lss (.v 44) (.lit 1))) (.cmp .neq (.v 44) (.lit 0)))]
        (.need [(.or (.or (.or (.cmp .neq (.v 45) (.lit 0)) (.cmp .lss (.v 44) (.lit 1))) (.cmp .neq (.bin .rem .i64 (.v 22) (.v 44)) (.lit 0))) (.cmp .neq (.v 44) (.lit 0)))]
        (.ite (.or (.or (.or (.or (.or (.cmp .neq (.v 45) (.lit 0)) (.cmp .lss (.v 44) (.lit 1))) (.cmp .neq (.bin .rem .i64 (.v 22) (.v 44)) (.lit 0))) (.cmp .neq (.bin .rem .i64 (.v 25) (.v 44)) (.lit 0))) (.cmp .gtr (.bin .add .i64 (.v 24) (.v 27)) (.v 44))) (.cmp .gtr (.v 42) (.v 43)))
          (.done (.a (.c (.bool (.lit false)))) [])
          (.loop [.i] 46 [(.i (.lit 0))]
            (.ite (.cmp .lss (.v 46) (.v 25))
              (.call 27 [(.a (.agg [(.int .i64 (.v 25)), (.int .i64 (.v 26)), (.int .i64 (.v 27))])), (.a (.c (.int .i64 (.v 46))))] [] 47 [.i, .i, .i] (.a (.agg [(.int .i64 (.v 47)), (.int .i64 (.v 48)), (.int .i64 (.v 49))])) []
              (.call 28 [(.a (.c (.int .i64 (.bin .sub .i64 (.v 48) (.v 23))))), (.a (.c (.int .i64 (.v 44))))] [] 51 [.i] (.a (.c (.int .i64 (.v 51)))) []
              (.call 26 [(.a (.agg [(.int .i64 (.v 22)), (.int .i64 (.v 23)), (.int .i64 (.v 24))])), (.a (.agg [(.int .i64 (.v 47)), (.int .i64 (.v 48)), (.int .i64 (.v 49))]))] [] 52 [.b] (.a (.c (.bool (.v 52)))) []
              (.ite (.not (.eq (.v 52) (.and (.cmp .geq (.v 51) (.v 42)) (.cmp .leq (.v 51) (.v 43)))))
                (.done (.a (.c (.bool (.lit false)))) [])
                (.cont 0 [(.i (.bin .add .i64 (.v 46) (.lit 1)))])))))
              (.done (.a (.c (.bool (.lit true)))) []))))))))))))))))))) := by kernel_rfl

theorem bezout_nat (m n : Nat) : ∃ s t : Int, (Nat.gcd m n : Int) = m * s + n * t := by
  induction m, n using Nat.gcd.induction with
  | H0 n => exact ⟨0, 1, by simp⟩
  | H1 m n hm ih =>
    obtain ⟨s, t, h⟩ := ih
    refine ⟨t - (n / m : Nat) * s, s, ?_⟩
    rw [Nat.gcd_rec, h]
    have e : ((n % m : Nat) : Int) = n - m * (n / m : Nat) := by
      have := Nat.mod_add_div n m
      have h2 : ((n % m + m * (n / m) : Nat) : Int) = n := by rw [this]
      rw [Int.natCast_add, Int.natCast_mul] at h2; omega
    rw [e, Int.sub_mul, Int.mul_sub, Int.mul_assoc]; omega
theorem bezout {a b : Int} (ha : 1 ≤ a) (hb : 1 ≤ b) : ∃ s t : Int, (Int.gcd a b : Int) = a * s + b * t := by
  obtain ⟨m, rfl⟩ := Int.eq_ofNat_of_zero_le (show 0 ≤ a by omega)
  obtain ⟨n, rfl⟩ := Int.eq_ofNat_of_zero_le (show 0 ≤ b by omega)
  exact bezout_nat m n
theorem means_law {ap af al bp bf bl : Int} (ha : okS ap af al = true) (hb : okS bp bf bl = true) :
    sepB ap af al bp bf bl = false ↔ ∃ x, 0 ≤ x ∧ x < ap * bp ∧ (x - af) % ap < al ∧ (x - bf) % bp < bl := by
  rw [okS_iff] at ha hb
  obtain ⟨g1, g2, g3, g4, g5⟩ := gfacts (a := ap) (b := bp) (by omega) (by omega)
  have hlaw := sep_law (D := bf - af) (g := (Int.gcd ap bp : Int)) (al := al) (bl := bl) g1 (by omega) (by omega)
  have hpos : 0 < ap * bp := Int.mul_pos (by omega) (by omega)
  constructor
  · intro h
    simp only [sepB, decide_eq_false_iff_not] at h
    obtain ⟨i, hi⟩ := Classical.not_forall.1 (fun hc => h (hlaw.2 hc))
    have hi1 : 1 - bl ≤ i := by
      rcases Int.lt_or_le i (1 - bl) with h1 | h1
      · exact absurd (fun h2 => by omega) hi
      · exact h1
    have hi2 : i < al := by
      rcases Int.lt_or_le i al with h1 | h1
      · exact h1
      · exact absurd (fun _ h2 => by omega) hi
    have hi3 : (bf - af - i) % (Int.gcd ap bp : Int) = 0 := by
      by_cases h3 : (bf - af - i) % (Int.gcd ap bp : Int) = 0
      · exact h3
      · exact absurd (fun _ _ => h3) hi
    obtain ⟨q, hq⟩ := Int.dvd_of_emod_eq_zero hi3
    obtain ⟨s, t, hst⟩ := bezout (a := ap) (b := bp) (by omega) (by omega)
    -- the number
    have hu : 0 ≤ max i 0 ∧ max i 0 < al ∧ 0 ≤ max i 0 - i ∧ max i 0 - i < bl := by omega
    generalize max i 0 = u at hu
    have hx1 : (af + u + ap * (s * q)) % (ap * bp) % ap = (af + u) % ap := by
      rw [Int.emod_emod_of_dvd _ (Int.dvd_mul_right ap bp), Int.add_mul_emod_self_left]
    have hx2 : (af + u + ap * (s * q)) % (ap * bp) % bp = (bf + (u - i)) % bp := by
      rw [Int.emod_emod_of_dvd _ (show bp ∣ ap * bp from ⟨ap, Int.mul_comm _ _⟩)]
      have : af + u + ap * (s * q) = (bf + (u - i)) + bp * (-(t * q)) := by
        have e : (Int.gcd ap bp : Int) * q = ap * (s * q) + bp * (t * q) := by rw [hst, Int.add_mul, Int.mul_assoc, Int.mul_assoc]
        rw [Int.mul_neg]; omega
      rw [this, Int.add_mul_emod_self_left]
    refine ⟨(af + u + ap * (s * q)) % (ap * bp), Int.emod_nonneg _ (by omega), Int.emod_lt_of_pos _ hpos, ?_, ?_⟩
    · rw [Int.sub_emod, hx1, ← Int.sub_emod, show af + u - af = u by omega, Int.emod_eq_of_lt (by omega) (by omega)]; omega
    · rw [Int.sub_emod, hx2, ← Int.sub_emod, show bf + (u - i) - bf = u - i by omega, Int.emod_eq_of_lt (by omega) (by omega)]; omega
  · intro ⟨x, _, _, h1, h2⟩
    simp only [sepB, decide_eq_false_iff_not]
    intro hc
    have e1 := Int.emod_nonneg (x - af) (show ap ≠ 0 by omega)
    have e2 := Int.emod_nonneg (x - bf) (show bp ≠ 0 by omega)
    refine hlaw.1 hc ((x - af) % ap - (x - bf) % bp) (by omega) (by omega) (Int.emod_eq_zero_of_dvd ?_)
    have f1 := Int.emod_add_mul_ediv (x - af) ap
    have f2 := Int.emod_add_mul_ediv (x - bf) bp
    have : bf - af - ((x - af) % ap - (x - bf) % bp) = ap * ((x - af) / ap) - bp * ((x - bf) / bp) := by omega
    rw [this]
    exact Int.dvd_sub (Int.dvd_mul_of_dvd_left g4) (Int.dvd_mul_of_dvd_left g5)
theorem covers_at {p f l : Int} (h : okS p f l = true) {x : Int} (h1 : -1099511627776 ≤ x) (h2 : x ≤ 1099511627776) : (coversB p f l x && coversE p f l x == 0) = decide ((x - f) % p < l) := by
  simp [coversB, coversE, h, h1, h2]
theorem apart_at {ap af al bp bf bl : Int} (ha : okS ap af al = true) (hb : okS bp bf bl = true) : (apartB ap af al bp bf bl && apartE ap af al bp bf bl == 0) = sepB ap af al bp bf bl := by
  simp [apartB, apartE, ha, hb]
set_option maxRecDepth 100000 in
theorem l_Means (a b c d e g t : Int) (ha : 0 ≤ a ∧ a < 256) (hb : 0 ≤ b ∧ b < 256) (hc : 0 ≤ c ∧ c < 256) (hd : 0 ≤ d ∧ d < 256) (he : 0 ≤ e ∧ e < 256) (hg : 0 ≤ g ∧ g < 256) :
    Ret Try.prog 6 #[.agg #[vU a, vU b, vU c, vU d, vU e, vU g], vI t] (vB true) := by
  refine ret_of t_Means (mkEnv [.i a, .i b, .i c, .i d, .i e, .i g, .i t]) (fun w => ?_)
  simp [-Bool.exists_bool, -Bool.forall_bool]
  refine ⟨true, c_works, rfl, fun _ => ?_⟩
  refine ⟨_, _, _, c_Of ha hb hc, _, _, _, c_Of hd he hg, ?_⟩
  have ok1 := ok_of a b c
  have ok2 := ok_of d e g
  have hlaw := means_law ok1 ok2
  have k1 := okS_iff.1 ok1
  have k2 := okS_iff.1 ok2
  generalize ofP a = ap at *
  generalize ofF a b = af at *
  generalize ofL a c = al at *
  generalize ofP d = bp at *
  generalize ofF d e = bf at *
  generalize ofL d g = bl at *
  have hm1 : 0 ≤ ap * bp := Int.mul_nonneg (by omega) (by omega)
  have hm2 : ap * bp ≤ 960 * 960 := Int.mul_le_mul (by omega) (by omega) (by omega) (by omega)
  rw [wrap64 (x := ap * bp) (by omega) (by omega)]
  refine ⟨fun l => match l with
    | [.b both, .i x] => 0 ≤ x ∧ x ≤ ap * bp ∧ (both = true ↔ ∃ y, 0 ≤ y ∧ y < x ∧ (y - af) % ap < al ∧ (y - bf) % bp < bl)
    | _ => False, ⟨by omega, by omega, ⟨fun h => (by cases h), fun ⟨y, h1, h2, _⟩ => by omega⟩⟩, fun l => match l with
    | [_, .i x] => (ap * bp - x).toNat
    | _ => 0, fun both x ⟨i1, i2, i3⟩ => ⟨fun hx => ⟨fun hb0 => ⟨_, c_covers _ _ _ _, ?_⟩, fun hb1 => ?_⟩, fun hx => ?_⟩⟩
  · rw [covers_at ok1 (by omega) (by omega)]
    have no : ∀ y, 0 ≤ y → y < x → (y - af) % ap < al → ¬ (y - bf) % bp < bl := fun y h1 h2 h3 h4 => by
      have := i3.2 ⟨y, h1, h2, h3, h4⟩
      rw [hb0] at this; cases this
    refine ⟨fun hA => ⟨_, c_covers _ _ _ _, ?_⟩, fun hA => ?_⟩
    · rw [covers_at ok2 (by omega) (by omega), wrap64 (by omega) (by omega)]
      simp only [decide_eq_true_eq] at hA
      refine ⟨⟨by omega, by omega, ⟨fun h => ⟨x, by omega, by omega, hA, by simpa using h⟩, fun ⟨y, h1, h2, h3, h4⟩ => ?_⟩⟩, by simp only; omega⟩
      by_cases hyx : y = x
      · subst hyx; simpa using h4
      · exact absurd h4 (no y h1 (by omega) h3)
    · rw [wrap64 (by omega) (by omega)]
      simp only [decide_eq_false_iff_not] at hA
      refine ⟨⟨by omega, by omega, ⟨fun h => (by cases h), fun ⟨y, h1, h2, h3, h4⟩ => ?_⟩⟩, by simp only; omega⟩
      by_cases hyx : y = x
      · subst hyx; exact absurd h3 hA
      · exact absurd h4 (no y h1 (by omega) h3)
  · rw [wrap64 (by omega) (by omega)]
    obtain ⟨y, h1, h2, h3, h4⟩ := i3.1 hb1
    exact ⟨⟨by omega, by omega, ⟨fun _ => ⟨y, h1, by omega, h3, h4⟩, fun _ => rfl⟩⟩, by simp only; omega⟩
  · have hxe : x = ap * bp := by omega
    subst hxe
    have tb := tmod_bd (a := t) (m := 100000) (by omega)
    rw [wrap64 (x := t.tmod 100000 + ap) (by omega) (by omega), wrap64 (x := 3 * ap) (by omega) (by omega), wrap64 (x := t.tmod 100000 - 3 * ap) (by omega) (by omega)]
    refine ⟨_, c_covers _ _ _ _, _, c_covers _ _ _ _, _, c_covers _ _ _ _, _, c_covers _ _ _ _, _, c_apart _ _ _ _ _ _, ?_, ?_, ?_⟩
    · rw [apart_at ok1 ok2]
      cases hs : sepB ap af al bp bf bl
      · have := i3.2 (hlaw.1 hs); rw [this]; rfl
      · cases hbo : both
        · rfl
        · have := hlaw.2 (i3.1 hbo); rw [hs] at this; cases this
    · rw [covers_at ok1 (by omega) (by omega), covers_at ok1 (by omega) (by omega), show t.tmod 100000 + ap - af = (t.tmod 100000 - af) + ap by omega, Int.add_emod_right]
    · rw [covers_at ok1 (by omega) (by omega), covers_at ok1 (by omega) (by omega), show t.tmod 100000 - 3 * ap - af = (t.tmod 100000 - af) + ap * (-3) by omega, Int.add_mul_emod_self_left]
end Go.Proofs.Y23
