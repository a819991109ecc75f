/- A part of the proof: see the text that states the theorem. -/
import Derived.Test.YthigggddccklpaaA3
set_option linter.unusedSimpArgs false
set_option linter.unusedVariables false
set_option linter.unusedSectionVars false
noncomputable section
namespace Go.Proofs.Y23
open Go Go.SX Go.RowKit
theorem sep_shift {ap af al bp bf bl k : Int} (ha : 1 ≤ ap) (hb : 1 ≤ bp) : sepB ap af al bp ((bf + k) % bp) bl = decide (al ≤ (bf + k - af) % (Int.gcd ap bp : Int) ∧ (bf + k - af) % (Int.gcd ap bp : Int) ≤ (Int.gcd ap bp : Int) - bl) := by
  obtain ⟨g1, g2, g3, g4, g5⟩ := gfacts (a := ap) (b := bp) ha hb
  have e : ((bf + k) % bp - af) % (Int.gcd ap bp : Int) = (bf + k - af) % (Int.gcd ap bp : Int) := by
    rw [Int.sub_emod, Int.emod_emod_of_dvd _ g5, ← Int.sub_emod]
  simp only [sepB, e]
def clearB (l : List Sp) (p f g : Int) : Bool := l.all fun a => sepB a.1 a.2.1 a.2.2 p f g
theorem c_Clear (l : List Sp) (hl : l.length ≤ 1000000) (hok : ∀ s ∈ l, okSp s = true) {p f g : Int} (hb : okS p f g = true) (v : Value) (w : World) (h : SliceIs w p3 (rowsOf l) v) :
    Calls Try.prog 40 #[v, vS p f g] w fun e w' => e = .returned (vB (clearB l p f g)) ∧ Below w.heap.size w w' := by
  obtain ⟨nl, b, o, cap, rfl, h1, h2⟩ := h
  have := calls_of t_Clear (ρ := mkEnv [.l (rowsOf l), .n nl, .i cap, .i p, .i f, .i g]) (κ := kap1 b o) (w := w) (res := vB (clearB l p f g)) (heapOk_slice h1 h2) ?_
  · simp only [List.map_cons, List.map_nil] at this
    rw [slArg_den (rows := rowsOf l) (nl := nl) (cap := cap) rfl rfl rfl] at this
    exact this
  simp [-Bool.exists_bool]
  refine ⟨fun l' => match l' with
    | [.i k] => 0 ≤ k ∧ k ≤ l.length ∧ ∀ n : Nat, (n : Int) < k → sepB (spAt l n).1 (spAt l n).2.1 (spAt l n).2.2 p f g = true
    | _ => False, ⟨by omega, by omega, fun n h => by omega⟩, fun l' => match l' with
    | [.i k] => (l.length - k).toNat
    | _ => 0, fun k ⟨i1, i2, i3⟩ => ⟨fun hk => ⟨i1, _, c_Separate (hok _ (spAt_mem (by omega))) hb, fun hs => ?_, fun hs => ?_⟩, fun hk => ?_⟩⟩
  · have hne : ¬ (clearB l p f g = true) := fun h => by
      have h := List.all_eq_true.1 h _ (spAt_mem (l := l) (n := k.toNat) (by omega))
      rw [hs] at h; cases h
    cases hc : clearB l p f g
    · rfl
    · exact absurd hc hne
  · rw [wrap64 (by omega) (by omega)]
    refine ⟨⟨by omega, by omega, fun n hn => ?_⟩, by simp only; omega⟩
    by_cases hnk : (n : Int) < k
    · exact i3 n hnk
    · have : n = k.toNat := by omega
      subst this; exact hs
  · exact List.all_eq_true.2 (all_of_spAt fun n hn => i3 n (by omega))
def nextF (l : List Sp) (p f g : Int) : Int × Int :=
  if listE l = 0 then (if okS p f g then (match (List.range p.toNat).find? fun k : Nat => clearB l p ((f + k) % p) g with
    | some k => ((k : Int), 0)
    | none => (0, 4)) else (0, 330)) else (0, listE l)
theorem nextF_some {l : List Sp} {p f g : Int} (h1 : listE l = 0) (h2 : okS p f g = true) {k : Int} (h3 : 0 ≤ k) (h4 : k < p) (h5 : clearB l p ((f + k) % p) g = true) (h6 : ∀ m : Int, 0 ≤ m → m < k → clearB l p ((f + m) % p) g = false) : nextF l p f g = (k, 0) := by
  have : (List.range p.toNat).find? (fun k : Nat => clearB l p ((f + k) % p) g) = some k.toNat := by
    rw [List.find?_range_eq_some]
    refine ⟨by rw [Int.toNat_of_nonneg h3]; exact h5, by simp; omega, fun j hj => ?_⟩
    rw [h6 j (by omega) (by omega)]; rfl
  rw [nextF, if_pos h1, if_pos h2, this]
  simp; omega
theorem nextF_none {l : List Sp} {p f g : Int} (h1 : listE l = 0) (h2 : okS p f g = true) (h6 : ∀ m : Int, 0 ≤ m → m < p → clearB l p ((f + m) % p) g = false) : nextF l p f g = (0, 4) := by
  have : (List.range p.toNat).find? (fun k : Nat => clearB l p ((f + k) % p) g) = none := by
    rw [List.find?_eq_none]
    intro j hj
    rw [h6 j (by omega) (by simp at hj; omega)]; simp
  rw [nextF, if_pos h1, if_pos h2, this]
theorem c_refNext (l : List Sp) (p f g : Int) (v : Value) (w : World) (h : SliceIs w p3 (rowsOf l) v) : Calls Try.prog 22 #[v, vS p f g] w fun e w' => e = .returned (vIE (nextF l p f g).1 (nextF l p f g).2) ∧ Below w.heap.size w w' := by
  obtain ⟨nl, b, o, cap, rfl, h1, h2⟩ := h
  have := calls_of t_refNext (ρ := mkEnv [.l (rowsOf l), .n nl, .i cap, .i p, .i f, .i g]) (κ := kap1 b o) (w := w) (res := vIE (nextF l p f g).1 (nextF l p f g).2) (heapOk_slice h1 h2) ?_
  · simp only [List.map_cons, List.map_nil] at this
    rw [slArg_den (rows := rowsOf l) (nl := nl) (cap := cap) rfl rfl rfl] at this
    exact this
  simp [-Bool.exists_bool]
  refine ⟨listE l, fun κ w1 hH hb hz => ?_, fun he => ⟨fun k1 k2 k3 k4 k5 k6 => ?_, fun hbad => ?_⟩, fun hne => by simp [nextF, hne]⟩
  · have hs := hH.slice (rowsOf_len _) cap
    exact c_refList l _ w1 hs
  · obtain ⟨hl, hok⟩ := ok_of_list he
    have hbk : okS p f g = true := okS_iff.2 (by omega)
    refine ⟨fun l' => match l' with
      | [.i k] => 0 ≤ k ∧ k ≤ p ∧ ∀ m : Int, 0 ≤ m → m < k → clearB l p ((f + m) % p) g = false
      | _ => False, ⟨by omega, by omega, fun n h => by omega⟩, fun l' => match l' with
      | [.i k] => (p - k).toNat
      | _ => 0, fun k ⟨i1, i2, i3⟩ => ⟨fun hk => ⟨by omega, clearB l p ((f + k) % p) g, fun κ w1 hH hb hz => ?_, fun hc => ?_, fun hc => ?_⟩, fun hk => ?_⟩⟩
    · have hs := hH.slice (rowsOf_len _) cap
      rw [wrap64 (by omega) (by omega), Int.tmod_eq_emod_of_nonneg (by omega)]
      have hm := Int.emod_nonneg (f + k) (show p ≠ 0 by omega)
      have hm2 := Int.emod_lt_of_pos (f + k) (show 0 < p by omega)
      exact c_Clear l (by omega) hok (okS_iff.2 (by omega)) _ w1 hs
    · rw [nextF_some he hbk i1 hk hc i3]; simp
    · rw [wrap64 (by omega) (by omega)]
      refine ⟨⟨by omega, by omega, fun m hm1 hm2 => ?_⟩, by simp only; omega⟩
      by_cases hmk : m < k
      · exact i3 m hm1 hmk
      · have : m = k := by omega
        subst this; exact hc
    · rw [nextF_none he hbk fun m hm1 hm2 => i3 m hm1 (by omega)]; simp
  · have : okS p f g = false := by
      cases hb : okS p f g
      · rfl
      · have := okS_iff.1 hb
        have := hbad (by omega) (by omega) (by omega) (by omega) (by omega); omega
    simp [nextF, he, this]
theorem jump_law {D al bl g : Int} (hg : 1 ≤ g) (hal : 1 ≤ al) (hbl : 1 ≤ bl) (hgap : al ≤ g - bl) (hd : D % g < al ∨ g - bl < D % g) :
    1 ≤ (al - D % g) % g ∧ (al - D % g) % g < g ∧ ∀ t, 0 ≤ t → t < (al - D % g) % g → ¬ (al ≤ (D + t) % g ∧ (D + t) % g ≤ g - bl) := by
  have e1 := Int.emod_nonneg D (show g ≠ 0 by omega)
  have e2 := Int.emod_lt_of_pos D (show 0 < g by omega)
  have e3 := Int.emod_add_mul_ediv D g
  have key : ∀ t, (D + t) % g = (D % g + t) % g := fun t => by
    have : D + t = (D % g + t) + g * (D / g) := by omega
    rw [this, Int.add_mul_emod_self_left]
  rcases Int.lt_or_le (D % g) al with h | h
  · have hj : (al - D % g) % g = al - D % g := Int.emod_eq_of_lt (by omega) (by omega)
    rw [hj]
    refine ⟨by omega, by omega, fun t h1 h2 => ?_⟩
    rw [key, Int.emod_eq_of_lt (by omega) (by omega)]
    omega
  · have hj : (al - D % g) % g = al - D % g + g := by
      have : al - D % g = (al - D % g + g) + g * (-1) := by omega
      rw [this, Int.add_mul_emod_self_left]
      rw [Int.emod_eq_of_lt (by omega) (by omega)]
      omega
    rw [hj]
    refine ⟨by omega, by omega, fun t h1 h2 => ?_⟩
    rw [key]
    rcases Int.lt_or_le (D % g + t) g with h3 | h3
    · rw [Int.emod_eq_of_lt (by omega) h3]; omega
    · have : D % g + t = (D % g + t - g) + g * 1 := by omega
      rw [this, Int.add_mul_emod_self_left, Int.emod_eq_of_lt (by omega) (by omega)]; omega
theorem c_Next (l : List Sp) (p f g : Int) (v : Value) (w : World) (h : SliceIs w p3 (rowsOf l) v) : Calls Try.prog 21 #[v, vS p f g] w fun e w' => e = .returned (vIE (nextF l p f g).1 (nextF l p f g).2) ∧ Below w.heap.size w w' := by
  obtain ⟨nl, b, o, cap, rfl, h1, h2⟩ := h
  have := calls_of t_Next (ρ := mkEnv [.l (rowsOf l), .n nl, .i cap, .i p, .i f, .i g]) (κ := kap1 b o) (w := w) (res := vIE (nextF l p f g).1 (nextF l p f g).2) (heapOk_slice h1 h2) ?_
  · simp only [List.map_cons, List.map_nil] at this
    rw [slArg_den (rows := rowsOf l) (nl := nl) (cap := cap) rfl rfl rfl] at this
    exact this
  simp [-Bool.exists_bool]
  refine ⟨listE l, fun κ w1 hH hb hz => ?_, fun hne => by simp [nextF, hne], fun he => ⟨fun hbad => ?_, fun k1 k2 k3 k4 k5 k6 => ?_⟩⟩
  · have hs := hH.slice (rowsOf_len _) cap
    exact c_list l _ w1 hs
  · have : okS p f g = false := by
      cases hb : okS p f g
      · rfl
      · have := okS_iff.1 hb
        omega
    simp [nextF, he, this]
  · obtain ⟨hl, hok⟩ := ok_of_list he
    have hbk : okS p f g = true := okS_iff.2 (by omega)
    have notClear : ∀ (n : Nat) (m : Int), n < l.length → sepB (spAt l n).1 (spAt l n).2.1 (spAt l n).2.2 p ((f + m) % p) g = false → clearB l p ((f + m) % p) g = false := by
      intro n m hn hs
      cases hc : clearB l p ((f + m) % p) g
      · rfl
      · have := List.all_eq_true.1 hc _ (spAt_mem hn)
        rw [hs] at this; cases this
    refine ⟨fun l' => match l' with
      | [.i k] => 0 ≤ k ∧ k ≤ 2000 ∧ ∀ m : Int, 0 ≤ m → m < k → clearB l p ((f + m) % p) g = false
      | _ => False, ⟨by omega, by omega, fun n h => by omega⟩, fun l' => match l' with
      | [.i k] => (2000 - k).toNat
      | _ => 0, fun k ⟨i1, i2, i3⟩ => ⟨fun hk => ?_, fun hk => ?_⟩⟩
    · refine ⟨fun l' => match l' with
        | [.i i, .i k'] => 0 ≤ i ∧ i ≤ l.length ∧ k' = k ∧ ∀ n : Nat, (n : Int) < i → sepB (spAt l n).1 (spAt l n).2.1 (spAt l n).2.2 p ((f + k) % p) g = true
        | _ => False, ⟨by omega, by omega, rfl, fun n h => by omega⟩, fun l' => match l' with
        | [.i i, _] => (l.length - i).toNat
        | _ => 0, fun i k' ⟨j1, j2, j3, j4⟩ => ⟨fun hi => ⟨j1, ?_⟩, fun hi => ?_⟩⟩
      · subst j3
        have hmem := spAt_mem (l := l) (n := i.toNat) (by omega)
        have ha := okS_iff.1 (hok _ hmem)
        have hn : i.toNat < l.length := by omega
        have nc := fun m => notClear i.toNat m hn
        have j4' : ∀ n : Nat, (n : Int) < i → sepB (spAt l n).1 (spAt l n).2.1 (spAt l n).2.2 p ((f + k') % p) g = true := j4
        have hin : (i.toNat : Int) = i := by omega
        generalize hA : spAt l i.toNat = A at ha nc
        obtain ⟨ap, af, al⟩ := A
        simp only at ha nc ⊢
        obtain ⟨g1, g2, g3, g4, g5⟩ := gfacts (a := ap) (b := p) (by omega) (by omega)
        have hss := fun m => sep_shift (ap := ap) (af := af) (al := al) (bp := p) (bf := f) (bl := g) (k := m) (by omega) (by omega)
        refine ⟨_, c_gcd ap p (by omega) (by omega), ?_⟩
        generalize (Int.gcd ap p : Int) = G at *
        rw [wrap64 (x := G - g) (by omega) (by omega)]
        refine ⟨fun hnone => ?_, fun hgap => ?_⟩
        · rw [nextF_none he hbk fun m hm1 hm2 => nc m (by rw [hss]; simp; omega)]; simp
        · rw [wrap64 (x := f + k') (by omega) (by omega), wrap64 (x := f + k' - af) (by omega) (by omega)]
          have hd1 := Int.emod_nonneg (f + k' - af) (show G ≠ 0 by omega)
          have hd2 := Int.emod_lt_of_pos (f + k' - af) (show 0 < G by omega)
          refine ⟨_, c_mod _ _ (by omega) (by omega), fun hconf => ?_, fun hc1 hc2 => ?_⟩
          · rw [wrap64 (x := al - (f + k' - af) % G) (by omega) (by omega)]
            obtain ⟨q1, q2, q3⟩ := jump_law (D := f + k' - af) (al := al) (bl := g) (g := G) (by omega) (by omega) (by omega) hgap hconf
            refine ⟨_, c_mod _ _ (by omega) (by omega), ?_⟩
            rw [wrap64 (by omega) (by omega)]
            refine ⟨⟨by omega, by omega, fun m hm1 hm2 => ?_⟩, by omega⟩
            by_cases hmk : m < k'
            · exact i3 m hm1 hmk
            · refine nc m ?_
              rw [hss, show f + m - af = (f + k' - af) + (m - k') by omega]
              simp only [decide_eq_false_iff_not]
              exact q3 (m - k') (by omega) (by omega)
          · rw [wrap64 (by omega) (by omega)]
            refine ⟨⟨by omega, by omega, trivial, fun n hn => ?_⟩, by omega⟩
            by_cases hni : (n : Int) < i
            · exact j4' n hni
            · have : n = i.toNat := by omega
              subst this
              rw [hA]; simp only
              rw [hss]; simp only [decide_eq_true_eq]; exact ⟨hc1, hc2⟩
      · subst j3
        rw [nextF_some he hbk i1 hk (List.all_eq_true.2 (all_of_spAt fun n hn => j4 n (by omega))) i3]; simp
    · rw [nextF_none he hbk fun m hm1 hm2 => i3 m hm1 (by omega)]; simp
end Go.Proofs.Y23
