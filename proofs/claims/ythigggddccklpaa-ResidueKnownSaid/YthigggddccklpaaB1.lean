/- A part of the proof: see the text that states the theorem. -/
import Derived.Test.YthigggddccklpaaB0
set_option linter.unusedSimpArgs false
set_option linter.unusedVariables false
set_option linter.unusedSectionVars false
noncomputable section
namespace Go.Proofs.Y23
open Go Go.SX Go.RowKit
theorem c_works : Ret Try.prog 15 #[] (vB true) := by
  refine ret_of t_works (mkEnv []) (fun w => ?_)
  simp
theorem c_span (p f l : Int) : Ret Try.prog 29 #[vI p, vI f, vI l] (vS p f l) := by
  refine ret_of t_span (mkEnv [.i p, .i f, .i l]) (fun w => ?_)
  simp
theorem c_covers (p f l t : Int) : Ret Try.prog 25 #[vS p f l, vI t] (vB (coversB p f l t && coversE p f l t == 0)) := by
  refine ret_of t_covers (mkEnv [.i p, .i f, .i l, .i t]) (fun w => ?_)
  simp [-Bool.exists_bool]
  exact ⟨_, _, c_Covers p f l t, rfl⟩
theorem c_apart (ap af al bp bf bl : Int) : Ret Try.prog 26 #[vS ap af al, vS bp bf bl] (vB (apartB ap af al bp bf bl && apartE ap af al bp bf bl == 0)) := by
  refine ret_of t_apart (mkEnv [.i ap, .i af, .i al, .i bp, .i bf, .i bl]) (fun w => ?_)
  simp [-Bool.exists_bool]
  exact ⟨_, _, c_Apart _ _ _ _ _ _, rfl⟩
/-- the spans that are drafted by bytes -/
def ofSp (s : Sp) : Sp := (ofP s.1, ofF s.1 s.2.1, ofL s.1 s.2.2)
def byteSp (s : Sp) : Prop := (0 ≤ s.1 ∧ s.1 < 256) ∧ (0 ≤ s.2.1 ∧ s.2.1 < 256) ∧ (0 ≤ s.2.2 ∧ s.2.2 < 256)
theorem c_drafts (us : List Sp) (hu : ∀ s ∈ us, byteSp s) (m : Int) (hm : 0 ≤ m) (hm2 : m < 1000) {v : Value} (w : World) (h : SliceIs w pu3 (rowsOf us) v) :
    Calls Try.prog 20 #[v, vI m] w fun e w' => ∃ v', e = .returned v' ∧ OwnRow w w' 23 p3 (rowsOf ((us.take m.toNat).map ofSp)) (decide (us.take m.toNat = [])) v' ∧ Below w.heap.size w w' := by
  obtain ⟨nl, b, o, cap, rfl, h1, h2⟩ := h
  have := calls_of_tree t_drafts (ρ := mkEnv [.l (rowsOf us), .n nl, .i cap, .i m]) (κ := kap1 b o) (w := w)
    (Φ := fun l _ ρ => l.v = .a (.c (rowS 23 22 3)) ∧ l.st.H = [.arr 23 22 p3 (some 23)] ∧ ρ.a 22 = rowsOf ((us.take m.toNat).map ofSp) ∧ ρ.nl 23 = decide (us.take m.toNat = [])) (heapOk_slice h1 h2) ?_
  · simp only [List.map_cons, List.map_nil] at this
    rw [slArg_den (rows := rowsOf us) (nl := nl) (cap := cap) rfl rfl rfl] at this
    refine Calls.mono this fun e w' ⟨l, L', ρ', κ', he, ⟨e1, e2, e3, e4⟩, _, hh, hb⟩ => ?_
    rw [e2] at hh
    have ho := OwnRow.of_heap (w := w) hh (j := 23) (c := 22) rfl
    rw [e1] at he
    rw [e3, e4] at ho
    exact ⟨_, he, ho, hb⟩
  simp [-Bool.exists_bool, -Bool.forall_bool]
  refine ⟨fun l' => match l' with
    | [.i k, .l r, .n b] => 0 ≤ k ∧ k ≤ us.length ∧ k ≤ m ∧ r = rowsOf ((us.take k.toNat).map ofSp) ∧ b = decide (k = 0)
    | _ => False, ⟨by omega, by omega, by omega, rfl, rfl⟩, fun l' => match l' with
    | [.i k, _, _] => (us.length - k).toNat
    | _ => 0, fun k r b ⟨i1, i2, i3, i4, i5⟩ => ⟨fun hk hkm => ⟨i1, _, _, _, fun _ w1 _ _ _ => c_Of (hu _ (spAt_mem (by omega))).1 (hu _ (spAt_mem (by omega))).2.1 (hu _ (spAt_mem (by omega))).2.2 w1, ?_, ⟨?_, ?_, ?_, ?_, ?_⟩, ?_⟩, fun hk => ?_⟩⟩
  · rw [i4]; simp; omega
  · rw [wrap64 (by omega) (by omega)]; omega
  · rw [wrap64 (by omega) (by omega)]; omega
  · rw [wrap64 (by omega) (by omega)]; omega
  · rw [wrap64 (by omega) (by omega), i4, show (k + 1).toNat = k.toNat + 1 by omega, List.take_add_one]
    have : us[k.toNat]? = some (spAt us k.toNat) := by
      rw [spAt, List.getD_eq_getElem?_getD, List.getElem?_eq_getElem (by omega)]; rfl
    rw [this]; simp [rowsOf, ofSp]
  · rw [wrap64 (by omega) (by omega)]; symm; rw [decide_eq_false_iff_not]; omega
  · simp only; rw [wrap64 (by omega) (by omega)]; omega
  · refine ⟨rfl, ?_, ?_⟩
    · have e : us.take k.toNat = us.take m.toNat := by
        by_cases hlt : k < us.length
        · rw [show k = m by have := hk hlt; omega]
        · rw [List.take_of_length_le (by omega), List.take_of_length_le (by omega)]
      rw [i4, e]; simp
    · rw [i5]
      have : (us = [] ∨ m = 0) ↔ k = 0 := by
        constructor
        · rintro (h | h)
          · subst h; simp at i2; omega
          · omega
        · intro h
          by_cases hlt : k < us.length
          · right; have := hk hlt; omega
          · left; exact List.eq_nil_of_length_eq_zero (by omega)
      rw [Bool.eq_iff_iff]
      simp only [decide_eq_true_eq, Bool.or_eq_true]
      rw [← this]
      constructor
      · rintro (h | h)
        · exact .inr h
        · exact .inl (by omega)
      · rintro (h | h)
        · exact .inr (by omega)
        · exact .inl h
theorem lcm_q {n x : Int} (hn : 1 ≤ n) (hx : 1 ≤ x) : n / (Int.gcd n x : Int) * x = (Int.lcm n x : Int) := by
  obtain ⟨g1, g2, g3, g4, g5⟩ := gfacts hn hx
  have h1 : (Int.gcd n x : Int) * (Int.lcm n x : Int) = n * x := by
    have := Int.gcd_mul_lcm n x
    have h : ((Int.gcd n x * Int.lcm n x : Nat) : Int) = ((n * x).natAbs : Int) := by rw [this, Int.natAbs_mul]
    rw [Int.natCast_mul] at h
    rw [h, Int.natAbs_of_nonneg (Int.mul_nonneg (by omega) (by omega))]
  have h2 : (Int.gcd n x : Int) * (n / (Int.gcd n x : Int) * x) = n * x := by
    rw [← Int.mul_assoc, Int.mul_ediv_cancel' g4]
  exact Int.eq_of_mul_eq_mul_left (by omega) (h2.trans h1.symm)
theorem lcmF_spec : ∀ (xs : List Int) (n : Int), 1 ≤ n → n ≤ 960 → (∀ x ∈ xs, 1 ≤ x) →
    (lcmF xs n = 0 → ∀ m : Int, 1 ≤ m → m ≤ 960 → n ∣ m → (∀ x ∈ xs, x ∣ m) → False) ∧ 0 ≤ lcmF xs n ∧ (lcmF xs n ≠ 0 → lcmF xs n ≤ 960 ∧ n ∣ lcmF xs n ∧ (∀ x ∈ xs, x ∣ lcmF xs n) ∧ ∀ m : Int, n ∣ m → (∀ x ∈ xs, x ∣ m) → lcmF xs n ∣ m)
  | [], n, h1, h2, _ => by
    have e : lcmF [] n = n := rfl
    rw [e]
    exact ⟨fun h => by omega, by omega, fun _ => ⟨h2, Int.dvd_refl _, fun x hx => (by cases hx), fun m hm _ => hm⟩⟩
  | x :: xs, n, h1, h2, hx => by
    have hx1 := hx x (List.mem_cons_self ..)
    rw [lcmF_cons, lcm_q h1 hx1]
    have hd1 : n ∣ (Int.lcm n x : Int) := Int.dvd_lcm_left _ _
    have hd2 : x ∣ (Int.lcm n x : Int) := Int.dvd_lcm_right _ _
    have hd3 : ∀ m : Int, n ∣ m → x ∣ m → (Int.lcm n x : Int) ∣ m := fun m a b => Int.coe_lcm_dvd a b
    have hpos : 1 ≤ (Int.lcm n x : Int) := by
      have := Int.lcm_pos (m := n) (n := x) (by omega) (by omega)
      omega
    split
    · rename_i hbig
      refine ⟨fun _ m m1 m2 m3 m4 => ?_, by omega, fun h => absurd rfl h⟩
      have := Int.le_of_dvd (by omega) (hd3 m m3 (m4 x (List.mem_cons_self ..)))
      omega
    · rename_i hbig
      obtain ⟨k1, k0, k2⟩ := lcmF_spec xs (Int.lcm n x : Int) hpos (by omega) fun y hy => hx y (List.mem_cons_of_mem _ hy)
      refine ⟨fun h m m1 m2 m3 m4 => k1 h m m1 m2 (hd3 m m3 (m4 x (List.mem_cons_self ..))) fun y hy => m4 y (List.mem_cons_of_mem _ hy), k0, fun h => ?_⟩
      obtain ⟨q1, q2, q3, q4⟩ := k2 h
      refine ⟨q1, Int.dvd_trans hd1 q2, fun y hy => ?_, fun m m1 m2 => q4 m (hd3 m m1 (m2 x (List.mem_cons_self ..))) fun y hy => m2 y (List.mem_cons_of_mem _ hy)⟩
      rcases List.mem_cons.1 hy with rfl | hy
      · exact Int.dvd_trans hd2 q2
      · exact q3 y hy
theorem c_refCycle (l : List Sp) (v : Value) (w : World) (h : SliceIs w p3 (rowsOf l) v) : Calls Try.prog 24 #[v] w fun e w' => e = .returned (vIE (cycleF l).1 (cycleF l).2) ∧ Below w.heap.size w w' := by
  obtain ⟨nl, b, o, cap, rfl, h1, h2⟩ := h
  have := calls_of t_refCycle (ρ := mkEnv [.l (rowsOf l), .n nl, .i cap]) (κ := kap1 b o) (w := w) (res := vIE (cycleF l).1 (cycleF l).2) (heapOk_slice h1 h2) ?_
  · simp only [List.map_cons, List.map_nil] at this
    rw [slArg_den (rows := rowsOf l) (nl := nl) (cap := cap) rfl rfl rfl] at this
    exact this
  simp [-Bool.forall_bool, -Bool.exists_bool]
  refine ⟨listE l, fun κ w1 hH _ _ => c_refList l _ w1 (hH.slice (rowsOf_len _) cap), fun hne => by simp [cycleF, hne], fun he => ?_⟩
  obtain ⟨hl, hok⟩ := ok_of_list he
  have hper : ∀ s ∈ l, 1 ≤ s.1 := fun s hs => (okS_iff.1 (hok s hs)).1
  obtain ⟨k1, k0, k2⟩ := lcmF_spec (perF l) 1 (by omega) (by omega) fun x hx => by
    obtain ⟨s, hs, rfl⟩ := List.mem_map.1 hx
    exact hper s hs
  have hall : ∀ m : Int, (∀ x ∈ perF l, x ∣ m) ↔ ∀ s ∈ l, s.1 ∣ m := fun m => by simp [perF]
  simp only [hall] at k1 k2
  refine ⟨fun l' => match l' with
    | [.i n] => 1 ≤ n ∧ n ≤ 961 ∧ ∀ m : Int, 1 ≤ m → m < n → ¬ ∀ s ∈ l, s.1 ∣ m
    | _ => False, ⟨by omega, by omega, fun m h1 h2 => by omega⟩, fun l' => match l' with
    | [.i n] => (961 - n).toNat
    | _ => 0, fun n ⟨i1, i2, i3⟩ => ⟨fun hn => ?_, fun hn => ?_⟩⟩
  · refine ⟨fun l' => match l' with
      | [.b al, .i j] => 0 ≤ j ∧ j ≤ l.length ∧ (al = true ↔ ∀ s ∈ l.take j.toNat, s.1 ∣ n)
      | _ => False, ⟨by omega, by omega, by simp⟩, fun l' => match l' with
      | [_, .i j] => (l.length - j).toNat
      | _ => 0, fun al j ⟨j1, j2, j3⟩ => ⟨fun hj => ?_, fun hj => ?_⟩⟩
    · have hp := hper _ (spAt_mem (l := l) (n := j.toNat) (by omega))
      rw [wrap64 (by omega) (by omega)]
      refine ⟨.inr j1, .inr (by omega), ⟨by omega, by omega, ?_⟩, by simp only; omega⟩
      rw [show (j + 1).toNat = j.toNat + 1 by omega, List.take_add_one]
      have : l[j.toNat]? = some (spAt l j.toNat) := by
        rw [spAt, List.getD_eq_getElem?_getD, List.getElem?_eq_getElem (by omega)]; rfl
      rw [this]
      simp only [Bool.and_eq_true, j3, beq_iff_eq, tmod_zero (show 0 < (spAt l j.toNat).1 by omega), List.mem_append, Option.toList_some, List.mem_singleton]
      constructor
      · rintro ⟨a, b⟩ s (hs | rfl)
        · exact a s hs
        · exact b
      · intro a; exact ⟨fun s hs => a s (.inl hs), a _ (.inr rfl)⟩
    · rw [List.take_of_length_le (by omega)] at j3
      refine ⟨fun ht => ?_, fun hf => ?_⟩
      · have hd := j3.1 ht
        have hne : lcmF (perF l) 1 ≠ 0 := fun h => k1 h n i1 hn (Int.one_dvd _) hd
        obtain ⟨q1, _, q3, q4⟩ := k2 hne
        have hle := Int.le_of_dvd (by omega) (q4 n (Int.one_dvd _) hd)
        have hge : ¬ lcmF (perF l) 1 < n := fun h => i3 _ (by omega) h q3
        have e : lcmF (perF l) 1 = n := by omega
        have hpos : 0 < n := by omega
        simp [cycleF, he, hpos, e]
      · rw [wrap64 (by omega) (by omega)]
        refine ⟨⟨by omega, by omega, fun m m1 m2 hd => ?_⟩, by simp only; omega⟩
        by_cases hm : m < n
        · exact i3 m m1 hm hd
        · have : m = n := by omega
          subst this
          rw [j3.2 hd] at hf; cases hf
  · have e : lcmF (perF l) 1 = 0 := by
      apply Classical.byContradiction
      intro hne
      obtain ⟨q1, _, q3, q4⟩ := k2 hne
      exact i3 _ (by omega) (by omega) q3
    simp [cycleF, he, e]
/-- the row that stands in one row's place -/
theorem rows_set (l : List Sp) (k : Nat) (p f g : Int) : (rowsOf l).set k [.i p, .i f, .i g] = rowsOf (l.set k (p, f, g)) := by
  simp [rowsOf, List.map_set]
set_option maxHeartbeats 800000 in
theorem l_Nexts (us : List Sp) (hu : ∀ s ∈ us, byteSp s) (p f g at_ p2 f2 g2 a b c : Int) (hat : 0 ≤ at_ ∧ at_ < 256) (ha : 0 ≤ a ∧ a < 256) (hb : 0 ≤ b ∧ b < 256) (hc : 0 ≤ c ∧ c < 256) (v : Value) (w : World) (h : SliceIs w pu3 (rowsOf us) v) :
    Calls Try.prog 5 #[v, vS p f g, vU at_, vS p2 f2 g2, .agg #[vU a, vU b, vU c]] w fun e w' => e = .returned (vB true) ∧ Below w.heap.size w w' := by
  obtain ⟨nl, bl, o, cap, rfl, h1, h2⟩ := h
  have := calls_of t_Nexts (ρ := mkEnv [.l (rowsOf us), .n nl, .i cap, .i p, .i f, .i g, .i at_, .i p2, .i f2, .i g2, .i a, .i b, .i c]) (κ := kap1 bl o) (w := w) (res := vB true) (heapOk_slice h1 h2) ?_
  · simp only [List.map_cons, List.map_nil] at this
    rw [slArg_den (rows := rowsOf us) (nl := nl) (cap := cap) rfl rfl rfl] at this
    exact this
  simp [-Bool.forall_bool, -Bool.exists_bool]
  generalize hL : (us.take 34).map ofSp = L
  refine ⟨rowsOf L, decide (us.take 34 = []), callOk_row (by simp) (by omega) (fun κ w1 hH _ _ => ?_), ?_⟩
  · have hs := SliceIs.of_arr (j := 1) (c := 0) hH rfl (CE.e (IE.v 2))
    simp at hs
    have k := c_drafts us hu 34 (by omega) (by omega) w1 hs
    have k2 : (us.take (34 : Int).toNat).map ofSp = L := hL
    rw [k2] at k
    simp
    refine k.mono fun e w' ⟨v', e1, e2, e3⟩ => ⟨v', ?_, fun κ' hv => ?_, e3⟩
    · simpa [p3] using e2
    · rw [e1, ← hv]
  · have hl : L.length ≤ 34 := by rw [← hL]; simp; omega
    have hw : IntKind.i64.wrap at_ = at_ := wrap64 (by omega) (by omega)
    have hne : 0 < (rowsOf L).length → rowsOf L ≠ [] := fun h e => by rw [e] at h; simp at h
    simp only [hw, rowsOf_len] at hne ⊢
    have e1 := Int.emod_nonneg at_ (b := L.length)
    have e2 := Int.emod_lt_of_pos at_ (b := L.length)
    refine ⟨by omega, fun hpos => ⟨hne hpos, ⟨?_, ?_⟩, ?_⟩, fun h0 => ?_⟩
    · rw [Int.tmod_eq_emod_of_nonneg (by omega)]; omega
    · rw [Int.tmod_eq_emod_of_nonneg (by omega)]; omega
    · rw [rows_set]; exact ⟨_, _, _, c_Of ha hb hc, (nextF (L) p2 f2 g2).1, (nextF (L) p2 f2 g2).2, fun κ w1 hH _ _ => c_Next (L) p2 f2 g2 _ w1 (hH.slice (by simp) _), (nextF (L) p2 f2 g2).1, (nextF (L) p2 f2 g2).2, fun κ w1 hH _ _ => c_refNext (L) p2 f2 g2 _ w1 (hH.slice (by simp) _), ⟨rfl, rfl⟩, fun _ _ => ⟨(nextF (L) (ofP a) (ofF a b) (ofL a c)).1, (nextF (L) (ofP a) (ofF a b) (ofL a c)).2, fun κ w1 hH _ _ => c_Next (L) (ofP a) (ofF a b) (ofL a c) _ w1 (hH.slice (by simp) _), (nextF (L) (ofP a) (ofF a b) (ofL a c)).1, (nextF (L) (ofP a) (ofF a b) (ofL a c)).2, fun κ w1 hH _ _ => c_refNext (L) (ofP a) (ofF a b) (ofL a c) _ w1 (hH.slice (by simp) _), ⟨rfl, rfl⟩, fun _ _ => ⟨(cycleF (L)).1, (cycleF (L)).2, fun κ w1 hH _ _ => c_Cycle (L) _ w1 (hH.slice (by simp) _), (cycleF (L)).1, (cycleF (L)).2, fun κ w1 hH _ _ => c_refCycle (L) _ w1 (hH.slice (by simp) _), ⟨rfl, rfl⟩, fun _ _ => ⟨_, _, _, c_Of ha hb hc, (nextF (L.set (at_.tmod L.length).toNat (p, f, g)) p2 f2 g2).1, (nextF (L.set (at_.tmod L.length).toNat (p, f, g)) p2 f2 g2).2, fun κ w1 hH _ _ => c_Next (L.set (at_.tmod L.length).toNat (p, f, g)) p2 f2 g2 _ w1 (hH.slice (by simp) _), (nextF (L.set (at_.tmod L.length).toNat (p, f, g)) p2 f2 g2).1, (nextF (L.set (at_.tmod L.length).toNat (p, f, g)) p2 f2 g2).2, fun κ w1 hH _ _ => c_refNext (L.set (at_.tmod L.length).toNat (p, f, g)) p2 f2 g2 _ w1 (hH.slice (by simp) _), ⟨rfl, rfl⟩, fun _ _ => ⟨(nextF (L.set (at_.tmod L.length).toNat (p, f, g)) (ofP a) (ofF a b) (ofL a c)).1, (nextF (L.set (at_.tmod L.length).toNat (p, f, g)) (ofP a) (ofF a b) (ofL a c)).2, fun κ w1 hH _ _ => c_Next (L.set (at_.tmod L.length).toNat (p, f, g)) (ofP a) (ofF a b) (ofL a c) _ w1 (hH.slice (by simp) _), (nextF (L.set (at_.tmod L.length).toNat (p, f, g)) (ofP a) (ofF a b) (ofL a c)).1, (nextF (L.set (at_.tmod L.length).toNat (p, f, g)) (ofP a) (ofF a b) (ofL a c)).2, fun κ w1 hH _ _ => c_refNext (L.set (at_.tmod L.length).toNat (p, f, g)) (ofP a) (ofF a b) (ofL a c) _ w1 (hH.slice (by simp) _), ⟨rfl, rfl⟩, fun _ _ => ⟨(cycleF (L.set (at_.tmod L.length).toNat (p, f, g))).1, (cycleF (L.set (at_.tmod L.length).toNat (p, f, g))).2, fun κ w1 hH _ _ => c_Cycle (L.set (at_.tmod L.length).toNat (p, f, g)) _ w1 (hH.slice (by simp) _), (cycleF (L.set (at_.tmod L.length).toNat (p, f, g))).1, (cycleF (L.set (at_.tmod L.length).toNat (p, f, g))).2, fun κ w1 hH _ _ => c_refCycle (L.set (at_.tmod L.length).toNat (p, f, g)) _ w1 (hH.slice (by simp) _), ⟨rfl, rfl⟩, fun _ _ => c_works⟩⟩⟩⟩⟩⟩
    · exact ⟨_, _, _, c_Of ha hb hc, (nextF (L) p2 f2 g2).1, (nextF (L) p2 f2 g2).2, fun κ w1 hH _ _ => c_Next (L) p2 f2 g2 _ w1 (hH.slice (by simp) _), (nextF (L) p2 f2 g2).1, (nextF (L) p2 f2 g2).2, fun κ w1 hH _ _ => c_refNext (L) p2 f2 g2 _ w1 (hH.slice (by simp) _), ⟨rfl, rfl⟩, fun _ _ => ⟨(nextF (L) (ofP a) (ofF a b) (ofL a c)).1, (nextF (L) (ofP a) (ofF a b) (ofL a c)).2, fun κ w1 hH _ _ => c_Next (L) (ofP a) (ofF a b) (ofL a c) _ w1 (hH.slice (by simp) _), (nextF (L) (ofP a) (ofF a b) (ofL a c)).1, (nextF (L) (ofP a) (ofF a b) (ofL a c)).2, fun κ w1 hH _ _ => c_refNext (L) (ofP a) (ofF a b) (ofL a c) _ w1 (hH.slice (by simp) _), ⟨rfl, rfl⟩, fun _ _ => ⟨(cycleF (L)).1, (cycleF (L)).2, fun κ w1 hH _ _ => c_Cycle (L) _ w1 (hH.slice (by simp) _), (cycleF (L)).1, (cycleF (L)).2, fun κ w1 hH _ _ => c_refCycle (L) _ w1 (hH.slice (by simp) _), ⟨rfl, rfl⟩, fun _ _ => ⟨_, _, _, c_Of ha hb hc, (nextF (L) p2 f2 g2).1, (nextF (L) p2 f2 g2).2, fun κ w1 hH _ _ => c_Next (L) p2 f2 g2 _ w1 (hH.slice (by simp) _), (nextF (L) p2 f2 g2).1, (nextF (L) p2 f2 g2).2, fun κ w1 hH _ _ => c_refNext (L) p2 f2 g2 _ w1 (hH.slice (by simp) _), ⟨rfl, rfl⟩, fun _ _ => ⟨(nextF (L) (ofP a) (ofF a b) (ofL a c)).1, (nextF (L) (ofP a) (ofF a b) (ofL a c)).2, fun κ w1 hH _ _ => c_Next (L) (ofP a) (ofF a b) (ofL a c) _ w1 (hH.slice (by simp) _), (nextF (L) (ofP a) (ofF a b) (ofL a c)).1, (nextF (L) (ofP a) (ofF a b) (ofL a c)).2, fun κ w1 hH _ _ => c_refNext (L) (ofP a) (ofF a b) (ofL a c) _ w1 (hH.slice (by simp) _), ⟨rfl, rfl⟩, fun _ _ => ⟨(cycleF (L)).1, (cycleF (L)).2, fun κ w1 hH _ _ => c_Cycle (L) _ w1 (hH.slice (by simp) _), (cycleF (L)).1, (cycleF (L)).2, fun κ w1 hH _ _ => c_refCycle (L) _ w1 (hH.slice (by simp) _), ⟨rfl, rfl⟩, fun _ _ => c_works⟩⟩⟩⟩⟩⟩
end Go.Proofs.Y23
