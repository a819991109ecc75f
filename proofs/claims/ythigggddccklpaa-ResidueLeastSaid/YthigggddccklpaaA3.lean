/- A part of the proof: see the text that states the theorem. -/
import Derived.Test.YthigggddccklpaaA2
set_option linter.unusedSimpArgs false
set_option linter.unusedVariables false
set_option linter.unusedSectionVars false
noncomputable section
namespace Go.Proofs.Y23
open Go Go.SX Go.RowKit
abbrev Sp := Int × Int × Int
def rowsOf (l : List Sp) : List (List Dat) := l.map fun s => [.i s.1, .i s.2.1, .i s.2.2]
def okSp (s : Sp) : Bool := okS s.1 s.2.1 s.2.2
@[simp] theorem rowsOf_len (l : List Sp) : (rowsOf l).length = l.length := by simp [rowsOf]
def spAt (l : List Sp) (n : Nat) : Sp := l.getD n (0, 0, 0)
theorem rows_get (l : List Sp) (n : Nat) : (rowsOf l)[n]? = l[n]?.map fun s => [.i s.1, .i s.2.1, .i s.2.2] := by simp [rowsOf]
@[simp] theorem rows_0 (l : List Sp) (n : Nat) : Dat.int (((rowsOf l)[n]?.getD [])[0]?.getD (Dat.i 0)) = (spAt l n).1 := by
  rw [rows_get, spAt, List.getD_eq_getElem?_getD]; cases l[n]? <;> rfl
@[simp] theorem rows_1 (l : List Sp) (n : Nat) : Dat.int (((rowsOf l)[n]?.getD [])[1]?.getD (Dat.i 0)) = (spAt l n).2.1 := by
  rw [rows_get, spAt, List.getD_eq_getElem?_getD]; cases l[n]? <;> rfl
@[simp] theorem rows_2 (l : List Sp) (n : Nat) : Dat.int (((rowsOf l)[n]?.getD [])[2]?.getD (Dat.i 0)) = (spAt l n).2.2 := by
  rw [rows_get, spAt, List.getD_eq_getElem?_getD]; cases l[n]? <;> rfl
theorem spAt_mem {l : List Sp} {n : Nat} (h : n < l.length) : spAt l n ∈ l := by
  rw [spAt, List.getD_eq_getElem?_getD, List.getElem?_eq_getElem h]; simp
theorem all_of_spAt {l : List Sp} {P : Sp → Prop} (h : ∀ n, n < l.length → P (spAt l n)) : ∀ s ∈ l, P s := by
  intro s hs
  obtain ⟨n, hn, rfl⟩ := List.getElem_of_mem hs
  have := h n hn
  rw [spAt, List.getD_eq_getElem?_getD, List.getElem?_eq_getElem hn] at this
  exact this
def validE (l : List Sp) : Int := if l.all okSp then 0 else 330
theorem c_valid (l : List Sp) (hl : l.length < 1000000) (v : Value) (w : World) (h : SliceIs w p3 (rowsOf l) v) : Calls Try.prog 33 #[v] w fun e w' => e = .returned (vI (validE l)) ∧ Below w.heap.size w w' := by
  obtain ⟨nl, b, o, cap, rfl, h1, h2⟩ := h
  have := calls_of t_valid (ρ := mkEnv [.l (rowsOf l), .n nl, .i cap]) (κ := kap1 b o) (w := w) (res := vI (validE l)) (heapOk_slice h1 h2) ?_
  · simp only [List.map_cons, List.map_nil] at this
    rw [slArg_den (rows := rowsOf l) (nl := nl) (cap := cap) rfl rfl rfl] at this
    exact this
  simp
  refine ⟨fun l' => match l' with
    | [.i k] => 0 ≤ k ∧ k ≤ l.length ∧ ∀ n : Nat, (n : Int) < k → okSp (spAt l n) = true
    | _ => False, ⟨by omega, by omega, fun n h => by omega⟩, fun l' => match l' with
    | [.i k] => (l.length - k).toNat
    | _ => 0, fun k ⟨i1, i2, i3⟩ => ⟨fun hk => ⟨i1, fun hbad => ?_, fun g1 g2 g3 g4 g5 g6 => ?_⟩, fun hk => ?_⟩⟩
  · have hne : ¬ (l.all okSp = true) := fun h => by
      have h := List.all_eq_true.1 h _ (spAt_mem (l := l) (n := k.toNat) (by omega))
      rw [okSp, okS_iff] at h; omega
    rw [validE, if_neg hne]
  · rw [wrap64 (by omega) (by omega)]
    refine ⟨⟨by omega, by omega, fun n hn => ?_⟩, by simp only; omega⟩
    by_cases hnk : (n : Int) < k
    · exact i3 n hnk
    · have : n = k.toNat := by omega
      subst this
      rw [okSp, okS_iff]; omega
  · have : l.all okSp = true := List.all_eq_true.2 (all_of_spAt fun n hn => i3 n (by omega))
    rw [validE, if_pos this]
def listE (l : List Sp) : Int := if 32 < l.length then 3 else validE l
theorem c_list (l : List Sp) (v : Value) (w : World) (h : SliceIs w p3 (rowsOf l) v) : Calls Try.prog 38 #[v] w fun e w' => e = .returned (vI (listE l)) ∧ Below w.heap.size w w' := by
  obtain ⟨nl, b, o, cap, rfl, h1, h2⟩ := h
  have := calls_of t_list (ρ := mkEnv [.l (rowsOf l), .n nl, .i cap]) (κ := kap1 b o) (w := w) (res := vI (listE l)) (heapOk_slice h1 h2) ?_
  · simp only [List.map_cons, List.map_nil] at this
    rw [slArg_den (rows := rowsOf l) (nl := nl) (cap := cap) rfl rfl rfl] at this
    exact this
  simp
  refine ⟨fun h => by rw [listE, if_pos (by omega)], fun h κ w1 hH hb hz => ?_⟩
  have hs := hH.slice (rowsOf_len _) cap
  have hl : listE l = validE l := by rw [listE, if_neg (by omega)]
  rw [hl]
  exact c_valid l (by omega) _ w1 hs
theorem c_refList (l : List Sp) (v : Value) (w : World) (h : SliceIs w p3 (rowsOf l) v) : Calls Try.prog 39 #[v] w fun e w' => e = .returned (vI (listE l)) ∧ Below w.heap.size w w' := by
  obtain ⟨nl, b, o, cap, rfl, h1, h2⟩ := h
  have := calls_of t_refList (ρ := mkEnv [.l (rowsOf l), .n nl, .i cap]) (κ := kap1 b o) (w := w) (res := vI (listE l)) (heapOk_slice h1 h2) ?_
  · simp only [List.map_cons, List.map_nil] at this
    rw [slArg_den (rows := rowsOf l) (nl := nl) (cap := cap) rfl rfl rfl] at this
    exact this
  simp
  refine ⟨fun h => by rw [listE, if_pos (by omega)], fun h => ?_⟩
  have hl : listE l = validE l := by rw [listE, if_neg (by omega)]
  rw [hl]
  refine ⟨fun l' => match l' with
    | [.i k] => 0 ≤ k ∧ k ≤ l.length ∧ ∀ n : Nat, (n : Int) < k → okSp (spAt l n) = true
    | _ => False, ⟨by omega, by omega, fun n h => by omega⟩, fun l' => match l' with
    | [.i k] => (l.length - k).toNat
    | _ => 0, fun k ⟨i1, i2, i3⟩ => ⟨fun hk => ⟨i1, fun hbad => ?_, fun g1 g2 g3 g4 g5 g6 => ?_⟩, fun hk => ?_⟩⟩
  · have hne : ¬ (l.all okSp = true) := fun h => by
      have h := List.all_eq_true.1 h _ (spAt_mem (l := l) (n := k.toNat) (by omega))
      rw [okSp, okS_iff] at h; omega
    rw [validE, if_neg hne]
  · rw [wrap64 (by omega) (by omega)]
    refine ⟨⟨by omega, by omega, fun n hn => ?_⟩, by simp only; omega⟩
    by_cases hnk : (n : Int) < k
    · exact i3 n hnk
    · have : n = k.toNat := by omega
      subst this
      rw [okSp, okS_iff]; omega
  · have : l.all okSp = true := List.all_eq_true.2 (all_of_spAt fun n hn => i3 n (by omega))
    rw [validE, if_pos this]
def rows1 (l : List Int) : List (List Dat) := l.map fun x => [.i x]
@[simp] theorem rows1_len (l : List Int) : (rows1 l).length = l.length := by simp [rows1]
@[simp] theorem rows1_0 (l : List Int) (n : Nat) : Dat.int (((rows1 l)[n]?.getD [])[0]?.getD (Dat.i 0)) = l.getD n 0 := by
  rw [rows1, List.getElem?_map, List.getD_eq_getElem?_getD]; cases l[n]? <;> rfl
def lcmF : List Int → Int → Int
  | [], n => n
  | x :: xs, n => if 960 < n / (Int.gcd n x : Int) * x then 0 else lcmF xs (n / (Int.gcd n x : Int) * x)
theorem lcm_step {n x : Int} (hn : 1 ≤ n) (hx : 1 ≤ x) : 1 ≤ n / (Int.gcd n x : Int) ∧ n / (Int.gcd n x : Int) ≤ n ∧ 1 ≤ n / (Int.gcd n x : Int) * x := by
  obtain ⟨g1, g2, g3, g4, g5⟩ := gfacts hn hx
  have h1 : 1 ≤ n / (Int.gcd n x : Int) := by
    rw [Int.le_ediv_iff_mul_le (by omega)]; omega
  have h2 : n / (Int.gcd n x : Int) ≤ n := Int.ediv_le_self _ (by omega)
  refine ⟨h1, h2, ?_⟩
  have := Int.mul_le_mul h1 hx (by omega) (by omega)
  omega
theorem lcmF_cons (x : Int) (xs : List Int) (n : Int) : lcmF (x :: xs) n = if 960 < n / (Int.gcd n x : Int) * x then 0 else lcmF xs (n / (Int.gcd n x : Int) * x) := rfl
theorem getD_mem {l : List Int} {n : Nat} (h : n < l.length) : l.getD n 0 ∈ l := by
  rw [List.getD_eq_getElem?_getD, List.getElem?_eq_getElem h]; simp
theorem drop_cons {l : List Int} {n : Nat} (h : n < l.length) : l.drop n = l.getD n 0 :: l.drop (n + 1) := by
  rw [List.drop_eq_getElem_cons h, List.getD_eq_getElem?_getD, List.getElem?_eq_getElem h]; rfl
theorem c_lcm (l : List Int) (hl : l.length < 1000000) (hx : ∀ x ∈ l, 1 ≤ x ∧ x ≤ 960) (v : Value) (w : World) (h : SliceIs w p1 (rows1 l) v) : Calls Try.prog 41 #[vI 960, v] w fun e w' => e = .returned (vI (lcmF l 1)) ∧ Below w.heap.size w w' := by
  obtain ⟨nl, b, o, cap, rfl, h1, h2⟩ := h
  have := calls_of t_lcm (ρ := mkEnv [.l (rows1 l), .n nl, .i cap, .i 960]) (κ := kap1 b o) (w := w) (res := vI (lcmF l 1)) (heapOk_slice h1 h2) ?_
  · simp only [List.map_cons, List.map_nil] at this
    rw [slArg_den (rows := rows1 l) (nl := nl) (cap := cap) rfl rfl rfl] at this
    exact this
  simp
  simp only [← List.getD_eq_getElem?_getD]
  refine ⟨fun l' => match l' with
    | [.i n, .i k] => 0 ≤ k ∧ k ≤ l.length ∧ 1 ≤ n ∧ n ≤ 960 ∧ lcmF l 1 = lcmF (l.drop k.toNat) n
    | _ => False, ⟨by omega, by omega, by omega, by omega, rfl⟩, fun l' => match l' with
    | [_, .i k] => (l.length - k).toNat
    | _ => 0, fun n k ⟨i1, i2, i3, i4, i5⟩ => ⟨fun hk => ⟨i1, ?_⟩, fun hk => ?_⟩⟩
  · have hm := hx _ (getD_mem (l := l) (n := k.toNat) (by omega))
    rw [drop_cons (l := l) (n := k.toNat) (by omega), lcmF_cons] at i5
    generalize l.getD k.toNat 0 = x at hm i5
    obtain ⟨g1, g2, g3, g4, g5⟩ := gfacts i3 hm.1
    obtain ⟨e1, e2, e3⟩ := lcm_step i3 hm.1
    refine ⟨_, c_gcd n x (by omega) (by omega), by omega, ?_⟩
    have hb : n / (Int.gcd n x : Int) * x ≤ 921600 := Int.mul_le_mul (c := 960) (d := 960) (by omega) hm.2 (by omega) (by omega)
    rw [Int.tdiv_eq_ediv_of_nonneg (by omega), wrap64 (x := n / (Int.gcd n x : Int)) (by omega) (by omega), wrap64 (x := n / (Int.gcd n x : Int) * x) (by omega) (by omega), wrap64 (x := k + 1) (by omega) (by omega)]
    refine ⟨fun h => by rw [i5, if_pos h], fun h => ⟨⟨by omega, by omega, by omega, by omega, ?_⟩, by simp only; omega⟩⟩
    rw [i5, if_neg (by omega), show (k + 1).toNat = k.toNat + 1 by omega]
  · rw [i5, List.drop_eq_nil_of_le (by omega)]; rfl
def perF (l : List Sp) : List Int := l.map fun s => s.1
def cycleF (l : List Sp) : Int × Int := if listE l = 0 then (if 0 < lcmF (perF l) 1 then (lcmF (perF l) 1, 0) else (0, 6)) else (0, listE l)
theorem ok_of_list {l : List Sp} (h : listE l = 0) : l.length ≤ 32 ∧ ∀ s ∈ l, okSp s = true := by
  unfold listE validE at h
  split at h
  · omega
  · split at h
    · rename_i h2; exact ⟨by omega, List.all_eq_true.1 h2⟩
    · omega
theorem c_Cycle (l : List Sp) (v : Value) (w : World) (h : SliceIs w p3 (rowsOf l) v) : Calls Try.prog 23 #[v] w fun e w' => e = .returned (vIE (cycleF l).1 (cycleF l).2) ∧ Below w.heap.size w w' := by
  obtain ⟨nl, b, o, cap, rfl, h1, h2⟩ := h
  have := calls_of t_Cycle (ρ := mkEnv [.l (rowsOf l), .n nl, .i cap]) (κ := kap1 b o) (w := w) (res := vIE (cycleF l).1 (cycleF l).2) (heapOk_slice h1 h2) ?_
  · simp only [List.map_cons, List.map_nil] at this
    rw [slArg_den (rows := rowsOf l) (nl := nl) (cap := cap) rfl rfl rfl] at this
    exact this
  simp [-Bool.forall_bool]
  refine ⟨listE l, fun κ w1 hH hb hz => ?_, fun hne => by simp [cycleF, hne], fun he => ?_⟩
  · have hs := hH.slice (rowsOf_len _) cap
    exact c_list l _ w1 hs
  · obtain ⟨hl, hok⟩ := ok_of_list he
    refine ⟨fun l' => match l' with
      | [.i k, .l r, .n _] => 0 ≤ k ∧ k ≤ l.length ∧ r = rows1 (perF (l.take k.toNat))
      | _ => False, ⟨by omega, by omega, rfl⟩, fun l' => match l' with
      | [.i k, _, _] => (l.length - k).toNat
      | _ => 0, fun k r n1 ⟨i1, i2, i3⟩ => ⟨fun hk => ⟨i1, ?_, ⟨?_, ?_, ?_⟩, ?_⟩, fun hk => ?_⟩⟩
    · subst i3; simp [perF]; omega
    · rw [wrap64 (by omega) (by omega)]; omega
    · rw [wrap64 (by omega) (by omega)]; omega
    · rw [wrap64 (by omega) (by omega), i3, show (k + 1).toNat = k.toNat + 1 by omega, List.take_add_one]
      have : l[k.toNat]? = some (spAt l k.toNat) := by
        rw [spAt, List.getD_eq_getElem?_getD, List.getElem?_eq_getElem (by omega)]; rfl
      rw [this]; simp [perF, rows1]
    · simp only; rw [wrap64 (by omega) (by omega)]; omega
    · rw [List.take_of_length_le (by omega)] at i3
      refine ⟨lcmF (perF l) 1, fun κ w1 hH hb hz => ?_, ?_⟩
      · have hs := hH.slice rfl (κ.cap 24)
        rw [i3] at hs
        refine c_lcm (perF l) (by simp [perF]; omega) (fun x hx => ?_) _ w1 ?_
        · obtain ⟨s, hs, rfl⟩ := List.mem_map.1 hx
          have := okS_iff.1 (hok s hs); omega
        · rw [i3]; simpa [p1] using hs
      · refine ⟨fun h => ?_, fun h => ?_⟩
        · simp [cycleF, he, h]
        · have : ¬ 0 < lcmF (perF l) 1 := by omega
          simp [cycleF, he, this]
end Go.Proofs.Y23
