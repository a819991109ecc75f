/- A part of the proof: see the text that states the theorem. -/
import Derived.Test.YtaomijkjdkimcaaE0
set_option linter.unusedSimpArgs false
set_option linter.unusedVariables false
set_option linter.unusedSectionVars false
namespace Go.Proofs.Y18
open Go Go.SX Go.RowKit
def fld (rows : List (List Dat)) (k f : Nat) : Int := ((rows.getD k []).getD f (.i 0)).int
def okRow (rows : List (List Dat)) (k : Nat) : Bool := okR (fld rows k 0) (fld rows k 1) (fld rows k 2) (fld rows k 3) (fld rows k 4) (fld rows k 5)
def betR (rows : List (List Dat)) (i j : Nat) : Bool := better (fld rows i 0) (fld rows i 1) (fld rows i 2) (fld rows i 3) (fld rows i 4) (fld rows i 5) (fld rows j 0) (fld rows j 1) (fld rows j 2) (fld rows j 3) (fld rows j 4) (fld rows j 5)
def bIdx (rows : List (List Dat)) : Nat → Nat
  | 0 => 0
  | m + 1 => if betR rows m (bIdx rows m) then m else bIdx rows m
theorem bIdx_le (rows : List (List Dat)) : ∀ m, bIdx rows m ≤ m
  | 0 => Nat.le_refl _
  | m + 1 => by
    have := bIdx_le rows m
    simp only [bIdx]; split <;> omega
theorem bIdx_one (rows : List (List Dat)) : bIdx rows 1 = 0 := by
  show (if betR rows 0 (bIdx rows 0) = true then 0 else bIdx rows 0) = 0
  split
  · rfl
  · rfl
def allR (rows : List (List Dat)) (n : Nat) : Bool := (List.range n).all (okRow rows)
theorem allR_succ (rows : List (List Dat)) (n : Nat) : allR rows (n + 1) = (allR rows n && okRow rows n) := by simp [allR, List.range_succ]
theorem allR_bad {rows : List (List Dat)} {k n : Nat} (hk : k < n) (h : okRow rows k = false) : allR rows n = false := by
  simp only [allR, List.all_eq_false, List.mem_range]
  exact ⟨k, hk, by simp [h]⟩
def bestE (rows : List (List Dat)) : Int := if rows.length = 0 then 4 else if allR rows rows.length then 0 else 280
def bestI (rows : List (List Dat)) : Int := if allR rows rows.length then bIdx rows rows.length else 0
theorem c_Best (rows : List (List Dat)) (nl : Bool) (b o cap : Nat) (w : World) (h1 : nl = true → rows = []) (hn : rows.length ≤ 1000000) (h2 : ∀ (x f : Nat) r k, rows[x]? = some r → p6[f]? = some k → w.cell? ⟨b, o + x * p6.length + f, none⟩ = some (k.den (r.getD f (.i 0)))) :
    Calls Try.prog 27 #[.slice (if nl then none else some ⟨b, o, none⟩) rows.length cap] w fun e w' => e = .returned (.tuple #[vI (bestI rows), vI (bestE rows)]) ∧ Below w.heap.size w w' := by
  have hk := calls_of t_Best (ρ := mkEnv [.l rows, .n nl, .i cap]) (κ := kap1 b o) (w := w) (res := .tuple #[vI (bestI rows), vI (bestE rows)]) (heapOk_slice (by simpa using h1) (by simpa using h2)) ?_
  · rw [show ([slArg 0 6].map (SV.den (mkEnv [.l rows, .n nl, .i cap]) (kap1 b o))).toArray = #[.slice (if nl then none else some ⟨b, o, none⟩) rows.length cap] from by simp [slArg_den (ρ := mkEnv [.l rows, .n nl, .i cap]) (n := 0) (s := 6) (b := b) (o := o) (cap := cap) (nl := nl) (rows := rows) rfl rfl rfl]] at hk
    exact hk
  · have eb : ∀ k f, ((rows[k]?.getD [])[f]?.getD (Dat.i 0)).int = fld rows k f := fun k f => by simp [fld, List.getD_eq_getElem?_getD]
    simp [-Bool.exists_bool, -List.length_eq_zero_iff, eb]
    refine ⟨fun h => ?_, fun h => ?_⟩
    · have : rows.length = 0 := by omega
      simp [bestI, bestE, this, allR, bIdx]
    refine ⟨fun l => match l with
      | [.i x, .i y] => 0 ≤ y ∧ y ≤ rows.length ∧ x = bIdx rows y.toNat ∧ allR rows y.toNat = true
      | _ => False, ⟨by omega, by omega, rfl, rfl⟩, fun l => match l with
      | [_, .i y] => (rows.length - y).toNat
      | _ => 0, fun x y ⟨g1, g2, g3, g4⟩ => ⟨fun hlt => ⟨g1, ?_⟩, fun hge => ?_⟩⟩
    · obtain ⟨m, rfl⟩ := Int.eq_ofNat_of_zero_le g1
      simp only [Int.toNat_natCast] at g3 g4 ⊢
      subst g3
      have hle := bIdx_le rows m
      have w1 : IntKind.i64.wrap ((m : Int) + 1) = ((m + 1 : Nat) : Int) := by rw [SX.wrap64 (by omega) (by omega)]; simp
      simp only [Int.toNat_natCast, w1]
      refine ⟨_, c_Check _ _ _ _ _ _, ?_, ?_⟩
      · intro hne
        have hbad : okRow rows m = false := by
          cases hk : okRow rows m
          · rfl
          · exact absurd (by rw [show okR (fld rows m 0) (fld rows m 1) (fld rows m 2) (fld rows m 3) (fld rows m 4) (fld rows m 5) = true from hk]; rfl) hne
        have ha := allR_bad (show m < rows.length by omega) hbad
        rw [show okR (fld rows m 0) (fld rows m 1) (fld rows m 2) (fld rows m 3) (fld rows m 4) (fld rows m 5) = false from hbad]
        simp [bestI, bestE, ha, h]
      · intro heq
        have hgood : okRow rows m = true := by
          cases hk : okRow rows m
          · rw [show okR (fld rows m 0) (fld rows m 1) (fld rows m 2) (fld rows m 3) (fld rows m 4) (fld rows m 5) = false from hk] at heq; simp at heq
          · rfl
        have hall : allR rows (m + 1) = true := by rw [allR_succ, g4, hgood]; rfl
        have hc := c_Compare (fld rows m 0) (fld rows m 1) (fld rows m 2) (fld rows m 3) (fld rows m 4) (fld rows m 5) (fld rows (bIdx rows m) 0) (fld rows (bIdx rows m) 1) (fld rows (bIdx rows m) 2) (fld rows (bIdx rows m) 3) (fld rows (bIdx rows m) 4) (fld rows (bIdx rows m) 5)
        have hsgn : cmp6 (fld rows m 0) (fld rows m 1) (fld rows m 2) (fld rows m 3) (fld rows m 4) (fld rows m 5) (fld rows (bIdx rows m) 0) (fld rows (bIdx rows m) 1) (fld rows (bIdx rows m) 2) (fld rows (bIdx rows m) 3) (fld rows (bIdx rows m) 4) (fld rows (bIdx rows m) 5) < 0 ↔ betR rows m (bIdx rows m) = true := by
          unfold cmp6 betR
          split
          · rename_i hb; simp [hb]
          · rename_i hb
            split <;> simp [hb]
        refine ⟨⟨by omega, by omega⟩, _, hc, fun hx => ⟨⟨by omega, by omega, ?_, hall⟩, by omega⟩, fun hx => ⟨⟨by omega, by omega, ?_, hall⟩, by omega⟩⟩
        · simp [bIdx, hsgn.1 hx]
        · have : betR rows m (bIdx rows m) = false := by
            cases hb : betR rows m (bIdx rows m)
            · rfl
            · exact absurd (hsgn.2 hb) (by omega)
          simp [bIdx, this]
    · have hy : y.toNat = rows.length := by omega
      rw [hy] at g3 g4
      simp [bestI, bestE, g3, g4, h]
theorem c_refBest (rows : List (List Dat)) (nl : Bool) (b o cap : Nat) (w : World) (h1 : nl = true → rows = []) (hn : rows.length ≤ 1000000) (h2 : ∀ (x f : Nat) r k, rows[x]? = some r → p6[f]? = some k → w.cell? ⟨b, o + x * p6.length + f, none⟩ = some (k.den (r.getD f (.i 0)))) :
    Calls Try.prog 28 #[.slice (if nl then none else some ⟨b, o, none⟩) rows.length cap] w fun e w' => e = .returned (vI (if rows.length = 0 then (-1 : Int) else (bIdx rows rows.length : Int))) ∧ Below w.heap.size w w' := by
  have hk := calls_of t_refBest (ρ := mkEnv [.l rows, .n nl, .i cap]) (κ := kap1 b o) (w := w) (res := vI (if rows.length = 0 then (-1 : Int) else (bIdx rows rows.length : Int))) (heapOk_slice (by simpa using h1) (by simpa using h2)) ?_
  · rw [show ([slArg 0 6].map (SV.den (mkEnv [.l rows, .n nl, .i cap]) (kap1 b o))).toArray = #[.slice (if nl then none else some ⟨b, o, none⟩) rows.length cap] from by simp [slArg_den (ρ := mkEnv [.l rows, .n nl, .i cap]) (n := 0) (s := 6) (b := b) (o := o) (cap := cap) (nl := nl) (rows := rows) rfl rfl rfl]] at hk
    exact hk
  · have eb : ∀ k f, ((rows[k]?.getD [])[f]?.getD (Dat.i 0)).int = fld rows k f := fun k f => by simp [fld, List.getD_eq_getElem?_getD]
    simp [-Bool.exists_bool, -List.length_eq_zero_iff, eb]
    refine ⟨fun l => match l with
      | [.i x, .i y] => 0 ≤ y ∧ y ≤ rows.length ∧ x = (if y.toNat = 0 then (-1 : Int) else (bIdx rows y.toNat : Int))
      | _ => False, ⟨by omega, by omega, rfl⟩, fun l => match l with
      | [_, .i y] => (rows.length - y).toNat
      | _ => 0, fun x y ⟨g1, g2, g3⟩ => ⟨fun hlt => ?_, fun hge => ?_⟩⟩
    · obtain ⟨m, rfl⟩ := Int.eq_ofNat_of_zero_le g1
      simp only [Int.toNat_natCast] at g3 ⊢
      have hle := bIdx_le rows m
      have w1 : IntKind.i64.wrap ((m : Int) + 1) = ((m + 1 : Nat) : Int) := by rw [SX.wrap64 (by omega) (by omega)]; simp
      simp only [w1, Int.toNat_natCast]
      have b0 := bIdx_one rows
      by_cases hm : m = 0
      · subst hm
        simp at g3; subst g3
        refine ⟨.inl (by omega), ⟨.inl (by omega), .inl (by omega)⟩, fun h => absurd h (by omega), fun _ => ⟨⟨by omega, by omega, ?_⟩, by omega⟩⟩
        simp [b0]
      · rw [if_neg hm] at g3
        subst g3
        have hc := c_Better (fld rows m 0) (fld rows m 1) (fld rows m 2) (fld rows m 3) (fld rows m 4) (fld rows m 5) (fld rows (bIdx rows m) 0) (fld rows (bIdx rows m) 1) (fld rows (bIdx rows m) 2) (fld rows (bIdx rows m) 3) (fld rows (bIdx rows m) 4) (fld rows (bIdx rows m) 5)
        refine ⟨.inr (by omega), ⟨.inr (by omega), .inr (by omega)⟩, fun _ => ⟨_, hc, fun hx => ⟨⟨by omega, by omega, ?_⟩, by omega⟩, fun hx => ⟨⟨by omega, by omega, ?_⟩, by omega⟩⟩, fun h => absurd h (by omega)⟩
        · have : betR rows m (bIdx rows m) = true := hx
          simp [bIdx, this]
        · have : betR rows m (bIdx rows m) = false := hx
          simp [bIdx, this]
    · have hy : y.toNat = rows.length := by omega
      rw [hy] at g3
      exact g3
theorem row_call6 {ρ : Env} {κ : Kap} {base : Bk} {j : Nat} {w : World} (h : HeapOk ρ κ base [.arr j j p6 (some 25)] w) : ∀ (x f : Nat) r k, (ρ.a j)[x]? = some r → p6[f]? = some k → w.cell? ⟨κ.ab j, κ.ao j + x * p6.length + f, none⟩ = some (k.den (r.getD f (.i 0))) :=
  (h.arr j j p6 (some 25) (by simp [Heap.arr?])).1
theorem l_VectorBests (rows : List (List Dat)) (nl : Bool) (bl o cap : Nat) (w : World) (h1 : nl = true → rows = []) (hc : rows.length ≤ cap) (hcap : cap ≤ 9223372036854775807) (h2 : ∀ (x f : Nat) r k, rows[x]? = some r → p6[f]? = some k → w.cell? ⟨bl, o + x * p6.length + f, none⟩ = some (k.den (r.getD f (.i 0)))) :
    Calls Try.prog 9 #[.slice (if nl then none else some ⟨bl, o, none⟩) rows.length cap] w fun e w' => e = .returned (vB true) ∧ Below w.heap.size w w' := by
  have k1 := c_wakes
  have hk := calls_of t_VectorBests (ρ := mkEnv [.l rows, .n nl, .i cap]) (κ := kap1 bl o) (w := w) (res := vB true) (heapOk_slice (by simpa using h1) (by simpa using h2)) ?_
  · rw [show ([slArg 0 6].map (SV.den (mkEnv [.l rows, .n nl, .i cap]) (kap1 bl o))).toArray = #[.slice (if nl then none else some ⟨bl, o, none⟩) rows.length cap] from by simp [slArg_den (ρ := mkEnv [.l rows, .n nl, .i cap]) (n := 0) (s := 6) (b := bl) (o := o) (cap := cap) (nl := nl) (rows := rows) rfl rfl rfl]] at hk
    exact hk
  · have hM : (if (30 : Int) < (rows.length : Int) then (30 : Int) else rows.length) = ((min 30 rows.length : Nat) : Int) := by split <;> omega
    generalize hR0 : rows.take (min 30 rows.length) = R
    have hRl : min (min 30 rows.length) rows.length = R.length := by rw [← hR0, List.length_take]
    have hRn : R.length ≤ 30 := by omega
    have eb : ∀ k f, ((R[k]?.getD [])[f]?.getD (Dat.i 0)).int = fld R k f := fun k f => by simp [fld, List.getD_eq_getElem?_getD]
    simp [-Bool.exists_bool, -List.length_eq_zero_iff, hM, hR0, hRl, eb]
    refine ⟨_, k1, rfl, fun _ => ⟨by omega, ⟨by omega, by omega⟩, ?_⟩⟩
    refine ⟨bestI R, bestE R, fun κ w' hh _ _ => ?_, fun h => ?_, fun h => ?_⟩
    · have := c_Best R false (κ.ab 22) (κ.ao 22) (κ.cap 22) w' (fun h => (by cases h)) (by omega) (by have := row_call6 hh; simpa using this)
      simpa using this
    · simp [bestI, bestE, h, allR, bIdx]
    · refine ⟨fun l => match l with
        | [.i y] => 0 ≤ y ∧ y ≤ R.length ∧ allR R y.toNat = true
        | _ => False, ⟨by omega, by omega, rfl⟩, fun l => match l with
        | [.i y] => (R.length - y).toNat
        | _ => 0, fun y ⟨g1, g2, g3⟩ => ⟨fun hlt => ⟨g1, _, c_Right _ _ _ _ _ _, fun hb => ?_, fun hb => ?_⟩, fun hge => ?_⟩⟩
      · have hbad := allR_bad (rows := R) (show y.toNat < R.length by omega) hb
        simp [bestI, bestE, hbad, h]
      · obtain ⟨m, rfl⟩ := Int.eq_ofNat_of_zero_le g1
        have w1 : IntKind.i64.wrap ((m : Int) + 1) = ((m + 1 : Nat) : Int) := by rw [SX.wrap64 (by omega) (by omega)]; simp
        simp only [w1, Int.toNat_natCast] at g3 ⊢
        refine ⟨⟨by omega, by omega, ?_⟩, by omega⟩
        have hb' : okRow R m = true := hb
        rw [allR_succ, g3, hb']; rfl
      · have hy : y.toNat = R.length := by omega
        rw [hy] at g3
        refine ⟨fun _ κ w' hh _ _ => ?_, by simp [bestE, g3, h]⟩
        have := c_refBest R false (κ.ab 22) (κ.ao 22) (κ.cap 22) w' (fun h => (by cases h)) (by omega) (by have := row_call6 hh; simpa using this)
        simpa [bestI, g3, h] using this
end Go.Proofs.Y18
