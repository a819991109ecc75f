/- A part of the proof: see the text that states the theorem. -/
import Derived.Test.YtaomijkjdkimcaaD0
set_option linter.unusedSimpArgs false
set_option linter.unusedVariables false
set_option linter.unusedSectionVars false
namespace Go.Proofs.Y18
open Go Go.SX Go.RowKit
/-- byte k -/
def byt (rows : List (List Dat)) (k : Nat) : Int := ((rows.getD k []).getD 0 (.i 0)).int
def inB (rows : List (List Dat)) : Prop := ∀ k, 0 ≤ byt rows k ∧ byt rows k < 256
def cst (b4 b5 b6 b7 : Int) : Int := ((b4 * 256 + b5) * 256 + b6) * 256 + b7
def decOk (b0 b1 b2 b3 b4 b5 b6 b7 b8 b9 b10 b11 : Int) : Bool :=
  decide (b0 = 83 ∧ b1 = 84 ∧ b2 = 1) && (okH (b3 / 16) (b3 % 16) (cst b4 b5 b6 b7) (b8 / 16) (b8 % 16) b9 b10 && decide (b11 = (b0 + b1 + b2 + b3 + b4 + b5 + b6 + b7 + b8 + b9 + b10) % 256))
def decR (rows : List (List Dat)) : Bool := decide (rows.length = 12) && decOk (byt rows 0) (byt rows 1) (byt rows 2) (byt rows 3) (byt rows 4) (byt rows 5) (byt rows 6) (byt rows 7) (byt rows 8) (byt rows 9) (byt rows 10) (byt rows 11)
def decV (rows : List (List Dat)) : Value := if decR rows then vH (byt rows 3 / 16) (byt rows 3 % 16) (cst (byt rows 4) (byt rows 5) (byt rows 6) (byt rows 7)) (byt rows 8 / 16) (byt rows 8 % 16) (byt rows 9) (byt rows 10) else vH 0 0 0 0 0 0 0
theorem u8m {x : Int} : IntKind.u8.wrap x = x % 256 := by
  simp only [IntKind.wrap, IntKind.bits, IntKind.signed]; simp
theorem c_Decode (rows : List (List Dat)) (nl : Bool) (b o cap : Nat) (w : World) (h1 : nl = true → rows = []) (hc : rows.length ≤ cap) (h2 : ∀ (x f : Nat) r k, rows[x]? = some r → pu[f]? = some k → w.cell? ⟨b, o + x * pu.length + f, none⟩ = some (k.den (r.getD f (.i 0)))) (hb : inB rows) :
    Calls Try.prog 23 #[.slice (if nl then none else some ⟨b, o, none⟩) rows.length cap] w fun e w' => e = .returned (.tuple #[decV rows, vI (if decR rows then 0 else 5)]) ∧ Below w.heap.size w w' := by
  have hk := calls_of t_Decode (ρ := mkEnv [.l rows, .n nl, .i cap]) (κ := kap1 b o) (w := w) (res := .tuple #[decV rows, vI (if decR rows then 0 else 5)]) (heapOk_slice (by simpa using h1) (by simpa using h2)) ?_
  · rw [show ([slArg 0 1].map (SV.den (mkEnv [.l rows, .n nl, .i cap]) (kap1 b o))).toArray = #[.slice (if nl then none else some ⟨b, o, none⟩) rows.length cap] from by simp [slArg_den (ρ := mkEnv [.l rows, .n nl, .i cap]) (n := 0) (s := 1) (b := b) (o := o) (cap := cap) (nl := nl) (rows := rows) rfl rfl rfl]] at hk
    exact hk
  · by_cases hl : rows.length = 12
    · have hcap : (12 : Int) ≤ (cap : Int) := by omega
      have hL : (rows.length : Int) = 12 := by omega
      simp [-Bool.exists_bool, hL]
      simp only [decV, decR, hl, decide_true, Bool.true_and]
      have B0 := hb 0; have B1 := hb 1; have B2 := hb 2; have B3 := hb 3; have B4 := hb 4; have B5 := hb 5; have B6 := hb 6; have B7 := hb 7; have B8 := hb 8; have B9 := hb 9; have B10 := hb 10; have B11 := hb 11
      have eb : ∀ k, ((rows[k]?.getD [])[0]?.getD (Dat.i 0)).int = byt rows k := fun k => by simp [byt, List.getD_eq_getElem?_getD]
      simp only [eb] at *
      generalize byt rows 0 = b0, byt rows 1 = b1, byt rows 2 = b2, byt rows 3 = b3, byt rows 4 = b4, byt rows 5 = b5, byt rows 6 = b6, byt rows 7 = b7, byt rows 8 = b8, byt rows 9 = b9, byt rows 10 = b10, byt rows 11 = b11 at *
      have w8 : (2 : Int) ^ min 8 IntKind.i64.bits = 256 := by decide
      have w16 : (2 : Int) ^ min 16 IntKind.i64.bits = 65536 := by decide
      have w24 : (2 : Int) ^ min 24 IntKind.i64.bits = 16777216 := by decide
      simp only [w8, w16, w24, u8m]
      simp (disch := omega) only [SX.wrap64, Int.tdiv_eq_ediv_of_nonneg, Int.tmod_eq_emod_of_nonneg, Int.fdiv_eq_ediv_of_nonneg]
      have k := c_CheckHello (b3 / 16) (b3 % 16) (cst b4 b5 b6 b7) (b8 / 16) (b8 % 16) b9 b10
      generalize hok : okH (b3 / 16) (b3 % 16) (cst b4 b5 b6 b7) (b8 / 16) (b8 % 16) b9 b10 = ok at k
      have hd : decOk b0 b1 b2 b3 b4 b5 b6 b7 b8 b9 b10 b11 = (decide (b0 = 83 ∧ b1 = 84 ∧ b2 = 1) && (ok && decide (b11 = (b0 + b1 + b2 + b3 + b4 + b5 + b6 + b7 + b8 + b9 + b10) % 256))) := by rw [decOk, hok]
      generalize decOk b0 b1 b2 b3 b4 b5 b6 b7 b8 b9 b10 b11 = D at hd ⊢
      simp only [cst] at k ⊢
      refine ⟨by omega, by omega, by omega, by omega, by omega, by omega, by omega, by omega, by omega, ?_⟩
      refine ⟨_, k, ?_, ?_⟩
      · intro h
        cases ok
        · simp at hd; subst hd; simp
        · simp at h
      · intro h
        cases ok
        · simp at h
        · clear h
          have e3 : (16 * (b3 / 16) + b3 % 16) % 256 = b3 := by omega
          have e4 : (((b4 * 256 + b5) * 256 + b6) * 256 + b7) / 16777216 % 256 = b4 := by omega
          have e5 : (((b4 * 256 + b5) * 256 + b6) * 256 + b7) / 65536 % 256 = b5 := by omega
          have e6 : (((b4 * 256 + b5) * 256 + b6) * 256 + b7) / 256 % 256 = b6 := by omega
          have e7 : (((b4 * 256 + b5) * 256 + b6) * 256 + b7) % 256 = b7 := by omega
          have e8 : (16 * (b8 / 16) + b8 % 16) % 256 = b8 := by omega
          have e9 : b9 % 256 = b9 := by omega
          have e10 : b10 % 256 = b10 := by omega
          simp only [e3, e4, e5, e6, e7, e8, e9, e10, Int.emod_add_emod]
          refine ⟨⟨by omega, by omega, by omega, by omega, by omega, by omega, by omega, by omega, by omega, by omega, by omega, by omega, by omega, by omega, by omega, by omega, by omega, by omega, by omega, by omega, by omega, by omega, by omega, by omega⟩, ?_⟩
          have hd' : D = decide (b0 = 83 ∧ b1 = 84 ∧ b2 = 1 ∧ (168 + b3 + b4 + b5 + b6 + b7 + b8 + b9 + b10) % 256 = b11) := by
            rw [hd, Bool.eq_iff_iff]; simp only [Bool.and_eq_true, decide_eq_true_eq, true_and]
            constructor
            · rintro ⟨⟨x, y, z⟩, t⟩; exact ⟨x, y, z, by omega⟩
            · rintro ⟨x, y, z, t⟩; exact ⟨⟨x, y, z⟩, by omega⟩
          by_cases hq : b0 = 83 ∧ b1 = 84 ∧ b2 = 1 ∧ (168 + b3 + b4 + b5 + b6 + b7 + b8 + b9 + b10) % 256 = b11
          · have hD : D = true := by rw [hd']; simpa using hq
            obtain ⟨x, y, z, t⟩ := hq
            refine ⟨fun hh => ?_, ?_⟩
            · exfalso; simp [x, y, z, t] at hh
            · intros; simp [hD]
          · have hD : D = false := by rw [hd']; simpa using hq
            refine ⟨fun _ => by simp [hD], ?_⟩
            intro x y z; intros
            exact absurd ⟨x.symm, y.symm, z.symm, by assumption⟩ hq
    · have : ¬ (rows.length : Int) = 12 := by omega
      simp [-Bool.exists_bool, this, decV, decR, hl]
theorem c_Read (rows : List (List Dat)) (nl : Bool) (b o cap : Nat) (w : World) (h1 : nl = true → rows = []) (h2 : ∀ (x f : Nat) r k, rows[x]? = some r → pu[f]? = some k → w.cell? ⟨b, o + x * pu.length + f, none⟩ = some (k.den (r.getD f (.i 0)))) (hb : inB rows) :
    Calls Try.prog 24 #[.slice (if nl then none else some ⟨b, o, none⟩) rows.length cap] w fun e w' => e = .returned (.tuple #[decV rows, vB (decR rows)]) ∧ Below w.heap.size w w' := by
  have hk := calls_of t_Read (ρ := mkEnv [.l rows, .n nl, .i cap]) (κ := kap1 b o) (w := w) (res := .tuple #[decV rows, vB (decR rows)]) (heapOk_slice (by simpa using h1) (by simpa using h2)) ?_
  · rw [show ([slArg 0 1].map (SV.den (mkEnv [.l rows, .n nl, .i cap]) (kap1 b o))).toArray = #[.slice (if nl then none else some ⟨b, o, none⟩) rows.length cap] from by simp [slArg_den (ρ := mkEnv [.l rows, .n nl, .i cap]) (n := 0) (s := 1) (b := b) (o := o) (cap := cap) (nl := nl) (rows := rows) rfl rfl rfl]] at hk
    exact hk
  · by_cases hl : rows.length = 12
    · have hL : (rows.length : Int) = 12 := by omega
      simp [-Bool.exists_bool, hL]
      simp only [decV, decR, hl, decide_true, Bool.true_and]
      have B0 := hb 0; have B1 := hb 1; have B2 := hb 2; have B3 := hb 3; have B4 := hb 4; have B5 := hb 5; have B6 := hb 6; have B7 := hb 7; have B8 := hb 8; have B9 := hb 9; have B10 := hb 10; have B11 := hb 11
      have eb : ∀ k, ((rows[k]?.getD [])[0]?.getD (Dat.i 0)).int = byt rows k := fun k => by simp [byt, List.getD_eq_getElem?_getD]
      simp only [eb] at *
      generalize byt rows 0 = b0, byt rows 1 = b1, byt rows 2 = b2, byt rows 3 = b3, byt rows 4 = b4, byt rows 5 = b5, byt rows 6 = b6, byt rows 7 = b7, byt rows 8 = b8, byt rows 9 = b9, byt rows 10 = b10, byt rows 11 = b11 at *
      simp (disch := omega) only [SX.wrap64, Int.tdiv_eq_ediv_of_nonneg, Int.tmod_eq_emod_of_nonneg, Int.fdiv_eq_ediv_of_nonneg]
      have k := c_Hello (b3 / 16) (b3 % 16) (cst b4 b5 b6 b7) (b8 / 16) (b8 % 16) b9 b10
      generalize hok : okH (b3 / 16) (b3 % 16) (cst b4 b5 b6 b7) (b8 / 16) (b8 % 16) b9 b10 = ok at k
      have hd : decOk b0 b1 b2 b3 b4 b5 b6 b7 b8 b9 b10 b11 = (decide (b0 = 83 ∧ b1 = 84 ∧ b2 = 1) && (ok && decide (b11 = (b0 + b1 + b2 + b3 + b4 + b5 + b6 + b7 + b8 + b9 + b10) % 256))) := by rw [decOk, hok]
      generalize decOk b0 b1 b2 b3 b4 b5 b6 b7 b8 b9 b10 b11 = D at hd ⊢
      simp only [cst] at k ⊢
      have ec : ((b4 * 256 + b5) * 256 + b6) * 256 + b7 = b4 * 16777216 + b5 * 65536 + b6 * 256 + b7 := by omega
      rw [ec] at k ⊢
      refine ⟨fun h => ?_, fun x y z => ⟨_, k, fun h => ?_, fun h1 h2 => ?_⟩⟩
      · have : D = false := by rw [hd, Bool.and_eq_false_iff]; left; simp; omega
        simp [this]
      · have : D = false := by
          rw [hd]
          rcases h with h | h
          · simp [h]
          · simp only [x, y, z, Bool.and_eq_false_iff, decide_eq_false_iff_not]; right; right; omega
        simp [this]
      · have : D = true := by rw [hd, h1]; simp only [x, y, z]; simp; omega
        simp [this]
    · have : ¬ (rows.length : Int) = 12 := by omega
      simp [-Bool.exists_bool, this, decV, decR, hl]
theorem inB_take {rows : List (List Dat)} (h : inB rows) (n : Nat) : inB (rows.take n) := by
  intro k
  have := h k
  simp only [byt, List.getD_eq_getElem?_getD, List.getElem?_take] at this ⊢
  split
  · exact this
  · simp
/-- a contract on a slice, at a row of the call's own -/
theorem row_call {ρ : Env} {κ : Kap} {base : Bk} {j c : Nat} {pat : List CK} {E : TypeId} {w : World} (h : HeapOk ρ κ base [.arr j c pat (some E)] w) :
    (ρ.nl j = true → ρ.a c = []) ∧ (ρ.a c).length ≤ κ.cap j ∧ κ.ao j = 0 ∧ ∀ (x f : Nat) r k, (ρ.a c)[x]? = some r → pat[f]? = some k → w.cell? ⟨κ.ab j, κ.ao j + x * pat.length + f, none⟩ = some (k.den (r.getD f (.i 0))) := by
  have ha : Heap.arr? [.arr j c pat (some E)] j = some (c, pat, some E) := by simp [Heap.arr?]
  obtain ⟨h0, hr, _⟩ := h.row j c pat E ha
  refine ⟨(h.arr j c pat _ ha).2, ?_, h0, (h.arr j c pat _ ha).1⟩
  rcases hr.2 with ⟨_, h2⟩ | ⟨g, cap, cur, hv, _, _, hle, _⟩
  · omega
  · simp only [rowVal, Value.slice.injEq] at hv; rw [hv.2.2]; exact hle
theorem dec23 {rows : List (List Dat)} (hb : inB rows) {ρ : Env} {κ : Kap} {base : Bk} {j : Nat} {w : World} (h : HeapOk ρ κ base [.arr j j pu (some 5)] w) (ha : ρ.a j = rows) (hn : ρ.nl j = false) :
    Calls Try.prog 23 #[.slice (some ⟨κ.ab j, κ.ao j, none⟩) rows.length (κ.cap j)] w fun e w' => e = .returned (.tuple #[decV rows, vI (if decR rows then 0 else 5)]) ∧ Below w.heap.size w w' := by
  obtain ⟨h1, h2, h3, h4⟩ := row_call h
  rw [ha] at h2 h4
  have := c_Decode rows false (κ.ab j) (κ.ao j) (κ.cap j) w (fun h => (by cases h)) h2 h4 hb
  simpa using this
theorem dec24 {rows : List (List Dat)} (hb : inB rows) {ρ : Env} {κ : Kap} {base : Bk} {j : Nat} {w : World} (h : HeapOk ρ κ base [.arr j j pu (some 5)] w) (ha : ρ.a j = rows) (hn : ρ.nl j = false) :
    Calls Try.prog 24 #[.slice (some ⟨κ.ab j, κ.ao j, none⟩) rows.length (κ.cap j)] w fun e w' => e = .returned (.tuple #[decV rows, vB (decR rows)]) ∧ Below w.heap.size w w' := by
  obtain ⟨h1, h2, h3, h4⟩ := row_call h
  rw [ha] at h2 h4
  have := c_Read rows false (κ.ab j) (κ.ao j) (κ.cap j) w (fun h => (by cases h)) h4 hb
  simpa using this
theorem l_VectorCodes (a b c d e f g : Int) (rows : List (List Dat)) (nl : Bool) (bl o cap : Nat) (w : World) (h1 : nl = true → rows = []) (hc : rows.length ≤ cap) (hcap : cap ≤ 9223372036854775807) (h2 : ∀ (x f : Nat) r k, rows[x]? = some r → pu[f]? = some k → w.cell? ⟨bl, o + x * pu.length + f, none⟩ = some (k.den (r.getD f (.i 0)))) (hb : inB rows) :
    Calls Try.prog 5 #[vH a b c d e f g, .slice (if nl then none else some ⟨bl, o, none⟩) rows.length cap] w fun e w' => e = .returned (vB true) ∧ Below w.heap.size w w' := by
  have k1 := c_wakes
  have k2 := c_CheckHello a b c d e f g
  have k3 := c_Hello a b c d e f g
  have hk := calls_of t_VectorCodes (ρ := mkEnv [.i a, .i b, .i c, .i d, .i e, .i f, .i g, .l rows, .n nl, .i cap]) (κ := kap1 bl o) (w := w) (res := vB true) (heapOk_slice (n := 7) (by simpa using h1) (by simpa using h2)) ?_
  · rw [show ([hl 0, slArg 7 1].map (SV.den (mkEnv [.i a, .i b, .i c, .i d, .i e, .i f, .i g, .l rows, .n nl, .i cap]) (kap1 bl o))).toArray = #[vH a b c d e f g, .slice (if nl then none else some ⟨bl, o, none⟩) rows.length cap] from by simp [slArg_den (ρ := mkEnv [.i a, .i b, .i c, .i d, .i e, .i f, .i g, .l rows, .n nl, .i cap]) (n := 7) (s := 1) (b := bl) (o := o) (cap := cap) (nl := nl) (rows := rows) rfl rfl rfl, hl, List.range, List.range.loop]] at hk
    exact hk
  · have hM : (if (40 : Int) < (rows.length : Int) then (40 : Int) else rows.length) = ((min 40 rows.length : Nat) : Int) := by split <;> omega
    generalize hR0 : rows.take (min 40 rows.length) = R
    have hRb : inB R := by rw [← hR0]; exact inB_take hb _
    have hRl : min (min 40 rows.length) rows.length = R.length := by rw [← hR0, List.length_take]
    cases hok : okH a b c d e f g
    · simp [hok] at k2 k3
      simp [-Bool.exists_bool, hM, hR0, hRl]
      refine ⟨_, k1, rfl, fun _ => ⟨_, k2, fun _ => ⟨_, k3, ⟨fun _ => rfl, rfl⟩, fun _ _ => ⟨by omega, ⟨by omega, by omega⟩, ?_⟩⟩, fun h => absurd h (by decide)⟩⟩
      cases hR : decR R
      · refine ⟨0, 0, 0, 0, 0, 0, 0, 5, fun κ w' hh _ _ => ?_, 0, 0, 0, 0, 0, 0, 0, false, fun κ w' hh _ _ => ?_, by simp, by simp⟩
        · have := dec23 hRb hh (by simp) (by simp); simpa [decV, hR] using this
        · have := dec24 hRb hh (by simp) (by simp); simpa [decV, hR] using this
      · refine ⟨byt R 3 / 16, byt R 3 % 16, cst (byt R 4) (byt R 5) (byt R 6) (byt R 7), byt R 8 / 16, byt R 8 % 16, byt R 9, byt R 10, 0, fun κ w' hh _ _ => ?_, byt R 3 / 16, byt R 3 % 16, cst (byt R 4) (byt R 5) (byt R 6) (byt R 7), byt R 8 / 16, byt R 8 % 16, byt R 9, byt R 10, true, fun κ w' hh _ _ => ?_, by simp, by simp⟩
        · have := dec23 hRb hh (by simp) (by simp); simpa [decV, hR] using this
        · have := dec24 hRb hh (by simp) (by simp); simpa [decV, hR] using this
    · have hc2 : 0 ≤ a ∧ a ≤ 15 ∧ 0 ≤ b ∧ b ≤ 11 ∧ 0 ≤ c ∧ c ≤ 1048576 ∧ 0 ≤ d ∧ d ≤ 15 ∧ 0 ≤ e ∧ e ≤ 11 ∧ 0 ≤ f ∧ f ≤ 47 ∧ 0 ≤ g ∧ g ≤ 20 := by simp [okH, okR, okB] at hok; omega
      simp [hok] at k2 k3
      have w8 : (2 : Int) ^ min 8 IntKind.i64.bits = 256 := by decide
      have w16 : (2 : Int) ^ min 16 IntKind.i64.bits = 65536 := by decide
      have w24 : (2 : Int) ^ min 24 IntKind.i64.bits = 16777216 := by decide
      simp [-Bool.exists_bool, hM, hR0, hRl]
      simp only [w8, w16, w24, u8m]
      simp (disch := omega) only [SX.wrap64, Int.tdiv_eq_ediv_of_nonneg, Int.tmod_eq_emod_of_nonneg, Int.fdiv_eq_ediv_of_nonneg]
      refine ⟨_, k1, rfl, fun _ => ⟨_, k2, fun h => absurd rfl h, fun _ => ?_⟩⟩
      refine ⟨k3, trivial, fun _ => ⟨by omega, fun _ => ⟨by omega, fun _ => ⟨by omega, fun _ => ⟨by simp only [Int.emod_add_emod, Int.emod_emod], fun hq => ⟨by clear hq; omega, ⟨by clear hq; omega, by clear hq; omega⟩, ?_⟩⟩⟩⟩⟩⟩
      cases hR : decR R
      · refine ⟨0, 0, 0, 0, 0, 0, 0, 5, fun κ w' hh _ _ => ?_, 0, 0, 0, 0, 0, 0, 0, false, fun κ w' hh _ _ => ?_, by simp, by simp⟩
        · have := dec23 hRb hh (by simp) (by simp); simpa [decV, hR] using this
        · have := dec24 hRb hh (by simp) (by simp); simpa [decV, hR] using this
      · refine ⟨byt R 3 / 16, byt R 3 % 16, cst (byt R 4) (byt R 5) (byt R 6) (byt R 7), byt R 8 / 16, byt R 8 % 16, byt R 9, byt R 10, 0, fun κ w' hh _ _ => ?_, byt R 3 / 16, byt R 3 % 16, cst (byt R 4) (byt R 5) (byt R 6) (byt R 7), byt R 8 / 16, byt R 8 % 16, byt R 9, byt R 10, true, fun κ w' hh _ _ => ?_, by simp, by simp⟩
        · have := dec23 hRb hh (by simp) (by simp); simpa [decV, hR] using this
        · have := dec24 hRb hh (by simp) (by simp); simpa [decV, hR] using this
end Go.Proofs.Y18
