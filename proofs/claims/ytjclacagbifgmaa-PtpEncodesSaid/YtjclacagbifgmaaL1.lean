/- A part of the proof: see the text that states the theorem. -/
import Derived.Test.YtjclacagbifgmaaL0
import Derived.Test.YtjclacagbifgmaaB5
set_option linter.unusedSimpArgs false
set_option linter.unusedVariables false
set_option linter.unusedSectionVars false
noncomputable section
set_option maxHeartbeats 4000000
set_option maxRecDepth 100000
namespace Go.Proofs.Y10
open Go Go.SX Go.RowKit
theorem OwnRow.nilRow (w : World) (E : TypeId) (pat : List CK) : OwnRow w w E pat [] true (.slice none 0 0) :=
  ⟨World.ownsRow_nil w _ E _, by simp⟩
theorem BSlice.of_own {w w' : World} {l : List Int} {nl : Bool} {v : Value} (h : OwnRow w w' 5 pu (rowsB l) nl v) : BSlice w' l v := by
  refine ⟨h.slice (by decide), fun p n c e => ?_⟩
  obtain ⟨⟨_, h1⟩, _⟩ := h
  rcases h1 with ⟨rfl, h2⟩ | ⟨g, cap, cur, rfl, _, _, h3, _⟩
  · cases e; exact Nat.le_refl _
  · cases e; exact h3
noncomputable def encL (m : M) : List Int := if right m then bytesM m else []
noncomputable def encE (m : M) : Int := if right m then 0 else 200
theorem c_EncodeA (m : M) (w : World) : Calls Try.prog 18 #[vM m] w fun e w' => ∃ v nl, e = .returned (vE v (encE m)) ∧ OwnRow w w' 5 pu (rowsB (encL m)) nl v ∧ (nl = true ↔ ¬right m) ∧ Below w.heap.size w w' := by
  by_cases h : right m
  · simp only [encL, encE, h, if_true]
    refine (c_Encode m h w).mono fun e w' ⟨v, h1, h2, h3⟩ => ⟨v, false, h1, h2, by simp, h3⟩
  · simp only [encL, encE, h, if_false]
    exact (c_Encode0 m h w).mono fun e w' ⟨h1, h2⟩ => ⟨_, true, h1, ⟨⟨by simp [rowsB, arrCells], .inl ⟨rfl, by simp [rowsB]⟩⟩, by simp⟩, by simp, h2⟩
theorem be_range (y : Int) : ∀ k, ∀ x ∈ be y k, 0 ≤ x ∧ x < 256
  | 0, x, h => by cases h
  | k + 1, x, h => by
    rcases List.mem_cons.1 h with rfl | h
    · exact ⟨Int.emod_nonneg _ (by decide), Int.emod_lt_of_pos _ (by decide)⟩
    · exact be_range y k x h
theorem bytesM_range (m : M) (h : right m) : ∀ x ∈ bytesM m, 0 ≤ x ∧ x < 256 := by
  have h1 : 0 ≤ m.dom ∧ m.dom ≤ 127 := h.1.1
  have h2 : m.kd = 0 ∨ m.kd = 2 ∨ m.kd = 3 ∨ m.kd = 8 ∨ m.kd = 10 ∨ m.kd = 11 := by
    rcases h.2 with ⟨hk, _⟩ | ⟨hk, _⟩ | ⟨hk, _⟩ | ⟨hk, _⟩ <;> omega
  intro x hx
  simp only [bytesM, headL, tailL, List.mem_append, List.mem_cons, List.not_mem_nil, or_false] at hx
  rcases hx with (((((hx | hx) | hx) | hx) | hx) | hx) | hx
  · rcases hx with rfl | rfl <;> omega
  · exact be_range _ _ _ hx
  · exact be_range _ _ _ hx
  · exact be_range _ _ _ hx
  · exact be_range _ _ _ hx
  · exact be_range _ _ _ hx
  · split at hx
    · rcases List.mem_append.1 hx with hx | hx <;> exact be_range _ _ _ hx
    · split at hx
      · simp only [List.mem_append] at hx
        rcases hx with (hx | hx) | hx <;> exact be_range _ _ _ hx
      · split at hx
        · simp only [List.mem_append] at hx
          rcases hx with (((((hx | hx) | hx) | hx) | hx) | hx) | hx <;> exact be_range _ _ _ hx
        · cases hx
theorem bytesM_inj {m n : M} (h1 : right m) (h2 : right n) : bytesM m = bytesM n ↔ m = n :=
  ⟨fun e => by rw [← (parse_bytesM m h1).1, ← (parse_bytesM n h2).1, e], fun e => by rw [e]⟩
theorem M.ext_iff' (m n : M) : m = n ↔ (m.kd = n.kd ∧ m.dom = n.dom ∧ m.cor = n.cor ∧ (m.sid = n.sid ∧ m.sp = n.sp) ∧ m.seq = n.seq ∧ m.tim = n.tim ∧ m.ppb = n.ppb ∧ (m.rid = n.rid ∧ m.rp = n.rp) ∧ (m.p1 = n.p1 ∧ m.cl = n.cl ∧ m.ac = n.ac ∧ m.va = n.va ∧ m.p2 = n.p2 ∧ m.mid = n.mid) ∧ m.st = n.st) := by
  cases m; cases n; simp [and_assoc]
theorem rowsB_len (l : List Int) : (rowsB l).length = l.length := by simp [rowsB]
theorem bs_own {w : World} {l : List Int} {nl : Bool} {b o cap n : Nat} (h : ArrAt w pu (rowsB l) nl b o cap true) (hn : (rowsB l).length = n) : BSlice w l (.slice (if nl = true then none else some ⟨b, o, none⟩) n cap) := by
  refine ⟨h.slice hn _, fun p m c e => ?_⟩
  cases e
  have := (h.own rfl).2
  omega
theorem bs_pre {w : World} {l : List Int} {nl : Bool} {b o cap n : Nat} (h : ArrAt w pu (rowsB l) nl b o cap true) (hn : n ≤ l.length) : BSlice w (l.take n) (.slice (if nl = true then none else some ⟨b, o, none⟩) n cap) := by
  refine ⟨⟨nl, b, o, cap, ?_, fun e => ?_, fun x f r k hx hk => ?_⟩, fun p m c e => ?_⟩
  · rw [rowsB_len, List.length_take, Nat.min_eq_left hn]
  · have := h.nil e
    simp [rowsB] at this
    simp [this, rowsB]
  · refine h.cells x f r k ?_ hk
    rw [rowsB, List.map_take, List.getElem?_take] at hx
    split at hx
    · exact hx
    · cases hx
  · cases e
    have := (h.own rfl).2
    rw [rowsB_len] at this
    omega
/-- bytes with another length, and the same first byte: no encoding -/
theorem not_dec {l l' : List Int} (h : decP l) (h0 : l'.length < 22 ∨ l'.getD 0 0 = l.getD 0 0) (hn : l'.length ≠ l.length) : ¬decP l' := fun h' => by
  have h1 := h.2.1
  have h2 := h'.2.1
  have h3 := h'.1
  rcases h0 with h0 | h0
  · omega
  · rw [h0, h1] at h2; omega
theorem c_DecodeOk {l : List Int} {m : M} (hl : ∀ x ∈ l, 0 ≤ x ∧ x < 256) (hp : parse l = m ∧ decP l) (v : Value) (w : World) (h : BSlice w l v) : Calls Try.prog 22 #[v] w fun e w' => e = .returned (.tuple #[vM m, vI 0]) ∧ Below w.heap.size w w' := by
  have := c_Decode l hl v w h
  rw [decM, if_pos hp.2, if_pos hp.2, hp.1] at this; exact this
theorem c_DecodeNo {l : List Int} (hl : ∀ x ∈ l, 0 ≤ x ∧ x < 256) (hp : ¬decP l) (v : Value) (w : World) (h : BSlice w l v) : Calls Try.prog 22 #[v] w fun e w' => e = .returned (.tuple #[vM M0, vI 5]) ∧ Below w.heap.size w w' := by
  have := c_Decode l hl v w h
  rw [decM, if_neg hp, if_neg hp] at this; exact this
theorem bs_take {w : World} {l : List Int} {nl : Bool} {b o cap n : Nat} {own : Bool} (h : ArrAt w pu (rowsB l) nl b o cap own) (c : Nat) (hn : n ≤ l.length) (hc : n ≤ c) : BSlice w (l.take n) (.slice (if nl = true then none else some ⟨b, o, none⟩) n c) := by
  refine ⟨⟨nl, b, o, c, ?_, fun e => ?_, fun x f r k hx hk => ?_⟩, fun p m c e => ?_⟩
  · rw [rowsB_len, List.length_take, Nat.min_eq_left hn]
  · have := h.nil e
    simp [rowsB] at this
    simp [this, rowsB]
  · refine h.cells x f r k ?_ hk
    rw [rowsB, List.map_take, List.getElem?_take] at hx
    split at hx
    · exact hx
    · cases hx
  · cases e
    exact hc
theorem xor_range (a b : Int) : 0 ≤ bits .xor .u8 a b ∧ bits .xor .u8 a b < 256 := by
  have := wrap_u8 (((BitVec.ofInt 8 a ^^^ BitVec.ofInt 8 b : BitVec 8).toNat : Int))
  exact this
theorem dec_both (l : List Int) (hl : ∀ x ∈ l, 0 ≤ x ∧ x < 256) : ∃ (m : M) (e : Int) (b : Bool), (∀ v w, BSlice w l v → Calls Try.prog 22 #[v] w fun e' w' => e' = .returned (.tuple #[vM m, vI e]) ∧ Below w.heap.size w w') ∧
    (∀ v w, BSlice w l v → Calls Try.prog 23 #[v] w fun e' w' => e' = .returned (.tuple #[vM m, vB b]) ∧ Below w.heap.size w w') ∧ (e = 0 ∧ b = true ∨ e = 5 ∧ b = false) := by
  refine ⟨decM l, if decP l then 0 else 5, decide (decP l), c_Decode l hl, c_Read l hl, ?_⟩
  by_cases h : decP l
  · exact .inl ⟨if_pos h, decide_eq_true h⟩
  · exact .inr ⟨if_neg h, decide_eq_false h⟩
theorem rowsB_set (l : List Int) (k : Nat) (y : Int) : (rowsB l).set k [.i y] = rowsB (l.set k y) := by simp [rowsB, List.map_set]
theorem c_EncodeL {l : List Int} (hl : ∀ x ∈ l, 0 ≤ x ∧ x < 256) (h : decP l) (w : World) : Calls Try.prog 18 #[vM (parse l)] w fun e w' => ∃ v, e = .returned (vE v 0) ∧ OwnRow w w' 5 pu (rowsB l) false v ∧ Below w.heap.size w w' := by
  have := c_Encode (parse l) h.2.2.2 w
  rw [bytesM_parse l hl h] at this; exact this
theorem c_EqualT (l : List Int) (hl : ∀ x ∈ l, 0 ≤ x ∧ x < 256) (v v' : Value) (w : World) (h : SliceIs w pu (rowsB l) v) (h' : SliceIs w pu (rowsB l) v') :
    Calls Try.prog 20 #[v, v'] w fun e w' => e = .returned (vB true) ∧ Below w.heap.size w w' := by
  have := c_Equal l l hl hl v v' w h h'
  rw [decide_eq_true rfl] at this; exact this
theorem exD_intro : ∀ (ks : List VK) {F : List Dat → Prop} (l : List Dat), fitsL ks l = true → F l → exD ks F
  | [], _, [], _, h => h
  | [], _, _ :: _, hl, _ => by cases hl
  | _ :: _, _, [], hl, _ => by cases hl
  | k :: r, F, d :: l, hl, h => by
    simp only [fitsL, Bool.and_eq_true] at hl
    cases k <;> cases d <;> simp [Dat.fits] at hl <;> exact ⟨_, exD_intro r l hl h⟩
theorem stepR {P : Program} {base : Bk} {w0 : World} {Φ : Value → Prop} {f : FuncId} {args : List SV} {n : Nat} {vks : List VK} {res : SV} {t : T} {L : List LCtx} {ρ : Env} (l : List Dat) (hl : fitsL vks l = true)
    (hc : ∀ κ, Ret P f (args.map (SV.den ρ κ)).toArray (res.den (ρ.setL n l) κ)) (ht : DenV P base w0 Φ t L (ρ.setL n l)) : DenV P base w0 Φ (.call f args [] n vks res [] t) L ρ := exD_intro vks l hl ⟨hc, ht⟩
theorem stepI {P : Program} {base : Bk} {w0 : World} {Φ : Value → Prop} {c : BE} {t e : T} {L : List LCtx} {ρ : Env} (h1 : c.den ρ = true → DenV P base w0 Φ t L ρ) (h2 : c.den ρ = false → DenV P base w0 Φ e L ρ) : DenV P base w0 Φ (.ite c t e) L ρ := ⟨h1, h2⟩
theorem stepL {P : Program} {base : Bk} {w0 : World} {Φ : Value → Prop} {n : Nat} {i : LV} {t : T} {L : List LCtx} {ρ : Env} (I : List Dat → Prop) (μ : List Dat → Nat) (h0 : I [i.eval ρ])
    (h : ∀ k : Int, I [.i k] → DenV P base w0 Φ t (⟨I, μ, μ [.i k]⟩ :: L) (ρ.setL n [.i k])) : DenV P base w0 Φ (.loop [.i] n [i] t) L ρ := ⟨I, μ, h0, h⟩
end Go.Proofs.Y10
