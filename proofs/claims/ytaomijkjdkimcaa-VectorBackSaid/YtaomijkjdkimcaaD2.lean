/- A part of the proof: see the text that states the theorem. -/
import Derived.Test.YtaomijkjdkimcaaD1
set_option linter.unusedSimpArgs false
set_option linter.unusedVariables false
set_option linter.unusedSectionVars false
namespace Go.Proofs.Y18
open Go Go.SX Go.RowKit
def rowsOf (ns : List Int) : List (List Dat) := ns.map fun n => [.i n]
theorem byt_rowsOf (ns : List Int) (k : Nat) : byt (rowsOf ns) k = ns.getD k 0 := by
  simp only [byt, rowsOf, List.getD_eq_getElem?_getD, List.getElem?_map]
  cases ns[k]? <;> simp
theorem inB_rowsOf {ns : List Int} (h : ∀ n ∈ ns, 0 ≤ n ∧ n < 256) : inB (rowsOf ns) := by
  intro k
  rw [byt_rowsOf, List.getD_eq_getElem?_getD]
  cases hk : ns[k]? with
  | none => simp
  | some n => simpa using h n (List.mem_of_getElem? hk)
theorem dec_obj {ρ : Env} {κ : Kap} {base : Bk} {id : Nat} {cs : List SC} {ty : TypeId} {w : World} (h : HeapOk ρ κ base [.obj id (.cells cs ty (some 1))] w) (ns : List Int) (hcs : cs.map (SC.den ρ κ) = ns.map (fun n => Value.int .u8 n)) (m : Nat) (hm : m ≤ ns.length) (hb : ∀ n ∈ ns, 0 ≤ n ∧ n < 256) :
    Calls Try.prog 23 #[.slice (some ⟨κ.o id, 0, none⟩) m (κ.cap id)] w fun e w' => e = .returned (.tuple #[decV (rowsOf (ns.take m)), vI (if decR (rowsOf (ns.take m)) then 0 else 5)]) ∧ Below w.heap.size w w' := by
  obtain ⟨⟨b, e1, sp, e2, e3, _⟩, _⟩ := h.obj id _ (by simp [Heap.obj?]; rfl)
  subst e2
  have hlen : cs.length = ns.length := by have := congrArg List.length hcs; simpa using this
  have hl : (rowsOf (ns.take m)).length = m := by simp [rowsOf]; omega
  have := c_Decode (rowsOf (ns.take m)) false (κ.o id) 0 (κ.cap id) w (fun h => (by cases h)) (by rw [hl]; omega) (fun x f r k hx hk => ?_) (inB_rowsOf fun n hn => hb n (List.mem_of_mem_take hn))
  · rw [hl] at this; simpa using this
  · have hf : f = 0 ∧ k = .int .u8 := by
      cases f with
      | zero => simp [pu] at hk; exact ⟨rfl, hk.symm⟩
      | succ f => simp [pu] at hk
    obtain ⟨rfl, rfl⟩ := hf
    simp only [rowsOf, List.getElem?_map] at hx
    obtain ⟨n, hn, rfl⟩ := Option.map_eq_some_iff.1 hx
    have hn2 : ns[x]? = some n := by
      rw [List.getElem?_take] at hn
      split at hn
      · exact hn
      · cases hn
    rw [cell_of_row w _ _ _ _ _ e1]
    have hxl : x < ns.length := (List.getElem?_eq_some_iff.1 hn2).1
    have hcell : (cs.map (SC.den ρ κ))[x]? = some (.int .u8 n) := by rw [hcs, List.getElem?_map, hn2]; rfl
    simp only [pu, List.length_singleton, Nat.mul_one, Nat.zero_add, Nat.add_zero, List.getElem?_toArray]
    rw [List.getElem?_append_left (by simp; omega), hcell]
    simp [CK.den]
/-- the bytes of a message -/
def sumB (A B C D E F G : Int) : Int := (168 + (16 * A + B) + C / 16777216 % 256 + C / 65536 % 256 + C / 256 % 256 + C % 256 + (16 * D + E) + F + G) % 256
def encL (A B C D E F G : Int) : List Int := [83, 84, 1, 16 * A + B, C / 16777216 % 256, C / 65536 % 256, C / 256 % 256, C % 256, 16 * D + E, F, G, sumB A B C D E F G]
def okV (A B C D E F G : Int) : Prop := 0 ≤ A ∧ A < 16 ∧ 0 ≤ B ∧ B < 12 ∧ 0 ≤ C ∧ C < 1000001 ∧ 0 ≤ D ∧ D < 16 ∧ 0 ≤ E ∧ E < 12 ∧ 0 ≤ F ∧ F < 48 ∧ 0 ≤ G ∧ G < 21
theorem encL_bd {A B C D E F G : Int} (h : okV A B C D E F G) : ∀ n ∈ encL A B C D E F G, 0 ≤ n ∧ n < 256 := by
  intro n hn
  unfold okV at h
  simp only [encL, sumB, List.mem_cons, List.not_mem_nil, or_false] at hn
  rcases hn with rfl | rfl | rfl | rfl | rfl | rfl | rfl | rfl | rfl | rfl | rfl | rfl <;> omega
theorem dec_enc {A B C D E F G : Int} (h : okV A B C D E F G) : decR (rowsOf (encL A B C D E F G)) = true ∧ decV (rowsOf (encL A B C D E F G)) = vH A B C D E F G := by
  have h1 : decR (rowsOf (encL A B C D E F G)) = true := by
    unfold okV at h
    simp only [decR, byt_rowsOf, encL, sumB, decOk, okH, okR, okB, cst]
    simp [rowsOf]
    omega
  refine ⟨h1, ?_⟩
  unfold okV at h
  have q1 : (16 * A + B) / 16 = A := by omega
  have q2 : (16 * A + B) % 16 = B := by omega
  have q3 : ((C / 16777216 % 256 * 256 + C / 65536 % 256) * 256 + C / 256 % 256) * 256 + C % 256 = C := by omega
  have q4 : (16 * D + E) / 16 = D := by omega
  have q5 : (16 * D + E) % 16 = E := by omega
  rw [decV, if_pos h1]
  simp only [byt_rowsOf, encL, cst]
  simp [q1, q2, q3, q4, q5]
/-- one byte turned -/
theorem dec_bad {A B C D E F G : Int} (h : okV A B C D E F G) (j : Nat) (hj : j < 12) (y : Int) (hy : y ≠ (encL A B C D E F G).getD j 0) (h0 : 0 ≤ y ∧ y < 256) : decR (rowsOf ((encL A B C D E F G).set j y)) = false := by
  have hb := encL_bd h
  cases hd : decR (rowsOf ((encL A B C D E F G).set j y))
  · rfl
  · exfalso
    simp only [decR, byt_rowsOf, decOk, Bool.and_eq_true, decide_eq_true_eq] at hd
    obtain ⟨_, ⟨e0, e1, e2⟩, _, e11⟩ := hd
    generalize hS : sumB A B C D E F G = S
    have hS' := hS
    unfold sumB at hS'
    unfold okV at h
    unfold encL at e0 e1 e2 e11 hy hb
    rw [hS] at e0 e1 e2 e11 hy
    generalize C / 16777216 % 256 = c4, C / 65536 % 256 = c5, C / 256 % 256 = c6, C % 256 = c7 at *
    match j, hj with
    | 0, _ => simp at e0 hy; omega
    | 1, _ => simp at e1 hy; omega
    | 2, _ => simp at e2 hy; omega
    | 3, _ => simp at e11 hy; omega
    | 4, _ => simp at e11 hy; have := hb c4 (by simp); omega
    | 5, _ => simp at e11 hy; have := hb c5 (by simp); omega
    | 6, _ => simp at e11 hy; have := hb c6 (by simp); omega
    | 7, _ => simp at e11 hy; have := hb c7 (by simp); omega
    | 8, _ => simp at e11 hy; omega
    | 9, _ => simp at e11 hy; omega
    | 10, _ => simp at e11 hy; omega
    | 11, _ => simp at e11 hy; omega
theorem decR_short {ns : List Int} (h : ns.length ≠ 12) : decR (rowsOf ns) = false := by
  simp [decR, rowsOf, h]
def isU8 : SC → Bool
  | .int .u8 _ => true
  | _ => false
def intOf (ρ : Env) : SC → Int
  | .int _ e => e.den ρ
  | _ => 0
theorem u8_den {ρ : Env} {κ : Kap} : ∀ {cs : List SC}, cs.all isU8 = true → cs.map (SC.den ρ κ) = (cs.map (intOf ρ)).map fun n => Value.int .u8 n
  | [], _ => rfl
  | s :: l, h => by
    simp only [List.all_cons, Bool.and_eq_true] at h
    simp only [List.map_cons, u8_den h.2]
    congr 1
    have := h.1
    unfold isU8 at this
    split at this
    · rfl
    · cases this
/-- a length that is not 12: whatever the bytes are -/
theorem c_Decode_len (rows : List (List Dat)) (b o cap : Nat) (w : World) (hl : rows.length ≠ 12) (h2 : ∀ (x f : Nat) r k, rows[x]? = some r → pu[f]? = some k → w.cell? ⟨b, o + x * pu.length + f, none⟩ = some (k.den (r.getD f (.i 0)))) :
    Calls Try.prog 23 #[.slice (some ⟨b, o, none⟩) rows.length cap] w fun e w' => e = .returned (.tuple #[vH 0 0 0 0 0 0 0, vI 5]) ∧ Below w.heap.size w w' := by
  have hk := calls_of t_Decode (ρ := mkEnv [.l rows, .n false, .i cap]) (κ := kap1 b o) (w := w) (res := .tuple #[vH 0 0 0 0 0 0 0, vI 5]) (heapOk_slice (by simp) (by simpa using h2)) ?_
  · rw [show ([slArg 0 1].map (SV.den (mkEnv [.l rows, .n false, .i cap]) (kap1 b o))).toArray = #[.slice (some ⟨b, o, none⟩) rows.length cap] from by simp [slArg_den (ρ := mkEnv [.l rows, .n false, .i cap]) (n := 0) (s := 1) (b := b) (o := o) (cap := cap) (nl := false) (rows := rows) rfl rfl rfl]] at hk
    exact hk
  · have : ¬ (rows.length : Int) = 12 := by omega
    simp [-Bool.exists_bool, this]
theorem dec_len {ρ : Env} {κ : Kap} {base : Bk} {id : Nat} {cs : List SC} {ty : TypeId} {w : World} (h : HeapOk ρ κ base [.obj id (.cells cs ty (some 1))] w) (hu : cs.all isU8 = true) (m : Nat) (hm : m ≤ cs.length) (h12 : m ≠ 12) :
    Calls Try.prog 23 #[.slice (some ⟨κ.o id, 0, none⟩) m (κ.cap id)] w fun e w' => e = .returned (.tuple #[vH 0 0 0 0 0 0 0, vI 5]) ∧ Below w.heap.size w w' := by
  obtain ⟨⟨b, e1, sp, e2, e3, _⟩, _⟩ := h.obj id _ (by simp [Heap.obj?]; rfl)
  subst e2
  have hl : (rowsOf ((cs.map (intOf ρ)).take m)).length = m := by simp [rowsOf]; omega
  have := c_Decode_len (rowsOf ((cs.map (intOf ρ)).take m)) (κ.o id) 0 (κ.cap id) w (by rw [hl]; exact h12) (fun x f r k hx hk => ?_)
  · rw [hl] at this; exact this
  · have hf : f = 0 ∧ k = .int .u8 := by
      cases f with
      | zero => simp [pu] at hk; exact ⟨rfl, hk.symm⟩
      | succ f => simp [pu] at hk
    obtain ⟨rfl, rfl⟩ := hf
    simp only [rowsOf, List.getElem?_map] at hx
    obtain ⟨n, hn, rfl⟩ := Option.map_eq_some_iff.1 hx
    have hn2 : (cs.map (intOf ρ))[x]? = some n := by
      rw [List.getElem?_take] at hn
      split at hn
      · exact hn
      · cases hn
    rw [cell_of_row w _ _ _ _ _ e1]
    have hxl : x < cs.length := by have := (List.getElem?_eq_some_iff.1 hn2).1; simpa using this
    have hcell : (cs.map (SC.den ρ κ))[x]? = some (.int .u8 n) := by rw [u8_den hu, List.getElem?_map, hn2]; rfl
    simp only [pu, List.length_singleton, Nat.mul_one, Nat.zero_add, Nat.add_zero, List.getElem?_toArray]
    rw [List.getElem?_append_left (by simp; omega), hcell]
    simp [CK.den]
end Go.Proofs.Y18
