/- SyV: what an argument is, from what it reads as. -/
import Derived.Test.YtjclacagbifgmaaSyU
import Derived.OpenShut
set_option linter.unusedSimpArgs false
set_option linter.unusedVariables false
set_option linter.unusedSectionVars false
noncomputable section
namespace Go.SX
open Go Go.RowKit Go.ChangeShapes

def flatT (P : Program) : Nat → TypeId → Option (List CK)
  | 0, _ => none
  | d + 1, t => match P.underlying t with
    | some (.int k) => some [.int k]
    | some .bool => some [.bool]
    | some (.struct fs) => match flatFs P d 0 fs.toList with
      | some p => bif Nat.beq p.length (P.cellsOf t) then some p else none
      | none => none
    | some (.array n e) => match flatT P d e with
      | some p => bif Nat.beq p.length (P.cellsOf e) && Nat.beq (n * p.length) (P.cellsOf t) then some (List.replicate n p).flatten else none
      | none => none
    | _ => none
where
  flatFs (P : Program) : Nat → Nat → List Field → Option (List CK)
  | 0, _, _ => none
  | _ + 1, _, [] => some []
  | d + 1, off, f :: fs => match flatT P d f.type, flatFs P d (off + P.cellsOf f.type) fs with
    | some a, some b => bif Nat.beq f.offset off && Nat.beq a.length (P.cellsOf f.type) then some (a ++ b) else none
    | _, _ => none
/-- data of a pattern -/
def FitsP : List CK → List Dat → Prop
  | [], [] => True
  | .int k :: p, .i n :: r => (Lit.int k n).wf = true ∧ FitsP p r
  | .bool :: p, .b _ :: r => FitsP p r
  | _, _ => False
theorem FitsP.append : ∀ {p q : List CK} {r s : List Dat}, FitsP p r → FitsP q s → FitsP (p ++ q) (r ++ s)
  | [], _, [], _, _, h => h
  | [], _, _ :: _, _, h, _ => h.elim
  | .int k :: p, _, .i n :: r, _, ⟨h1, h2⟩, h => ⟨h1, h2.append h⟩
  | .bool :: p, _, .b _ :: r, _, h1, h => FitsP.append (p := p) (r := r) h1 h
  | .int _ :: _, _, [], _, h, _ => h.elim
  | .int _ :: _, _, .b _ :: _, _, h, _ => h.elim
  | .int _ :: _, _, .v _ :: _, _, h, _ => h.elim
  | .int _ :: _, _, .l _ :: _, _, h, _ => h.elim
  | .int _ :: _, _, .n _ :: _, _, h, _ => h.elim
  | .bool :: _, _, [], _, h, _ => h.elim
  | .bool :: _, _, .i _ :: _, _, h, _ => h.elim
  | .bool :: _, _, .v _ :: _, _, h, _ => h.elim
  | .bool :: _, _, .l _ :: _, _, h, _ => h.elim
  | .bool :: _, _, .n _ :: _, _, h, _ => h.elim
  | .val :: _, _, r, _, h, _ => by cases r <;> exact h.elim
theorem FitsP.length : ∀ {p : List CK} {r : List Dat}, FitsP p r → r.length = p.length
  | [], [], _ => rfl
  | [], _ :: _, h => h.elim
  | .int k :: p, .i n :: r, ⟨_, h2⟩ => by simp [h2.length]
  | .bool :: p, .b _ :: r, h => by simp [FitsP.length (p := p) (r := r) h]
  | .int _ :: _, [], h => h.elim
  | .int _ :: _, .b _ :: _, h => h.elim
  | .int _ :: _, .v _ :: _, h => h.elim
  | .int _ :: _, .l _ :: _, h => h.elim
  | .int _ :: _, .n _ :: _, h => h.elim
  | .bool :: _, [], h => h.elim
  | .bool :: _, .i _ :: _, h => h.elim
  | .bool :: _, .v _ :: _, h => h.elim
  | .bool :: _, .l _ :: _, h => h.elim
  | .bool :: _, .n _ :: _, h => h.elim
  | .val :: _, r, h => by cases r <;> exact h.elim
theorem rowCells_append : ∀ {p q : List CK} {r s : List Dat}, r.length = p.length → rowCells (p ++ q) (r ++ s) = rowCells p r ++ rowCells q s
  | [], _, [], _, _ => rfl
  | [], _, _ :: _, _, h => by simp at h
  | _ :: _, _, [], _, h => by simp at h
  | k :: p, q, d :: r, s, h => by
    simp only [List.cons_append, rowCells, List.headD_cons, List.tail_cons]
    rw [rowCells_append (by simpa using h)]
section
variable {H : Type} {enc : TypeId × Value → H} {P : Program} {w : World} {base : Nat} {spare : Nat → Bool} {held : Bool}
theorem trod_flat : ∀ (d : Nat), (∀ (t : TypeId) (p : List CK) (fuel : Nat) (cs : List Value) (x : DataW H × List MemPlace), flatT P d t = some p → DataW.trod enc P w base spare held fuel t cs = some x → ∃ r, FitsP p r ∧ cs = rowCells p r) ∧
    (∀ (fs : List Field) (off : Nat) (p : List CK) (m : Nat) (cs : List Value), flatT.flatFs P d off fs = some p → (∀ f ∈ fs, ∃ x, DataW.trod enc P w base spare held m f.type ((cs.drop f.offset).take (P.cellsOf f.type)) = some x) → ∃ r, FitsP p r ∧ (cs.drop off).take p.length = rowCells p r) := by
  intro d
  induction d with
  | zero => exact ⟨fun t p fuel cs x h => by simp [flatT] at h, fun fs off p m cs h => by simp [flatT.flatFs] at h⟩
  | succ d ih =>
    obtain ⟨ih1, ih2⟩ := ih
    refine ⟨fun t p fuel cs x h hx => ?_, fun fs off p m cs h hx => ?_⟩
    · unfold flatT at h
      split at h
      · rename_i k hu
        cases h
        obtain ⟨n, rfl, _, hw⟩ := DataW.trod_int hu hx
        exact ⟨[.i n], ⟨hw, trivial⟩, rfl⟩
      · rename_i hu
        cases h
        cases fuel with
        | zero => simp [DataW.trod] at hx
        | succ m =>
          unfold DataW.trod at hx
          rw [hu] at hx
          split at hx <;> simp_all
          exact ⟨[.b _], trivial, rfl⟩
      · rename_i fs hu
        split at h
        · rename_i p' hp
          cases hq : Nat.beq p'.length (P.cellsOf t)
          · rw [hq] at h; cases h
          · rw [hq] at h; simp only [cond_true] at h; cases h
            rw [Nat.beq_eq] at hq
            obtain ⟨xs, m, _, _, hlen, hxl, hel⟩ := DataW.trod_struct hu hx
            have hall : ∀ f ∈ fs.toList, ∃ x, DataW.trod enc P w base spare held m f.type ((cs.drop f.offset).take (P.cellsOf f.type)) = some x := by
              intro f hf
              obtain ⟨i, hi, hfi⟩ := List.getElem_of_mem hf
              have hi' : i < fs.size := by simpa using hi
              have := hel i f (by rw [Array.getElem?_eq_getElem hi']; simp at hfi; rw [hfi])
              exact ⟨xs[i]'(by omega), by rw [this, List.getElem?_eq_getElem (by omega)]⟩
            obtain ⟨r, h1, h2⟩ := ih2 _ _ _ m cs hp hall
            refine ⟨r, h1, ?_⟩
            rw [← h2, List.drop_zero, List.take_of_length_le (by omega)]
        · cases h
      · rename_i n e hu
        split at h
        · rename_i q hq
          cases hc : (Nat.beq q.length (P.cellsOf e) && Nat.beq (n * q.length) (P.cellsOf t))
          · rw [hc] at h; cases h
          · rw [hc] at h; simp only [cond_true] at h; cases h
            simp only [Bool.and_eq_true, Nat.beq_eq] at hc
            obtain ⟨xs, m, _, _, hlen, hxl, hel⟩ := DataW.trod_array hu hx
            have key : ∀ k, k ≤ n → ∃ r, FitsP (List.replicate k q).flatten r ∧ cs.take (k * q.length) = rowCells (List.replicate k q).flatten r := by
              intro k
              induction k with
              | zero => exact fun _ => ⟨[], trivial, by simp [rowCells]⟩
              | succ k ihk =>
                intro hk
                obtain ⟨r, h1, h2⟩ := ihk (by omega)
                have he := hel k (by omega)
                obtain ⟨y, hy⟩ : ∃ y, xs[k]? = some y := ⟨_, List.getElem?_eq_getElem (by omega)⟩
                rw [hy] at he
                obtain ⟨s, h3, h4⟩ := ih1 _ _ _ _ _ hq he
                refine ⟨r ++ s, ?_, ?_⟩
                · rw [List.replicate_succ', List.flatten_append, List.flatten_singleton]; exact h1.append h3
                · rw [List.replicate_succ', List.flatten_append, List.flatten_singleton, rowCells_append h1.length, ← h2, ← h4, Nat.add_mul, Nat.one_mul, List.take_add, hc.1]
            obtain ⟨r, h1, h2⟩ := key n (Nat.le_refl _)
            exact ⟨r, h1, by rw [← h2, List.take_of_length_le (by omega)]⟩
        · cases h
      · cases h
    · cases fs with
      | nil => simp only [flatT.flatFs] at h; cases h; exact ⟨[], trivial, by simp [rowCells]⟩
      | cons f fs =>
        simp only [flatT.flatFs] at h
        split at h
        · rename_i a b ha hb
          rw [Bool.cond_eq_ite] at h
          split at h
          · rename_i hc
            cases h
            simp only [Bool.and_eq_true, Nat.beq_eq] at hc
            obtain ⟨hoff, hal⟩ := hc
            obtain ⟨x, hx1⟩ := hx _ (List.mem_cons_self ..)
            obtain ⟨r, h1, h2⟩ := ih1 _ _ _ _ _ ha hx1
            obtain ⟨s, h3, h4⟩ := ih2 _ _ _ m cs hb (fun g hg => hx g (List.mem_cons_of_mem _ hg))
            refine ⟨r ++ s, h1.append h3, ?_⟩
            rw [rowCells_append h1.length, ← h2, ← h4, List.length_append, List.take_add, hal, List.drop_drop, hoff]
          · cases h
        · cases h
theorem okWide_agg {r : Reach} {b0 : Nat} {t : TypeId} {v : Value} (hr : rowP P t = some true) (hv : Value.okWide P w r b0 t v) : ∃ cs, v = .agg cs := by
  unfold rowP at hr
  simp only [Value.okWide] at hv
  split at hr
  · rename_i hu; rw [hu] at hv; obtain ⟨cs, h, _⟩ := hv; exact ⟨cs, h⟩
  · rename_i hu; rw [hu] at hv; obtain ⟨cs, h, _⟩ := hv; exact ⟨cs, h⟩
  · cases hr
  · cases hr
/-- AN ARGUMENT OF INTEGERS AND BOOLS, IN STRUCTS AND ARRAYS. -/
theorem open_flat {r : Reach} {b0 : Nat} {t : TypeId} {v : Value} {d : DataW H} {ps : List MemPlace} {pat : List CK} (hr : rowP P t = some true) (hp : flatT P 20 t = some pat) (hv : Value.okWide P w r b0 t v) (hd : DataW.Trod enc P w base spare held t v d ps) :
    ∃ r, FitsP pat r ∧ v = .agg (rowCells pat r).toArray := by
  obtain ⟨cs, rfl⟩ := okWide_agg hr hv
  obtain ⟨fuel, hf⟩ := hd
  obtain ⟨s, h1, h2⟩ := (trod_flat 20).1 t pat fuel _ _ hp hf
  refine ⟨s, h1, ?_⟩
  simp only [Value.cells] at h2
  rw [← h2]
/-- AN ARGUMENT THAT IS A SLICE OF SUCH ROWS. -/
theorem open_slice {b0 : Nat} {t e : TypeId} {v : Value} {d : DataW H} {ps : List MemPlace} {pat : List CK} (ht : P.underlying t = some (.slice e)) (hp : flatT P 20 e = some pat) (hl : pat.length = P.cellsOf e) (hv : Value.okWide P w .any b0 t v) (hd : DataW.Trod enc P w base spare held t v d ps) :
    ∃ (rows : List (List Dat)) (nl : Bool) (b o cap : Nat), (∀ r ∈ rows, FitsP pat r) ∧ v = .slice (if nl then none else some ⟨b, o, none⟩) rows.length cap ∧ (nl = true → rows = []) ∧ rows.length ≤ cap ∧ cap ≤ maxLen ∧
      ∀ (x f : Nat) r k, rows[x]? = some r → pat[f]? = some k → w.cell? ⟨b, o + x * pat.length + f, none⟩ = some (k.den (r.getD f (.i 0))) := by
  obtain ⟨fuel, hf⟩ := hd
  have hc : Cell.ok P w .any b0 t v := by
    simp only [Value.okWide, ht] at hv
    unfold Cell.okWide at hv
    rw [ht] at hv
    split at hv <;> first | (rename_i heq; cases heq; done) | exact hv
  unfold Cell.ok at hc
  rw [ht] at hc
  split at hc <;> (try (rename_i heq; cases heq; done)) <;> (try exact hc.elim)
  · exact ⟨[], true, 0, 0, 0, fun r hr => (by cases hr), rfl, fun _ => rfl, Nat.le_refl _, Nat.zero_le _, fun x f r k hx => by simp at hx⟩
  · rename_i e' a len cap heq
    cases heq
    obtain ⟨_, _, _, hspot, _⟩ := hc
    have hf' : DataW.trod enc P w base spare held fuel t [.slice (some a) len cap] = some (d, ps) := hf
    rcases DataW.trod_slice ht hf' with ⟨h0, _⟩ | ⟨a', len', cap', elems, rest, n, _, h0, _, hb, hlc, hm, hlen, hel, _, _⟩
    · cases h0
    · cases h0
      obtain ⟨ab, ao, asp⟩ := a
      simp only at hspot
      subst hspot
      have key : ∀ k, k ≤ len → ∃ rows : List (List Dat), rows.length = k ∧ (∀ r ∈ rows, FitsP pat r) ∧ ∀ (x f : Nat) r kk, rows[x]? = some r → pat[f]? = some kk → w.cell? ⟨ab, ao + x * pat.length + f, none⟩ = some (kk.den (r.getD f (.i 0))) := by
        intro k
        induction k with
        | zero => exact fun _ => ⟨[], rfl, fun r hr => (by cases hr), fun x f r k hx => by simp at hx⟩
        | succ k ih =>
          intro hk
          obtain ⟨rows, g1, g2, g3⟩ := ih (by omega)
          have he := hel k (by omega)
          obtain ⟨y, hy⟩ : ∃ y, elems[k]? = some y := ⟨_, List.getElem?_eq_getElem (by omega)⟩
          rw [hy, Option.bind_eq_some_iff] at he
          obtain ⟨cs, hcs, hty⟩ := he
          obtain ⟨r, h1, h2⟩ := (trod_flat 20).1 e pat _ _ _ hp hty
          refine ⟨rows ++ [r], by simp [g1], fun r' hr' => ?_, fun x f r' kk hx hkk => ?_⟩
          · rcases List.mem_append.1 hr' with hr' | hr'
            · exact g2 r' hr'
            · simp at hr'; subst hr'; exact h1
          · rw [List.getElem?_append] at hx
            split at hx
            · exact g3 x f r' kk hx hkk
            · rename_i hlt
              have hxe : x = rows.length := by
                have := (List.getElem?_eq_some_iff.1 hx).1
                simp at this; omega
              subst hxe
              simp at hx; subst hx
              have hfl : f < pat.length := (List.getElem?_eq_some_iff.1 hkk).1
              have hcell := (World.cells?_some hcs).2.2 f (by omega)
              have hrow := rowCells_get pat r f kk hkk
              rw [← h2] at hrow
              rw [hrow] at hcell
              simp only [Addr.add_mid] at hcell
              rw [g1, hl]
              exact hcell
      obtain ⟨rows, g1, g2, g3⟩ := key len (Nat.le_refl _)
      exact ⟨rows, false, ab, ao, cap, g2, by rw [g1]; rfl, fun h => (by cases h), by omega, hm, g3⟩
end
end Go.SX
