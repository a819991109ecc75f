/- SxJ: regions that draw their order: when every order comes to the same. -/
import Derived.Test.YthigggddccklpaaSxI1
import Derived.Orders
set_option linter.unusedSimpArgs false
set_option linter.unusedVariables false
set_option linter.unusedSectionVars false
namespace Go.SX
open Go Go.RowKit

/-! ### what is done, in whatever order -/
inductive DR where
  | put (v : SV)
  | new (id : Nat) (cells : List SC) (ty : TypeId) (sl : Option (Nat × Nat))
  | store (id off : Nat) (s : SA)
  | row (n : Nat) (src : Src) (pat : List CK) (E : TypeId)
structure DS where
  sl : List SV
  H : Heap
def putS (sl : List SV) (d : Option Nat) (v : SV) : List SV := match d with
  | some d => setSlot sl d v
  | none => sl
def DR.val : DR → SV
  | .put v => v
  | .new id _ _ sl => newPtr id sl
  | .store .. => sundef
  | .row n _ pat _ => rowSV n pat
def DR.heap (r : DR) (H : Heap) : Heap := match r with
  | .put _ => H
  | .new id cs ty _ => .own id cs ty :: H
  | .store id off s => match H.own? id with
    | some (cs, _) => H.setOwn id (setMany cs off s.cells)
    | none => H
  | .row n src pat E => .arr n n pat (some E) :: H.del src
def DR.app (d : Option Nat) (r : DR) (s : DS) : DS := ⟨putS s.sl d r.val, r.heap s.H⟩
/-- what is written, as a turn of the look-ups -/
def DR.tO (r : DR) (x : Nat) (v : Option (List SC × TypeId)) : Option (List SC × TypeId) := match r with
  | .put _ => v
  | .new id cs ty _ => if x = id then some (cs, ty) else v
  | .store id off s => if x = id then v.map fun y => (setMany y.1 off s.cells, y.2) else v
  | .row _ (.own id) _ _ => if x = id then none else v
  | .row _ _ _ _ => v
def DR.tA (r : DR) (x : Nat) (v : Option (Nat × List CK × Option TypeId)) : Option (Nat × List CK × Option TypeId) := match r with
  | .row n (.row j) pat E => if x = n then some (n, pat, some E) else if x = j then none else v
  | .row n _ pat E => if x = n then some (n, pat, some E) else v
  | _ => v
theorem arr?_cons (n c : Nat) (pat : List CK) (o : Option TypeId) (H : Heap) (x : Nat) : Heap.arr? (.arr n c pat o :: H) x = if x = n then some (c, pat, o) else H.arr? x := by
  simp only [Heap.arr?]
  cases hq : Nat.beq n x
  · have : ¬ x = n := fun e => by subst e; simp at hq
    simp [this]
  · rw [Nat.beq_eq] at hq; subst hq; simp
theorem own?_cons (id : Nat) (cs : List SC) (ty : TypeId) (H : Heap) (x : Nat) : Heap.own? (.own id cs ty :: H) x = if x = id then some (cs, ty) else H.own? x := by
  simp only [Heap.own?]
  cases hq : Nat.beq id x
  · have : ¬ x = id := fun e => by subst e; simp at hq
    simp [this]
  · rw [Nat.beq_eq] at hq; subst hq; simp
theorem DR.heap_own (r : DR) (H : Heap) (x : Nat) : (r.heap H).own? x = r.tO x (H.own? x) := by
  cases r with
  | put v => rfl
  | new id cs ty sl => simp only [DR.heap, DR.tO, own?_cons]
  | store id off s =>
    simp only [DR.heap, DR.tO]
    split
    · rename_i cs ty ho
      rw [Heap.own?_setOwn]
      split
      · rename_i e; subst e; rw [ho]; rfl
      · rfl
    · rename_i ho
      split
      · rename_i e; subst e; rw [ho]; rfl
      · rfl
  | row n src pat E =>
    cases src with
    | nil => rfl
    | row j => simp only [DR.heap, DR.tO, Heap.own?, Heap.del, Heap.delA_own]
    | own id => simp only [DR.heap, DR.tO, Heap.own?, Heap.del, Heap.delO_own]
theorem DR.heap_arr (r : DR) (H : Heap) (x : Nat) : (r.heap H).arr? x = r.tA x (H.arr? x) := by
  cases r with
  | put v => rfl
  | new id cs ty sl => rfl
  | store id off s => simp only [DR.heap, DR.tA]; split <;> first | exact Heap.arr?_setOwn _ _ _ _ | rfl
  | row n src pat E =>
    cases src with
    | nil => simp only [DR.heap, DR.tA, arr?_cons, Heap.del]
    | row j => simp only [DR.heap, DR.tA, arr?_cons, Heap.del, Heap.delA_arr]
    | own id => simp only [DR.heap, DR.tA, arr?_cons, Heap.del, Heap.delO_arr]
/-- two states that cannot be told apart -/
structure DS.Same (s t : DS) : Prop where
  sl : s.sl = t.sl
  own : ∀ x, s.H.own? x = t.H.own? x
  arr : ∀ x, s.H.arr? x = t.H.arr? x
theorem DS.Same.refl (s : DS) : s.Same s := ⟨rfl, fun _ => rfl, fun _ => rfl⟩
theorem DS.Same.trans {s t u : DS} (h : s.Same t) (h' : t.Same u) : s.Same u := ⟨h.sl.trans h'.sl, fun x => (h.own x).trans (h'.own x), fun x => (h.arr x).trans (h'.arr x)⟩
theorem DS.Same.app {s t : DS} (h : s.Same t) (d : Option Nat) (r : DR) : (r.app d s).Same (r.app d t) :=
  ⟨by simp only [DR.app, h.sl], fun x => by simp only [DR.app, DR.heap_own, h.own], fun x => by simp only [DR.app, DR.heap_arr, h.arr]⟩
/-- a heap that says no more -/
theorem HeapOk.sub {ρ : Env} {κ : Kap} {base : Nat} {H H' : Heap} {w : World} (h : HeapOk ρ κ base H w) (ho : ∀ x y, H'.own? x = some y → H.own? x = some y) (ha : ∀ x y, H'.arr? x = some y → H.arr? x = some y) : HeapOk ρ κ base H' w :=
  ⟨fun id cs ty g => h.own id cs ty (ho _ _ g), fun id cs ty id' cs' ty' g g' => h.inj id cs ty id' cs' ty' (ho _ _ g) (ho _ _ g'), fun j c p o g => h.arr j c p o (ha _ _ g), fun j c p o id cs ty g g' => h.sep j c p o id cs ty (ha _ _ g) (ho _ _ g'), fun j c p E g => h.row j c p E (ha _ _ g), fun j c p E j' c' p' o' g g' => h.rsep j c p E j' c' p' o' (ha _ _ g) (ha _ _ g')⟩
theorem HeapOk.congr {ρ : Env} {κ : Kap} {base : Nat} {H H' : Heap} {w : World} (h : HeapOk ρ κ base H w) (ho : ∀ x, H.own? x = H'.own? x) (ha : ∀ x, H.arr? x = H'.arr? x) : HeapOk ρ κ base H' w :=
  h.sub (fun x y g => by rw [ho]; exact g) (fun x y g => by rw [ha]; exact g)
structure DI where
  d : Option Nat
  r : DR
  looks : List Nat
  rd : List Nat
def DR.ids : DR → List Nat
  | .put _ => []
  | .new id .. => [id]
  | .store id .. => [id]
  | .row n (.row j) _ _ => [n, j]
  | .row n (.own id) _ _ => [n, id]
  | .row n .nil _ _ => [n]
theorem DR.tO_out {r : DR} {x : Nat} (h : x ∉ r.ids) (v : Option (List SC × TypeId)) : r.tO x v = v := by
  cases r with
  | put v => rfl
  | new id cs ty sl => simp only [DR.ids, List.mem_singleton] at h; simp only [DR.tO, if_neg h]
  | store id off s => simp only [DR.ids, List.mem_singleton] at h; simp only [DR.tO, if_neg h]
  | row n src pat E =>
    cases src with
    | nil => rfl
    | row j => rfl
    | own id =>
      simp only [DR.ids, List.mem_cons, List.not_mem_nil, or_false, not_or] at h
      simp only [DR.tO, if_neg h.2]
theorem DR.tA_out {r : DR} {x : Nat} (h : x ∉ r.ids) (v : Option (Nat × List CK × Option TypeId)) : r.tA x v = v := by
  cases r with
  | put v => rfl
  | new id cs ty sl => rfl
  | store id off s => rfl
  | row n src pat E =>
    cases src with
    | nil => simp only [DR.ids, List.mem_singleton] at h; simp only [DR.tA, if_neg h]
    | row j =>
      simp only [DR.ids, List.mem_cons, List.not_mem_nil, or_false, not_or] at h
      simp only [DR.tA, if_neg h.1, if_neg h.2]
    | own id =>
      simp only [DR.ids, List.mem_cons, List.not_mem_nil, or_false, not_or] at h
      simp only [DR.tA, if_neg h.1]
def DR.newId : DR → Option Nat
  | .new id .. => some id
  | .row id .. => some id
  | _ => none
def DR.has (n : Nat) : DR → Bool
  | .put v => v.has n
  | .new id cs _ _ => Nat.beq id n || SC.hasL n cs
  | .store id _ s => Nat.beq id n || s.has n
  | .row i (.row j) _ _ => Nat.beq i n || Nat.beq j n
  | .row i (.own j) _ _ => Nat.beq i n || Nat.beq j n
  | .row i .nil _ _ => Nat.beq i n
def nmem : List Nat → Nat → Bool
  | [], _ => false
  | x :: l, n => Nat.beq x n || nmem l n
theorem nmem_mem {l : List Nat} {n : Nat} (h : nmem l n = false) : n ∉ l := by
  induction l with
  | nil => simp
  | cons x l ih =>
    simp only [nmem, Bool.or_eq_false_iff] at h
    simp only [List.mem_cons, not_or]
    exact ⟨fun e => by subst e; simp at h, ih h.2⟩
def disj : List Nat → List Nat → Bool
  | [], _ => true
  | x :: l, r => !(nmem r x) && disj l r
theorem disj_spec {l r : List Nat} (h : disj l r = true) : ∀ x ∈ l, x ∉ r := by
  induction l with
  | nil => intro x hx; cases hx
  | cons y l ih =>
    simp only [disj, Bool.and_eq_true, Bool.not_eq_true'] at h
    intro x hx
    rcases List.mem_cons.1 hx with rfl | hx
    · exact nmem_mem h.1
    · exact ih h.2 x hx
def dOk (d : Option Nat) (l : List Nat) (e : Option Nat) : Bool := match d with
  | none => true
  | some d => !(nmem l d) && (match e with
    | none => true
    | some e => !(Nat.beq d e))
def hasOk (a b : DI) : Bool := match a.r.newId with
  | none => true
  | some n => !(b.r.has n)
/-- neither is seen by the other -/
def indep (a b : DI) : Bool :=
  (dOk a.d b.looks b.d && dOk b.d a.looks none) && ((disj a.r.ids (b.rd ++ b.r.ids) && disj b.r.ids a.rd) && (hasOk a b && hasOk b a))
theorem setSlot_comm (sl : List SV) {d e : Nat} (h : d ≠ e) (v u : SV) : setSlot (setSlot sl d v) e u = setSlot (setSlot sl e u) d v := by
  simp only [setSlot_eq]; exact (List.set_comm _ _ h)
theorem app_comm {a b : DI} (h : indep a b = true) (s : DS) : (a.r.app a.d (b.r.app b.d s)).Same (b.r.app b.d (a.r.app a.d s)) := by
  simp only [indep, Bool.and_eq_true] at h
  obtain ⟨⟨h1, _⟩, ⟨h3, _⟩, _⟩ := h
  refine ⟨?_, ?_, ?_⟩
  · simp only [DR.app]
    cases ha : a.d with
    | none => rfl
    | some d =>
      cases hb : b.d with
      | none => rfl
      | some e =>
        simp only [dOk, ha, hb, Bool.and_eq_true, Bool.not_eq_true'] at h1
        have : e ≠ d := fun e => by subst e; simp at h1
        exact setSlot_comm _ this _ _
  · intro x
    simp only [DR.app, DR.heap_own]
    by_cases hx : x ∈ a.r.ids
    · have hb : x ∉ b.r.ids := fun hb => disj_spec h3 x hx (List.mem_append_right _ hb)
      rw [DR.tO_out hb, DR.tO_out hb]
    · rw [DR.tO_out hx, DR.tO_out hx]
  · intro x
    simp only [DR.app, DR.heap_arr]
    by_cases hx : x ∈ a.r.ids
    · have hb : x ∉ b.r.ids := fun hb => disj_spec h3 x hx (List.mem_append_right _ hb)
      rw [DR.tA_out hb, DR.tA_out hb]
    · rw [DR.tA_out hx, DR.tA_out hx]

/-! ### the order's edges -/
/-- an edge that binds every order -/
def preds (o : Oper) : List Nat := o.after.toList.filterMap fun e => bif Region.binds .any e then some e.on else none
inductive Anc (ops : List Oper) : Nat → Nat → Prop where
  | one {i k : Nat} {o : Oper} : ops[k]? = some o → i ∈ preds o → Anc ops i k
  | step {i j k : Nat} {o : Oper} : Anc ops i j → ops[k]? = some o → j ∈ preds o → Anc ops i k
def maskOf (acc : List Nat) : List Nat → Nat
  | [] => 0
  | j :: l => (2 ^ j ||| acc.getD j 0) ||| maskOf acc l
def masks : List Oper → List Nat → List Nat
  | [], acc => acc
  | o :: l, acc => masks l (acc ++ [maskOf acc (preds o)])
theorem maskOf_spec {ops : List Oper} {acc : List Nat} (hacc : ∀ k i, (acc.getD k 0).testBit i = true → Anc ops i k) {k : Nat} {o : Oper} (hk : ops[k]? = some o) : ∀ (l : List Nat), (∀ j ∈ l, j ∈ preds o) → ∀ i, (maskOf acc l).testBit i = true → Anc ops i k
  | [], _, i, h => by simp [maskOf] at h
  | j :: l, hl, i, h => by
    simp only [maskOf, Nat.testBit_or, Bool.or_eq_true] at h
    rcases h with (h | h) | h
    · rw [Nat.testBit_two_pow] at h
      simp at h; subst h
      exact .one hk (hl _ (List.mem_cons_self ..))
    · exact .step (hacc j i h) hk (hl _ (List.mem_cons_self ..))
    · exact maskOf_spec hacc hk l (fun j hj => hl j (List.mem_cons_of_mem _ hj)) i h
theorem masks_spec {ops : List Oper} : ∀ (l : List Oper) (acc : List Nat), (∀ j, l[j]? = ops[acc.length + j]?) → (∀ k i, (acc.getD k 0).testBit i = true → Anc ops i k) → ∀ k i, ((masks l acc).getD k 0).testBit i = true → Anc ops i k
  | [], _, _, hacc => hacc
  | o :: l, acc, hl, hacc => by
    refine masks_spec l _ (fun j => ?_) ?_
    · have := hl (j + 1)
      simp only [List.getElem?_cons_succ] at this
      rw [this]; simp only [List.length_append, List.length_singleton]; congr 1; omega
    · intro k i h
      rw [List.getD_eq_getElem?_getD, List.getElem?_append] at h
      split at h
      · exact hacc k i (by rw [List.getD_eq_getElem?_getD]; exact h)
      · rename_i hk
        have hke : k = acc.length ∨ acc.length < k := by omega
        rcases hke with rfl | hke
        · simp at h
          exact maskOf_spec hacc (by have := hl 0; simpa using this.symm) _ (fun j hj => hj) i h
        · rw [List.getElem?_eq_none (by simp; omega)] at h; simp at h
/-- what has been done is closed under what comes before -/
def Closed (ops : List Oper) (S : Nat → Prop) : Prop := ∀ (k : Nat) o, ops[k]? = some o → S k → ∀ i ∈ preds o, S i
theorem Closed.anc {ops : List Oper} {S : Nat → Prop} (h : Closed ops S) {i k : Nat} (ha : Anc ops i k) : S k → S i := by
  induction ha with
  | one hk hi => exact fun hs => h _ _ hk hs _ hi
  | step _ hk hj ih => exact fun hs => ih (h _ _ hk hs _ hj)
theorem anc_ready {ops : List Oper} {S : Nat → Prop} (h : Closed ops S) {i k : Nat} (ha : Anc ops i k) (hr : ∀ o, ops[k]? = some o → ∀ j ∈ preds o, S j) : S i := by
  cases ha with
  | one hk hi => exact hr _ hk _ hi
  | step ha hk hj => exact h.anc ha (hr _ hk _ hj)

/-! ### all pairs -/
def pairOk (m : List Nat) (i : Nat) (a : DI) : Nat → List DI → Bool
  | _, [] => true
  | j, b :: l => (((m.getD j 0).testBit i || indep a b) && hasOk b a) && pairOk m i a (j + 1) l
def selfOk (a : DI) : Bool := match a.r with
  | .new id cs _ _ => !(SC.hasL id cs)
  | _ => true
def allOk (m : List Nat) : Nat → List DI → Bool
  | _, [] => true
  | i, a :: l => (selfOk a && pairOk m i a (i + 1) l) && allOk m (i + 1) l
theorem allOk_self {m : List Nat} : ∀ (l : List DI) (i : Nat), allOk m i l = true → ∀ a ∈ l, selfOk a = true
  | [], _, _, a, ha => by cases ha
  | c :: l, i, h, a, ha => by
    simp only [allOk, Bool.and_eq_true] at h
    rcases List.mem_cons.1 ha with rfl | ha
    · exact h.1.1
    · exact allOk_self l (i + 1) h.2 a ha
theorem pairOk_spec {m : List Nat} {i : Nat} {a : DI} : ∀ (l : List DI) (j : Nat), pairOk m i a j l = true → ∀ (q : Nat) b, l[q]? = some b → ((m.getD (j + q) 0).testBit i = true ∨ indep a b = true) ∧ hasOk b a = true
  | [], _, _, q, b, h => by simp at h
  | c :: l, j, h, 0, b, hb => by
    simp at hb; subst hb
    simp only [pairOk, Bool.and_eq_true, Bool.or_eq_true] at h
    exact h.1
  | c :: l, j, h, q + 1, b, hb => by
    simp only [pairOk, Bool.and_eq_true] at h
    have := pairOk_spec l (j + 1) h.2 q b (by simpa using hb)
    rw [show j + 1 + q = j + (q + 1) by omega] at this
    exact this
theorem allOk_spec {m : List Nat} : ∀ (l : List DI) (i : Nat), allOk m i l = true → ∀ (p q : Nat) a b, p < q → l[p]? = some a → l[q]? = some b → ((m.getD (i + q) 0).testBit (i + p) = true ∨ indep a b = true) ∧ hasOk b a = true
  | [], _, _, p, q, a, b, _, ha, _ => by simp at ha
  | c :: l, i, h, 0, q, a, b, hpq, ha, hb => by
    simp at ha; subst ha
    simp only [allOk, Bool.and_eq_true] at h
    obtain ⟨q, rfl⟩ : ∃ r, q = r + 1 := ⟨q - 1, by omega⟩
    have := pairOk_spec l (i + 1) h.1.2 q b (by simpa using hb)
    rw [show i + 1 + q = i + (q + 1) by omega] at this
    simpa using this
  | c :: l, i, h, p + 1, 0, a, b, hpq, _, _ => by omega
  | c :: l, i, h, p + 1, q + 1, a, b, hpq, ha, hb => by
    simp only [allOk, Bool.and_eq_true] at h
    have := allOk_spec l (i + 1) h.2 p q a b (by omega) (by simpa using ha) (by simpa using hb)
    rw [show i + 1 + q = i + (q + 1) by omega, show i + 1 + p = i + (p + 1) by omega] at this
    exact this
theorem indep_symm {a b : DI} (h : indep a b = true) : indep b a = true := by
  simp only [indep, Bool.and_eq_true] at h ⊢
  obtain ⟨⟨h1, h2⟩, ⟨h3, h4⟩, h5, h6⟩ := h
  refine ⟨⟨?_, ?_⟩, ⟨?_, ?_⟩, h6, h5⟩
  · cases hb : b.d with
    | none => rfl
    | some e =>
      cases ha : a.d with
      | none => simp only [dOk, hb, Bool.and_eq_true] at h2 ⊢; exact ⟨h2.1, trivial⟩
      | some d =>
        simp only [dOk, ha, hb, Bool.and_eq_true, Bool.not_eq_true'] at h1 h2 ⊢
        refine ⟨h2.1, ?_⟩
        cases hq : Nat.beq e d
        · rfl
        · rw [Nat.beq_eq] at hq; subst hq; simp at h1
  · cases ha : a.d with
    | none => rfl
    | some d => simp only [dOk, ha, Bool.and_eq_true] at h1 ⊢; exact ⟨h1.1, trivial⟩
  · have d1 := disj_spec h3
    have d2 := disj_spec h4
    have mk : ∀ (l r : List Nat), (∀ x ∈ l, x ∉ r) → disj l r = true := by
      intro l
      induction l with
      | nil => intro r _; rfl
      | cons x l ih =>
        intro r hx
        simp only [disj, Bool.and_eq_true, Bool.not_eq_true']
        refine ⟨?_, ih r fun y hy => hx y (List.mem_cons_of_mem _ hy)⟩
        have hn := hx x (List.mem_cons_self ..)
        cases hq : nmem r x
        · rfl
        · exfalso
          apply hn
          clear ih hn hx
          induction r with
          | nil => cases hq
          | cons y r ih2 =>
            simp only [nmem, Bool.or_eq_true, Nat.beq_eq] at hq
            rcases hq with rfl | hq
            · exact List.mem_cons_self ..
            · exact List.mem_cons_of_mem _ (ih2 hq)
    refine mk _ _ fun x hx hr => ?_
    rcases List.mem_append.1 hr with hr | hr
    · exact d2 x hx hr
    · exact d1 x hr (List.mem_append_right _ hx)
  · have d1 := disj_spec h3
    have mk : ∀ (l r : List Nat), (∀ x ∈ l, x ∉ r) → disj l r = true := by
      intro l
      induction l with
      | nil => intro r _; rfl
      | cons x l ih =>
        intro r hx
        simp only [disj, Bool.and_eq_true, Bool.not_eq_true']
        refine ⟨?_, ih r fun y hy => hx y (List.mem_cons_of_mem _ hy)⟩
        have hn := hx x (List.mem_cons_self ..)
        cases hq : nmem r x
        · rfl
        · exfalso
          apply hn
          clear ih hn hx
          induction r with
          | nil => cases hq
          | cons y r ih2 =>
            simp only [nmem, Bool.or_eq_true, Nat.beq_eq] at hq
            rcases hq with rfl | hq
            · exact List.mem_cons_self ..
            · exact List.mem_cons_of_mem _ (ih2 hq)
    exact mk _ _ fun x hx hr => d1 x hx (List.mem_append_left _ hr)

/-! ### the state behind a set of operations -/
def foldS (S : Nat → Bool) : Nat → List DI → DS → DS
  | _, [], s => s
  | i, a :: l, s => foldS S (i + 1) l (bif S i then a.r.app a.d s else s)
theorem foldS_same (S : Nat → Bool) : ∀ (l : List DI) (i : Nat) (s t : DS), s.Same t → (foldS S i l s).Same (foldS S i l t)
  | [], _, _, _, h => h
  | a :: l, i, s, t, h => foldS_same S l (i + 1) _ _ (by cases S i <;> first | exact h | exact h.app _ _)
/-- one operation moves behind those that it does not see -/
theorem foldS_move (S : Nat → Bool) (a : DI) : ∀ (l : List DI) (i : Nat) (s : DS), (∀ (q : Nat) b, l[q]? = some b → S (i + q) = true → indep a b = true) →
    (foldS S i l (a.r.app a.d s)).Same (a.r.app a.d (foldS S i l s))
  | [], _, s, _ => DS.Same.refl _
  | b :: l, i, s, h => by
    simp only [foldS]
    have h' : ∀ (q : Nat) c, l[q]? = some c → S (i + 1 + q) = true → indep a c = true := fun q c hc hs => h (q + 1) c (by simpa using hc) (by rw [← hs]; congr 1; omega)
    cases hb : S i
    · exact foldS_move S a l (i + 1) s h'
    · simp only [cond_true]
      have hi := h 0 b rfl (by simpa using hb)
      refine (foldS_same S l (i + 1) _ _ (app_comm (indep_symm hi) s)).trans ?_
      exact foldS_move S a l (i + 1) _ h'
theorem foldS_add {S S' : Nat → Bool} {j : Nat} (hj : S j = false) (hj' : S' j = true) (he : ∀ i, i ≠ j → S' i = S i) : ∀ (l : List DI) (i : Nat) (s : DS) (a : DI), i ≤ j → l[j - i]? = some a →
    (∀ (q : Nat) b, l[q]? = some b → j < i + q → S (i + q) = true → indep a b = true) → (foldS S' i l s).Same (a.r.app a.d (foldS S i l s))
  | [], _, _, _, _, ha, _ => by simp at ha
  | b :: l, i, s, a, hij, ha, hind => by
    simp only [foldS]
    by_cases e : i = j
    · subst e
      simp at ha; subst ha
      rw [hj, hj']; simp only [cond_true, cond_false]
      have hS : ∀ (l : List DI) (k : Nat) (s : DS), i < k → foldS S' k l s = foldS S k l s := by
        intro l
        induction l with
        | nil => intro k s _; rfl
        | cons c l ih => intro k s hk; simp only [foldS, he k (by omega)]; exact ih (k + 1) _ (by omega)
      rw [hS l (i + 1) _ (by omega)]
      exact foldS_move S b l (i + 1) s fun q c hc hs => hind (q + 1) c (by simpa using hc) (by omega) (by rw [← hs]; congr 1; omega)
    · rw [he i e]
      refine foldS_add hj hj' he l (i + 1) _ a (by omega) ?_ ?_
      · obtain ⟨m, hm⟩ : ∃ m, j - i = m + 1 := ⟨j - i - 1, by omega⟩
        rw [hm] at ha; simp at ha
        rw [show j - (i + 1) = m by omega]; exact ha
      · intro q c hc hlt hs
        exact hind (q + 1) c (by simpa using hc) (by omega) (by rw [← hs]; congr 1; omega)
end Go.SX
