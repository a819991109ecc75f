/- SyJ: regions that draw their order: what an operation does to the state; when two do not see each other. -/
import Derived.Test.YtjclacagbifgmaaSyI2
import Derived.Orders
set_option linter.unusedSimpArgs false
set_option linter.unusedVariables false
set_option linter.unusedSectionVars false
noncomputable section
namespace Go.SX
open Go Go.RowKit

def nmemC : List Nat → Nat → Bool
  | [], _ => false
  | x :: l, n => Nat.beq x n || nmemC l n
noncomputable def nmem (l : List Nat) (n : Nat) : Bool := List.rec (motive := fun _ => Bool) false (fun x _ ih => Bool.rec (motive := fun _ => Bool) ih true (Nat.beq x n)) l
theorem nmem_nil (n : Nat) : nmem [] n = false := rfl
theorem nmem_cons (x : Nat) (l : List Nat) (n : Nat) : nmem (x :: l) n = (Nat.beq x n || nmem l n) := by
  show Bool.rec (motive := fun _ => Bool) (nmem l n) true (Nat.beq x n) = _
  cases Nat.beq x n <;> rfl
theorem nmem_mem {l : List Nat} {n : Nat} (h : nmem l n = false) : n ∉ l := by
  induction l with
  | nil => simp
  | cons x l ih =>
    simp only [nmem_nil, nmem_cons, Bool.or_eq_false_iff] at h
    simp only [List.mem_cons, not_or]
    exact ⟨fun e => by subst e; simp at h, ih h.2⟩
def disj : List Nat → List Nat → Bool
  | [], _ => true
  | x :: l, r => !(nmem r x) && disj l r
theorem disj_spec {l r : List Nat} (h : disj l r = true) : ∀ x ∈ l, x ∉ r := by
  induction l with
  | nil => intro x hx; cases hx
  | cons y l ih =>
    simp only [disj, Bool.and_eq_true, Bool.not_eq_true'] at h
    intro x hx
    rcases List.mem_cons.1 hx with rfl | hx
    · exact nmem_mem h.1
    · exact ih h.2 x hx
theorem mem_of_nmem {l : List Nat} {n : Nat} (h : nmem l n = true) : n ∈ l := by
  induction l with
  | nil => cases h
  | cons x l ih =>
    simp only [nmem_nil, nmem_cons, Bool.or_eq_true, Nat.beq_eq] at h
    rcases h with rfl | h
    · exact List.mem_cons_self ..
    · exact List.mem_cons_of_mem _ (ih h)
theorem nmem_of_mem {l : List Nat} {n : Nat} (h : n ∈ l) : nmem l n = true := by
  cases hq : nmem l n
  · exact absurd h (nmem_mem hq)
  · rfl
/-- the part of a heap under some names, and the rest -/
def Heap.sift (f : Nat → Bool) : Heap → Heap
  | [] => []
  | .obj id o :: H => bif f id then .obj id o :: Heap.sift f H else Heap.sift f H
  | .arr j c p o :: H => bif f j then .arr j c p o :: Heap.sift f H else Heap.sift f H
theorem Heap.sift_obj (f : Nat → Bool) (H : Heap) (x : Nat) : (H.sift f).obj? x = bif f x then H.obj? x else none := by
  induction H with
  | nil => simp only [Heap.sift, Heap.obj?]; cases f x <;> rfl
  | cons e H ih =>
    cases e with
    | obj id o =>
      simp only [Heap.sift]
      cases hq : Nat.beq id x
      · cases hm : f id <;> simp only [cond_true, cond_false, Heap.obj?, hq] <;> exact ih
      · rw [Nat.beq_eq] at hq; subst hq
        cases hm : f id
        · simp only [cond_false]; rw [ih, hm]; rfl
        · simp only [cond_true, Heap.obj?]; simp
    | arr j c p o => simp only [Heap.sift]; cases hm : f j <;> simp only [cond_true, cond_false, Heap.obj?] <;> exact ih
theorem Heap.sift_arr (f : Nat → Bool) (H : Heap) (x : Nat) : (H.sift f).arr? x = bif f x then H.arr? x else none := by
  induction H with
  | nil => simp only [Heap.sift, Heap.arr?]; cases f x <;> rfl
  | cons e H ih =>
    cases e with
    | arr id c p o =>
      simp only [Heap.sift]
      cases hq : Nat.beq id x
      · cases hm : f id <;> simp only [cond_true, cond_false, Heap.arr?, hq] <;> exact ih
      · rw [Nat.beq_eq] at hq; subst hq
        cases hm : f id
        · simp only [cond_false]; rw [ih, hm]; rfl
        · simp only [cond_true, Heap.arr?]; simp
    | obj id o => simp only [Heap.sift]; cases hm : f id <;> simp only [cond_true, cond_false, Heap.arr?] <;> exact ih
abbrev Heap.only (H : Heap) (l : List Nat) : Heap := H.sift (nmem l)
abbrev Heap.drop (H : Heap) (l : List Nat) : Heap := H.sift fun x => !(nmem l x)
theorem app_obj (A B : Heap) (x : Nat) : Heap.obj? (A ++ B) x = (A.obj? x).or (B.obj? x) := by
  induction A with
  | nil => rfl
  | cons e A ih =>
    cases e with
    | obj i o => simp only [List.cons_append, Heap.obj?]; cases Nat.beq i x <;> simp [ih]
    | arr j c p o => simp only [List.cons_append, Heap.obj?]; exact ih
theorem app_arr (A B : Heap) (x : Nat) : Heap.arr? (A ++ B) x = (A.arr? x).or (B.arr? x) := by
  induction A with
  | nil => rfl
  | cons e A ih =>
    cases e with
    | arr j c p o => simp only [List.cons_append, Heap.arr?]; cases Nat.beq j x <;> simp [ih]
    | obj i o => simp only [List.cons_append, Heap.arr?]; exact ih

/-! ### what is done, in whatever order -/
structure DS where
  sl : Sl
  H : Heap
def putS (sl : Sl) (d : Option Nat) (v : SV) : Sl := match d with
  | some d => setSlot sl d v
  | none => sl
/-- one operation: where its value goes, the value, the slots and names that it sees, the names that it turns, the states before and behind -/
structure DI where
  d : Option Nat
  v : SV
  looks : List Nat
  rd : List Nat
  wr : List Nat
  st0 : St
  st1 : St
def DI.app (a : DI) (s : DS) : DS := ⟨putS s.sl a.d a.v, a.st1.H.only a.wr ++ s.H.drop a.wr⟩
theorem DI.app_obj (a : DI) (s : DS) (x : Nat) : (a.app s).H.obj? x = bif nmem a.wr x then a.st1.H.obj? x else s.H.obj? x := by
  simp only [DI.app, SX.app_obj, Heap.sift_obj]
  cases nmem a.wr x <;> simp
theorem DI.app_arr (a : DI) (s : DS) (x : Nat) : (a.app s).H.arr? x = bif nmem a.wr x then a.st1.H.arr? x else s.H.arr? x := by
  simp only [DI.app, SX.app_arr, Heap.sift_arr]
  cases nmem a.wr x <;> simp
/-- two states that cannot be told apart -/
structure DS.Same (s t : DS) : Prop where
  sl : s.sl = t.sl
  obj : ∀ x, s.H.obj? x = t.H.obj? x
  arr : ∀ x, s.H.arr? x = t.H.arr? x
theorem DS.Same.refl (s : DS) : s.Same s := ⟨rfl, fun _ => rfl, fun _ => rfl⟩
theorem DS.Same.trans {s t u : DS} (h : s.Same t) (h' : t.Same u) : s.Same u := ⟨h.sl.trans h'.sl, fun x => (h.obj x).trans (h'.obj x), fun x => (h.arr x).trans (h'.arr x)⟩
theorem DS.Same.app {s t : DS} (h : s.Same t) (a : DI) : (a.app s).Same (a.app t) :=
  ⟨by simp only [DI.app, h.sl], fun x => by simp only [DI.app_obj, h.obj], fun x => by simp only [DI.app_arr, h.arr]⟩
theorem HeapOk.congr {ρ : Env} {κ : Kap} {base : Bk} {H H' : Heap} {w : World} (h : HeapOk ρ κ base H w) (ho : ∀ x, H.obj? x = H'.obj? x) (ha : ∀ x, H.arr? x = H'.arr? x) : HeapOk ρ κ base H' w :=
  h.sub (fun x y g => by rw [ho]; exact g) (fun x y g => by rw [ha]; exact g)
/-- the names that an operation makes -/
def DI.rng (a : DI) : Nat → Bool := fun j => Nat.ble a.st0.n j && Nat.blt j a.st1.n
def Heap.has (p : Nat → Bool) : Heap → Bool
  | [] => false
  | .obj id o :: H => (p id || o.has p) || Heap.has p H
  | .arr j _ _ _ :: H => p j || Heap.has p H
theorem Heap.free_of_has {p : Nat → Bool} : ∀ {H : Heap}, H.has p = false → H.Free p
  | [], _ => ⟨fun id o h => (by cases h), fun j c q o h => (by cases h)⟩
  | .obj i o :: H, h => by
    simp only [Heap.has, Bool.or_eq_false_iff] at h
    have ih := Heap.free_of_has h.2
    refine ⟨fun id o' ho => ?_, fun j c q o' ha => ih.arr j c q o' ha⟩
    rw [obj?_cons] at ho
    split at ho
    · rename_i e; cases ho; subst e; exact h.1
    · exact ih.obj id o' ho
  | .arr i c0 p0 o0 :: H, h => by
    simp only [Heap.has, Bool.or_eq_false_iff] at h
    have ih := Heap.free_of_has h.2
    refine ⟨fun id o' ho => ih.obj id o' ho, fun j c q o' ha => ?_⟩
    rw [arr?_cons] at ha
    split at ha
    · rename_i e; subst e; exact h.1
    · exact ih.arr j c q o' ha
def dOk (d : Option Nat) (l : List Nat) (e : Option Nat) : Bool := match d with
  | none => true
  | some d => !(nmem l d) && (match e with
    | none => true
    | some e => !(Nat.beq d e))
def hasOk (a b : DI) : Bool := Nat.beq a.st0.n a.st1.n || !(b.v.has a.rng || (b.st1.H.only b.wr).has a.rng)
/-- neither is seen by the other -/
def indep (a b : DI) : Bool :=
  (dOk a.d b.looks b.d && dOk b.d a.looks none) && ((disj a.wr (b.rd ++ b.wr) && disj b.wr a.rd) && (hasOk a b && hasOk b a))
theorem app_comm {a b : DI} (h : indep a b = true) (s : DS) : (a.app (b.app s)).Same (b.app (a.app s)) := by
  simp only [indep, Bool.and_eq_true] at h
  obtain ⟨⟨h1, _⟩, ⟨h3, _⟩, _⟩ := h
  have hx : ∀ x, nmem a.wr x = true → nmem b.wr x = false := by
    intro x ha
    cases hb : nmem b.wr x
    · rfl
    · exact absurd (List.mem_append_right _ (mem_of_nmem hb)) (disj_spec h3 x (mem_of_nmem ha))
  refine ⟨?_, fun x => ?_, fun x => ?_⟩
  · simp only [DI.app]
    cases ha : a.d with
    | none => rfl
    | some d =>
      cases hb : b.d with
      | none => rfl
      | some e =>
        simp only [dOk, ha, hb, Bool.and_eq_true, Bool.not_eq_true'] at h1
        have : e ≠ d := fun e => by subst e; simp at h1
        exact setSlot_comm _ this _ _
  · simp only [DI.app_obj]
    cases ha : nmem a.wr x
    · rfl
    · rw [hx x ha]; rfl
  · simp only [DI.app_arr]
    cases ha : nmem a.wr x
    · rfl
    · rw [hx x ha]; rfl

/-! ### the order's edges -/
/-- an edge that binds every order -/
def preds (o : Oper) : List Nat := o.after.toList.filterMap fun e => bif Region.binds .any e then some e.on else none
inductive Anc (ops : List Oper) : Nat → Nat → Prop where
  | one {i k : Nat} {o : Oper} : ops[k]? = some o → i ∈ preds o → Anc ops i k
  | step {i j k : Nat} {o : Oper} : Anc ops i j → ops[k]? = some o → j ∈ preds o → Anc ops i k
def maskOf (acc : List Nat) : List Nat → Nat
  | [] => 0
  | j :: l => (2 ^ j ||| acc.getD j 0) ||| maskOf acc l
def masks : List Oper → List Nat → List Nat
  | [], acc => acc
  | o :: l, acc => masks l (acc ++ [maskOf acc (preds o)])
theorem maskOf_spec {ops : List Oper} {acc : List Nat} (hacc : ∀ k i, (acc.getD k 0).testBit i = true → Anc ops i k) {k : Nat} {o : Oper} (hk : ops[k]? = some o) : ∀ (l : List Nat), (∀ j ∈ l, j ∈ preds o) → ∀ i, (maskOf acc l).testBit i = true → Anc ops i k
  | [], _, i, h => by simp [maskOf] at h
  | j :: l, hl, i, h => by
    simp only [maskOf, Nat.testBit_or, Bool.or_eq_true] at h
    rcases h with (h | h) | h
    · rw [Nat.testBit_two_pow] at h
      simp at h; subst h
      exact .one hk (hl _ (List.mem_cons_self ..))
    · exact .step (hacc j i h) hk (hl _ (List.mem_cons_self ..))
    · exact maskOf_spec hacc hk l (fun j hj => hl j (List.mem_cons_of_mem _ hj)) i h
theorem masks_spec {ops : List Oper} : ∀ (l : List Oper) (acc : List Nat), (∀ j, l[j]? = ops[acc.length + j]?) → (∀ k i, (acc.getD k 0).testBit i = true → Anc ops i k) → ∀ k i, ((masks l acc).getD k 0).testBit i = true → Anc ops i k
  | [], _, _, hacc => hacc
  | o :: l, acc, hl, hacc => by
    refine masks_spec l _ (fun j => ?_) ?_
    · have := hl (j + 1)
      simp only [List.getElem?_cons_succ] at this
      rw [this]; simp only [List.length_append, List.length_singleton]; congr 1; omega
    · intro k i h
      rw [List.getD_eq_getElem?_getD, List.getElem?_append] at h
      split at h
      · exact hacc k i (by rw [List.getD_eq_getElem?_getD]; exact h)
      · rename_i hk
        have hke : k = acc.length ∨ acc.length < k := by omega
        rcases hke with rfl | hke
        · simp at h
          exact maskOf_spec hacc (by have := hl 0; simpa using this.symm) _ (fun j hj => hj) i h
        · rw [List.getElem?_eq_none (by simp; omega)] at h; simp at h
/-- what has been done is closed under what comes before -/
def Closed (ops : List Oper) (S : Nat → Prop) : Prop := ∀ (k : Nat) o, ops[k]? = some o → S k → ∀ i ∈ preds o, S i
theorem Closed.anc {ops : List Oper} {S : Nat → Prop} (h : Closed ops S) {i k : Nat} (ha : Anc ops i k) : S k → S i := by
  induction ha with
  | one hk hi => exact fun hs => h _ _ hk hs _ hi
  | step _ hk hj ih => exact fun hs => ih (h _ _ hk hs _ hj)
theorem anc_ready {ops : List Oper} {S : Nat → Prop} (h : Closed ops S) {i k : Nat} (ha : Anc ops i k) (hr : ∀ o, ops[k]? = some o → ∀ j ∈ preds o, S j) : S i := by
  cases ha with
  | one hk hi => exact hr _ hk _ hi
  | step ha hk hj => exact h.anc ha (hr _ hk _ hj)

/-! ### all pairs -/
def pairOk (m : List Nat) (i : Nat) (a : DI) : Nat → List DI → Bool
  | _, [] => true
  | j, b :: l => (((m.getD j 0).testBit i || indep a b) && hasOk b a) && pairOk m i a (j + 1) l
def allOk (m : List Nat) : Nat → List DI → Bool
  | _, [] => true
  | i, a :: l => pairOk m i a (i + 1) l && allOk m (i + 1) l
theorem pairOk_spec {m : List Nat} {i : Nat} {a : DI} : ∀ (l : List DI) (j : Nat), pairOk m i a j l = true → ∀ (q : Nat) b, l[q]? = some b → ((m.getD (j + q) 0).testBit i = true ∨ indep a b = true) ∧ hasOk b a = true
  | [], _, _, q, b, h => by simp at h
  | c :: l, j, h, 0, b, hb => by
    simp at hb; subst hb
    simp only [pairOk, Bool.and_eq_true, Bool.or_eq_true] at h
    exact h.1
  | c :: l, j, h, q + 1, b, hb => by
    simp only [pairOk, Bool.and_eq_true] at h
    have := pairOk_spec l (j + 1) h.2 q b (by simpa using hb)
    rw [show j + 1 + q = j + (q + 1) by omega] at this
    exact this
theorem allOk_spec {m : List Nat} : ∀ (l : List DI) (i : Nat), allOk m i l = true → ∀ (p q : Nat) a b, p < q → l[p]? = some a → l[q]? = some b → ((m.getD (i + q) 0).testBit (i + p) = true ∨ indep a b = true) ∧ hasOk b a = true
  | [], _, _, p, q, a, b, _, ha, _ => by simp at ha
  | c :: l, i, h, 0, q, a, b, hpq, ha, hb => by
    simp at ha; subst ha
    simp only [allOk, Bool.and_eq_true] at h
    obtain ⟨q, rfl⟩ : ∃ r, q = r + 1 := ⟨q - 1, by omega⟩
    have := pairOk_spec l (i + 1) h.1 q b (by simpa using hb)
    rw [show i + 1 + q = i + (q + 1) by omega] at this
    simpa using this
  | c :: l, i, h, p + 1, 0, a, b, hpq, _, _ => by omega
  | c :: l, i, h, p + 1, q + 1, a, b, hpq, ha, hb => by
    simp only [allOk, Bool.and_eq_true] at h
    have := allOk_spec l (i + 1) h.2 p q a b (by omega) (by simpa using ha) (by simpa using hb)
    rw [show i + 1 + q = i + (q + 1) by omega, show i + 1 + p = i + (p + 1) by omega] at this
    exact this
theorem indep_symm {a b : DI} (h : indep a b = true) : indep b a = true := by
  simp only [indep, Bool.and_eq_true] at h ⊢
  obtain ⟨⟨h1, h2⟩, ⟨h3, h4⟩, h5, h6⟩ := h
  refine ⟨⟨?_, ?_⟩, ⟨?_, ?_⟩, h6, h5⟩
  · cases hb : b.d with
    | none => rfl
    | some e =>
      cases ha : a.d with
      | none => simp only [dOk, hb, Bool.and_eq_true] at h2 ⊢; exact ⟨h2.1, trivial⟩
      | some d =>
        simp only [dOk, ha, hb, Bool.and_eq_true, Bool.not_eq_true'] at h1 h2 ⊢
        refine ⟨h2.1, ?_⟩
        cases hq : Nat.beq e d
        · rfl
        · rw [Nat.beq_eq] at hq; subst hq; simp at h1
  · cases ha : a.d with
    | none => rfl
    | some d => simp only [dOk, ha, Bool.and_eq_true] at h1 ⊢; exact ⟨h1.1, trivial⟩
  · have d1 := disj_spec h3
    have d2 := disj_spec h4
    have mk : ∀ (l r : List Nat), (∀ x ∈ l, x ∉ r) → disj l r = true := by
      intro l
      induction l with
      | nil => intro r _; rfl
      | cons x l ih =>
        intro r hx
        simp only [disj, Bool.and_eq_true, Bool.not_eq_true']
        refine ⟨?_, ih r fun y hy => hx y (List.mem_cons_of_mem _ hy)⟩
        have hn := hx x (List.mem_cons_self ..)
        cases hq : nmem r x
        · rfl
        · exfalso
          apply hn
          clear ih hn hx
          induction r with
          | nil => cases hq
          | cons y r ih2 =>
            simp only [nmem_nil, nmem_cons, Bool.or_eq_true, Nat.beq_eq] at hq
            rcases hq with rfl | hq
            · exact List.mem_cons_self ..
            · exact List.mem_cons_of_mem _ (ih2 hq)
    refine mk _ _ fun x hx hr => ?_
    rcases List.mem_append.1 hr with hr | hr
    · exact d2 x hx hr
    · exact d1 x hr (List.mem_append_right _ hx)
  · have d1 := disj_spec h3
    have mk : ∀ (l r : List Nat), (∀ x ∈ l, x ∉ r) → disj l r = true := by
      intro l
      induction l with
      | nil => intro r _; rfl
      | cons x l ih =>
        intro r hx
        simp only [disj, Bool.and_eq_true, Bool.not_eq_true']
        refine ⟨?_, ih r fun y hy => hx y (List.mem_cons_of_mem _ hy)⟩
        have hn := hx x (List.mem_cons_self ..)
        cases hq : nmem r x
        · rfl
        · exfalso
          apply hn
          clear ih hn hx
          induction r with
          | nil => cases hq
          | cons y r ih2 =>
            simp only [nmem_nil, nmem_cons, Bool.or_eq_true, Nat.beq_eq] at hq
            rcases hq with rfl | hq
            · exact List.mem_cons_self ..
            · exact List.mem_cons_of_mem _ (ih2 hq)
    exact mk _ _ fun x hx hr => d1 x hx (List.mem_append_left _ hr)

/-! ### the state behind a set of operations -/
def foldS (S : Nat → Bool) : Nat → List DI → DS → DS
  | _, [], s => s
  | i, a :: l, s => foldS S (i + 1) l (bif S i then a.app s else s)
theorem foldS_same (S : Nat → Bool) : ∀ (l : List DI) (i : Nat) (s t : DS), s.Same t → (foldS S i l s).Same (foldS S i l t)
  | [], _, _, _, h => h
  | a :: l, i, s, t, h => foldS_same S l (i + 1) _ _ (by cases S i <;> first | exact h | exact h.app _)
/-- one operation moves behind those that it does not see -/
theorem foldS_move (S : Nat → Bool) (a : DI) : ∀ (l : List DI) (i : Nat) (s : DS), (∀ (q : Nat) b, l[q]? = some b → S (i + q) = true → indep a b = true) →
    (foldS S i l (a.app s)).Same (a.app (foldS S i l s))
  | [], _, s, _ => DS.Same.refl _
  | b :: l, i, s, h => by
    simp only [foldS]
    have h' : ∀ (q : Nat) c, l[q]? = some c → S (i + 1 + q) = true → indep a c = true := fun q c hc hs => h (q + 1) c (by simpa using hc) (by rw [← hs]; congr 1; omega)
    cases hb : S i
    · exact foldS_move S a l (i + 1) s h'
    · simp only [cond_true]
      have hi := h 0 b rfl (by simpa using hb)
      refine (foldS_same S l (i + 1) _ _ (app_comm (indep_symm hi) s)).trans ?_
      exact foldS_move S a l (i + 1) _ h'
theorem foldS_add {S S' : Nat → Bool} {j : Nat} (hj : S j = false) (hj' : S' j = true) (he : ∀ i, i ≠ j → S' i = S i) : ∀ (l : List DI) (i : Nat) (s : DS) (a : DI), i ≤ j → l[j - i]? = some a →
    (∀ (q : Nat) b, l[q]? = some b → j < i + q → S (i + q) = true → indep a b = true) → (foldS S' i l s).Same (a.app (foldS S i l s))
  | [], _, _, _, _, ha, _ => by simp at ha
  | b :: l, i, s, a, hij, ha, hind => by
    simp only [foldS]
    by_cases e : i = j
    · subst e
      simp at ha; subst ha
      rw [hj, hj']; simp only [cond_true, cond_false]
      have hS : ∀ (l : List DI) (k : Nat) (s : DS), i < k → foldS S' k l s = foldS S k l s := by
        intro l
        induction l with
        | nil => intro k s _; rfl
        | cons c l ih => intro k s hk; simp only [foldS, he k (by omega)]; exact ih (k + 1) _ (by omega)
      rw [hS l (i + 1) _ (by omega)]
      exact foldS_move S b l (i + 1) s fun q c hc hs => hind (q + 1) c (by simpa using hc) (by omega) (by rw [← hs]; congr 1; omega)
    · rw [he i e]
      refine foldS_add hj hj' he l (i + 1) _ a (by omega) ?_ ?_
      · obtain ⟨m, hm⟩ : ∃ m, j - i = m + 1 := ⟨j - i - 1, by omega⟩
        rw [hm] at ha; simp at ha
        rw [show j - (i + 1) = m by omega]; exact ha
      · intro q c hc hlt hs
        exact hind (q + 1) c (by simpa using hc) (by omega) (by rw [← hs]; congr 1; omega)
end Go.SX
