/- SyK: every order of a region comes to the same. -/
import Derived.Test.YtjclacagbifgmaaSyJ
set_option linter.unusedSimpArgs false
set_option linter.unusedVariables false
set_option linter.unusedSectionVars false
noncomputable section
namespace Go.SX
open Go Go.RowKit

/-! ### a part of the heap, on its own -/
/-- a block of the heap's own -/
def OwnB (ρ : Env) (κ : Kap) (H : Heap) (k : Nat) : Prop := (∃ id o, H.obj? id = some o ∧ κ.o id = k) ∨ (∃ j c p E, H.arr? j = some (c, p, some E) ∧ ρ.nl j = false ∧ κ.ab j = k)
theorem HeapOk.up {ρ : Env} {κ : Kap} {B B' : Bk} {H : Heap} {w : World} (h : HeapOk ρ κ B H w) (hP : B'.P = B.P) (hb : B'.b = B.b) (hk : ∀ k, OwnB ρ κ H k → ¬ B.keep k → ¬ B'.keep k) : HeapOk ρ κ B' H w where
  obj id o ho := by
    obtain ⟨h1, h2, h3⟩ := h.obj id o ho
    rw [hP, hb]; exact ⟨h1, h2, hk _ (.inl ⟨id, o, ho, rfl⟩) h3⟩
  inj := h.inj
  arr := h.arr
  sep := h.sep
  row j c pat E ha := by
    obtain ⟨h1, h2, h3⟩ := h.row j c pat E ha
    rw [hb]; exact ⟨h1, h2, fun hn => hk _ (.inr ⟨j, c, pat, E, ha, hn, rfl⟩) (h3 hn)⟩
  rsep := h.rsep
theorem HeapOk.rowge {ρ : Env} {κ : Kap} {B : Bk} {H : Heap} {w : World} (h : HeapOk ρ κ B H w) {j c : Nat} {p : List CK} {E : TypeId} (ha : H.arr? j = some (c, p, some E)) (hn : ρ.nl j = false) : B.b ≤ κ.ab j := by
  obtain ⟨_, hr, _⟩ := h.row j c p E ha
  exact (hr.lt (κ.ab j) (by simp [rowVal, hn, Value.ownBlock])).1
theorem HeapOk.nlf {ρ : Env} {κ : Kap} {B : Bk} {H : Heap} {w : World} (h : HeapOk ρ κ B H w) {j c : Nat} {p : List CK} {o : Option TypeId} (ha : H.arr? j = some (c, p, o)) (hex : (ρ.a c ≠ [] ∧ p ≠ []) ∨ (o.isSome = true ∧ ρ.nl j = false)) : ρ.nl j = false := by
  rcases hex with ⟨hne, _⟩ | ⟨_, hx⟩
  · cases hx : ρ.nl j
    · rfl
    · exact absurd ((h.arr j c p _ ha).2 hx) hne
  · exact hx
/-- what was run on a part, put back into the whole -/
theorem HeapOk.merge {ρ : Env} {κ : Kap} {B B' : Bk} {H Hs Ho H2 : Heap} {w w' : World} {rd wr : List Nat} (h : HeapOk ρ κ B H w) (ho : HeapOk ρ κ B' Ho w') (hl : B.Le B')
    (hsame : ∀ k, k < w.heap.size → (k < B.b ∨ B'.keep k) → w'.heap[k]? = w.heap[k]?)
    (hbox : ∀ k, B.b ≤ k → k < w.heap.size → ¬ B'.keep k → OwnB ρ κ Hs k)
    (hrd : (∀ x, Hs.obj? x = bif nmem rd x then H.obj? x else none) ∧ ∀ x, Hs.arr? x = bif nmem rd x then H.arr? x else none)
    (hwr : ∀ x, nmem wr x = false → Ho.obj? x = Hs.obj? x ∧ Ho.arr? x = Hs.arr? x)
    (hrows : ∀ j c p o, nmem wr j = true → Ho.arr? j = some (c, p, o) → o.isSome = true)
    (hm : (∀ x, H2.obj? x = bif nmem wr x then Ho.obj? x else H.obj? x) ∧ ∀ x, H2.arr? x = bif nmem wr x then Ho.arr? x else H.arr? x) : HeapOk ρ κ B H2 w' := by
  have hi : HeapOk ρ κ B Ho w' := ho.le hl
  -- what lies outside, and stands
  have outO : ∀ id o, nmem rd id = false → H.obj? id = some o → B'.keep (κ.o id) := by
    intro id o hn hid
    obtain ⟨_, h2, _⟩ := h.obj id o hid
    refine Classical.byContradiction fun hc => ?_
    rcases hbox _ h2 (h.lt hid) hc with ⟨id', o', g1, g2⟩ | ⟨j, c, p, E, g1, g2, g3⟩
    · rw [hrd.1] at g1
      cases hq : nmem rd id'
      · rw [hq] at g1; cases g1
      · rw [hq] at g1
        have := h.inj _ _ _ _ g1 hid g2
        subst this; rw [hq] at hn; cases hn
    · rw [hrd.2] at g1
      cases hq : nmem rd j
      · rw [hq] at g1; cases g1
      · rw [hq] at g1
        exact h.sep j c p _ id o g1 hid (.inr ⟨rfl, g2⟩) g3
  have outA : ∀ j c p o, nmem rd j = false → H.arr? j = some (c, p, o) → (ρ.a c ≠ [] ∧ p ≠ []) ∨ (o.isSome = true ∧ ρ.nl j = false) → κ.ab j < B.b ∨ B'.keep (κ.ab j) := by
    intro j c p o hn ha hex
    have hlt := h.arrlt ha hex
    refine Classical.byContradiction fun hc => ?_
    simp only [not_or, Nat.not_lt] at hc
    rcases hbox _ hc.1 hlt hc.2 with ⟨id', o', g1, g2⟩ | ⟨j', c', p', E, g1, g2, g3⟩
    · rw [hrd.1] at g1
      cases hq : nmem rd id'
      · rw [hq] at g1; cases g1
      · rw [hq] at g1
        exact h.sep j c p o id' o' ha g1 hex g2.symm
    · rw [hrd.2] at g1
      cases hq : nmem rd j'
      · rw [hq] at g1; cases g1
      · rw [hq] at g1
        exact h.rsep j' c' p' E j c p o g1 ha (fun e => by subst e; rw [hq] at hn; cases hn) g2 hex g3
  have hout : HeapOk ρ κ B (H.drop rd) w' := by
    refine HeapOk.stands (w := w) (h.sub (fun x y g => ?_) (fun x y g => ?_)) (fun id o g => ?_) (fun j c p o g hex => ?_)
    · rw [Heap.sift_obj] at g; cases hq : nmem rd x <;> rw [hq] at g <;> first | exact g | cases g
    · rw [Heap.sift_arr] at g; cases hq : nmem rd x <;> rw [hq] at g <;> first | exact g | cases g
    · rw [Heap.sift_obj] at g
      cases hq : nmem rd id
      · rw [hq] at g; exact hsame _ (h.lt g) (.inr (outO id o hq g))
      · rw [hq] at g; cases g
    · rw [Heap.sift_arr] at g
      cases hq : nmem rd j
      · rw [hq] at g; exact hsame _ (h.arrlt g hex) (outA j c p o hq g hex)
      · rw [hq] at g; cases g
  -- whoever stands in the whole stands in the part, or outside
  have sO : ∀ id o, H2.obj? id = some o → Ho.obj? id = some o ∨ (nmem rd id = false ∧ H.obj? id = some o ∧ (H.drop rd).obj? id = some o) := by
    intro id o g
    rw [hm.1] at g
    cases hq : nmem wr id
    · rw [hq] at g; simp only [cond_false] at g
      cases hr : nmem rd id
      · exact .inr ⟨rfl, g, by rw [Heap.sift_obj, hr]; exact g⟩
      · left; rw [(hwr id hq).1, hrd.1, hr]; exact g
    · rw [hq] at g; exact .inl g
  have sA : ∀ j c p o, H2.arr? j = some (c, p, o) → (Ho.arr? j = some (c, p, o) ∧ (o.isSome = true ∨ (nmem rd j = true ∧ H.arr? j = some (c, p, o)))) ∨ (nmem rd j = false ∧ H.arr? j = some (c, p, o) ∧ (H.drop rd).arr? j = some (c, p, o)) := by
    intro j c p o g
    rw [hm.2] at g
    cases hq : nmem wr j
    · rw [hq] at g; simp only [cond_false] at g
      cases hr : nmem rd j
      · exact .inr ⟨rfl, g, by rw [Heap.sift_arr, hr]; exact g⟩
      · left; exact ⟨by rw [(hwr j hq).2, hrd.2, hr]; exact g, .inr ⟨rfl, g⟩⟩
    · rw [hq] at g; exact .inl ⟨g, .inl (hrows j c p o hq g)⟩
  constructor
  · intro id o g
    rcases sO id o g with g | ⟨_, _, g⟩
    · exact hi.obj id o g
    · exact hout.obj id o g
  · intro id o id' o' g g' e
    rcases sO id o g with g | ⟨r, g, _⟩ <;> rcases sO id' o' g' with g' | ⟨r', g', _⟩
    · exact hi.inj _ _ _ _ g g' e
    · exact absurd (outO id' o' r' g') (e ▸ (ho.obj id o g).2.2)
    · exact absurd (outO id o r g) (e ▸ (ho.obj id' o' g').2.2)
    · exact h.inj _ _ _ _ g g' e
  · intro j c p o g
    rcases sA j c p o g with ⟨g, _⟩ | ⟨_, _, g⟩
    · exact hi.arr j c p o g
    · exact hout.arr j c p o g
  · intro j c p o id ob g g' hex
    rcases sA j c p o g with ⟨g, gr⟩ | ⟨r, g, _⟩ <;> rcases sO id ob g' with g' | ⟨r', g', _⟩
    · exact hi.sep j c p o id ob g g' hex
    · rcases gr with gr | ⟨_, gr⟩
      · obtain ⟨E, rfl⟩ := Option.isSome_iff_exists.1 gr
        exact fun e => (ho.row j c p E g).2.2 (ho.nlf g hex) (e ▸ outO id ob r' g')
      · exact h.sep j c p o id ob gr g' hex
    · intro e
      obtain ⟨_, k1, k2⟩ := ho.obj id ob g'
      rcases outA j c p o r g hex with k | k
      · rw [e] at k; rw [hl.b] at k1; omega
      · exact k2 (e ▸ k)
    · exact h.sep j c p o id ob g g' hex
  · intro j c p E g
    rcases sA j c p _ g with ⟨g, _⟩ | ⟨_, _, g⟩
    · exact hi.row j c p E g
    · exact hout.row j c p E g
  · intro j c p E j' c' p' o' g g' hne hn hex
    rcases sA j c p _ g with ⟨g, gr⟩ | ⟨r, g, _⟩ <;> rcases sA j' c' p' o' g' with ⟨g', gr'⟩ | ⟨r', g', _⟩
    · exact hi.rsep j c p E j' c' p' o' g g' hne hn hex
    · intro e
      have k1 := ho.rowge g hn
      have k2 := (ho.row j c p E g).2.2 hn
      rcases outA j' c' p' o' r' g' hex with k | k
      · rw [← e] at k; rw [hl.b] at k1; omega
      · exact k2 (e ▸ k)
    · rcases gr' with gr' | ⟨_, gr'⟩
      · obtain ⟨E', rfl⟩ := Option.isSome_iff_exists.1 gr'
        intro e
        have k1 := h.rowge g hn
        have k2 := (ho.row j' c' p' E' g').2.2 (ho.nlf g' hex)
        rcases outA j c p _ r g (.inr ⟨rfl, hn⟩) with k | k
        · omega
        · exact k2 (e ▸ k)
      · exact h.rsep j c p E j' c' p' o' g gr' hne hn hex
    · exact h.rsep j c p E j' c' p' o' g g' hne hn hex
/-- all that is not the part's own stands still -/
def Bk.box (base : Bk) (ρ : Env) (κ : Kap) (Hs : Heap) (w : World) (Ds : List Nat) (hz : base.top ≤ w.heap.size) : Bk :=
  ⟨base.P, base.b, w.heap.size, fun k => base.keep k ∨ (base.b ≤ k ∧ k < w.heap.size ∧ k ∉ Ds ∧ ¬ OwnB ρ κ Hs k), Nat.le_trans base.le hz, fun k hk => hk.elim (fun h => Nat.lt_of_lt_of_le (base.lt k h) hz) fun h => h.2.1⟩
/-- the slots that are looked at -/
def maskSC (l : List Nat) (sl : Sl) : Sl := match l with
  | [] => .nil
  | t :: r => match slot sl t with
    | some v => insSlot 40 (maskSC r sl) t v
    | none => maskSC r sl
noncomputable def maskS (l : List Nat) (sl : Sl) : Sl := List.rec (motive := fun _ => Sl) .nil (fun t _ ih => Option.rec (motive := fun _ => Sl) ih (fun v => insSlot 40 ih t v) (slot sl t)) l
theorem maskS_cons (t : Nat) (r : List Nat) (sl : Sl) : maskS (t :: r) sl = match slot sl t with
    | some v => insSlot 40 (maskS r sl) t v
    | none => maskS r sl := by
  show Option.rec (motive := fun _ => Sl) (maskS r sl) (fun v => insSlot 40 (maskS r sl) t v) (slot sl t) = _
  cases slot sl t <;> rfl
theorem maskS_get {sl : Sl} : ∀ {l : List Nat} {t : Nat} {s : SV}, slot (maskS l sl) t = some s → (t ∈ l ∧ slot sl t = some s) ∨ (s = .any ∧ ∃ d x, t ≤ d ∧ d ∈ l ∧ slot sl d = some x)
  | [], t, s, h => by have h : slot .nil t = some s := h; rw [slot_nil] at h; cases h
  | u :: r, t, s, h => by
    have ih : ∀ {t s}, slot (maskS r sl) t = some s → (t ∈ u :: r ∧ slot sl t = some s) ∨ (s = .any ∧ ∃ d x, t ≤ d ∧ d ∈ u :: r ∧ slot sl d = some x) := fun h => by
      rcases maskS_get h with ⟨h1, h2⟩ | ⟨h1, d, x, h2, h3, h4⟩
      · exact .inl ⟨List.mem_cons_of_mem _ h1, h2⟩
      · exact .inr ⟨h1, d, x, h2, List.mem_cons_of_mem _ h3, h4⟩
    rw [maskS_cons] at h
    split at h
    · rename_i v hv
      rcases insSlot_get _ _ _ _ _ _ h with h | ⟨h1, h2⟩ | ⟨h1, h2⟩
      · exact ih h
      · subst h1; subst h2; exact .inl ⟨List.mem_cons_self .., hv⟩
      · exact .inr ⟨h2, u, v, h1, List.mem_cons_self .., hv⟩
    · exact ih h
theorem SlotsOk.mask {ρ : Env} {κ : Kap} {sl sl' : Sl} {a : Array Value} {l : List Nat} (h : SlotsOk ρ κ sl' a) (hs : ∀ t ∈ l, slot sl' t = slot sl t) : SlotsOk ρ κ (maskS l sl) a := by
  refine ⟨fun t s ht => ?_, fun t s ht ha => ?_⟩
  · rcases maskS_get ht with ⟨h1, h2⟩ | ⟨_, d, x, h1, h2, h3⟩
    · exact h.1 t s ((hs t h1).trans h2)
    · exact Nat.lt_of_le_of_lt h1 (h.1 d x ((hs d h2).trans h3))
  · rcases maskS_get ht with ⟨h1, h2⟩ | ⟨h1, _⟩
    · exact h.2 t s ((hs t h1).trans h2) ha
    · subst h1; cases ha
theorem markOf_inj : ∀ {l r : List Nat}, l.map markOf = r.map markOf → l = r
  | [], [], _ => rfl
  | [], _ :: _, h => by cases h
  | _ :: _, [], h => by cases h
  | x :: l, y :: r, h => by
    simp only [List.map_cons, List.cons.injEq] at h
    have : x = y := by have := h.1; simp only [markOf, Deferred.mk.injEq] at this; simpa using this.1
    rw [this, markOf_inj h.2]
/-- WHAT AN OPERATION DOES, WHEREVER IN THE ORDER IT STANDS. -/
def VOp (P : Program) (base : Bk) (w0 : World) (ρ : Env) (ops : Array Oper) (o : Oper) (di : DI) : Prop :=
  ∀ (κ : Kap) (a : Act) (w : World) (B : Bk), base.Le B → Kept base w0 w → Sim B w ρ κ di.st0 a w → ∀ (K : Act → World → Prop) (Q : Exit → Act → World → Prop),
    (∀ κ' w', KBut di.rng κ κ' → Sim B w ρ κ' di.st1 a w' → K (a.put o.dst (di.v.den ρ κ')) w') →
    if Region.wanted o (yielded ops a.tmps) then wpO P (di.st0.rnd.map κ.o) o a w K Q else K (a.put o.dst undef) w
def runD (dis : List DI) (s : DS) : DS := dis.foldl (fun s a => a.app s) s
theorem foldS_take : ∀ (l : List DI) (i q : Nat) (s : DS), foldS (fun k => Nat.blt k (i + q)) i l s = runD (l.take q) s
  | [], _, _, _ => by simp [foldS, runD]
  | a :: l, i, 0, s => by
    have h0 : Nat.blt i (i + 0) = false := by rw [Bool.eq_false_iff]; simp [Nat.blt_eq]
    simp only [foldS, h0, cond_false]
    have : ∀ (l : List DI) (k : Nat) (s : DS), i ≤ k → foldS (fun x => Nat.blt x (i + 0)) k l s = s := by
      intro l
      induction l with
      | nil => intro k s _; rfl
      | cons b l ih =>
        intro k s hk
        have h1 : Nat.blt k (i + 0) = false := by rw [Bool.eq_false_iff]; simp [Nat.blt_eq]; omega
        simp only [foldS, h1, cond_false]; exact ih (k + 1) s (by omega)
    rw [this l (i + 1) s (by omega)]; rfl
  | a :: l, i, q + 1, s => by
    have h1 : Nat.blt i (i + (q + 1)) = true := by rw [Nat.blt_eq]; omega
    simp only [foldS, h1, cond_true]
    have := foldS_take l (i + 1) q (a.app s)
    rw [show i + 1 + q = i + (q + 1) by omega] at this
    rw [this]; rfl
/-- slots at the same places -/
def Shape (sl sl' : Sl) : Prop := ∀ t, (slot sl t).isSome = (slot sl' t).isSome
theorem putS_slot {sl sl' : Sl} {t : Nat} (hl : Shape sl sl') (h : slot sl t = slot sl' t) (d : Option Nat) (v : SV) : slot (putS sl d v) t = slot (putS sl' d v) t := by
  cases d with
  | none => exact h
  | some d =>
    simp only [putS, slot_setSlot] at h ⊢
    split
    · rename_i e; subst e; rw [h]
    · exact h
theorem putS_shape (sl : Sl) (d : Option Nat) (v : SV) (t : Nat) : (slot (putS sl d v) t).isSome = (slot sl t).isSome := by
  cases d with
  | none => rfl
  | some d =>
    simp only [putS, slot_setSlot]
    split
    · rename_i e; subst e; simp
    · rfl

/-- the heaps say the same of some names -/
def SameAt (H H' : Heap) (l : List Nat) : Prop := ∀ x ∈ l, H.obj? x = H'.obj? x ∧ H.arr? x = H'.arr? x
/-- what an operation sees is the same behind two sets that part only in what it does not see -/
theorem foldS_look {S S' : Nat → Bool} {looks rd : List Nat} : ∀ (l : List DI) (i : Nat) (s s' : DS), Shape s.sl s'.sl → (∀ t ∈ looks, slot s.sl t = slot s'.sl t) → SameAt s.H s'.H rd →
    (∀ (q : Nat) b, l[q]? = some b → S (i + q) ≠ S' (i + q) → (∀ d, b.d = some d → d ∉ looks) ∧ ∀ x ∈ b.wr, x ∉ rd) →
    Shape (foldS S i l s).sl (foldS S' i l s').sl ∧ (∀ t ∈ looks, slot (foldS S i l s).sl t = slot (foldS S' i l s').sl t) ∧ SameAt (foldS S i l s).H (foldS S' i l s').H rd
  | [], _, s, s', h1, h2, h3, _ => ⟨h1, h2, h3⟩
  | b :: l, i, s, s', h1, h2, h3, h5 => by
    simp only [foldS]
    have h5' : ∀ (q : Nat) c, l[q]? = some c → S (i + 1 + q) ≠ S' (i + 1 + q) → (∀ d, c.d = some d → d ∉ looks) ∧ ∀ x ∈ c.wr, x ∉ rd := fun q c hc hne => h5 (q + 1) c (by simpa using hc) (by rw [show i + (q + 1) = i + 1 + q by omega]; exact hne)
    have lone : ∀ (s : DS), (∀ d, b.d = some d → d ∉ looks) → (∀ x ∈ b.wr, x ∉ rd) → (∀ t ∈ looks, slot (b.app s).sl t = slot s.sl t) ∧ SameAt (b.app s).H s.H rd := by
      intro s hd hx
      constructor
      · intro t ht
        simp only [DI.app]
        cases hb : b.d with
        | none => rfl
        | some d =>
          have : d ≠ t := fun e => hd d hb (e ▸ ht)
          simp only [putS, slot_setSlot, if_neg this.symm]
      · intro id hid
        have hni : nmem b.wr id = false := by
          cases hq : nmem b.wr id
          · rfl
          · exact absurd hid (hx id (mem_of_nmem hq))
        exact ⟨by rw [DI.app_obj, hni]; rfl, by rw [DI.app_arr, hni]; rfl⟩
    cases hS : S i <;> cases hS' : S' i <;> simp only [cond_true, cond_false]
    · exact foldS_look l (i + 1) s s' h1 h2 h3 h5'
    · obtain ⟨g1, g2⟩ := h5 0 b rfl (by simp [hS, hS'])
      obtain ⟨k1, k2⟩ := lone s' g1 g2
      exact foldS_look l (i + 1) s _ (fun t => by simp only [DI.app, putS_shape]; exact h1 t) (fun t ht => (h2 t ht).trans (k1 t ht).symm) (fun id hid => ⟨(h3 id hid).1.trans (k2 id hid).1.symm, (h3 id hid).2.trans (k2 id hid).2.symm⟩) h5'
    · obtain ⟨g1, g2⟩ := h5 0 b rfl (by simp [hS, hS'])
      obtain ⟨k1, k2⟩ := lone s g1 g2
      exact foldS_look l (i + 1) _ s' (fun t => by simp only [DI.app, putS_shape]; exact h1 t) (fun t ht => (k1 t ht).trans (h2 t ht)) (fun id hid => ⟨(k2 id hid).1.trans (h3 id hid).1, (k2 id hid).2.trans (h3 id hid).2⟩) h5'
    · refine foldS_look l (i + 1) _ _ (fun t => by simp only [DI.app, putS_shape]; exact h1 t) (fun t ht => ?_) (fun id hid => ?_) h5'
      · exact putS_slot h1 (h2 t ht) _ _
      · simp only [DI.app_obj, DI.app_arr, (h3 id hid).1, (h3 id hid).2, and_self]
/-- no part of a state bears a name of p -/
structure DS.Free (p : Nat → Bool) (s : DS) : Prop where
  sl : (!(s.sl.all fun x => !(x.has p))) = false
  H : s.H.Free p
theorem hasL_set {p : Nat → Bool} {v : SV} (hv : v.has p = false) (l : Sl) (d : Nat) (h : (!(l.all fun x => !(x.has p))) = false) : (!((setSlot l d v).all fun x => !(x.has p))) = false := by
  have h : (l.all fun x => !(x.has p)) = true := by simpa using h
  rw [Sl.all_of (f := fun x => !(x.has p)) fun i s hs => ?_]; rfl
  rw [slot_setSlot] at hs
  split at hs
  · obtain ⟨x, _, e⟩ := Option.map_eq_some_iff.1 hs
    subst e; rw [hv]; rfl
  · exact Sl.all_get (f := fun x => !(x.has p)) h hs
theorem DS.Free.app {p : Nat → Bool} {s : DS} (h : s.Free p) {b : DI} (h1 : b.v.has p = false) (h2 : (b.st1.H.only b.wr).has p = false) : (b.app s).Free p := by
  have g := Heap.free_of_has h2
  refine ⟨?_, ⟨fun id o ho => ?_, fun j c q o ha => ?_⟩⟩
  · simp only [DI.app]
    cases b.d with
    | none => exact h.sl
    | some d => exact hasL_set h1 _ _ h.sl
  · rw [DI.app_obj] at ho
    cases hq : nmem b.wr id
    · rw [hq] at ho; exact h.H.obj id o ho
    · rw [hq] at ho; exact g.obj id o (by rw [Heap.sift_obj, hq]; exact ho)
  · rw [DI.app_arr] at ha
    cases hq : nmem b.wr j
    · rw [hq] at ha; exact h.H.arr j c q o ha
    · rw [hq] at ha; exact g.arr j c q o (by rw [Heap.sift_arr, hq]; exact ha)
theorem foldS_free {p : Nat → Bool} (S : Nat → Bool) : ∀ (l : List DI) (i : Nat) (s : DS), s.Free p → (∀ (q : Nat) b, l[q]? = some b → S (i + q) = true → b.v.has p = false ∧ (b.st1.H.only b.wr).has p = false) → (foldS S i l s).Free p
  | [], _, _, h, _ => h
  | b :: l, i, s, h, hb => by
    simp only [foldS]
    have h' : ∀ (q : Nat) c, l[q]? = some c → S (i + 1 + q) = true → c.v.has p = false ∧ (c.st1.H.only c.wr).has p = false := fun q c hc hs => hb (q + 1) c (by simpa using hc) (by rw [← hs]; congr 1; omega)
    cases hS : S i
    · exact foldS_free S l (i + 1) s h h'
    · obtain ⟨k1, k2⟩ := hb 0 b rfl (by simpa using hS)
      exact foldS_free S l (i + 1) _ (h.app k1 k2) h'
theorem free_of_bnd {st : St} (h : st.bnd = true) {p : Nat → Bool} (hp : ∀ j, j < st.n → p j = false) : (⟨st.sl, st.H⟩ : DS).Free p := by
  simp only [St.bnd, Bool.and_eq_true] at h
  refine ⟨?_, Heap.free_of_bnd hp h.1.2.1⟩
  show (!(st.sl.all fun x => !(x.has p))) = false
  rw [Sl.all_of fun i s hs => by rw [SV.bnd_has hp (Sl.all_get (f := SV.bnd st.n) h.1.1 hs)]; rfl]; rfl
def predsOk : Nat → List Oper → Bool
  | _, [] => true
  | i, o :: l => (preds o).all (fun j => Nat.blt j i) && predsOk (i + 1) l
theorem predsOk_spec : ∀ (l : List Oper) (i : Nat), predsOk i l = true → ∀ (q : Nat) o, l[q]? = some o → ∀ j ∈ preds o, j < i + q
  | [], _, _, q, o, h, _, _ => by simp at h
  | a :: l, i, h, 0, o, ho, j, hj => by
    simp at ho; subst ho
    simp only [predsOk, Bool.and_eq_true, List.all_eq_true, Nat.blt_eq] at h
    have := h.1 j hj; omega
  | a :: l, i, h, q + 1, o, ho, j, hj => by
    simp only [predsOk, Bool.and_eq_true] at h
    have := predsOk_spec l (i + 1) h.2 q o (by simpa using ho) j hj
    omega
theorem count_lt {p q : Nat → Bool} : ∀ (l : List Nat), (∀ x ∈ l, q x = true → p x = true) → (∃ x ∈ l, p x = true ∧ q x = false) → (l.filter q).length < (l.filter p).length
  | [], _, ⟨x, hx, _⟩ => by cases hx
  | a :: l, h, ⟨x, hx, hp, hq⟩ => by
    have h' : ∀ x ∈ l, q x = true → p x = true := fun y hy => h y (List.mem_cons_of_mem _ hy)
    have le : ∀ (l : List Nat), (∀ x ∈ l, q x = true → p x = true) → (l.filter q).length ≤ (l.filter p).length := by
      intro l
      induction l with
      | nil => intro _; exact Nat.le_refl _
      | cons b l ih =>
        intro hb
        have := ih fun y hy => hb y (List.mem_cons_of_mem _ hy)
        simp only [List.filter_cons]
        cases hqb : q b
        · cases p b <;> simp <;> omega
        · rw [hb b (List.mem_cons_self ..) hqb]; simp; omega
    simp only [List.filter_cons]
    rcases List.mem_cons.1 hx with rfl | hx
    · rw [hp, hq]; simp; have := le l h'; omega
    · have := count_lt l h' ⟨x, hx, hp, hq⟩
      cases hqa : q a
      · cases p a <;> simp <;> omega
      · rw [h a (List.mem_cons_self ..) hqa]; simp; omega
theorem mem_preds {o : Oper} {e : Edge} (he : e ∈ o.after.toList) (hb : Region.binds .any e = true) : e.on ∈ preds o := by
  unfold preds
  exact List.mem_filterMap.2 ⟨e, he, by rw [hb]; rfl⟩
theorem of_mem_preds {o : Oper} {i : Nat} (h : i ∈ preds o) : ∃ e ∈ o.after.toList, Region.binds .any e = true ∧ e.on = i := by
  unfold preds at h
  obtain ⟨e, he, hi⟩ := List.mem_filterMap.1 h
  cases hb : Region.binds .any e
  · rw [hb] at hi; cases hi
  · rw [hb] at hi; simp at hi; exact ⟨e, he, hb, hi⟩

/-- what is asked of an operation's account -/
structure DOk (st : St) (s : DS) (o : Oper) (di : DI) (ρ : Env) : Prop where
  d : di.d = o.dst
  sl : di.st0.sl = maskS di.looks s.sl
  H : di.st0.H = s.H.only di.rd
  fc : ∀ p ∈ di.st0.facts, p.den ρ = true
  rnd : di.st0.rnd = st.rnd
  n : st.n ≤ di.st0.n
  wr : ∀ x, nmem di.wr x = false → di.st1.H.obj? x = di.st0.H.obj? x ∧ di.st1.H.arr? x = di.st0.H.arr? x
  rows : ∀ j c p o, nmem di.wr j = true → di.st1.H.arr? j = some (c, p, o) → o.isSome = true
theorem kbut_none {p : Nat → Bool} {κ κ' : Kap} (K : KBut p κ κ') (h : ∀ j, p j = false) : κ' = κ := by
  cases κ; cases κ'
  have h1 := fun j => K.o j (h j)
  have h2 := fun j => K.ab j (h j)
  have h3 := fun j => K.ao j (h j)
  have h4 := fun j => K.cap j (h j)
  simp only at h1 h2 h3 h4
  simp only [Kap.mk.injEq]
  exact ⟨funext h1, funext h2, funext h3, funext h4⟩
/-- one step of an order -/
theorem draw_step {P : Program} {base : Bk} {w0 : World} {ops : Array Oper} {o : Oper} {di : DI} {st st' : St} {ρ : Env} {κ : Kap} {s0 s : DS} {a : Act} {w : World}
    (hd : DOk st s0 o di ρ) (hv : VOp P base w0 ρ ops o di) (hlook : Shape s.sl s0.sl ∧ (∀ t ∈ di.looks, slot s.sl t = slot s0.sl t) ∧ SameAt s.H s0.H di.rd)
    (hfree : di.st0.n = di.st1.n ∨ s.Free di.rng) (hr : st'.rnd = st.rnd) (hn : st.n ≤ st'.n) (hrb : ∀ l, st.rnd = some l → l < st.n)
    (hs : Sim base w0 ρ κ { st' with sl := s.sl, H := s.H } a w) {K : Act → World → Prop} {Q : Exit → Act → World → Prop}
    (hk : ∀ κ' a' w' (s' : DS), KBut di.rng κ κ' → s'.sl = (di.app s).sl → (∀ x, s'.H.obj? x = (di.app s).H.obj? x) → (∀ x, s'.H.arr? x = (di.app s).H.arr? x) → Sim base w0 ρ κ' { st' with sl := s'.sl, H := s'.H } a' w' → K a' w') :
    if Region.wanted o (yielded ops a.tmps) then wpO P (st.rnd.map κ.o) o a w K Q else K (a.put o.dst undef) w := by
  obtain ⟨Ds, h⟩ := hs
  have hle : base.Le (base.box ρ κ di.st0.H w Ds h.sz) := ⟨rfl, rfl, fun _ hk => .inl hk, h.sz⟩
  have hsub : HeapOk ρ κ (base.plus Ds w.heap.size h.sz fun D hD => (h.db D hD).1) di.st0.H w := by
    refine h.hp.sub (fun x y g => ?_) (fun x y g => ?_)
    · rw [hd.H, Heap.sift_obj] at g
      cases hq : nmem di.rd x
      · rw [hq] at g; cases g
      · rw [hq] at g; exact ((hlook.2.2 x (mem_of_nmem hq)).1).trans g
    · rw [hd.H, Heap.sift_arr] at g
      cases hq : nmem di.rd x
      · rw [hq] at g; cases g
      · rw [hq] at g; exact ((hlook.2.2 x (mem_of_nmem hq)).2).trans g
  have hsim : Sim (base.box ρ κ di.st0.H w Ds h.sz) w ρ κ di.st0 a w := by
    refine ⟨Ds, ⟨?_, h.df, h.dn, fun D hD => ?_, Nat.le_refl _, ?_, Kept.refl _ _, hd.fc, ?_⟩⟩
    · rw [hd.sl]; exact h.fr.mask hlook.2.1
    · obtain ⟨k1, k2, k3, k4⟩ := h.db D hD
      exact ⟨k1, k2, fun hk => hk.elim k3 fun hk => hk.2.2.1 hD, k4⟩
    · refine hsub.up rfl rfl fun k hO hk hk' => ?_
      rcases hk' with (hk' | hk') | hk'
      · exact hk (.inl hk')
      · exact hk'.2.2.2 hO
      · exact hk (.inr hk')
    · intro l hl; rw [hd.rnd] at hl; exact Nat.lt_of_lt_of_le (hrb l hl) hd.n
  have key := hv κ a w _ hle h.bl hsim K Q ?_
  · rw [hd.rnd] at key; exact key
  intro κ' w' Kb hsim'
  obtain ⟨Ds', h'⟩ := hsim'
  have hDs : Ds' = Ds := markOf_inj (h'.df.symm.trans h.df)
  subst hDs
  have hfr : SlotsOk ρ κ' s.sl a.tmps ∧ HeapOk ρ κ' (base.plus Ds' w.heap.size h.sz fun D hD => (h.db D hD).1) s.H w ∧ ∀ k, OwnB ρ κ di.st0.H k → OwnB ρ κ' di.st0.H k := by
    rcases hfree with he | hfree
    · have := kbut_none Kb fun j => by
        simp only [DI.rng, he]
        cases hb : Nat.ble di.st1.n j
        · rfl
        · rw [Nat.ble_eq] at hb
          have : Nat.blt j di.st1.n = false := by rw [Bool.eq_false_iff]; simp [Nat.blt_eq]; omega
          rw [this]; rfl
      subst this
      exact ⟨h.fr, h.hp, fun _ h => h⟩
    · refine ⟨h.fr.kbut Kb hfree.sl, h.hp.kbut hfree.H Kb, fun k hk => ?_⟩
      have so : ∀ x y, di.st0.H.obj? x = some y → s.H.obj? x = some y := fun x y g => by
        rw [hd.H, Heap.sift_obj] at g
        cases hq : nmem di.rd x
        · rw [hq] at g; cases g
        · rw [hq] at g; exact ((hlook.2.2 x (mem_of_nmem hq)).1).trans g
      have sa : ∀ x y, di.st0.H.arr? x = some y → s.H.arr? x = some y := fun x y g => by
        rw [hd.H, Heap.sift_arr] at g
        cases hq : nmem di.rd x
        · rw [hq] at g; cases g
        · rw [hq] at g; exact ((hlook.2.2 x (mem_of_nmem hq)).2).trans g
      rcases hk with ⟨id, ob, g1, g2⟩ | ⟨j, c, p, E, g1, g2, g3⟩
      · exact .inl ⟨id, ob, g1, by rw [Kb.o id (hfree.H.obj id ob (so _ _ g1)).1]; exact g2⟩
      · exact .inr ⟨j, c, p, E, g1, g2, by rw [Kb.ab j (hfree.H.arr j c p _ (sa _ _ g1))]; exact g3⟩
  obtain ⟨hfr, hhp, hown⟩ := hfr
  have hsz := h'.bl.size
  refine hk κ' _ w' (di.app s) Kb rfl (fun _ => rfl) (fun _ => rfl) ⟨Ds', ⟨?_, by cases o.dst <;> exact h.df, h.dn, fun D hD => ?_, Nat.le_trans h.sz hsz, ?_, h.bl.trans (h'.bl.le hle), h.fc, h.rb⟩⟩
  · simp only [DI.app, hd.d]
    cases o.dst with
    | none => exact hfr
    | some d => exact hfr.put d fun _ => rfl
  · obtain ⟨k1, k2, k3, k4⟩ := h.db D hD
    obtain ⟨k1', _, _, k4'⟩ := h'.db D hD
    exact ⟨k1', k2, k3, k4'⟩
  · refine HeapOk.up (B := base.plus Ds' w.heap.size h.sz fun D hD => (h.db D hD).1) ?_ rfl rfl fun k _ hk => hk
    refine HeapOk.merge (H := s.H) (Hs := di.st0.H) (Ho := di.st1.H) (w := w) (rd := di.rd) (wr := di.wr) hhp h'.hp ⟨rfl, rfl, fun k hk => hk.elim (fun h => .inl (.inl h)) .inr, hsz⟩ (fun k hk hb => ?_) (fun k hb hk hn => ?_) ⟨fun x => ?_, fun x => ?_⟩ hd.wr hd.rows ⟨fun x => di.app_obj s x, fun x => di.app_arr s x⟩
    · rcases hb with hb | hb | hb
      · exact h'.bl.bl.block k hb
      · exact h'.bl.kp k hk hb
      · rw [(h'.db k hb).2.2.2, (h.db k hb).2.2.2]
    · refine Classical.byContradiction fun hc => hn ?_
      by_cases hD : k ∈ Ds'
      · exact .inr hD
      · exact .inl (.inr ⟨hb, hk, hD, fun hO => hc (hown k hO)⟩)
    · rw [hd.H, Heap.sift_obj]
      cases hq : nmem di.rd x
      · rfl
      · exact ((hlook.2.2 x (mem_of_nmem hq)).1).symm
    · rw [hd.H, Heap.sift_arr]
      cases hq : nmem di.rd x
      · rfl
      · exact ((hlook.2.2 x (mem_of_nmem hq)).2).symm
theorem Sim.congr {base : Bk} {w0 : World} {ρ : Env} {κ : Kap} {st st' : St} {a : Act} {w : World} (h : Sim base w0 ρ κ st a w) (hs : st'.sl = st.sl) (ho : ∀ x, st'.H.obj? x = st.H.obj? x) (ha : ∀ x, st'.H.arr? x = st.H.arr? x)
    (hf : ∀ p ∈ st'.facts, p.den ρ = true) (hr : ∀ l, st'.rnd = some l → l < st'.n) : Sim base w0 ρ κ st' a w := by
  obtain ⟨Ds, h⟩ := h
  exact ⟨Ds, ⟨by rw [hs]; exact h.fr, h.df, h.dn, h.db, h.sz, h.hp.congr (fun x => (ho x).symm) (fun x => (ha x).symm), h.bl, hf, hr⟩⟩
/-- THE REGION, WHATEVER THE ORDER. -/
theorem draw_sound {P : Program} {base : Bk} {w0 : World} {ops : Array Oper} {id : Nat} {st st' : St} (hbnd : st.bnd = true) (hmix : P.follows .mixedOrders = true) (hpo : predsOk 0 ops.toList = true) {dis : List DI}
    (hall : allOk (masks ops.toList []) 0 dis = true) (hlen : dis.length = ops.size) {ρ : Env} {κ : Kap} {a : Act} {w : World} (hs : Sim base w0 ρ κ st a w)
    (hd : ∀ (q : Nat) o di, ops.toList[q]? = some o → dis[q]? = some di → DOk st (runD (dis.take q) ⟨st.sl, st.H⟩) o di ρ ∧ VOp P base w0 ρ ops o di)
    (he : (⟨st'.sl, st'.H⟩ : DS) = runD dis ⟨st.sl, st.H⟩) (hf : ∀ p ∈ st'.facts, p.den ρ = true) (hr : st'.rnd = st.rnd) (hn : st.n ≤ st'.n) {Q : Exit → Act → World → Prop}
    (hk : ∀ κ' a' w', Agree st.n ρ ρ κ κ' → Sim base w0 ρ κ' st' a' w' → Q .normal a' w') : wpC P (st.rnd.map κ.o) (.region id ops true) Q a w := by
  have hmask := masks_spec (ops := ops.toList) ops.toList [] (fun j => by simp) (fun k i hb => by simp at hb)
  have hpair := allOk_spec dis 0 hall
  simp only [Nat.zero_add] at hpair
  have hrb : ∀ l, st.rnd = some l → l < st.n := by obtain ⟨_, h⟩ := hs; exact h.rb
  let s0 : DS := ⟨st.sl, st.H⟩
  let SS : Array Bool → Nat → Bool := fun listed i => listed.getD i false
  have hround : ∀ κ1, Agree st.n ρ ρ κ κ1 → st.rnd.map κ1.o = st.rnd.map κ.o := by
    intro κ1 hA
    cases hl : st.rnd with
    | none => rfl
    | some l => simp only [Option.map_some, hA.o l (hrb l hl)]
  have main : ∀ (fuel : Nat) (listed : Array Bool) (κ1 : Kap) (a1 : Act) (w1 : World), listed.size = ops.size → ((List.range ops.size).filter fun i => !(SS listed i)).length ≤ fuel →
      Closed ops.toList (fun i => SS listed i = true) → Agree st.n ρ ρ κ κ1 → Sim base w0 ρ κ1 { st' with sl := (foldS (SS listed) 0 dis s0).sl, H := (foldS (SS listed) 0 dis s0).H } a1 w1 →
      wpAnyIn (Wd (st.rnd.map κ.o)) 0 P .any ops Q fuel listed a1 w1 := by
    have fin : ∀ (listed : Array Bool) (κ1 : Kap) (a1 : Act) (w1 : World), listed.size = ops.size → Agree st.n ρ ρ κ κ1 → Sim base w0 ρ κ1 { st' with sl := (foldS (SS listed) 0 dis s0).sl, H := (foldS (SS listed) 0 dis s0).H } a1 w1 →
        Region.ready .any ops listed = [] → Q .normal a1 w1 := by
      intro listed κ1 a1 w1 hsz hA hsim hr0
      have hallS : ∀ i, i < ops.size → SS listed i = true := by
        intro i
        induction i using Nat.strongRecOn with
        | _ i ih =>
          intro hi
          by_cases hS : SS listed i = true
          · exact hS
          · exfalso
            have hin : i ∈ Region.ready .any ops listed := by
              unfold Region.ready
              refine List.mem_filter.2 ⟨List.mem_range.2 hi, ?_⟩
              have hoi : ops[i]? = some ops[i] := by simp [hi]
              have h1 : listed.getD i true = false := by
                have : SS listed i = false := by simpa using hS
                simp only [SS] at this
                simp only [Array.getD_eq_getD_getElem?] at this ⊢
                rw [Array.getElem?_eq_getElem (by omega)] at this ⊢
                simpa using this
              rw [h1, hoi]
              simp only [Bool.not_false, Option.map_some, Option.getD_some, Bool.true_and]
              rw [Array.all_eq_true_iff_forall_mem]
              intro e he
              cases hb : Region.binds .any e
              · rfl
              · simp only [Bool.not_true, Bool.false_or]
                have hlt := predsOk_spec ops.toList 0 hpo i ops[i] (by simp [hi]) e.on (mem_preds (by simpa using he) hb)
                exact ih e.on (by omega) (by omega)
            rw [hr0] at hin; cases hin
      have hfold : foldS (SS listed) 0 dis s0 = runD dis s0 := by
        have h1 := foldS_take dis 0 dis.length s0
        rw [List.take_length, Nat.zero_add] at h1
        rw [← h1]
        have : ∀ (l : List DI) (i : Nat) (s : DS), (∀ q, q < l.length → SS listed (i + q) = Nat.blt (i + q) dis.length) → foldS (SS listed) i l s = foldS (fun k => Nat.blt k dis.length) i l s := by
          intro l
          induction l with
          | nil => intro i s _; rfl
          | cons b l ih =>
            intro i s hq
            simp only [foldS]
            rw [show SS listed i = Nat.blt i dis.length from hq 0 (by simp)]
            exact ih (i + 1) _ fun q hq' => by
              have := hq (q + 1) (by simp; omega)
              rw [show i + (q + 1) = i + 1 + q by omega] at this; exact this
        refine this dis 0 s0 fun q hq => ?_
        rw [Nat.zero_add, hallS q (by omega)]
        symm; rw [Nat.blt_eq]; exact hq
      rw [hfold] at hsim
      have e1 : (runD dis s0).sl = st'.sl := by rw [show runD dis s0 = _ from he.symm]
      have e2 : (runD dis s0).H = st'.H := by rw [show runD dis s0 = _ from he.symm]
      rw [e1, e2] at hsim
      exact hk κ1 a1 w1 hA hsim
    intro fuel
    induction fuel with
    | zero =>
      intro listed κ1 a1 w1 hsz hcnt hcl hA hsim
      have hr0 : Region.ready .any ops listed = [] := by
        rw [List.eq_nil_iff_forall_not_mem]
        intro i hi
        unfold Region.ready at hi
        obtain ⟨hi1, hi2⟩ := List.mem_filter.1 hi
        have hi1' := List.mem_range.1 hi1
        simp only [Bool.and_eq_true, Bool.not_eq_true'] at hi2
        have : i ∈ (List.range ops.size).filter fun i => !(SS listed i) := by
          refine List.mem_filter.2 ⟨hi1, ?_⟩
          have h2 := hi2.1
          simp only [SS, Array.getD_eq_getD_getElem?] at h2 ⊢
          rw [Array.getElem?_eq_getElem (by omega)] at h2 ⊢
          simpa using h2
        have hl := List.length_pos_of_mem this
        omega
      exact ⟨hr0, fin listed κ1 a1 w1 hsz hA hsim hr0⟩
    | succ fuel ih =>
      intro listed κ1 a1 w1 hsz hcnt hcl hA hsim
      refine ⟨fin listed κ1 a1 w1 hsz hA hsim, fun j hj => ?_⟩
      unfold Region.ready at hj
      obtain ⟨hj1, hj2⟩ := List.mem_filter.1 hj
      have hjlt := List.mem_range.1 hj1
      simp only [Bool.and_eq_true, Bool.not_eq_true'] at hj2
      obtain ⟨hj2, hj3⟩ := hj2
      have hSj : SS listed j = false := by
        simp only [SS, Array.getD_eq_getD_getElem?] at hj2 ⊢
        rw [Array.getElem?_eq_getElem (by omega)] at hj2 ⊢
        simpa using hj2
      have hoj : ops[j]? = some ops[j] := by simp [hjlt]
      have hojl : ops.toList[j]? = some ops[j] := by simp [hjlt]
      have hready : ∀ o, ops.toList[j]? = some o → ∀ i ∈ preds o, SS listed i = true := by
        intro o ho i hi
        rw [hojl] at ho; cases ho
        obtain ⟨e, he, hb, rfl⟩ := of_mem_preds hi
        rw [hoj] at hj3
        simp only [Option.map_some, Option.getD_some] at hj3
        have := (Array.all_eq_true_iff_forall_mem.1 hj3) e (by simpa using he)
        rw [hb] at this
        simpa [SS] using this
      obtain ⟨dj, hdj⟩ : ∃ d, dis[j]? = some d := ⟨dis[j]'(by omega), by simp [hlen, hjlt]⟩
      obtain ⟨hdo, hVj⟩ := hd j _ dj hojl hdj
      have hind : ∀ (i : Nat) di, dis[i]? = some di → i ≠ j → (SS listed i ≠ Nat.blt i j) → indep dj di = true := by
        intro i di hdi hne hpart
        rcases Nat.lt_or_gt_of_ne hne with hlt | hgt
        · rcases (hpair i j di dj hlt hdi hdj).1 with hm | hi
          · exfalso
            have hb : SS listed i = true := anc_ready hcl (hmask _ _ hm) hready
            rw [hb] at hpart
            exact hpart (by symm; rw [Nat.blt_eq]; exact hlt)
          · exact indep_symm hi
        · rcases (hpair j i dj di hgt hdj hdi).1 with hm | hi
          · exfalso
            have hb : SS listed i = false := by
              cases hSi : SS listed i
              · rfl
              · have := hcl.anc (hmask _ _ hm) hSi
                rw [hSj] at this; cases this
            rw [hb] at hpart
            exact hpart (by symm; rw [Bool.eq_false_iff]; simp [Nat.blt_eq]; omega)
          · exact hi
      have hlook := foldS_look (S := SS listed) (S' := fun k => Nat.blt k j) (looks := dj.looks) (rd := dj.rd) dis 0 s0 s0 (fun _ => rfl) (fun _ _ => rfl) (fun _ _ => ⟨rfl, rfl⟩) (fun q b hb hne => by
        rw [Nat.zero_add] at hne
        by_cases hqj : q = j
        · exfalso; subst hqj
          apply hne; rw [hSj]; symm; rw [Bool.eq_false_iff]; simp [Nat.blt_eq]
        · have hi := indep_symm (hind q b hb hqj hne)
          simp only [indep, Bool.and_eq_true] at hi
          obtain ⟨⟨h1, _⟩, ⟨h3, _⟩, _⟩ := hi
          refine ⟨fun d hdd => ?_, fun x hx hr => disj_spec h3 x hx (List.mem_append_left _ hr)⟩
          simp only [dOk, hdd, Bool.and_eq_true, Bool.not_eq_true'] at h1
          exact nmem_mem h1.1)
      have htake := foldS_take dis 0 j s0
      rw [Nat.zero_add] at htake
      rw [htake] at hlook
      have hS' : SS (listed.setIfInBounds j true) j = true := by
        simp only [SS, Array.getD_eq_getD_getElem?, Array.getElem?_setIfInBounds, if_true]
        simp [hsz, hjlt]
      have hSo : ∀ i, i ≠ j → SS (listed.setIfInBounds j true) i = SS listed i := by
        intro i hi
        simp only [SS, Array.getD_eq_getD_getElem?, Array.getElem?_setIfInBounds_ne (Ne.symm hi)]
      have hadd := foldS_add hSj hS' hSo dis 0 s0 dj (Nat.zero_le _) (by simpa using hdj) (fun q b hb hlt hs => by
        rw [Nat.zero_add] at hlt hs
        refine hind q b hb (by omega) ?_
        rw [hs]; intro e
        have := Nat.blt_eq ▸ e.symm; omega)
      have hcl' : Closed ops.toList (fun i => SS (listed.setIfInBounds j true) i = true) := by
        intro k o hk hSk i hi
        by_cases hkj : k = j
        · subst hkj
          by_cases hij : i = k
          · subst hij; exact hS'
          · rw [hSo i hij]; exact hready o hk i hi
        · rw [hSo k hkj] at hSk
          have := hcl k o hk hSk i hi
          by_cases hij : i = j
          · subst hij; exact hS'
          · rw [hSo i hij]; exact this
      have hcnt' : ((List.range ops.size).filter fun i => !(SS (listed.setIfInBounds j true) i)).length ≤ fuel := by
        have := count_lt (p := fun i => !(SS listed i)) (q := fun i => !(SS (listed.setIfInBounds j true) i)) (List.range ops.size) (fun x _ hx => by
          by_cases hxj : x = j
          · subst hxj; rw [hS'] at hx; cases hx
          · rw [hSo x hxj] at hx; exact hx) ⟨j, hj1, by rw [hSj]; rfl, by rw [hS']; rfl⟩
        omega
      have hsz' : (listed.setIfInBounds j true).size = ops.size := by simp [hsz]
      have hfree : dj.st0.n = dj.st1.n ∨ (foldS (SS listed) 0 dis s0).Free dj.rng := by
        by_cases hnn : dj.st0.n = dj.st1.n
        · exact .inl hnn
        · right
          refine foldS_free _ dis 0 s0 (free_of_bnd hbnd fun i hi => ?_) fun q b hb hs => ?_
          · have : Nat.ble dj.st0.n i = false := by rw [Bool.eq_false_iff]; simp; have := hdo.n; omega
            simp only [DI.rng, this, Bool.false_and]
          · rw [Nat.zero_add] at hs
            have hqj : q ≠ j := fun e => by subst e; rw [hSj] at hs; cases hs
            have hi : hasOk dj b = true := by
              by_cases hlt : q < j
              · exact (hpair q j b dj hlt hb hdj).2
              · have hi := hind q b hb hqj (by rw [hs]; intro e; have := Nat.blt_eq ▸ e.symm; omega)
                simp only [indep, Bool.and_eq_true] at hi
                exact hi.2.2.1
            simp only [hasOk, Bool.or_eq_true, Nat.beq_eq, Bool.not_eq_true', Bool.or_eq_false_iff] at hi
            exact hi.resolve_left hnn
      unfold wpOpIn
      rw [hoj]
      have step := draw_step (Q := Q) hdo hVj hlook hfree hr hn hrb hsim (K := wpAnyIn (Wd (st.rnd.map κ.o)) 0 P .any ops Q fuel (listed.setIfInBounds j true)) ?_
      · rw [hround κ1 hA] at step
        simp only
        split
        · rename_i hw; rw [if_pos hw] at step; exact step
        · rename_i hw; rw [if_neg hw] at step; exact ⟨fun _ _ => trivial, step⟩
      · intro κ2 a2 w2 s2 hK2 hsl ho ha hsim2
        refine ih _ κ2 a2 w2 hsz' hcnt' hcl' (hA.trans (hK2.agree (fun i hi => ?_) ρ) (Nat.le_refl _)) ?_
        · have : Nat.ble dj.st0.n i = false := by rw [Bool.eq_false_iff]; simp; have := hdo.n; omega
          simp only [DI.rng, this, Bool.false_and]
        · refine hsim2.congr (hadd.sl.trans hsl.symm) (fun x => (hadd.obj x).trans (ho x).symm) (fun x => (hadd.arr x).trans (ha x).symm) hf ?_
          intro l hl
          exact Nat.lt_of_lt_of_le (hrb l (hr ▸ hl)) hn
  have hinit : foldS (SS (Array.replicate ops.size false)) 0 dis s0 = s0 := by
    have : ∀ (l : List DI) (i : Nat) (s : DS), foldS (SS (Array.replicate ops.size false)) i l s = s := by
      intro l
      induction l with
      | nil => intro i s; rfl
      | cons b l ih =>
        intro i s
        have : SS (Array.replicate ops.size false) i = false := by
          simp only [SS, Array.getD_eq_getD_getElem?, Array.getElem?_replicate]
          split <;> rfl
        simp only [foldS, this, cond_false]; exact ih (i + 1) s
    exact this dis 0 s0
  refine wpIn_region_any hmix ?_
  have hlisted : ∀ i, SS (Array.replicate ops.size false) i = false := by
    intro i
    simp only [SS, Array.getD_eq_getD_getElem?, Array.getElem?_replicate]
    split <;> rfl
  refine main ops.size (Array.replicate ops.size false) κ a _ (by simp) ?_ ?_ (Agree.refl _ _ _) ?_
  · exact Nat.le_trans (List.length_filter_le _ _) (by simp)
  · intro k o hk hSk
    rw [hlisted k] at hSk; cases hSk
  · rw [hinit]
    obtain ⟨Ds, h⟩ := hs
    refine ⟨Ds, ⟨h.fr, h.df, h.dn, fun D hD => h.db D hD, h.sz, h.hp.below (fun k _ => rfl), ?_, hf, fun l hl => Nat.lt_of_lt_of_le (hrb l (hr ▸ hl)) hn⟩⟩
    exact ⟨h.bl.bl.drew, fun k hk hp => h.bl.kp k hk hp⟩
end Go.SX
