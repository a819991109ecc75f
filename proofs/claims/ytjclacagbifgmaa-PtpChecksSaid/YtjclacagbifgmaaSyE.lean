/- SxE: bounds on the names in use; the state; its meaning; operations that make or write memory. -/
import Derived.Test.YtjclacagbifgmaaSyD
import Derived.Laws.IdiomCopy
set_option linter.unusedSimpArgs false
set_option linter.unusedVariables false
set_option linter.unusedSectionVars false
noncomputable section
set_option linter.unusedSectionVars false
namespace Go.SX
open Go Go.RowKit

/-! ### the names in use lie below n -/
def IE.bnd (n : Nat) : IE → Bool
  | .v i => Nat.blt i n
  | .lit _ => true
  | .bin _ _ a b => a.bnd n && b.bnd n
  | .conv _ a => a.bnd n
  | .sel j _ x => Nat.blt j n && x.bnd n
  | .alen j => Nat.blt j n
  | .nat a => a.bnd n
  | .plus a b => a.bnd n && b.bnd n
  | .minus a b => a.bnd n && b.bnd n
  | .sw _ a b c d => a.bnd n && (b.bnd n && (c.bnd n && d.bnd n))
def BE.bnd (n : Nat) : BE → Bool
  | .v i => Nat.blt i n
  | .lit _ => true
  | .cmp _ a b => a.bnd n && b.bnd n
  | .not a => a.bnd n
  | .and a b => a.bnd n && b.bnd n
  | .or a b => a.bnd n && b.bnd n
  | .eq a b => a.bnd n && b.bnd n
  | .ite c a b => c.bnd n && (a.bnd n && b.bnd n)
  | .sel j _ x => Nat.blt j n && x.bnd n
  | .nl j => Nat.blt j n
def IE.bndL (n : Nat) : List IE → Bool
  | [] => true
  | e :: l => e.bnd n && IE.bndL n l
def CE.bnd (n : Nat) : CE → Bool
  | .e x => x.bnd n
  | .k j => Nat.blt j n
mutual
def SC.bnd (n : Nat) : SC → Bool
  | .int _ e => e.bnd n
  | .bool b => b.bnd n
  | .ptr id _ => Nat.blt id n
  | .aptr j _ _ x => Nat.blt j n && x.bnd n
  | .slice j _ _ x len cap => Nat.blt j n && (x.bnd n && (len.bnd n && cap.bnd n))
  | .oslice id _ _ _ => Nat.blt id n
  | .lit _ => true
  | .vx i => Nat.blt i n
  | .axs j _ x => Nat.blt j n && x.bnd n
  | .fn _ a b => SC.bndL n a && SC.bndL n b
  | .gslice id _ _ _ => Nat.blt id n
  | .str l => IE.bndL n l
  | .strA c x len => Nat.blt c n && (x.bnd n && len.bnd n)
  | .yld l => Nat.blt l n
  | .mref id => Nat.blt id n
def SC.bndL (n : Nat) : List SC → Bool
  | [] => true
  | s :: l => s.bnd n && SC.bndL n l
end
def SA.bnd (n : Nat) : SA → Bool
  | .c s => s.bnd n
  | .agg l => SC.bndL n l
def SA.bndL (n : Nat) : List SA → Bool
  | [] => true
  | s :: l => s.bnd n && SA.bndL n l
def SV.bnd (n : Nat) : SV → Bool
  | .a s => s.bnd n
  | .tup l => SA.bndL n l
  | .ite b x y => b.bnd n && (x.bnd n && y.bnd n)
  | .any => true
def SV.bndL (n : Nat) : List SV → Bool
  | [] => true
  | s :: l => s.bnd n && SV.bndL n l
def esBnd (n : Nat) : List (IE × SA) → Bool
  | [] => true
  | e :: l => (e.1.bnd n && e.2.bnd n) && esBnd n l
def SObj.bnd (n : Nat) : SObj → Bool
  | .cells cs _ _ => SC.bndL n cs
  | .loop r => r.sl.all (SV.bnd n)
  | .map _ es => esBnd n es
def HE.bnd (n : Nat) : HE → Bool
  | .obj id o => Nat.blt id n && o.bnd n
  | .arr j c _ _ => Nat.blt j n && Nat.blt c n
def Heap.bnd (n : Nat) : Heap → Bool
  | [] => true
  | e :: H => e.bnd n && Heap.bnd n H
def BE.bndL (n : Nat) : List BE → Bool
  | [] => true
  | b :: l => b.bnd n && BE.bndL n l
structure Agree (n : Nat) (ρ ρ' : Env) (κ κ' : Kap) : Prop where
  i : ∀ j, j < n → ρ'.i j = ρ.i j
  b : ∀ j, j < n → ρ'.b j = ρ.b j
  v : ∀ j, j < n → ρ'.v j = ρ.v j
  a : ∀ j, j < n → ρ'.a j = ρ.a j
  nl : ∀ j, j < n → ρ'.nl j = ρ.nl j
  o : ∀ j, j < n → κ'.o j = κ.o j
  kb : ∀ j, j < n → κ'.ab j = κ.ab j
  ko : ∀ j, j < n → κ'.ao j = κ.ao j
  kc : ∀ j, j < n → κ'.cap j = κ.cap j
theorem Agree.refl (n : Nat) (ρ : Env) (κ : Kap) : Agree n ρ ρ κ κ := ⟨fun _ _ => rfl, fun _ _ => rfl, fun _ _ => rfl, fun _ _ => rfl, fun _ _ => rfl, fun _ _ => rfl, fun _ _ => rfl, fun _ _ => rfl, fun _ _ => rfl⟩
theorem Agree.trans {n m : Nat} {ρ ρ' ρ'' : Env} {κ κ' κ'' : Kap} (h : Agree n ρ ρ' κ κ') (h' : Agree m ρ' ρ'' κ' κ'') (hm : n ≤ m) : Agree n ρ ρ'' κ κ'' :=
  ⟨fun j hj => (h'.i j (by omega)).trans (h.i j hj), fun j hj => (h'.b j (by omega)).trans (h.b j hj), fun j hj => (h'.v j (by omega)).trans (h.v j hj), fun j hj => (h'.a j (by omega)).trans (h.a j hj),
    fun j hj => (h'.nl j (by omega)).trans (h.nl j hj), fun j hj => (h'.o j (by omega)).trans (h.o j hj), fun j hj => (h'.kb j (by omega)).trans (h.kb j hj), fun j hj => (h'.ko j (by omega)).trans (h.ko j hj), fun j hj => (h'.kc j (by omega)).trans (h.kc j hj)⟩
section
variable {n : Nat} {ρ ρ' : Env} {κ κ' : Kap} (A : Agree n ρ ρ' κ κ')
include A
theorem at_agree {c : Nat} (hc : c < n) (f : Nat) (x : Int) : ρ'.at c f x = ρ.at c f x := by simp only [Env.at, A.a c hc]
theorem IE.agree : ∀ {e : IE}, e.bnd n = true → e.den ρ' = e.den ρ := by
  intro e
  induction e with
  | v i => intro h; exact A.i i (by simpa [IE.bnd, Nat.blt_eq] using h)
  | lit n => intro _; rfl
  | bin o k a b iha ihb => intro h; simp only [IE.bnd, Bool.and_eq_true] at h; simp only [IE.den, iha h.1, ihb h.2]
  | conv k a ih => intro h; simp only [IE.bnd] at h; simp only [IE.den, ih h]
  | sel j f x ih => intro h; simp only [IE.bnd, Bool.and_eq_true, Nat.blt_eq] at h; simp only [IE.den, ih h.2, at_agree A h.1]
  | alen c => intro h; simp only [IE.bnd, Nat.blt_eq] at h; simp only [IE.den, A.a c h]
  | nat a ih => intro h; simp only [IE.bnd] at h; simp only [IE.den, ih h]
  | plus a b iha ihb => intro h; simp only [IE.bnd, Bool.and_eq_true] at h; simp only [IE.den, iha h.1, ihb h.2]
  | minus a b iha ihb => intro h; simp only [IE.bnd, Bool.and_eq_true] at h; simp only [IE.den, iha h.1, ihb h.2]
  | sw o a b c d iha ihb ihc ihd => intro h; simp only [IE.bnd, Bool.and_eq_true] at h; simp only [IE.den, iha h.1, ihb h.2.1, ihc h.2.2.1, ihd h.2.2.2]
theorem BE.agree : ∀ {e : BE}, e.bnd n = true → e.den ρ' = e.den ρ := by
  intro e
  induction e with
  | v i => intro h; exact A.b i (by simpa [BE.bnd, Nat.blt_eq] using h)
  | lit n => intro _; rfl
  | cmp o a b => intro h; simp only [BE.bnd, Bool.and_eq_true] at h; simp only [BE.den, IE.agree A h.1, IE.agree A h.2]
  | not a ih => intro h; simp only [BE.bnd] at h; simp only [BE.den, ih h]
  | and a b iha ihb => intro h; simp only [BE.bnd, Bool.and_eq_true] at h; simp only [BE.den, iha h.1, ihb h.2]
  | or a b iha ihb => intro h; simp only [BE.bnd, Bool.and_eq_true] at h; simp only [BE.den, iha h.1, ihb h.2]
  | eq a b iha ihb => intro h; simp only [BE.bnd, Bool.and_eq_true] at h; simp only [BE.den, iha h.1, ihb h.2]
  | ite c a b ihc iha ihb => intro h; simp only [BE.bnd, Bool.and_eq_true] at h; simp only [BE.den, ihc h.1, iha h.2.1, ihb h.2.2]
  | sel j f x => intro h; simp only [BE.bnd, Bool.and_eq_true, Nat.blt_eq] at h; simp only [BE.den, IE.agree A h.2, at_agree A h.1]
  | nl j => intro h; exact A.nl j (by simpa [BE.bnd, Nat.blt_eq] using h)
theorem IE.agreeL {l : List IE} (h : IE.bndL n l = true) : l.map (IE.den ρ') = l.map (IE.den ρ) := by
  induction l with
  | nil => rfl
  | cons e l ih => simp only [IE.bndL, Bool.and_eq_true] at h; simp only [List.map_cons, IE.agree A h.1, ih h.2]
theorem CE.agree {e : CE} (h : e.bnd n = true) : e.den ρ' κ' = e.den ρ κ := by
  cases e with
  | e x => simp only [CE.den, IE.agree A (show x.bnd n = true from h)]
  | k j => exact A.kc j (by simpa [CE.bnd, Nat.blt_eq] using h)
theorem slAddr_agree {j : Nat} (hj : j < n) (s c : Nat) (x : Int) : slAddr ρ' κ' j s c x = slAddr ρ κ j s c x := by simp only [slAddr, A.nl j hj, A.kb j hj, A.ko j hj]
mutual
theorem SC.agree : ∀ (s : SC), s.bnd n = true → s.den ρ' κ' = s.den ρ κ
  | .int k e, h => by simp only [SC.bnd] at h; simp only [SC.den, IE.agree A h]
  | .bool b, h => by simp only [SC.bnd] at h; simp only [SC.den, BE.agree A h]
  | .ptr id off, h => by simp only [SC.bnd, Nat.blt_eq] at h; simp only [SC.den, A.o id h]
  | .aptr j s c x, h => by simp only [SC.bnd, Bool.and_eq_true, Nat.blt_eq] at h; simp only [SC.den, A.kb j h.1, A.ko j h.1, IE.agree A h.2]
  | .slice j s c x len cap, h => by simp only [SC.bnd, Bool.and_eq_true, Nat.blt_eq] at h; simp only [SC.den, slAddr_agree A h.1, IE.agree A h.2.1, IE.agree A h.2.2.1, CE.agree A h.2.2.2]
  | .oslice id a b c, h => by simp only [SC.bnd, Nat.blt_eq] at h; simp only [SC.den, A.o id h]
  | .lit v, _ => by simp only [SC.den]
  | .vx i, h => by simp only [SC.bnd, Nat.blt_eq] at h; simp only [SC.den, A.v i h]
  | .axs j f x, h => by simp only [SC.bnd, Bool.and_eq_true, Nat.blt_eq] at h; simp only [SC.den, at_agree A h.1, IE.agree A h.2]
  | .fn f a b, h => by simp only [SC.bnd, Bool.and_eq_true] at h; simp only [SC.den, SC.agreeL a h.1, SC.agreeL b h.2]
  | .gslice id _ _ _, h => by simp only [SC.bnd, Nat.blt_eq] at h; simp only [SC.den, A.o id h, A.kc id h]
  | .str l, h => by simp only [SC.bnd] at h; simp only [SC.den, IE.agreeL A h]
  | .strA c x len, h => by simp only [SC.bnd, Bool.and_eq_true, Nat.blt_eq] at h; simp only [SC.den, A.a c h.1, IE.agree A h.2.1, IE.agree A h.2.2]
  | .yld l, h => by simp only [SC.bnd, Nat.blt_eq] at h; simp only [SC.den, A.o l h]
  | .mref l, h => by simp only [SC.bnd, Nat.blt_eq] at h; simp only [SC.den, A.o l h]
theorem SC.agreeL : ∀ (l : List SC), SC.bndL n l = true → SC.denL ρ' κ' l = SC.denL ρ κ l
  | [], _ => by simp only [SC.denL]
  | s :: l, h => by simp only [SC.bndL, Bool.and_eq_true] at h; simp only [SC.denL, SC.agree s h.1, SC.agreeL l h.2]
end
theorem SC.agreeM {l : List SC} (h : SC.bndL n l = true) : l.map (SC.den ρ' κ') = l.map (SC.den ρ κ) := by
  rw [← SC.denL_eq, ← SC.denL_eq, SC.agreeL A l h]
theorem SA.agree {s : SA} (h : s.bnd n = true) : s.den ρ' κ' = s.den ρ κ := by
  cases s with
  | c s => exact SC.agree A s h
  | agg l => simp only [SA.den, SC.agreeM A h]
theorem SA.agreeM {l : List SA} (h : SA.bndL n l = true) : l.map (SA.den ρ' κ') = l.map (SA.den ρ κ) := by
  induction l with
  | nil => rfl
  | cons s l ih => simp only [SA.bndL, Bool.and_eq_true] at h; simp only [List.map_cons, SA.agree A h.1, ih h.2]
theorem SV.agree {s : SV} (h : s.bnd n = true) : s.den ρ' κ' = s.den ρ κ := by
  induction s with
  | a s => exact SA.agree A h
  | tup l => simp only [SV.den, SA.agreeM A h]
  | ite b x y ihx ihy => simp only [SV.bnd, Bool.and_eq_true] at h; simp only [SV.den, BE.agree A h.1, ihx h.2.1, ihy h.2.2]
  | any => rfl
theorem SV.agreeM {l : List SV} (h : SV.bndL n l = true) : l.map (SV.den ρ' κ') = l.map (SV.den ρ κ) := by
  induction l with
  | nil => rfl
  | cons s l ih => simp only [SV.bndL, Bool.and_eq_true] at h; simp only [List.map_cons, SV.agree A h.1, ih h.2]
omit A in
theorem SV.bndL_get {l : List SV} (h : SV.bndL n l = true) {t : Nat} {s : SV} (ht : l[t]? = some s) : s.bnd n = true := by
  induction l generalizing t with
  | nil => simp at ht
  | cons x l ih =>
    simp only [SV.bndL, Bool.and_eq_true] at h
    cases t with
    | zero => simp at ht; subst ht; exact h.1
    | succ t => simp at ht; exact ih h.2 ht
theorem SlotsOk.agree {sl : Sl} {a : Array Value} (h : SlotsOk ρ κ sl a) (hb : sl.all (SV.bnd n) = true) : SlotsOk ρ' κ' sl a :=
  ⟨h.1, fun t s hs ha => by rw [h.2 t s hs ha, SV.agree A (Sl.all_get (f := SV.bnd n) hb hs)]⟩
theorem es_agree : ∀ {es : List (IE × SA)}, esBnd n es = true → ∀ (k : IntKind), (es.map fun e => (Value.int k (e.1.den ρ'), e.2.den ρ' κ')) = es.map fun e => (.int k (e.1.den ρ), e.2.den ρ κ)
  | [], _, _ => rfl
  | e :: l, h, k => by simp only [esBnd, Bool.and_eq_true] at h; simp only [List.map_cons, IE.agree A h.1.1, SA.agree A h.1.2, es_agree h.2 k]
theorem SObj.agree {o : SObj} {id : Nat} (hi : id < n) (h : o.bnd n = true) {P : Program} {b : Obj} (hb : o.Is P ρ κ id b) : o.Is P ρ' κ' id b := by
  cases o with
  | cells cs ty g =>
    cases g with
    | none => simp only [SObj.Is] at hb ⊢; rw [SC.agreeM A h]; exact hb
    | some z => simp only [SObj.Is] at hb ⊢; rw [SC.agreeM A h, A.kc id hi]; exact hb
  | loop r =>
    obtain ⟨tm, f, ps, as, bo, D, fn, h0, h1, h2⟩ := hb
    exact ⟨tm, f, ps, as, bo, D, fn, h0, h1.agree A h, h2⟩
  | map k es =>
    obtain ⟨l, clock, h1, h2⟩ := hb
    exact ⟨l, clock, h1, by rw [h2, es_agree A h k]⟩
omit A in
theorem Heap.bnd_obj {H : Heap} (h : H.bnd n = true) {id : Nat} {o : SObj} (ho : H.obj? id = some o) : id < n ∧ o.bnd n = true := by
  induction H with
  | nil => cases ho
  | cons e H ih =>
    simp only [Heap.bnd, Bool.and_eq_true] at h
    cases e with
    | obj i c =>
      unfold Heap.obj? at ho
      cases hb : Nat.beq i id
      · rw [hb] at ho; exact ih h.2 ho
      · rw [hb] at ho; cases ho; rw [Nat.beq_eq] at hb; subst hb
        have := h.1; simp only [HE.bnd, Bool.and_eq_true, Nat.blt_eq] at this; exact this
    | arr j c p o => exact ih h.2 ho
omit A in
theorem Heap.bnd_arr {H : Heap} (h : H.bnd n = true) {j c : Nat} {p : List CK} {o : Option TypeId} (ho : H.arr? j = some (c, p, o)) : j < n ∧ c < n := by
  induction H with
  | nil => cases ho
  | cons e H ih =>
    simp only [Heap.bnd, Bool.and_eq_true] at h
    cases e with
    | arr i c' t o' =>
      unfold Heap.arr? at ho
      cases hb : Nat.beq i j
      · rw [hb] at ho; exact ih h.2 ho
      · rw [hb] at ho; cases ho; rw [Nat.beq_eq] at hb; subst hb
        have := h.1; simp only [HE.bnd, Bool.and_eq_true, Nat.blt_eq] at this; exact this
    | obj j c => exact ih h.2 ho
theorem HeapOk.agree {base : Bk} {H : Heap} {w : World} (h : HeapOk ρ κ base H w) (hb : H.bnd n = true) : HeapOk ρ' κ' base H w where
  obj id o ho := by
    obtain ⟨h1, h2⟩ := Heap.bnd_obj hb ho
    obtain ⟨⟨b, e1, e2⟩, e3⟩ := h.obj id o ho
    rw [A.o id h1]; exact ⟨⟨b, e1, SObj.agree A h1 h2 e2⟩, e3⟩
  inj id o id' o' ho ho' := by
    rw [A.o id (Heap.bnd_obj hb ho).1, A.o id' (Heap.bnd_obj hb ho').1]; exact h.inj id o id' o' ho ho'
  arr j c pat o ha := by
    obtain ⟨h1, h2⟩ := Heap.bnd_arr hb ha
    rw [A.a c h2, A.nl j h1, A.kb j h1, A.ko j h1]; exact h.arr j c pat o ha
  sep j c pat o id ob ha ho := by
    obtain ⟨h1, h2⟩ := Heap.bnd_arr hb ha
    rw [A.a c h2, A.nl j h1, A.kb j h1, A.o id (Heap.bnd_obj hb ho).1]; exact h.sep j c pat o id ob ha ho
  row j c pat E ha := by
    obtain ⟨h1, h2⟩ := Heap.bnd_arr hb ha
    simp only [rowVal, A.a c h2, A.nl j h1, A.kb j h1, A.ko j h1, A.kc j h1]; exact h.row j c pat E ha
  rsep j c pat E j' c' pat' o' ha ha' hne := by
    obtain ⟨h1, h2⟩ := Heap.bnd_arr hb ha
    obtain ⟨h1', h2'⟩ := Heap.bnd_arr hb ha'
    rw [A.a c' h2', A.nl j h1, A.nl j' h1', A.kb j h1, A.kb j' h1']; exact h.rsep j c pat E j' c' pat' o' ha ha' hne
theorem facts_agree {l : List BE} (hb : BE.bndL n l = true) (h : ∀ p ∈ l, p.den ρ = true) : ∀ p ∈ l, p.den ρ' = true := by
  induction l with
  | nil => intro p hp; cases hp
  | cons q l ih =>
    simp only [BE.bndL, Bool.and_eq_true] at hb
    intro p hp
    rcases List.mem_cons.1 hp with rfl | hp
    · rw [BE.agree A hb.1]; exact h _ (List.mem_cons_self ..)
    · exact ih hb.2 (fun r hr => h r (List.mem_cons_of_mem _ hr)) p hp
end

/-! ### which names occur in a value -/
/-- the places are the same, but at the names of p -/
structure KBut (p : Nat → Bool) (κ κ' : Kap) : Prop where
  o : ∀ j, p j = false → κ'.o j = κ.o j
  ab : ∀ j, p j = false → κ'.ab j = κ.ab j
  ao : ∀ j, p j = false → κ'.ao j = κ.ao j
  cap : ∀ j, p j = false → κ'.cap j = κ.cap j
def one (n : Nat) : Nat → Bool := fun j => Nat.beq j n
theorem beq_false {a b : Nat} (h : Nat.beq a b = false) : a ≠ b := fun e => by subst e; simp at h
theorem one_false {n j : Nat} : one n j = false ↔ j ≠ n := ⟨fun h => beq_false h, fun h => by cases hq : one n j; rfl; exact absurd (Nat.eq_of_beq_eq_true hq) h⟩
def CE.has (p : Nat → Bool) : CE → Bool
  | .e _ => false
  | .k j => p j
mutual
def SC.has (p : Nat → Bool) : SC → Bool
  | .ptr id _ => p id
  | .oslice id _ _ _ => p id
  | .aptr j _ _ _ => p j
  | .slice j _ _ _ _ cap => p j || cap.has p
  | .fn _ a b => SC.hasL p a || SC.hasL p b
  | .gslice id _ _ _ => p id
  | .yld id => p id
  | .mref id => p id
  | _ => false
def SC.hasL (p : Nat → Bool) : List SC → Bool
  | [] => false
  | s :: l => s.has p || SC.hasL p l
end
def SA.has (p : Nat → Bool) : SA → Bool
  | .c s => s.has p
  | .agg l => SC.hasL p l
def SA.hasL (p : Nat → Bool) : List SA → Bool
  | [] => false
  | s :: l => s.has p || SA.hasL p l
def SV.has (p : Nat → Bool) : SV → Bool
  | .a s => s.has p
  | .tup l => SA.hasL p l
  | .ite _ x y => x.has p || y.has p
  | .any => false
def SV.hasL (p : Nat → Bool) : List SV → Bool
  | [] => false
  | s :: l => s.has p || SV.hasL p l
def esHas (p : Nat → Bool) : List (IE × SA) → Bool
  | [] => false
  | e :: l => e.2.has p || esHas p l
def SObj.has (p : Nat → Bool) : SObj → Bool
  | .cells cs _ _ => SC.hasL p cs
  | .loop r => !(r.sl.all fun s => !(s.has p))
  | .map _ es => esHas p es
section
variable {p : Nat → Bool} {ρ : Env} {κ κ' : Kap} (K : KBut p κ κ')
include K
theorem CE.has_den {c : CE} (h : c.has p = false) : c.den ρ κ' = c.den ρ κ := by
  cases c with
  | e x => rfl
  | k j => exact K.cap j h
mutual
theorem SC.has_den : ∀ (s : SC), s.has p = false → s.den ρ κ' = s.den ρ κ
  | .int _ _, _ => by simp only [SC.den]
  | .bool _, _ => by simp only [SC.den]
  | .ptr id _, h => by simp only [SC.has] at h; simp only [SC.den, K.o id h]
  | .aptr j _ _ _, h => by simp only [SC.has] at h; simp only [SC.den, K.ab j h, K.ao j h]
  | .slice j _ _ _ _ _, h => by simp only [SC.has, Bool.or_eq_false_iff] at h; simp only [SC.den, slAddr, K.ab j h.1, K.ao j h.1, CE.has_den K h.2]
  | .oslice id _ _ _, h => by simp only [SC.has] at h; simp only [SC.den, K.o id h]
  | .lit _, _ => by simp only [SC.den]
  | .vx _, _ => by simp only [SC.den]
  | .axs _ _ _, _ => by simp only [SC.den]
  | .fn f a b, h => by simp only [SC.has, Bool.or_eq_false_iff] at h; simp only [SC.den, SC.hasL_den a h.1, SC.hasL_den b h.2]
  | .gslice id _ _ _, h => by simp only [SC.has] at h; simp only [SC.den, K.o id h, K.cap id h]
  | .str _, _ => by simp only [SC.den]
  | .strA _ _ _, _ => by simp only [SC.den]
  | .yld id, h => by simp only [SC.has] at h; simp only [SC.den, K.o id h]
  | .mref id, h => by simp only [SC.has] at h; simp only [SC.den, K.o id h]
theorem SC.hasL_den : ∀ (l : List SC), SC.hasL p l = false → SC.denL ρ κ' l = SC.denL ρ κ l
  | [], _ => by simp only [SC.denL]
  | s :: l, h => by simp only [SC.hasL, Bool.or_eq_false_iff] at h; simp only [SC.denL, SC.has_den s h.1, SC.hasL_den l h.2]
end
theorem SC.hasM_den {l : List SC} (h : SC.hasL p l = false) : l.map (SC.den ρ κ') = l.map (SC.den ρ κ) := by
  rw [← SC.denL_eq, ← SC.denL_eq, SC.hasL_den K l h]
theorem SA.has_den {s : SA} (h : s.has p = false) : s.den ρ κ' = s.den ρ κ := by
  cases s with
  | c s => exact SC.has_den K s h
  | agg l => simp only [SA.den, SC.hasM_den K (show SC.hasL p l = false from h)]
theorem SA.hasL_den {l : List SA} (h : SA.hasL p l = false) : l.map (SA.den ρ κ') = l.map (SA.den ρ κ) := by
  induction l with
  | nil => rfl
  | cons s l ih => simp only [SA.hasL, Bool.or_eq_false_iff] at h; simp only [List.map_cons, SA.has_den K h.1, ih h.2]
theorem SV.has_den {s : SV} (h : s.has p = false) : s.den ρ κ' = s.den ρ κ := by
  induction s with
  | a s => exact SA.has_den K h
  | tup l => simp only [SV.den, SA.hasL_den K (show SA.hasL p l = false from h)]
  | ite c x y ihx ihy => simp only [SV.has, Bool.or_eq_false_iff] at h; simp only [SV.den, ihx h.1, ihy h.2]
  | any => rfl
theorem SlotsOk.kbut {sl : Sl} {tm : Array Value} (h : SlotsOk ρ κ sl tm) (hs : (!(sl.all fun s => !(s.has p))) = false) : SlotsOk ρ κ' sl tm := by
  refine ⟨h.1, fun t s ht ha => ?_⟩
  have : s.has p = false := by
    have := Sl.all_get (f := fun s => !(s.has p)) (by simpa using hs) ht
    simpa using this
  rw [h.2 t s ht ha, SV.has_den K this]
theorem esHas_den : ∀ {es : List (IE × SA)}, esHas p es = false → ∀ (k : IntKind), (es.map fun e => (Value.int k (e.1.den ρ), e.2.den ρ κ')) = es.map fun e => (.int k (e.1.den ρ), e.2.den ρ κ)
  | [], _, _ => rfl
  | e :: l, h, k => by simp only [esHas, Bool.or_eq_false_iff] at h; simp only [List.map_cons, SA.has_den K h.1, esHas_den h.2 k]
theorem SObj.kbut {o : SObj} {id : Nat} (hi : p id = false) (h : o.has p = false) {P : Program} {b : Obj} (hb : o.Is P ρ κ id b) : o.Is P ρ κ' id b := by
  cases o with
  | cells cs ty g =>
    cases g with
    | none => simp only [SObj.Is] at hb ⊢; rw [SC.hasM_den K (show SC.hasL p cs = false from h)]; exact hb
    | some z => simp only [SObj.Is] at hb ⊢; rw [SC.hasM_den K (show SC.hasL p cs = false from h), K.cap id hi]; exact hb
  | loop r =>
    obtain ⟨tm, f, ps, as, bo, D, fn, h0, h1, h2⟩ := hb
    exact ⟨tm, f, ps, as, bo, D, fn, h0, h1.kbut K h, h2⟩
  | map k es =>
    obtain ⟨l, clock, h1, h2⟩ := hb
    exact ⟨l, clock, h1, by rw [h2, esHas_den K h k]⟩
end
section
variable {n : Nat} {p : Nat → Bool} (hp : ∀ j, j < n → p j = false)
include hp
theorem hp_blt {i : Nat} (h : Nat.blt i n = true) : p i = false := hp i (by simpa [Nat.blt_eq] using h)
mutual
theorem SC.bnd_has : ∀ (s : SC), s.bnd n = true → s.has p = false
  | .ptr id _, h => by simp only [SC.bnd] at h; simp only [SC.has, hp_blt hp h]
  | .oslice id _ _ _, h => by simp only [SC.bnd] at h; simp only [SC.has, hp_blt hp h]
  | .aptr j _ _ _, h => by simp only [SC.bnd, Bool.and_eq_true] at h; simp only [SC.has, hp_blt hp h.1]
  | .slice j _ _ _ _ cap, h => by
    simp only [SC.bnd, Bool.and_eq_true] at h
    simp only [SC.has, hp_blt hp h.1, Bool.false_or]
    cases cap with
    | e x => rfl
    | k i => exact hp_blt hp h.2.2.2
  | .fn f a b, h => by
    simp only [SC.bnd, Bool.and_eq_true] at h
    simp only [SC.has, SC.bndL_has a h.1, SC.bndL_has b h.2, Bool.or_self]
  | .gslice id _ _ _, h => by simp only [SC.bnd] at h; simp only [SC.has, hp_blt hp h]
  | .yld id, h => by simp only [SC.bnd] at h; simp only [SC.has, hp_blt hp h]
  | .mref id, h => by simp only [SC.bnd] at h; simp only [SC.has, hp_blt hp h]
  | .int _ _, _ => by simp only [SC.has]
  | .bool _, _ => by simp only [SC.has]
  | .lit _, _ => by simp only [SC.has]
  | .vx _, _ => by simp only [SC.has]
  | .axs _ _ _, _ => by simp only [SC.has]
  | .str _, _ => by simp only [SC.has]
  | .strA _ _ _, _ => by simp only [SC.has]
theorem SC.bndL_has : ∀ (l : List SC), SC.bndL n l = true → SC.hasL p l = false
  | [], _ => by simp only [SC.hasL]
  | s :: l, h => by simp only [SC.bndL, Bool.and_eq_true] at h; simp only [SC.hasL, SC.bnd_has s h.1, SC.bndL_has l h.2, Bool.or_self]
end
theorem SA.bnd_has {s : SA} (h : s.bnd n = true) : s.has p = false := by
  cases s with
  | c s => exact SC.bnd_has hp s h
  | agg l => exact SC.bndL_has hp l h
theorem SA.bndL_has {l : List SA} (h : SA.bndL n l = true) : SA.hasL p l = false := by
  induction l with
  | nil => rfl
  | cons s l ih => simp only [SA.bndL, Bool.and_eq_true] at h; simp only [SA.hasL, SA.bnd_has hp h.1, ih h.2, Bool.or_self]
theorem SV.bnd_has {s : SV} (h : s.bnd n = true) : s.has p = false := by
  induction s with
  | a s => exact SA.bnd_has hp h
  | tup l => exact SA.bndL_has hp h
  | ite c x y ihx ihy => simp only [SV.bnd, Bool.and_eq_true] at h; simp only [SV.has, ihx h.2.1, ihy h.2.2, Bool.or_self]
  | any => rfl
theorem SV.bndL_has {l : List SV} (h : SV.bndL n l = true) : SV.hasL p l = false := by
  induction l with
  | nil => rfl
  | cons s l ih => simp only [SV.bndL, Bool.and_eq_true] at h; simp only [SV.hasL, SV.bnd_has hp h.1, ih h.2, Bool.or_self]
theorem es_bnd_has : ∀ {es : List (IE × SA)}, esBnd n es = true → esHas p es = false
  | [], _ => rfl
  | e :: l, h => by simp only [esBnd, Bool.and_eq_true] at h; simp only [esHas, SA.bnd_has hp h.1.2, es_bnd_has h.2, Bool.or_self]
theorem SObj.bnd_has {o : SObj} (h : o.bnd n = true) : o.has p = false := by
  cases o with
  | cells cs ty g => exact SC.bndL_has hp cs h
  | loop r =>
    have h : r.sl.all (SV.bnd n) = true := h
    show (!(r.sl.all fun s => !(s.has p))) = false
    rw [Sl.all_of fun i s hs => by rw [SV.bnd_has hp (Sl.all_get (f := SV.bnd n) h hs)]; rfl]; rfl
  | map k es => exact es_bnd_has hp h
end
theorem one_lt {n m : Nat} (hm : n ≤ m) : ∀ j, j < n → one m j = false := fun j hj => one_false.2 (by omega)

/-! ### bounds of data -/
mutual
def LV.bnd (n : Nat) : LV → Bool
  | .i e => e.bnd n
  | .b e => e.bnd n
  | .v s => s.bnd n
  | .l a => a.bnd n
  | .n e => e.bnd n
def AE.bnd (n : Nat) : AE → Bool
  | .nil => true
  | .arr c => Nat.blt c n
  | .sub c x len => Nat.blt c n && (x.bnd n && len.bnd n)
  | .rows l => LV.bndLL n l
  | .cat a b => a.bnd n && b.bnd n
  | .rep e row => e.bnd n && LV.bndL n row
  | .set c x vs => Nat.blt c n && (x.bnd n && LV.bndL n vs)
  | .put c x a => Nat.blt c n && (x.bnd n && a.bnd n)
def LV.bndL (n : Nat) : List LV → Bool
  | [] => true
  | v :: l => v.bnd n && LV.bndL n l
def LV.bndLL (n : Nat) : List (List LV) → Bool
  | [] => true
  | r :: l => LV.bndL n r && LV.bndLL n l
end
section
variable {n : Nat} {ρ ρ' : Env} (A : Agree n ρ ρ' kap0 kap0)
include A
mutual
theorem LV.agree : ∀ (v : LV), v.bnd n = true → v.eval ρ' = v.eval ρ
  | .i e, h => by simp only [LV.bnd] at h; simp only [LV.eval, IE.agree A h]
  | .b e, h => by simp only [LV.bnd] at h; simp only [LV.eval, BE.agree A h]
  | .v s, h => by simp only [LV.bnd] at h; simp only [LV.eval, SC.agree A s h]
  | .l a, h => by simp only [LV.bnd] at h; simp only [LV.eval, AE.agree a h]
  | .n e, h => by simp only [LV.bnd] at h; simp only [LV.eval, BE.agree A h]
theorem AE.agree : ∀ (a : AE), a.bnd n = true → a.den ρ' = a.den ρ
  | .nil, _ => by simp only [AE.den]
  | .arr c, h => by simp only [AE.bnd, Nat.blt_eq] at h; simp only [AE.den, A.a c h]
  | .sub c x len, h => by simp only [AE.bnd, Bool.and_eq_true, Nat.blt_eq] at h; simp only [AE.den, A.a c h.1, IE.agree A h.2.1, IE.agree A h.2.2]
  | .rows l, h => by simp only [AE.bnd] at h; simp only [AE.den, LV.agreeLL l h]
  | .cat a b, h => by simp only [AE.bnd, Bool.and_eq_true] at h; simp only [AE.den, AE.agree a h.1, AE.agree b h.2]
  | .rep e row, h => by simp only [AE.bnd, Bool.and_eq_true] at h; simp only [AE.den, IE.agree A h.1, LV.agreeL row h.2]
  | .set c x vs, h => by simp only [AE.bnd, Bool.and_eq_true, Nat.blt_eq] at h; simp only [AE.den, A.a c h.1, IE.agree A h.2.1, LV.agreeL vs h.2.2]
  | .put c x a, h => by simp only [AE.bnd, Bool.and_eq_true, Nat.blt_eq] at h; simp only [AE.den, A.a c h.1, IE.agree A h.2.1, AE.agree a h.2.2]
theorem LV.agreeL : ∀ (l : List LV), LV.bndL n l = true → LV.evalL ρ' l = LV.evalL ρ l
  | [], _ => by simp only [LV.evalL]
  | v :: l, h => by simp only [LV.bndL, Bool.and_eq_true] at h; simp only [LV.evalL, LV.agree v h.1, LV.agreeL l h.2]
theorem LV.agreeLL : ∀ (l : List (List LV)), LV.bndLL n l = true → LV.evalLL ρ' l = LV.evalLL ρ l
  | [], _ => by simp only [LV.evalLL]
  | r :: l, h => by simp only [LV.bndLL, Bool.and_eq_true] at h; simp only [LV.evalLL, LV.agreeL r h.1, LV.agreeLL l h.2]
end
end

/-! ### the state -/
structure St where
  sl : Sl
  H : Heap
  n : Nat
  facts : List BE
  d : Nat          -- how many loops are open
  fn : Nat         -- the function whose code is walked
  rnd : Option Nat -- the loop over a function, of which this frame is a round
def St.bnd (st : St) : Bool := (st.sl.all (SV.bnd st.n) && (st.H.bnd st.n && BE.bndL st.n st.facts)) && (match st.rnd with
  | some l => Nat.blt l st.n
  | none => true)
/-- more blocks that may not turn -/
def Bk.plus (B : Bk) (Ds : List Nat) (t : Nat) (ht : B.top ≤ t) (hD : ∀ D ∈ Ds, D < t) : Bk := ⟨B.P, B.b, t, fun k => B.keep k ∨ k ∈ Ds, Nat.le_trans B.le ht, fun k hk => hk.elim (fun h => Nat.lt_of_lt_of_le (B.lt k h) ht) (hD k)⟩
/-- what B forbids, B' forbids -/
structure Bk.Le (B B' : Bk) : Prop where
  P : B'.P = B.P
  b : B'.b = B.b
  keep : ∀ k, B.keep k → B'.keep k
  top : B.top ≤ B'.top
theorem Bk.Le.refl (B : Bk) : B.Le B := ⟨rfl, rfl, fun _ h => h, Nat.le_refl _⟩
theorem Bk.Le.plus (B : Bk) (Ds : List Nat) (t : Nat) (ht : B.top ≤ t) (hD : ∀ D ∈ Ds, D < t) : B.Le (B.plus Ds t ht hD) := ⟨rfl, rfl, fun _ h => .inl h, ht⟩
theorem HeapOk.le {ρ : Env} {κ : Kap} {B B' : Bk} {H : Heap} {w : World} (h : HeapOk ρ κ B' H w) (hl : B.Le B') : HeapOk ρ κ B H w :=
  ⟨fun id o g => by obtain ⟨h1, h2, h3⟩ := h.obj id o g; rw [hl.P, hl.b] at *; exact ⟨h1, h2, fun hk => h3 (hl.keep _ hk)⟩, h.inj, h.arr, h.sep,
    fun j c p E g => by obtain ⟨h1, h2, h3⟩ := h.row j c p E g; rw [hl.b] at h2; exact ⟨h1, h2, fun hn hk => h3 hn (hl.keep _ hk)⟩, h.rsep⟩
theorem Kept.le {B B' : Bk} {w w' : World} (h : Kept B' w w') (hl : B.Le B') : Kept B w w' := ⟨by have := h.bl; rw [hl.b] at this; exact this, fun k hk hp => h.kp k hk (hl.keep k hp)⟩
def markOf (D : Nat) : Deferred := { target := .collected D, args := #[] }
/-- WHAT A STATE SAYS OF A FRAME AND A WORLD; Ds: the blocks of the deferred calls of the frame's loops over functions. -/
structure SimD (base : Bk) (w0 : World) (Ds : List Nat) (ρ : Env) (κ : Kap) (st : St) (a : Act) (w : World) : Prop where
  fr : FrameOk ρ κ st.sl a
  df : a.defers = Ds.map markOf
  dn : Ds.Nodup
  db : ∀ D ∈ Ds, D < w.heap.size ∧ base.b ≤ D ∧ ¬ base.keep D ∧ w.heap[D]? = some (.deferred (some []))
  sz : base.top ≤ w.heap.size
  hp : HeapOk ρ κ (base.plus Ds w.heap.size sz fun D h => (db D h).1) st.H w
  bl : Kept base w0 w
  fc : ∀ p ∈ st.facts, p.den ρ = true
  rb : ∀ l, st.rnd = some l → l < st.n
def Sim (base : Bk) (w0 : World) (ρ : Env) (κ : Kap) (st : St) (a : Act) (w : World) : Prop := ∃ Ds, SimD base w0 Ds ρ κ st a w
theorem Sim.agree {base : Bk} {w0 : World} {ρ ρ' : Env} {κ κ' : Kap} {st : St} {a : Act} {w : World} (h : Sim base w0 ρ κ st a w) (A : Agree st.n ρ ρ' κ κ') (hb : st.bnd = true) : Sim base w0 ρ' κ' st a w := by
  simp only [St.bnd, Bool.and_eq_true] at hb
  obtain ⟨Ds, h⟩ := h
  exact ⟨Ds, h.fr.agree A hb.1.1, h.df, h.dn, h.db, h.sz, h.hp.agree A hb.1.2.1, h.bl, facts_agree A hb.1.2.2 h.fc, h.rb⟩
def St.put (st : St) (d : Option Nat) (v : SV) : St := match d with
  | some d => { st with sl := setSlot st.sl d v }
  | none => st
theorem SlotsOk.put {ρ : Env} {κ : Kap} {sl : Sl} {tm : Array Value} (h : SlotsOk ρ κ sl tm) (d : Nat) {v : SV} {u : Value} (hv : v.isAny = false → u = v.den ρ κ) : SlotsOk ρ κ (setSlot sl d v) (tm.setIfInBounds d u) := by
  have key : ∀ t s, slot (setSlot sl d v) t = some s → (t = d ∧ s = v ∧ d < tm.size) ∨ (t ≠ d ∧ slot sl t = some s) := by
    intro t s hs
    rw [slot_setSlot] at hs
    split at hs
    · rename_i e
      obtain ⟨x, hx, hx2⟩ := Option.map_eq_some_iff.1 hs
      exact .inl ⟨e, hx2.symm, h.1 d x hx⟩
    · rename_i e; exact .inr ⟨e, hs⟩
  refine ⟨fun t s hs => ?_, fun t s hs ha => ?_⟩
  · rw [Array.size_setIfInBounds]
    rcases key t s hs with ⟨rfl, _, hd⟩ | ⟨_, hs⟩
    · exact hd
    · exact h.1 t s hs
  · simp only [Array.getElem?_setIfInBounds]
    rcases key t s hs with ⟨rfl, rfl, hd⟩ | ⟨hne, hs⟩
    · rw [if_pos rfl, if_pos hd, hv ha]
    · rw [if_neg hne.symm]; exact h.2 t s hs ha
theorem Sim.put {base : Bk} {w0 : World} {ρ : Env} {κ : Kap} {st : St} {a : Act} {w : World} (h : Sim base w0 ρ κ st a w) (d : Option Nat) {v : SV} {u : Value} (hv : v.isAny = false → u = v.den ρ κ) : Sim base w0 ρ κ (st.put d v) (a.put d u) w := by
  cases d with
  | none => exact h
  | some d => obtain ⟨Ds, h⟩ := h; exact ⟨Ds, h.fr.put d hv, h.df, h.dn, h.db, h.sz, h.hp, h.bl, h.fc, h.rb⟩

/-! ### new blocks, turned blocks -/
def Kap.setO (κ : Kap) (n b c : Nat) : Kap := { κ with o := fun j => if j = n then b else κ.o j, cap := fun j => if j = n then c else κ.cap j }
theorem Agree.setO (n b c : Nat) (ρ : Env) (κ : Kap) : Agree n ρ ρ κ (κ.setO n b c) :=
  ⟨fun _ _ => rfl, fun _ _ => rfl, fun _ _ => rfl, fun _ _ => rfl, fun _ _ => rfl, fun j hj => by simp [Kap.setO]; omega, fun _ _ => rfl, fun _ _ => rfl, fun j hj => by simp [Kap.setO]; omega⟩
theorem KBut.setO (n b c : Nat) (κ : Kap) : KBut (one n) κ (κ.setO n b c) := ⟨fun j hj => by simp [Kap.setO, one_false.1 hj], fun _ _ => rfl, fun _ _ => rfl, fun j hj => by simp [Kap.setO, one_false.1 hj]⟩
theorem KBut.agree {n : Nat} {p : Nat → Bool} {κ κ' : Kap} (K : KBut p κ κ') (hp : ∀ j, j < n → p j = false) (ρ : Env) : Agree n ρ ρ κ κ' :=
  ⟨fun _ _ => rfl, fun _ _ => rfl, fun _ _ => rfl, fun _ _ => rfl, fun _ _ => rfl, fun j hj => K.o j (hp j hj), fun j hj => K.ab j (hp j hj), fun j hj => K.ao j (hp j hj), fun j hj => K.cap j (hp j hj)⟩
theorem HeapOk.lt {ρ : Env} {κ : Kap} {base : Bk} {H : Heap} {w : World} (h : HeapOk ρ κ base H w) {id : Nat} {o : SObj} (ho : H.obj? id = some o) : κ.o id < w.heap.size := by
  obtain ⟨⟨b, h1, _⟩, _⟩ := h.obj id o ho
  exact (Array.getElem?_eq_some_iff.1 h1).1
/-- an array's block is there, if it holds anything or is a row -/
theorem HeapOk.arrlt {ρ : Env} {κ : Kap} {base : Bk} {H : Heap} {w : World} (h : HeapOk ρ κ base H w) {j c : Nat} {pat : List CK} {o : Option TypeId} (ha : H.arr? j = some (c, pat, o)) (hc : (ρ.a c ≠ [] ∧ pat ≠ []) ∨ (o.isSome = true ∧ ρ.nl j = false)) : κ.ab j < w.heap.size := by
  rcases hc with ⟨hc, hp⟩ | ⟨ho, hn⟩
  · cases pat with
    | nil => exact absurd rfl hp
    | cons k pat =>
      cases hl : ρ.a c with
      | nil => exact absurd hl hc
      | cons r l => exact World.block_lt_of_cell? w _ ((h.arr j c _ o ha).1 0 0 r k (by rw [hl]; rfl) rfl)
  · cases o with
    | none => cases ho
    | some E =>
      obtain ⟨_, hrow, _⟩ := h.row j c pat E ha
      have := hrow.lt (κ.ab j) (by simp [rowVal, hn, Value.ownBlock])
      exact this.2
/-- Worlds in which the blocks stand that the heap speaks of. -/
theorem HeapOk.stands {ρ : Env} {κ : Kap} {base : Bk} {H : Heap} {w w' : World} (h : HeapOk ρ κ base H w) (ho : ∀ id o, H.obj? id = some o → w'.heap[κ.o id]? = w.heap[κ.o id]?)
    (ha : ∀ j c pat o, H.arr? j = some (c, pat, o) → (ρ.a c ≠ [] ∧ pat ≠ []) ∨ (o.isSome = true ∧ ρ.nl j = false) → w'.heap[κ.ab j]? = w.heap[κ.ab j]?) : HeapOk ρ κ base H w' where
  obj id o hi := by rw [ho id o hi]; exact h.obj id o hi
  inj := h.inj
  arr j c pat o hi := by
    refine ⟨fun x f r k hx hf => ?_, (h.arr j c pat o hi).2⟩
    have := (h.arr j c pat o hi).1 x f r k hx hf
    rw [World.cell?_of_block (w := w) (ha j c pat o hi (.inl ⟨fun e => by rw [e] at hx; simp at hx, fun e => by subst e; simp at hf⟩))]; exact this
  sep := h.sep
  row j c pat E hi := by
    obtain ⟨h1, h2, h4⟩ := h.row j c pat E hi
    refine ⟨h1, ⟨h2.1, ?_⟩, h4⟩
    rcases h2.2 with h3 | ⟨g, cap, cur, hv, hg, hh, hr⟩
    · exact .inl h3
    · have hn : ρ.nl j = false ∧ κ.ab j = g := by
        simp only [rowVal] at hv
        cases hn : ρ.nl j
        · rw [hn] at hv; simp at hv; exact ⟨rfl, hv.1⟩
        · rw [hn] at hv; simp at hv
      have := ha j c pat _ hi (.inr ⟨rfl, hn.1⟩)
      rw [hn.2] at this
      exact .inr ⟨g, cap, cur, hv, hg, by rw [this]; exact hh, hr⟩
  rsep := h.rsep
/-- nothing that existed has turned -/
theorem HeapOk.below {ρ : Env} {κ : Kap} {base : Bk} {H : Heap} {w w' : World} (h : HeapOk ρ κ base H w) (hb : ∀ k, k < w.heap.size → w'.heap[k]? = w.heap[k]?) : HeapOk ρ κ base H w' :=
  h.stands (fun _ _ ho => hb _ (h.lt ho)) (fun _ _ _ _ ha hex => hb _ (h.arrlt ha hex))
/-- no part of a heap bears a name of p -/
structure Heap.Free (p : Nat → Bool) (H : Heap) : Prop where
  obj : ∀ id o, H.obj? id = some o → p id = false ∧ o.has p = false
  arr : ∀ j c pat o, H.arr? j = some (c, pat, o) → p j = false
theorem Heap.free_of_bnd {n : Nat} {p : Nat → Bool} (hp : ∀ j, j < n → p j = false) {H : Heap} (h : H.bnd n = true) : H.Free p :=
  ⟨fun id o ho => ⟨hp _ (Heap.bnd_obj h ho).1, SObj.bnd_has hp (Heap.bnd_obj h ho).2⟩, fun j c pat o ha => hp _ (Heap.bnd_arr h ha).1⟩
/-- the places turn at names that do not occur -/
theorem HeapOk.kbut {ρ : Env} {κ κ' : Kap} {base : Bk} {H : Heap} {w : World} (h : HeapOk ρ κ base H w) {p : Nat → Bool} (hf : H.Free p) (K : KBut p κ κ') : HeapOk ρ κ' base H w where
  obj id o ho := by
    obtain ⟨⟨b, e1, e2⟩, e3⟩ := h.obj id o ho
    rw [K.o id (hf.obj id o ho).1]; exact ⟨⟨b, e1, SObj.kbut K (hf.obj id o ho).1 (hf.obj id o ho).2 e2⟩, e3⟩
  inj id o id' o' ho ho' := by rw [K.o id (hf.obj id o ho).1, K.o id' (hf.obj id' o' ho').1]; exact h.inj id o id' o' ho ho'
  arr j c pat o ha := by rw [K.ab j (hf.arr j c pat o ha), K.ao j (hf.arr j c pat o ha)]; exact h.arr j c pat o ha
  sep j c pat o id ob ha ho := by rw [K.ab j (hf.arr j c pat o ha), K.o id (hf.obj id ob ho).1]; exact h.sep j c pat o id ob ha ho
  row j c pat E ha := by simp only [rowVal, K.ab j (hf.arr j c pat _ ha), K.ao j (hf.arr j c pat _ ha), K.cap j (hf.arr j c pat _ ha)]; exact h.row j c pat E ha
  rsep j c pat E j' c' pat' o' ha ha' := by rw [K.ab j (hf.arr j c pat _ ha), K.ab j' (hf.arr j' c' pat' o' ha')]; exact h.rsep j c pat E j' c' pat' o' ha ha'
theorem obj?_cons (id : Nat) (o : SObj) (H : Heap) (x : Nat) : Heap.obj? (.obj id o :: H) x = if x = id then some o else H.obj? x := by
  simp only [Heap.obj?]
  cases hq : Nat.beq id x
  · have : x ≠ id := (beq_false hq).symm
    simp [this]
  · rw [Nat.beq_eq] at hq; subst hq; simp
theorem arr?_cons (n c : Nat) (pat : List CK) (o : Option TypeId) (H : Heap) (x : Nat) : Heap.arr? (.arr n c pat o :: H) x = if x = n then some (c, pat, o) else H.arr? x := by
  simp only [Heap.arr?]
  cases hq : Nat.beq n x
  · have : x ≠ n := (beq_false hq).symm
    simp [this]
  · rw [Nat.beq_eq] at hq; subst hq; simp
theorem HeapOk.sub {ρ : Env} {κ : Kap} {base : Bk} {H H' : Heap} {w : World} (h : HeapOk ρ κ base H w) (ho : ∀ x y, H'.obj? x = some y → H.obj? x = some y) (ha : ∀ x y, H'.arr? x = some y → H.arr? x = some y) : HeapOk ρ κ base H' w :=
  ⟨fun id o g => h.obj id o (ho _ _ g), fun id o id' o' g g' => h.inj id o id' o' (ho _ _ g) (ho _ _ g'), fun j c p o g => h.arr j c p o (ha _ _ g), fun j c p o id ob g g' => h.sep j c p o id ob (ha _ _ g) (ho _ _ g'), fun j c p E g => h.row j c p E (ha _ _ g), fun j c p E j' c' p' o' g g' => h.rsep j c p E j' c' p' o' (ha _ _ g) (ha _ _ g')⟩
/-- without one block of the call's own -/
def Heap.delO (H : Heap) (id : Nat) : Heap := match H with
  | [] => []
  | .obj i o :: H => bif Nat.beq i id then Heap.delO H id else .obj i o :: Heap.delO H id
  | .arr i c p o :: H => .arr i c p o :: Heap.delO H id
theorem Heap.delO_arr (H : Heap) (j x : Nat) : (H.delO j).arr? x = H.arr? x := by
  induction H with
  | nil => rfl
  | cons e H ih =>
    cases e with
    | obj i o => simp only [Heap.delO]; cases Nat.beq i j <;> simp only [cond_true, cond_false, Heap.arr?, ih]
    | arr i c p o => simp only [Heap.delO, Heap.arr?, ih]
theorem Heap.delO_obj (H : Heap) (j x : Nat) : (H.delO j).obj? x = if x = j then none else H.obj? x := by
  induction H with
  | nil => simp [Heap.delO, Heap.obj?]
  | cons e H ih =>
    cases e with
    | arr i c p o => simp only [Heap.delO, Heap.obj?, ih]
    | obj i o =>
      simp only [Heap.delO]
      cases hq : Nat.beq i j
      · simp only [cond_false, Heap.obj?]
        cases hx : Nat.beq i x
        · simp only [cond_false]; exact ih
        · rw [Nat.beq_eq] at hx; subst hx
          rw [if_neg (beq_false hq)]; rfl
      · rw [Nat.beq_eq] at hq; subst hq
        simp only [cond_true, Heap.obj?, ih]
        cases hx : Nat.beq i x
        · rfl
        · rw [Nat.beq_eq] at hx; subst hx; simp
def Heap.delS (H : Heap) : Option Nat → Heap
  | none => H
  | some id => H.delO id
theorem Heap.delS_arr (H : Heap) (s : Option Nat) (x : Nat) : (H.delS s).arr? x = H.arr? x := by cases s <;> simp [Heap.delS, Heap.delO_arr]
theorem Heap.delS_obj {H : Heap} {s : Option Nat} {x : Nat} {o : SObj} (h : (H.delS s).obj? x = some o) : H.obj? x = some o ∧ s ≠ some x := by
  cases s with
  | none => exact ⟨h, by simp⟩
  | some id =>
    simp only [Heap.delS, Heap.delO_obj] at h
    split at h
    · cases h
    · rename_i hne; exact ⟨h, by simp; exact fun e => hne e.symm⟩
/-- A NEW BLOCK, or one that another name now bears. -/
theorem HeapOk.newObj {ρ : Env} {κ κ' : Kap} {base : Bk} {H : Heap} {w w' : World} (h : HeapOk ρ κ base H w) (hz : base.top ≤ w.heap.size) {n : Nat} (hf : H.Free (one n)) (K : KBut (one n) κ κ') {s : Option Nat} (hs : ∀ id, s = some id → ∃ o, H.obj? id = some o)
    {o : SObj} {b : Obj} (hb : w'.heap[κ'.o n]? = some b) (hi : o.Is base.P ρ κ' n b) (hn : κ'.o n = w.heap.size ∨ ∃ id, s = some id ∧ κ'.o n = κ.o id)
    (hst : ∀ k, k < w.heap.size → (∀ id, s = some id → k ≠ κ.o id) → w'.heap[k]? = w.heap[k]?) : HeapOk ρ κ' base (.obj n o :: H.delS s) w' := by
  have hF : (H.delS s).Free (one n) := ⟨fun id o ho => hf.obj id o (Heap.delS_obj ho).1, fun j c pat o ha => hf.arr j c pat o (by rw [Heap.delS_arr] at ha; exact ha)⟩
  have hne : ∀ id o, (H.delS s).obj? id = some o → ∀ id', s = some id' → κ.o id ≠ κ.o id' := fun id o ho id' e he => by
    obtain ⟨g1, g2⟩ := Heap.delS_obj ho
    obtain ⟨o', g3⟩ := hs id' e
    exact g2 (by rw [e, h.inj _ _ _ _ g1 g3 he])
  have h1 : HeapOk ρ κ base (H.delS s) w' := (h.sub (fun x y g => (Heap.delS_obj g).1) (fun x y g => by rw [Heap.delS_arr] at g; exact g)).stands
    (fun id o ho => hst _ (h.lt (Heap.delS_obj ho).1) (hne id o ho))
    (fun j c pat o ha hex => by
      rw [Heap.delS_arr] at ha
      exact hst _ (h.arrlt ha hex) fun id e => by obtain ⟨o', g3⟩ := hs id e; exact h.sep j c pat o id o' ha g3 hex)
  have h2 := h1.kbut hF K
  have part : ∀ id o, (H.delS s).obj? id = some o → κ'.o id ≠ κ'.o n := fun id o ho => by
    rw [K.o id (hF.obj id o ho).1]
    rcases hn with e | ⟨id', e1, e⟩
    · have := h.lt (Heap.delS_obj ho).1; omega
    · rw [e]; exact hne id o ho id' e1
  constructor
  · intro id x ho
    rw [obj?_cons] at ho
    split at ho
    · rename_i e; cases ho; subst e
      refine ⟨⟨b, hb, hi⟩, ?_⟩
      rcases hn with e | ⟨id', e1, e⟩
      · rw [e]; exact base.new hz
      · obtain ⟨o', g3⟩ := hs id' e1; rw [e]; exact (h.obj _ _ g3).2
    · exact h2.obj id x ho
  · intro id x id' x' ho ho' he
    rw [obj?_cons] at ho ho'
    split at ho <;> split at ho'
    · rename_i e e'; rw [e, e']
    · rename_i e e'; subst e; exact absurd he.symm (part _ _ ho')
    · rename_i e e'; subst e'; exact absurd he (part _ _ ho)
    · exact h2.inj _ _ _ _ ho ho' he
  · exact fun j c pat o ha => h2.arr j c pat o ha
  · intro j c pat o' id ob ha ho hex
    rw [obj?_cons] at ho
    split at ho
    · rename_i e; subst e
      have ha' : (H.delS s).arr? j = some (c, pat, o') := ha
      rw [K.ab j (hF.arr j c pat o' ha')]
      rw [Heap.delS_arr] at ha'
      rcases hn with e | ⟨id', e1, e⟩
      · have := h.arrlt ha' hex; omega
      · obtain ⟨o2, g3⟩ := hs id' e1; rw [e]; exact h.sep j c pat o' id' o2 ha' g3 hex
    · exact h2.sep j c pat o' id ob ha ho hex
  · exact fun j c pat E ha => h2.row j c pat E ha
  · exact fun j c pat E j' c' pat' o' ha ha' => h2.rsep j c pat E j' c' pat' o' ha ha'
theorem HeapOk.alloc {ρ : Env} {κ : Kap} {base : Bk} {H : Heap} {w : World} (h : HeapOk ρ κ base H w) {n : Nat} (hf : H.Free (one n)) (hz : base.top ≤ w.heap.size) (c : Nat) (o : SObj) (b : Obj) (hi : o.Is base.P ρ (κ.setO n w.heap.size c) n b) :
    HeapOk ρ (κ.setO n w.heap.size c) base (.obj n o :: H) (w.alloc b) := by
  have hn : (κ.setO n w.heap.size c).o n = w.heap.size := by simp [Kap.setO]
  refine h.newObj (s := none) hz hf (KBut.setO n _ c κ) (fun id e => by cases e) (b := b) ?_ hi (.inl hn) fun k hk _ => Below.heap_alloc w _ k hk
  rw [hn]; show (w.heap.push _)[w.heap.size]? = _; simp

/-! ### a store -/
theorem setCells_heap (b : Nat) : ∀ (vs : List Value) (o : Nat) (w : World) (C : Array Value) (ty : TypeId), w.heap[b]? = some (.cells C ty (0, 0)) →
    (w.setCells b o vs).heap[b]? = some (.cells (vs.zipIdx.foldl (fun a x => a.setIfInBounds (o + x.2) x.1) C) ty (0, 0)) ∧ (w.setCells b o vs).heap.size = w.heap.size ∧
    (∀ k, k ≠ b → (w.setCells b o vs).heap[k]? = w.heap[k]?) ∧ (w.setCells b o vs).os = w.os ∧ (w.setCells b o vs).tape = w.tape ∧ (w.setCells b o vs).output = w.output
  | [], o, w, C, ty, h => ⟨h, rfl, fun _ _ => rfl, rfl, rfl, rfl⟩
  | v :: vs, o, w, C, ty, h => by
    have h1 : (w.setCell ⟨b, o, none⟩ v).heap[b]? = some (.cells (C.setIfInBounds o v) ty (0, 0)) := by
      simp only [World.setCell, Array.getElem?_modify, if_true, h, Option.map_some]; rfl
    obtain ⟨k1, k2, k3, k4, k5, k6⟩ := setCells_heap b vs (o + 1) (w.setCell ⟨b, o, none⟩ v) _ ty h1
    refine ⟨?_, ?_, ?_, ?_, ?_, ?_⟩
    · rw [World.setCells, k1, List.zipIdx_cons, List.foldl_cons]
      congr 1
      have : ∀ (l : List Value) (m : Nat) (A : Array Value), (l.zipIdx m).foldl (fun a x => a.setIfInBounds (o + 1 + x.2) x.1) A = (l.zipIdx (m + 1)).foldl (fun a x => a.setIfInBounds (o + x.2) x.1) A := by
        intro l
        induction l with
        | nil => intro m A; rfl
        | cons x l ih => intro m A; simp only [List.zipIdx_cons, List.foldl_cons]; rw [ih]; congr 2; omega
      rw [this]
      rfl
    · rw [World.setCells, k2, World.size_setCell]
    · intro k hk; rw [World.setCells, k3 k hk, Below.heap_setCell _ _ _ _ hk]
    · rw [World.setCells, k4]; rfl
    · rw [World.setCells, k5]; rfl
    · rw [World.setCells, k6]; rfl
def Heap.setObj (H : Heap) (id : Nat) (o : SObj) : Heap :=
  match H with
  | [] => []
  | .obj i c :: H => bif Nat.beq i id then .obj i o :: Heap.setObj H id o else .obj i c :: Heap.setObj H id o
  | .arr j c p q :: H => .arr j c p q :: Heap.setObj H id o
theorem Heap.obj?_setObj (H : Heap) (id : Nat) (o : SObj) (i : Nat) : (H.setObj id o).obj? i = if i = id then (H.obj? i).map fun _ => o else H.obj? i := by
  induction H with
  | nil => simp [Heap.setObj, Heap.obj?]
  | cons e H ih =>
    cases e with
    | obj j c =>
      unfold Heap.setObj
      cases hq : Nat.beq j id
      · simp only [cond_false, Heap.obj?]
        cases hi : Nat.beq j i
        · simp only [cond_false]; exact ih
        · rw [Nat.beq_eq] at hi; subst hi
          rw [if_neg (beq_false hq)]; rfl
      · rw [Nat.beq_eq] at hq; subst hq
        simp only [cond_true, Heap.obj?]
        cases hi : Nat.beq j i
        · simp only [cond_false]; exact ih
        · rw [Nat.beq_eq] at hi; subst hi; simp
    | arr j c p o => simp only [Heap.setObj, Heap.obj?]; exact ih
theorem Heap.arr?_setObj (H : Heap) (id : Nat) (o : SObj) (i : Nat) : (H.setObj id o).arr? i = H.arr? i := by
  induction H with
  | nil => rfl
  | cons e H ih =>
    cases e with
    | obj j c =>
      unfold Heap.setObj
      cases hq : Nat.beq j id <;> simp only [cond_true, cond_false, Heap.arr?] <;> exact ih
    | arr j c p o => simp only [Heap.setObj, Heap.arr?, ih]
/-- A BLOCK THAT TURNS. -/
theorem HeapOk.setObj {ρ : Env} {κ : Kap} {base : Bk} {H : Heap} {w w' : World} (h : HeapOk ρ κ base H w) {id : Nat} {o0 o : SObj} (ho : H.obj? id = some o0) {b : Obj} (hb : w'.heap[κ.o id]? = some b) (hi : o.Is base.P ρ κ id b) (hst : ∀ k, k ≠ κ.o id → w'.heap[k]? = w.heap[k]?) :
    HeapOk ρ κ base (H.setObj id o) w' := by
  have old : ∀ i c, (H.setObj id o).obj? i = some c → ∃ c', H.obj? i = some c' := by
    intro i c hi
    rw [Heap.obj?_setObj] at hi
    split at hi
    · rename_i e; subst e; exact ⟨_, ho⟩
    · exact ⟨_, hi⟩
  constructor
  · intro i c hx
    rw [Heap.obj?_setObj] at hx
    split at hx
    · rename_i e; subst e; rw [ho] at hx; cases hx; exact ⟨⟨b, hb, hi⟩, (h.obj _ _ ho).2⟩
    · rename_i hne
      rw [hst _ (fun e => hne (h.inj _ _ _ _ hx ho e))]
      exact h.obj _ _ hx
  · intro i c i' c' hi hi' he
    obtain ⟨_, g1⟩ := old _ _ hi
    obtain ⟨_, g2⟩ := old _ _ hi'
    exact h.inj _ _ _ _ g1 g2 he
  · intro j c pat p ha
    rw [Heap.arr?_setObj] at ha
    refine ⟨fun x f r k hx hf => ?_, (h.arr j c pat p ha).2⟩
    have hne : κ.ab j ≠ κ.o id := h.sep j c pat p id _ ha ho (.inl ⟨fun e => by rw [e] at hx; simp at hx, fun e => by subst e; simp at hf⟩)
    rw [World.cell?_of_block (w := w) (hst _ hne)]
    exact (h.arr j c pat p ha).1 x f r k hx hf
  · intro j c pat p i ob ha hi hc
    rw [Heap.arr?_setObj] at ha
    obtain ⟨_, g1⟩ := old _ _ hi
    exact h.sep j c pat p i _ ha g1 hc
  · intro j c pat E ha
    rw [Heap.arr?_setObj] at ha
    obtain ⟨h1, h2, h4⟩ := h.row j c pat E ha
    refine ⟨h1, ⟨h2.1, ?_⟩, h4⟩
    rcases h2.2 with h3 | ⟨g, cap, cur, hv, hg, hh, hr⟩
    · exact .inl h3
    · refine .inr ⟨g, cap, cur, hv, hg, ?_, hr⟩
      have hnl : ρ.nl j = false ∧ κ.ab j = g := by
        simp only [rowVal] at hv
        cases hn : ρ.nl j
        · rw [hn] at hv; simp at hv; exact ⟨rfl, hv.1⟩
        · rw [hn] at hv; simp at hv
      have hne : κ.ab j ≠ κ.o id := h.sep j c pat _ id _ ha ho (.inr ⟨rfl, hnl.1⟩)
      rw [hst g (by rw [← hnl.2]; exact hne)]; exact hh
  · intro j c pat E j' c' pat' o' ha ha'
    rw [Heap.arr?_setObj] at ha ha'
    exact h.rsep j c pat E j' c' pat' o' ha ha'
def Heap.setOwn (H : Heap) (id : Nat) (cs : List SC) : Heap := match H.obj? id with
  | some (.cells _ ty g) => H.setObj id (.cells cs ty g)
  | _ => H
theorem HeapOk.store {ρ : Env} {κ : Kap} {base : Bk} {H : Heap} {w : World} (h : HeapOk ρ κ base H w) {id : Nat} {cs : List SC} {ty : TypeId} (ho : H.own? id = some (cs, ty)) (off : Nat) (vs : List SC) (hl : off + vs.length ≤ cs.length) :
    HeapOk ρ κ base (H.setOwn id (SX.setMany cs off vs)) (w.setCells (κ.o id) off (vs.map (SC.den ρ κ))) ∧ Kept base w (w.setCells (κ.o id) off (vs.map (SC.den ρ κ))) := by
  obtain ⟨g, hg⟩ := own?_obj ho
  obtain ⟨⟨b, e1, e2⟩, e3, e4⟩ := h.obj id _ hg
  obtain ⟨sp, hw⟩ := h.own ho
  obtain ⟨k1, k2, k3, k4, k5, k6⟩ := setCells_heap (κ.o id) (vs.map (SC.den ρ κ)) off w _ ty hw
  have hm := setMany_den ρ κ vs cs 0 off
  rw [Nat.add_zero] at hm
  have hp : ∀ (us : List Value) (i : Nat) (C : List Value) (S : List Value), off + i + us.length ≤ C.length → (us.zipIdx i).foldl (fun (a : Array Value) (x : Value × Nat) => a.setIfInBounds (off + x.2) x.1) (C ++ S).toArray = (((us.zipIdx i).foldl (fun (a : Array Value) (x : Value × Nat) => a.setIfInBounds (off + x.2) x.1) C.toArray).toList ++ S).toArray := by
    intro us
    induction us with
    | nil => intro i C S _; simp
    | cons u us ih =>
      intro i C S hle
      simp only [List.length_cons] at hle
      simp only [List.zipIdx_cons, List.foldl_cons]
      have e : (C ++ S).toArray.setIfInBounds (off + i) u = (C.set (off + i) u ++ S).toArray := by
        simp [List.set_append]; omega
      rw [e, ih (i + 1) (C.set (off + i) u) S (by simp; omega)]
      simp
  rw [hp _ 0 _ _ (by simp; omega), hm] at k1
  simp only [List.toList_toArray] at k1
  constructor
  · simp only [Heap.setOwn, hg]
    refine h.setObj hg k1 ?_ k3
    rw [e1] at hw; cases hw
    cases g with
    | none =>
      simp only [SObj.Is] at e2 ⊢
      have hsp : sp = [] := by have := congrArg (fun b : Obj => match b with | .cells c _ _ => c.size | _ => 0) e2; simp at this; exact this
      rw [hsp]; simp
    | some z =>
      obtain ⟨sp', q1, q2, q3⟩ := e2
      have hsp : sp = sp' := by simp only [Obj.cells.injEq, and_true, Array.mk.injEq] at q1; exact List.append_cancel_left q1
      subst hsp
      exact ⟨sp, rfl, by rw [setMany_length]; exact q2, q3⟩
  · exact ⟨⟨k4, k5, k6, by rw [k2]; exact Nat.le_refl _, fun k hk => k3 k (by omega)⟩, fun k hk hp => k3 k (fun e => e4 (e ▸ hp))⟩
theorem run_store_x {P : Program} {ρ : Env} {κ : Kap} {base : Bk} {H : Heap} {w : World} (h : HeapOk ρ κ base H w) {id : Nat} {cs : List SC} {ty : TypeId} (ho : H.own? id = some (cs, ty)) (off : Nat) {t : TypeId} {s : SA}
    (hs : sizeP P t = some s.cells.length) (hl : off + s.cells.length ≤ cs.length) :
    (Instr.storeAt t (.pointer (some ⟨κ.o id, off, none⟩)) (s.den ρ κ)).run P w = .ok () (w.setCells (κ.o id) off (s.cells.map (SC.den ρ κ))) := by
  obtain ⟨sp, hw⟩ := h.own ho
  have hcell : ∀ j, j < s.cells.length → (w.cell? ⟨κ.o id, off + j, none⟩).isSome = true := fun j hj => by
    rw [cell_of_row w _ _ _ _ _ hw]; simp; omega
  have hfz : ∀ j, w.frozen? ⟨κ.o id, off + j, none⟩ = false := fun j => by
    simp [World.frozen?, hw]
  have := run_storeCells_cells (P := P) (κ.o id) off (s.cells.map (SC.den ρ κ)) 0 w (fun j hj => by simpa using hcell j (by simpa using hj)) (fun j _ => by simpa using hfz j)
    (fun v hv => by obtain ⟨x, _, rfl⟩ := List.mem_map.1 hv; exact SC.den_one ρ κ x)
  simp only [Nat.add_zero] at this
  simp only [Instr.storeAt, Instr.sureAddr, Sem.run_bind, Sem.run_pure, Result.andThen_ok, storeVar, run_sizeP hs, SA.den_cells]
  simp [this]

/-! ### the bounds, quick in the kernel -/
def IE.bndQ (n : Nat) (e : IE) : Bool := match e with
  | .lit _ => true
  | .v i => Nat.blt i n
  | e => e.bnd n
theorem IE.bndQ_eq (n : Nat) (e : IE) : e.bndQ n = e.bnd n := by cases e <;> rfl
def BE.bndQ (n : Nat) (e : BE) : Bool := match e with
  | .lit _ => true
  | .v i => Nat.blt i n
  | e => e.bnd n
theorem BE.bndQ_eq (n : Nat) (e : BE) : e.bndQ n = e.bnd n := by cases e <;> rfl
def SC.bndQ (n : Nat) (s : SC) : Bool := match s with
  | .int _ e => e.bndQ n
  | .bool b => b.bndQ n
  | .ptr id _ => Nat.blt id n
  | .oslice id _ _ _ => Nat.blt id n
  | .gslice id _ _ _ => Nat.blt id n
  | .lit _ => true
  | .vx i => Nat.blt i n
  | .yld l => Nat.blt l n
  | .mref id => Nat.blt id n
  | s => s.bnd n
theorem SC.bndQ_eq (n : Nat) (s : SC) : s.bndQ n = s.bnd n := by cases s <;> simp only [SC.bndQ, SC.bnd, IE.bndQ_eq, BE.bndQ_eq]
def bndLC (n : Nat) : List SC → Bool
  | [] => true
  | s :: l => s.bndQ n && bndLC n l
noncomputable def bndLQ (n : Nat) (l : List SC) : Bool := List.rec (motive := fun _ => Bool) true (fun s _ ih => andQ (s.bndQ n) ih) l
theorem bndLQ_eq (n : Nat) : ∀ (l : List SC), bndLQ n l = SC.bndL n l
  | [] => by simp only [SC.bndL]; rfl
  | s :: l => by
    show andQ (s.bndQ n) (bndLQ n l) = _
    rw [andQ_eq, SC.bndQ_eq, bndLQ_eq n l]; simp only [SC.bndL]
def SV.bndQ (n : Nat) (s : SV) : Bool := match s with
  | .any => true
  | .a (.c s) => s.bndQ n
  | .a (.agg l) => bndLQ n l
  | s => s.bnd n
theorem SV.bndQ_eq (n : Nat) : SV.bndQ n = SV.bnd n := by
  funext s
  unfold SV.bndQ
  split
  · rfl
  · rw [SC.bndQ_eq]; rfl
  · rw [bndLQ_eq]; rfl
  · rfl
def HE.bndQ (n : Nat) (e : HE) : Bool := match e with
  | .obj id (.cells cs _ _) => andQ (Nat.blt id n) (bndLQ n cs)
  | .arr j c _ _ => andQ (Nat.blt j n) (Nat.blt c n)
  | e => e.bnd n
theorem HE.bndQ_eq (n : Nat) (e : HE) : e.bndQ n = e.bnd n := by
  unfold HE.bndQ
  split
  · rw [andQ_eq, bndLQ_eq]; rfl
  · rw [andQ_eq]; rfl
  · rfl
def heapBndC (n : Nat) : Heap → Bool
  | [] => true
  | e :: H => e.bndQ n && heapBndC n H
noncomputable def heapBndQ (n : Nat) (H : Heap) : Bool := List.rec (motive := fun _ => Bool) true (fun e _ ih => andQ (e.bndQ n) ih) H
theorem heapBndQ_eq (n : Nat) : ∀ (H : Heap), heapBndQ n H = H.bnd n
  | [] => rfl
  | e :: H => by
    show andQ (e.bndQ n) (heapBndQ n H) = _
    rw [andQ_eq, HE.bndQ_eq, heapBndQ_eq n H]; rfl
def BE.bndF (n : Nat) (e : BE) : Bool := match e with
  | .cmp _ a b => andQ (a.bndQ n) (b.bndQ n)
  | .not e => match e with
    | .cmp _ a b => andQ (a.bndQ n) (b.bndQ n)
    | e => e.bnd n
  | e => e.bnd n
theorem BE.bndF_eq (n : Nat) (e : BE) : e.bndF n = e.bnd n := by
  unfold BE.bndF
  split
  · rw [andQ_eq, IE.bndQ_eq, IE.bndQ_eq]; rfl
  · split
    · rw [andQ_eq, IE.bndQ_eq, IE.bndQ_eq]; rfl
    · rfl
  · rfl
def factBndC (n : Nat) : List BE → Bool
  | [] => true
  | e :: H => e.bnd n && factBndC n H
noncomputable def factBndQ (n : Nat) (H : List BE) : Bool := List.rec (motive := fun _ => Bool) true (fun e _ ih => andQ (e.bndF n) ih) H
theorem factBndQ_eq (n : Nat) : ∀ (H : List BE), factBndQ n H = BE.bndL n H
  | [] => rfl
  | e :: H => by
    show andQ (e.bndF n) (factBndQ n H) = _
    rw [andQ_eq, BE.bndF_eq, factBndQ_eq n H]; rfl
def St.bndQ (st : St) : Bool := andQ (andQ (slAll (SV.bndQ st.n) st.sl) (andQ (heapBndQ st.n st.H) (factBndQ st.n st.facts))) (match st.rnd with
  | some l => Nat.blt l st.n
  | none => true)
theorem St.bndQ_eq (st : St) : st.bndQ = st.bnd := by
  simp only [St.bndQ, St.bnd, andQ_eq, SV.bndQ_eq, heapBndQ_eq, factBndQ_eq]; rfl
end Go.SX
