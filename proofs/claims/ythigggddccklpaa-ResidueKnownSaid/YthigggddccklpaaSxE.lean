/- SxE: bounds on the names in use; the state; its meaning; operations that make or write memory. -/
import Derived.Test.YthigggddccklpaaSxD
import Derived.Laws.IdiomCopy
set_option linter.unusedSimpArgs false
set_option linter.unusedVariables false
set_option linter.unusedSectionVars false
set_option linter.unusedSectionVars false
namespace Go.SX
open Go Go.RowKit

/-! ### the names in use lie below n -/
def IE.bnd (n : Nat) : IE → Bool
  | .v i => Nat.blt i n
  | .lit _ => true
  | .bin _ _ a b => a.bnd n && b.bnd n
  | .conv _ a => a.bnd n
  | .sel j _ x => Nat.blt j n && x.bnd n
  | .alen j => Nat.blt j n
  | .nat a => a.bnd n
  | .plus a b => a.bnd n && b.bnd n
  | .minus a b => a.bnd n && b.bnd n
  | .sw _ a b c d => a.bnd n && (b.bnd n && (c.bnd n && d.bnd n))
def BE.bnd (n : Nat) : BE → Bool
  | .v i => Nat.blt i n
  | .lit _ => true
  | .cmp _ a b => a.bnd n && b.bnd n
  | .not a => a.bnd n
  | .and a b => a.bnd n && b.bnd n
  | .or a b => a.bnd n && b.bnd n
  | .eq a b => a.bnd n && b.bnd n
  | .ite c a b => c.bnd n && (a.bnd n && b.bnd n)
  | .sel j _ x => Nat.blt j n && x.bnd n
  | .nl j => Nat.blt j n
def CE.bnd (n : Nat) : CE → Bool
  | .e x => x.bnd n
  | .k j => Nat.blt j n
mutual
def SC.bnd (n : Nat) : SC → Bool
  | .int _ e => e.bnd n
  | .bool b => b.bnd n
  | .ptr id _ => Nat.blt id n
  | .aptr j _ _ x => Nat.blt j n && x.bnd n
  | .slice j _ _ x len cap => Nat.blt j n && (x.bnd n && (len.bnd n && cap.bnd n))
  | .oslice id _ _ _ => Nat.blt id n
  | .lit _ => true
  | .vx i => Nat.blt i n
  | .axs j _ x => Nat.blt j n && x.bnd n
  | .fn _ a b => SC.bndL n a && SC.bndL n b
def SC.bndL (n : Nat) : List SC → Bool
  | [] => true
  | s :: l => s.bnd n && SC.bndL n l
end
def SA.bnd (n : Nat) : SA → Bool
  | .c s => s.bnd n
  | .agg l => SC.bndL n l
def SA.bndL (n : Nat) : List SA → Bool
  | [] => true
  | s :: l => s.bnd n && SA.bndL n l
def SV.bnd (n : Nat) : SV → Bool
  | .a s => s.bnd n
  | .tup l => SA.bndL n l
  | .ite b x y => b.bnd n && (x.bnd n && y.bnd n)
  | .any => true
def SV.bndL (n : Nat) : List SV → Bool
  | [] => true
  | s :: l => s.bnd n && SV.bndL n l
def HE.bnd (n : Nat) : HE → Bool
  | .own id cs _ => Nat.blt id n && SC.bndL n cs
  | .arr j c _ _ => Nat.blt j n && Nat.blt c n
def Heap.bnd (n : Nat) : Heap → Bool
  | [] => true
  | e :: H => e.bnd n && Heap.bnd n H
def BE.bndL (n : Nat) : List BE → Bool
  | [] => true
  | b :: l => b.bnd n && BE.bndL n l
structure Agree (n : Nat) (ρ ρ' : Env) (κ κ' : Kap) : Prop where
  i : ∀ j, j < n → ρ'.i j = ρ.i j
  b : ∀ j, j < n → ρ'.b j = ρ.b j
  v : ∀ j, j < n → ρ'.v j = ρ.v j
  a : ∀ j, j < n → ρ'.a j = ρ.a j
  nl : ∀ j, j < n → ρ'.nl j = ρ.nl j
  o : ∀ j, j < n → κ'.o j = κ.o j
  kb : ∀ j, j < n → κ'.ab j = κ.ab j
  ko : ∀ j, j < n → κ'.ao j = κ.ao j
  kc : ∀ j, j < n → κ'.cap j = κ.cap j
theorem Agree.refl (n : Nat) (ρ : Env) (κ : Kap) : Agree n ρ ρ κ κ := ⟨fun _ _ => rfl, fun _ _ => rfl, fun _ _ => rfl, fun _ _ => rfl, fun _ _ => rfl, fun _ _ => rfl, fun _ _ => rfl, fun _ _ => rfl, fun _ _ => rfl⟩
theorem Agree.trans {n m : Nat} {ρ ρ' ρ'' : Env} {κ κ' κ'' : Kap} (h : Agree n ρ ρ' κ κ') (h' : Agree m ρ' ρ'' κ' κ'') (hm : n ≤ m) : Agree n ρ ρ'' κ κ'' :=
  ⟨fun j hj => (h'.i j (by omega)).trans (h.i j hj), fun j hj => (h'.b j (by omega)).trans (h.b j hj), fun j hj => (h'.v j (by omega)).trans (h.v j hj), fun j hj => (h'.a j (by omega)).trans (h.a j hj),
    fun j hj => (h'.nl j (by omega)).trans (h.nl j hj), fun j hj => (h'.o j (by omega)).trans (h.o j hj), fun j hj => (h'.kb j (by omega)).trans (h.kb j hj), fun j hj => (h'.ko j (by omega)).trans (h.ko j hj), fun j hj => (h'.kc j (by omega)).trans (h.kc j hj)⟩
section
variable {n : Nat} {ρ ρ' : Env} {κ κ' : Kap} (A : Agree n ρ ρ' κ κ')
include A
theorem at_agree {c : Nat} (hc : c < n) (f : Nat) (x : Int) : ρ'.at c f x = ρ.at c f x := by simp only [Env.at, A.a c hc]
theorem IE.agree : ∀ {e : IE}, e.bnd n = true → e.den ρ' = e.den ρ := by
  intro e
  induction e with
  | v i => intro h; exact A.i i (by simpa [IE.bnd, Nat.blt_eq] using h)
  | lit n => intro _; rfl
  | bin o k a b iha ihb => intro h; simp only [IE.bnd, Bool.and_eq_true] at h; simp only [IE.den, iha h.1, ihb h.2]
  | conv k a ih => intro h; simp only [IE.bnd] at h; simp only [IE.den, ih h]
  | sel j f x ih => intro h; simp only [IE.bnd, Bool.and_eq_true, Nat.blt_eq] at h; simp only [IE.den, ih h.2, at_agree A h.1]
  | alen c => intro h; simp only [IE.bnd, Nat.blt_eq] at h; simp only [IE.den, A.a c h]
  | nat a ih => intro h; simp only [IE.bnd] at h; simp only [IE.den, ih h]
  | plus a b iha ihb => intro h; simp only [IE.bnd, Bool.and_eq_true] at h; simp only [IE.den, iha h.1, ihb h.2]
  | minus a b iha ihb => intro h; simp only [IE.bnd, Bool.and_eq_true] at h; simp only [IE.den, iha h.1, ihb h.2]
  | sw o a b c d iha ihb ihc ihd => intro h; simp only [IE.bnd, Bool.and_eq_true] at h; simp only [IE.den, iha h.1, ihb h.2.1, ihc h.2.2.1, ihd h.2.2.2]
theorem BE.agree : ∀ {e : BE}, e.bnd n = true → e.den ρ' = e.den ρ := by
  intro e
  induction e with
  | v i => intro h; exact A.b i (by simpa [BE.bnd, Nat.blt_eq] using h)
  | lit n => intro _; rfl
  | cmp o a b => intro h; simp only [BE.bnd, Bool.and_eq_true] at h; simp only [BE.den, IE.agree A h.1, IE.agree A h.2]
  | not a ih => intro h; simp only [BE.bnd] at h; simp only [BE.den, ih h]
  | and a b iha ihb => intro h; simp only [BE.bnd, Bool.and_eq_true] at h; simp only [BE.den, iha h.1, ihb h.2]
  | or a b iha ihb => intro h; simp only [BE.bnd, Bool.and_eq_true] at h; simp only [BE.den, iha h.1, ihb h.2]
  | eq a b iha ihb => intro h; simp only [BE.bnd, Bool.and_eq_true] at h; simp only [BE.den, iha h.1, ihb h.2]
  | ite c a b ihc iha ihb => intro h; simp only [BE.bnd, Bool.and_eq_true] at h; simp only [BE.den, ihc h.1, iha h.2.1, ihb h.2.2]
  | sel j f x => intro h; simp only [BE.bnd, Bool.and_eq_true, Nat.blt_eq] at h; simp only [BE.den, IE.agree A h.2, at_agree A h.1]
  | nl j => intro h; exact A.nl j (by simpa [BE.bnd, Nat.blt_eq] using h)
theorem CE.agree {e : CE} (h : e.bnd n = true) : e.den ρ' κ' = e.den ρ κ := by
  cases e with
  | e x => simp only [CE.den, IE.agree A (show x.bnd n = true from h)]
  | k j => exact A.kc j (by simpa [CE.bnd, Nat.blt_eq] using h)
theorem slAddr_agree {j : Nat} (hj : j < n) (s c : Nat) (x : Int) : slAddr ρ' κ' j s c x = slAddr ρ κ j s c x := by simp only [slAddr, A.nl j hj, A.kb j hj, A.ko j hj]
mutual
theorem SC.agree : ∀ (s : SC), s.bnd n = true → s.den ρ' κ' = s.den ρ κ
  | .int k e, h => by simp only [SC.bnd] at h; simp only [SC.den, IE.agree A h]
  | .bool b, h => by simp only [SC.bnd] at h; simp only [SC.den, BE.agree A h]
  | .ptr id off, h => by simp only [SC.bnd, Nat.blt_eq] at h; simp only [SC.den, A.o id h]
  | .aptr j s c x, h => by simp only [SC.bnd, Bool.and_eq_true, Nat.blt_eq] at h; simp only [SC.den, A.kb j h.1, A.ko j h.1, IE.agree A h.2]
  | .slice j s c x len cap, h => by simp only [SC.bnd, Bool.and_eq_true, Nat.blt_eq] at h; simp only [SC.den, slAddr_agree A h.1, IE.agree A h.2.1, IE.agree A h.2.2.1, CE.agree A h.2.2.2]
  | .oslice id a b c, h => by simp only [SC.bnd, Nat.blt_eq] at h; simp only [SC.den, A.o id h]
  | .lit v, _ => by simp only [SC.den]
  | .vx i, h => by simp only [SC.bnd, Nat.blt_eq] at h; simp only [SC.den, A.v i h]
  | .axs j f x, h => by simp only [SC.bnd, Bool.and_eq_true, Nat.blt_eq] at h; simp only [SC.den, at_agree A h.1, IE.agree A h.2]
  | .fn f a b, h => by simp only [SC.bnd, Bool.and_eq_true] at h; simp only [SC.den, SC.agreeL a h.1, SC.agreeL b h.2]
theorem SC.agreeL : ∀ (l : List SC), SC.bndL n l = true → SC.denL ρ' κ' l = SC.denL ρ κ l
  | [], _ => by simp only [SC.denL]
  | s :: l, h => by simp only [SC.bndL, Bool.and_eq_true] at h; simp only [SC.denL, SC.agree s h.1, SC.agreeL l h.2]
end
theorem SC.agreeM {l : List SC} (h : SC.bndL n l = true) : l.map (SC.den ρ' κ') = l.map (SC.den ρ κ) := by
  rw [← SC.denL_eq, ← SC.denL_eq, SC.agreeL A l h]
theorem SA.agree {s : SA} (h : s.bnd n = true) : s.den ρ' κ' = s.den ρ κ := by
  cases s with
  | c s => exact SC.agree A s h
  | agg l => simp only [SA.den, SC.agreeM A h]
theorem SA.agreeM {l : List SA} (h : SA.bndL n l = true) : l.map (SA.den ρ' κ') = l.map (SA.den ρ κ) := by
  induction l with
  | nil => rfl
  | cons s l ih => simp only [SA.bndL, Bool.and_eq_true] at h; simp only [List.map_cons, SA.agree A h.1, ih h.2]
theorem SV.agree {s : SV} (h : s.bnd n = true) : s.den ρ' κ' = s.den ρ κ := by
  induction s with
  | a s => exact SA.agree A h
  | tup l => simp only [SV.den, SA.agreeM A h]
  | ite b x y ihx ihy => simp only [SV.bnd, Bool.and_eq_true] at h; simp only [SV.den, BE.agree A h.1, ihx h.2.1, ihy h.2.2]
  | any => rfl
theorem SV.agreeM {l : List SV} (h : SV.bndL n l = true) : l.map (SV.den ρ' κ') = l.map (SV.den ρ κ) := by
  induction l with
  | nil => rfl
  | cons s l ih => simp only [SV.bndL, Bool.and_eq_true] at h; simp only [List.map_cons, SV.agree A h.1, ih h.2]
omit A in
theorem SV.bndL_get {l : List SV} (h : SV.bndL n l = true) {t : Nat} {s : SV} (ht : l[t]? = some s) : s.bnd n = true := by
  induction l generalizing t with
  | nil => simp at ht
  | cons x l ih =>
    simp only [SV.bndL, Bool.and_eq_true] at h
    cases t with
    | zero => simp at ht; subst ht; exact h.1
    | succ t => simp at ht; exact ih h.2 ht
theorem FrameOk.agree {sl : List SV} {a : Act} (h : FrameOk ρ κ sl a) (hb : SV.bndL n sl = true) : FrameOk ρ' κ' sl a :=
  ⟨h.1, fun t s hs ha => by rw [h.2 t s hs ha, SV.agree A (SV.bndL_get hb hs)]⟩
omit A in
theorem Heap.bnd_own {H : Heap} (h : H.bnd n = true) {id : Nat} {cs : List SC} {ty : TypeId} (ho : H.own? id = some (cs, ty)) : id < n ∧ SC.bndL n cs = true := by
  induction H with
  | nil => cases ho
  | cons e H ih =>
    simp only [Heap.bnd, Bool.and_eq_true] at h
    cases e with
    | own i c t =>
      unfold Heap.own? at ho
      cases hb : Nat.beq i id
      · rw [hb] at ho; exact ih h.2 ho
      · rw [hb] at ho; cases ho; rw [Nat.beq_eq] at hb; subst hb
        have := h.1; simp only [HE.bnd, Bool.and_eq_true, Nat.blt_eq] at this; exact this
    | arr j c p o => exact ih h.2 ho
omit A in
theorem Heap.bnd_arr {H : Heap} (h : H.bnd n = true) {j c : Nat} {p : List CK} {o : Option TypeId} (ho : H.arr? j = some (c, p, o)) : j < n ∧ c < n := by
  induction H with
  | nil => cases ho
  | cons e H ih =>
    simp only [Heap.bnd, Bool.and_eq_true] at h
    cases e with
    | arr i c' t o' =>
      unfold Heap.arr? at ho
      cases hb : Nat.beq i j
      · rw [hb] at ho; exact ih h.2 ho
      · rw [hb] at ho; cases ho; rw [Nat.beq_eq] at hb; subst hb
        have := h.1; simp only [HE.bnd, Bool.and_eq_true, Nat.blt_eq] at this; exact this
    | own j c p => exact ih h.2 ho
theorem HeapOk.agree {base : Nat} {H : Heap} {w : World} (h : HeapOk ρ κ base H w) (hb : H.bnd n = true) : HeapOk ρ' κ' base H w where
  own id cs ty ho := by
    obtain ⟨h1, h2⟩ := Heap.bnd_own hb ho
    rw [A.o id h1, SC.agreeM A h2]; exact h.own id cs ty ho
  inj id cs ty id' cs' ty' ho ho' := by
    rw [A.o id (Heap.bnd_own hb ho).1, A.o id' (Heap.bnd_own hb ho').1]; exact h.inj id cs ty id' cs' ty' ho ho'
  arr j c pat o ha := by
    obtain ⟨h1, h2⟩ := Heap.bnd_arr hb ha
    rw [A.a c h2, A.nl j h1, A.kb j h1, A.ko j h1]; exact h.arr j c pat o ha
  sep j c pat o id cs ty ha ho := by
    obtain ⟨h1, h2⟩ := Heap.bnd_arr hb ha
    rw [A.a c h2, A.nl j h1, A.kb j h1, A.o id (Heap.bnd_own hb ho).1]; exact h.sep j c pat o id cs ty ha ho
  row j c pat E ha := by
    obtain ⟨h1, h2⟩ := Heap.bnd_arr hb ha
    simp only [rowVal, A.a c h2, A.nl j h1, A.kb j h1, A.ko j h1, A.kc j h1]; exact h.row j c pat E ha
  rsep j c pat E j' c' pat' o' ha ha' hne := by
    obtain ⟨h1, h2⟩ := Heap.bnd_arr hb ha
    obtain ⟨h1', h2'⟩ := Heap.bnd_arr hb ha'
    rw [A.a c' h2', A.nl j h1, A.nl j' h1', A.kb j h1, A.kb j' h1']; exact h.rsep j c pat E j' c' pat' o' ha ha' hne
theorem facts_agree {l : List BE} (hb : BE.bndL n l = true) (h : ∀ p ∈ l, p.den ρ = true) : ∀ p ∈ l, p.den ρ' = true := by
  induction l with
  | nil => intro p hp; cases hp
  | cons q l ih =>
    simp only [BE.bndL, Bool.and_eq_true] at hb
    intro p hp
    rcases List.mem_cons.1 hp with rfl | hp
    · rw [BE.agree A hb.1]; exact h _ (List.mem_cons_self ..)
    · exact ih hb.2 (fun r hr => h r (List.mem_cons_of_mem _ hr)) p hp
end

/-! ### which name occurs in a value -/
/-- the places are the same, but at n -/
structure KBut (n : Nat) (κ κ' : Kap) : Prop where
  o : ∀ j, j ≠ n → κ'.o j = κ.o j
  ab : ∀ j, j ≠ n → κ'.ab j = κ.ab j
  ao : ∀ j, j ≠ n → κ'.ao j = κ.ao j
  cap : ∀ j, j ≠ n → κ'.cap j = κ.cap j
def CE.has (n : Nat) : CE → Bool
  | .e _ => false
  | .k j => Nat.beq j n
mutual
def SC.has (n : Nat) : SC → Bool
  | .ptr id _ => Nat.beq id n
  | .oslice id _ _ _ => Nat.beq id n
  | .aptr j _ _ _ => Nat.beq j n
  | .slice j _ _ _ _ cap => Nat.beq j n || cap.has n
  | .fn _ a b => SC.hasL n a || SC.hasL n b
  | _ => false
def SC.hasL (n : Nat) : List SC → Bool
  | [] => false
  | s :: l => s.has n || SC.hasL n l
end
def SA.has (n : Nat) : SA → Bool
  | .c s => s.has n
  | .agg l => SC.hasL n l
def SA.hasL (n : Nat) : List SA → Bool
  | [] => false
  | s :: l => s.has n || SA.hasL n l
def SV.has (n : Nat) : SV → Bool
  | .a s => s.has n
  | .tup l => SA.hasL n l
  | .ite _ x y => x.has n || y.has n
  | .any => false
theorem beq_false {a b : Nat} (h : Nat.beq a b = false) : a ≠ b := fun e => by subst e; simp at h
section
variable {n : Nat} {ρ : Env} {κ κ' : Kap} (K : KBut n κ κ')
include K
theorem CE.has_den {c : CE} (h : c.has n = false) : c.den ρ κ' = c.den ρ κ := by
  cases c with
  | e x => rfl
  | k j => exact K.cap j (beq_false h)
mutual
theorem SC.has_den : ∀ (s : SC), s.has n = false → s.den ρ κ' = s.den ρ κ
  | .int _ _, _ => by simp only [SC.den]
  | .bool _, _ => by simp only [SC.den]
  | .ptr id _, h => by simp only [SC.has] at h; simp only [SC.den, K.o id (beq_false h)]
  | .aptr j _ _ _, h => by simp only [SC.has] at h; simp only [SC.den, K.ab j (beq_false h), K.ao j (beq_false h)]
  | .slice j _ _ _ _ _, h => by simp only [SC.has, Bool.or_eq_false_iff] at h; simp only [SC.den, slAddr, K.ab j (beq_false h.1), K.ao j (beq_false h.1), CE.has_den K h.2]
  | .oslice id _ _ _, h => by simp only [SC.has] at h; simp only [SC.den, K.o id (beq_false h)]
  | .lit _, _ => by simp only [SC.den]
  | .vx _, _ => by simp only [SC.den]
  | .axs _ _ _, _ => by simp only [SC.den]
  | .fn f a b, h => by simp only [SC.has, Bool.or_eq_false_iff] at h; simp only [SC.den, SC.hasL_den a h.1, SC.hasL_den b h.2]
theorem SC.hasL_den : ∀ (l : List SC), SC.hasL n l = false → SC.denL ρ κ' l = SC.denL ρ κ l
  | [], _ => by simp only [SC.denL]
  | s :: l, h => by simp only [SC.hasL, Bool.or_eq_false_iff] at h; simp only [SC.denL, SC.has_den s h.1, SC.hasL_den l h.2]
end
theorem SC.hasM_den {l : List SC} (h : SC.hasL n l = false) : l.map (SC.den ρ κ') = l.map (SC.den ρ κ) := by
  rw [← SC.denL_eq, ← SC.denL_eq, SC.hasL_den K l h]
theorem SA.has_den {s : SA} (h : s.has n = false) : s.den ρ κ' = s.den ρ κ := by
  cases s with
  | c s => exact SC.has_den K s h
  | agg l => simp only [SA.den, SC.hasM_den K (show SC.hasL n l = false from h)]
theorem SA.hasL_den {l : List SA} (h : SA.hasL n l = false) : l.map (SA.den ρ κ') = l.map (SA.den ρ κ) := by
  induction l with
  | nil => rfl
  | cons s l ih => simp only [SA.hasL, Bool.or_eq_false_iff] at h; simp only [List.map_cons, SA.has_den K h.1, ih h.2]
theorem SV.has_den {s : SV} (h : s.has n = false) : s.den ρ κ' = s.den ρ κ := by
  induction s with
  | a s => exact SA.has_den K h
  | tup l => simp only [SV.den, SA.hasL_den K (show SA.hasL n l = false from h)]
  | ite c x y ihx ihy => simp only [SV.has, Bool.or_eq_false_iff] at h; simp only [SV.den, ihx h.1, ihy h.2]
  | any => rfl
end
theorem nbeq_of_lt {i n m : Nat} (hm : n ≤ m) (h : Nat.blt i n = true) : Nat.beq i m = false := by
  cases hq : Nat.beq i m
  · rfl
  · rw [Nat.beq_eq] at hq; rw [Nat.blt_eq] at h; omega
mutual
theorem SC.bnd_has {n m : Nat} (hm : n ≤ m) : ∀ (s : SC), s.bnd n = true → s.has m = false
  | .ptr id _, h => by simp only [SC.bnd] at h; simp only [SC.has, nbeq_of_lt hm h]
  | .oslice id _ _ _, h => by simp only [SC.bnd] at h; simp only [SC.has, nbeq_of_lt hm h]
  | .aptr j _ _ _, h => by simp only [SC.bnd, Bool.and_eq_true] at h; simp only [SC.has, nbeq_of_lt hm h.1]
  | .slice j _ _ _ _ cap, h => by
    simp only [SC.bnd, Bool.and_eq_true] at h
    simp only [SC.has, nbeq_of_lt hm h.1, Bool.false_or]
    cases cap with
    | e x => rfl
    | k i => exact nbeq_of_lt hm h.2.2.2
  | .fn f a b, h => by
    simp only [SC.bnd, Bool.and_eq_true] at h
    simp only [SC.has, SC.bndL_has hm a h.1, SC.bndL_has hm b h.2, Bool.or_self]
  | .int _ _, _ => by simp only [SC.has]
  | .bool _, _ => by simp only [SC.has]
  | .lit _, _ => by simp only [SC.has]
  | .vx _, _ => by simp only [SC.has]
  | .axs _ _ _, _ => by simp only [SC.has]
theorem SC.bndL_has {n m : Nat} (hm : n ≤ m) : ∀ (l : List SC), SC.bndL n l = true → SC.hasL m l = false
  | [], _ => by simp only [SC.hasL]
  | s :: l, h => by simp only [SC.bndL, Bool.and_eq_true] at h; simp only [SC.hasL, SC.bnd_has hm s h.1, SC.bndL_has hm l h.2, Bool.or_self]
end
theorem SA.bndL_has {n m : Nat} (hm : n ≤ m) {l : List SA} (h : SA.bndL n l = true) : SA.hasL m l = false := by
  induction l with
  | nil => rfl
  | cons s l ih =>
    simp only [SA.bndL, Bool.and_eq_true] at h
    have : s.has m = false := by
      cases s with
      | c s => exact SC.bnd_has hm s h.1
      | agg l => exact SC.bndL_has hm l h.1
    simp only [SA.hasL, this, ih h.2, Bool.or_self]
theorem SV.bnd_has {n m : Nat} (hm : n ≤ m) {s : SV} (h : s.bnd n = true) : s.has m = false := by
  induction s with
  | a s => cases s with
    | c s => exact SC.bnd_has hm s h
    | agg l => exact SC.bndL_has hm l h
  | tup l => exact SA.bndL_has hm h
  | ite c x y ihx ihy => simp only [SV.bnd, Bool.and_eq_true] at h; simp only [SV.has, ihx h.2.1, ihy h.2.2, Bool.or_self]
  | any => rfl

/-! ### bounds of data -/
mutual
def LV.bnd (n : Nat) : LV → Bool
  | .i e => e.bnd n
  | .b e => e.bnd n
  | .v s => s.bnd n
  | .l a => a.bnd n
  | .n e => e.bnd n
def AE.bnd (n : Nat) : AE → Bool
  | .nil => true
  | .arr c => Nat.blt c n
  | .sub c x len => Nat.blt c n && (x.bnd n && len.bnd n)
  | .rows l => LV.bndLL n l
  | .cat a b => a.bnd n && b.bnd n
  | .rep e row => e.bnd n && LV.bndL n row
  | .set a x _ vs => a.bnd n && (x.bnd n && LV.bndL n vs)
def LV.bndL (n : Nat) : List LV → Bool
  | [] => true
  | v :: l => v.bnd n && LV.bndL n l
def LV.bndLL (n : Nat) : List (List LV) → Bool
  | [] => true
  | r :: l => LV.bndL n r && LV.bndLL n l
end
section
variable {n : Nat} {ρ ρ' : Env} (A : Agree n ρ ρ' kap0 kap0)
include A
mutual
theorem LV.agree : ∀ (v : LV), v.bnd n = true → v.eval ρ' = v.eval ρ
  | .i e, h => by simp only [LV.bnd] at h; simp only [LV.eval, IE.agree A h]
  | .b e, h => by simp only [LV.bnd] at h; simp only [LV.eval, BE.agree A h]
  | .v s, h => by simp only [LV.bnd] at h; simp only [LV.eval, SC.agree A s h]
  | .l a, h => by simp only [LV.bnd] at h; simp only [LV.eval, AE.agree a h]
  | .n e, h => by simp only [LV.bnd] at h; simp only [LV.eval, BE.agree A h]
theorem AE.agree : ∀ (a : AE), a.bnd n = true → a.den ρ' = a.den ρ
  | .nil, _ => by simp only [AE.den]
  | .arr c, h => by simp only [AE.bnd, Nat.blt_eq] at h; simp only [AE.den, A.a c h]
  | .sub c x len, h => by simp only [AE.bnd, Bool.and_eq_true, Nat.blt_eq] at h; simp only [AE.den, A.a c h.1, IE.agree A h.2.1, IE.agree A h.2.2]
  | .rows l, h => by simp only [AE.bnd] at h; simp only [AE.den, LV.agreeLL l h]
  | .cat a b, h => by simp only [AE.bnd, Bool.and_eq_true] at h; simp only [AE.den, AE.agree a h.1, AE.agree b h.2]
  | .rep e row, h => by simp only [AE.bnd, Bool.and_eq_true] at h; simp only [AE.den, IE.agree A h.1, LV.agreeL row h.2]
  | .set a x f vs, h => by simp only [AE.bnd, Bool.and_eq_true] at h; simp only [AE.den, AE.agree a h.1, IE.agree A h.2.1, LV.agreeL vs h.2.2]
theorem LV.agreeL : ∀ (l : List LV), LV.bndL n l = true → LV.evalL ρ' l = LV.evalL ρ l
  | [], _ => by simp only [LV.evalL]
  | v :: l, h => by simp only [LV.bndL, Bool.and_eq_true] at h; simp only [LV.evalL, LV.agree v h.1, LV.agreeL l h.2]
theorem LV.agreeLL : ∀ (l : List (List LV)), LV.bndLL n l = true → LV.evalLL ρ' l = LV.evalLL ρ l
  | [], _ => by simp only [LV.evalLL]
  | r :: l, h => by simp only [LV.bndLL, Bool.and_eq_true] at h; simp only [LV.evalLL, LV.agreeL r h.1, LV.agreeLL l h.2]
end
end

/-! ### the state -/
structure St where
  sl : List SV
  H : Heap
  n : Nat
  facts : List BE
  d : Nat          -- how many loops are open
  fn : Nat         -- the function whose code is walked
def St.bnd (st : St) : Bool := SV.bndL st.n st.sl && (st.H.bnd st.n && BE.bndL st.n st.facts)
structure Sim (base : Nat) (w0 : World) (ρ : Env) (κ : Kap) (st : St) (a : Act) (w : World) : Prop where
  fr : FrameOk ρ κ st.sl a
  df : a.defers = []
  hp : HeapOk ρ κ base st.H w
  bl : Below base w0 w
  sz : base ≤ w.heap.size
  fc : ∀ p ∈ st.facts, p.den ρ = true
theorem Sim.agree {base : Nat} {w0 : World} {ρ ρ' : Env} {κ κ' : Kap} {st : St} {a : Act} {w : World} (h : Sim base w0 ρ κ st a w) (A : Agree st.n ρ ρ' κ κ') (hb : st.bnd = true) : Sim base w0 ρ' κ' st a w := by
  simp only [St.bnd, Bool.and_eq_true] at hb
  exact ⟨h.fr.agree A hb.1, h.df, h.hp.agree A hb.2.1, h.bl, h.sz, facts_agree A hb.2.2 h.fc⟩
def St.put (st : St) (d : Option Nat) (v : SV) : St := match d with
  | some d => { st with sl := setSlot st.sl d v }
  | none => st
theorem FrameOk.put {ρ : Env} {κ : Kap} {sl : List SV} {a : Act} (h : FrameOk ρ κ sl a) (d : Nat) {v : SV} {u : Value} (hv : v.isAny = false → u = v.den ρ κ) : FrameOk ρ κ (setSlot sl d v) { a with tmps := a.tmps.setIfInBounds d u } := by
  refine ⟨by simp [setSlot_eq, h.1], fun t s hs ha => ?_⟩
  rw [setSlot_eq, List.getElem?_set] at hs
  simp only [Array.getElem?_setIfInBounds]
  split at hs
  · rename_i e; subst e
    split at hs
    · rename_i hl; simp at hs; subst hs; rw [if_pos rfl, if_pos (by rw [h.1]; exact hl), hv ha]
    · cases hs
  · rename_i e; rw [if_neg e]; exact h.2 t s hs ha
theorem Sim.put {base : Nat} {w0 : World} {ρ : Env} {κ : Kap} {st : St} {a : Act} {w : World} (h : Sim base w0 ρ κ st a w) (d : Option Nat) {v : SV} {u : Value} (hv : v.isAny = false → u = v.den ρ κ) : Sim base w0 ρ κ (st.put d v) (a.put d u) w := by
  cases d with
  | none => exact h
  | some d => exact ⟨h.fr.put d hv, h.df, h.hp, h.bl, h.sz, h.fc⟩

/-! ### a new block -/
def Kap.setO (κ : Kap) (n b : Nat) : Kap := { κ with o := fun j => if j = n then b else κ.o j }
theorem Agree.setO (n b : Nat) (ρ : Env) (κ : Kap) : Agree n ρ ρ κ (κ.setO n b) :=
  ⟨fun _ _ => rfl, fun _ _ => rfl, fun _ _ => rfl, fun _ _ => rfl, fun _ _ => rfl, fun j hj => by simp [Kap.setO]; omega, fun _ _ => rfl, fun _ _ => rfl, fun _ _ => rfl⟩
theorem HeapOk.lt {ρ : Env} {κ : Kap} {base : Nat} {H : Heap} {w : World} (h : HeapOk ρ κ base H w) {id : Nat} {cs : List SC} {ty : TypeId} (ho : H.own? id = some (cs, ty)) : κ.o id < w.heap.size := by
  have := (h.own id cs ty ho).1
  rcases Nat.lt_or_ge (κ.o id) w.heap.size with h | h
  · exact h
  · rw [Array.getElem?_eq_none h] at this; cases this
/-- an array's block is there, if it holds anything or is a row -/
theorem HeapOk.arrlt {ρ : Env} {κ : Kap} {base : Nat} {H : Heap} {w : World} (h : HeapOk ρ κ base H w) {j c : Nat} {pat : List CK} {o : Option TypeId} (ha : H.arr? j = some (c, pat, o)) (hc : (ρ.a c ≠ [] ∧ pat ≠ []) ∨ (o.isSome = true ∧ ρ.nl j = false)) : κ.ab j < w.heap.size := by
  rcases hc with ⟨hc, hp⟩ | ⟨ho, hn⟩
  · cases pat with
    | nil => exact absurd rfl hp
    | cons k pat =>
      cases hl : ρ.a c with
      | nil => exact absurd hl hc
      | cons r l => exact World.block_lt_of_cell? w _ ((h.arr j c _ o ha).1 0 0 r k (by rw [hl]; rfl) rfl)
  · cases o with
    | none => cases ho
    | some E =>
      obtain ⟨_, hrow⟩ := h.row j c pat E ha
      have := hrow.lt (κ.ab j) (by simp [rowVal, hn, Value.ownBlock])
      exact this.2
/-- Worlds that hold all that the state knows: nothing that existed has turned. -/
theorem HeapOk.below {ρ : Env} {κ : Kap} {base : Nat} {H : Heap} {w w' : World} (h : HeapOk ρ κ base H w) (hb : ∀ k, k < w.heap.size → w'.heap[k]? = w.heap[k]?) : HeapOk ρ κ base H w' where
  own id cs ty ho := ⟨by rw [hb _ (h.lt ho)]; exact (h.own id cs ty ho).1, (h.own id cs ty ho).2⟩
  inj := h.inj
  arr j c pat o ha := by
    refine ⟨fun x f r k hx hf => ?_, (h.arr j c pat o ha).2⟩
    have := (h.arr j c pat o ha).1 x f r k hx hf
    have hl := World.block_lt_of_cell? w _ this
    rw [World.cell?_of_block (w := w) (hb _ hl)]; exact this
  sep := h.sep
  row j c pat E ha := by
    obtain ⟨h1, h2⟩ := h.row j c pat E ha
    refine ⟨h1, h2.1, ?_⟩
    rcases h2.2 with h3 | ⟨g, cap, cur, hv, hg, hh, hr⟩
    · exact .inl h3
    · exact .inr ⟨g, cap, cur, hv, hg, by rw [hb g (Array.getElem?_eq_some_iff.1 hh).1]; exact hh, hr⟩
  rsep := h.rsep
theorem KBut.setO (n b : Nat) (κ : Kap) : KBut n κ (κ.setO n b) := ⟨fun j hj => by simp [Kap.setO, hj], fun _ _ => rfl, fun _ _ => rfl, fun _ _ => rfl⟩
/-- no part of a heap names n -/
structure Heap.Free (n : Nat) (H : Heap) : Prop where
  own : ∀ id cs ty, H.own? id = some (cs, ty) → id ≠ n ∧ SC.hasL n cs = false
  arr : ∀ j c pat o, H.arr? j = some (c, pat, o) → j ≠ n
theorem Heap.free_of_bnd {n m : Nat} (hm : n ≤ m) {H : Heap} (h : H.bnd n = true) : H.Free m :=
  ⟨fun id cs ty ho => ⟨by have := (Heap.bnd_own h ho).1; omega, SC.bndL_has hm _ (Heap.bnd_own h ho).2⟩, fun j c pat o ha => by have := (Heap.bnd_arr h ha).1; omega⟩
/-- the places turn at a name that does not occur -/
theorem HeapOk.kbut {ρ : Env} {κ κ' : Kap} {base : Nat} {H : Heap} {w : World} (h : HeapOk ρ κ base H w) {n : Nat} (hf : H.Free n) (K : KBut n κ κ') : HeapOk ρ κ' base H w where
  own id cs ty ho := by rw [K.o id (hf.own id cs ty ho).1, SC.hasM_den K (hf.own id cs ty ho).2]; exact h.own id cs ty ho
  inj id cs ty id' cs' ty' ho ho' := by rw [K.o id (hf.own id cs ty ho).1, K.o id' (hf.own id' cs' ty' ho').1]; exact h.inj id cs ty id' cs' ty' ho ho'
  arr j c pat o ha := by rw [K.ab j (hf.arr j c pat o ha), K.ao j (hf.arr j c pat o ha)]; exact h.arr j c pat o ha
  sep j c pat o id cs ty ha ho := by rw [K.ab j (hf.arr j c pat o ha), K.o id (hf.own id cs ty ho).1]; exact h.sep j c pat o id cs ty ha ho
  row j c pat E ha := by simp only [rowVal, K.ab j (hf.arr j c pat _ ha), K.ao j (hf.arr j c pat _ ha), K.cap j (hf.arr j c pat _ ha)]; exact h.row j c pat E ha
  rsep j c pat E j' c' pat' o' ha ha' := by rw [K.ab j (hf.arr j c pat _ ha), K.ab j' (hf.arr j' c' pat' o' ha')]; exact h.rsep j c pat E j' c' pat' o' ha ha'
theorem HeapOk.alloc {ρ : Env} {κ : Kap} {base : Nat} {H : Heap} {w : World} (h : HeapOk ρ κ base H w) {n : Nat} (hf : H.Free n) (hs : base ≤ w.heap.size) (cs : List SC) (hc : SC.hasL n cs = false) (ty : TypeId) :
    HeapOk ρ (κ.setO n w.heap.size) base (.own n cs ty :: H) (w.alloc (.cells (cs.map (SC.den ρ κ)).toArray ty)) := by
  have K := KBut.setO n w.heap.size κ
  have h' := (h.below (w' := w.alloc (.cells (cs.map (SC.den ρ κ)).toArray ty)) (fun k hk => Below.heap_alloc w _ k hk)).kbut hf K
  have key : ∀ id c t, Heap.own? (.own n cs ty :: H) id = some (c, t) → (id = n ∧ c = cs ∧ t = ty) ∨ (id ≠ n ∧ H.own? id = some (c, t)) := by
    intro id c t ho
    unfold Heap.own? at ho
    cases hq : Nat.beq n id
    · rw [hq] at ho; exact .inr ⟨fun e => by subst e; simp at hq, ho⟩
    · rw [hq] at ho; cases ho; rw [Nat.beq_eq] at hq; exact .inl ⟨hq.symm, rfl, rfl⟩
  have hn : (κ.setO n w.heap.size).o n = w.heap.size := by simp [Kap.setO]
  have hlt : ∀ id c t, id ≠ n → H.own? id = some (c, t) → (κ.setO n w.heap.size).o id < w.heap.size := fun id c t hi ho => by
    rw [K.o id hi]; exact h.lt ho
  constructor
  · intro id c t ho
    rcases key id c t ho with ⟨rfl, rfl, rfl⟩ | ⟨_, ho⟩
    · refine ⟨?_, by rw [hn]; exact hs⟩
      rw [hn, SC.hasM_den K hc]
      show (w.heap.push _)[w.heap.size]? = _
      simp
    · exact h'.own id c t ho
  · intro id c t id' c' t' ho ho' he
    rcases key id c t ho with ⟨rfl, rfl, rfl⟩ | ⟨hi, ho⟩ <;> rcases key id' c' t' ho' with ⟨rfl, rfl, rfl⟩ | ⟨hi', ho'⟩
    · rfl
    · have := hlt _ _ _ hi' (by assumption); rw [hn] at he; omega
    · have := hlt _ _ _ hi (by assumption); rw [hn] at he; omega
    · exact h'.inj _ _ _ _ _ _ ho ho' he
  · exact fun j c pat o ha => h'.arr j c pat o ha
  · intro j ct pat o id c t ha ho hc'
    have hal : κ.ab j < w.heap.size := h.arrlt ha hc'
    rcases key id c t ho with ⟨rfl, rfl, rfl⟩ | ⟨hi, ho⟩
    · rw [hn]; show κ.ab j ≠ _; omega
    · exact h'.sep j ct pat o id c t ha ho hc'
  · exact fun j c pat E ha => h'.row j c pat E ha
  · exact fun j c pat E j' c' pat' o' ha ha' => h'.rsep j c pat E j' c' pat' o' ha ha'

/-! ### a store -/
theorem setCells_heap (b : Nat) : ∀ (vs : List Value) (o : Nat) (w : World) (C : Array Value) (ty : TypeId), w.heap[b]? = some (.cells C ty (0, 0)) →
    (w.setCells b o vs).heap[b]? = some (.cells (vs.zipIdx.foldl (fun a x => a.setIfInBounds (o + x.2) x.1) C) ty (0, 0)) ∧ (w.setCells b o vs).heap.size = w.heap.size ∧
    (∀ k, k ≠ b → (w.setCells b o vs).heap[k]? = w.heap[k]?) ∧ (w.setCells b o vs).os = w.os ∧ (w.setCells b o vs).tape = w.tape ∧ (w.setCells b o vs).output = w.output
  | [], o, w, C, ty, h => ⟨h, rfl, fun _ _ => rfl, rfl, rfl, rfl⟩
  | v :: vs, o, w, C, ty, h => by
    have h1 : (w.setCell ⟨b, o, none⟩ v).heap[b]? = some (.cells (C.setIfInBounds o v) ty (0, 0)) := by
      simp only [World.setCell, Array.getElem?_modify, if_true, h, Option.map_some]; rfl
    obtain ⟨k1, k2, k3, k4, k5, k6⟩ := setCells_heap b vs (o + 1) (w.setCell ⟨b, o, none⟩ v) _ ty h1
    refine ⟨?_, ?_, ?_, ?_, ?_, ?_⟩
    · rw [World.setCells, k1, List.zipIdx_cons, List.foldl_cons]
      congr 1
      have : ∀ (l : List Value) (m : Nat) (A : Array Value), (l.zipIdx m).foldl (fun a x => a.setIfInBounds (o + 1 + x.2) x.1) A = (l.zipIdx (m + 1)).foldl (fun a x => a.setIfInBounds (o + x.2) x.1) A := by
        intro l
        induction l with
        | nil => intro m A; rfl
        | cons x l ih => intro m A; simp only [List.zipIdx_cons, List.foldl_cons]; rw [ih]; congr 2; omega
      rw [this]
      rfl
    · rw [World.setCells, k2, World.size_setCell]
    · intro k hk; rw [World.setCells, k3 k hk, Below.heap_setCell _ _ _ _ hk]
    · rw [World.setCells, k4]; rfl
    · rw [World.setCells, k5]; rfl
    · rw [World.setCells, k6]; rfl
def Heap.setOwn (H : Heap) (id : Nat) (cs : List SC) : Heap :=
  match H with
  | [] => []
  | .own i c ty :: H => bif Nat.beq i id then .own i cs ty :: Heap.setOwn H id cs else .own i c ty :: Heap.setOwn H id cs
  | .arr j c p o :: H => .arr j c p o :: Heap.setOwn H id cs
theorem Heap.own?_setOwn (H : Heap) (id : Nat) (cs : List SC) (i : Nat) : (H.setOwn id cs).own? i = if i = id then (H.own? i).map fun x => (cs, x.2) else H.own? i := by
  induction H with
  | nil => simp [Heap.setOwn, Heap.own?]
  | cons e H ih =>
    cases e with
    | own j c ty =>
      unfold Heap.setOwn
      cases hq : Nat.beq j id
      · simp only [cond_false, Heap.own?]
        cases hi : Nat.beq j i
        · simp only [cond_false]; exact ih
        · rw [Nat.beq_eq] at hi; subst hi
          have : ¬ j = id := fun e => by subst e; simp at hq
          simp [this]
      · rw [Nat.beq_eq] at hq; subst hq
        simp only [cond_true, Heap.own?]
        cases hi : Nat.beq j i
        · simp only [cond_false]; exact ih
        · rw [Nat.beq_eq] at hi; subst hi; simp
    | arr j c p o => simp only [Heap.setOwn, Heap.own?]; exact ih
theorem Heap.arr?_setOwn (H : Heap) (id : Nat) (cs : List SC) (i : Nat) : (H.setOwn id cs).arr? i = H.arr? i := by
  induction H with
  | nil => rfl
  | cons e H ih =>
    cases e with
    | own j c ty =>
      unfold Heap.setOwn
      cases hq : Nat.beq j id <;> simp only [cond_true, cond_false, Heap.arr?] <;> exact ih
    | arr j c p o => simp only [Heap.setOwn, Heap.arr?, ih]
theorem HeapOk.store {ρ : Env} {κ : Kap} {base : Nat} {H : Heap} {w : World} (h : HeapOk ρ κ base H w) {id : Nat} {cs : List SC} {ty : TypeId} (ho : H.own? id = some (cs, ty)) (off : Nat) (vs : List SC) :
    HeapOk ρ κ base (H.setOwn id (SX.setMany cs off vs)) (w.setCells (κ.o id) off (vs.map (SC.den ρ κ))) := by
  obtain ⟨k1, k2, k3, k4, k5, k6⟩ := setCells_heap (κ.o id) (vs.map (SC.den ρ κ)) off w _ ty (h.own id cs ty ho).1
  have hm := setMany_den ρ κ vs cs 0 off
  rw [Nat.add_zero] at hm
  rw [hm] at k1
  have key : ∀ i c t, (H.setOwn id (SX.setMany cs off vs)).own? i = some (c, t) → (i = id ∧ c = SX.setMany cs off vs ∧ t = ty) ∨ (i ≠ id ∧ H.own? i = some (c, t)) := by
    intro i c t hi
    rw [Heap.own?_setOwn] at hi
    split at hi
    · rename_i e; subst e; rw [ho] at hi; simp at hi; exact .inl ⟨rfl, hi.1.symm, hi.2.symm⟩
    · rename_i e; exact .inr ⟨e, hi⟩
  have old : ∀ i c t, (H.setOwn id (SX.setMany cs off vs)).own? i = some (c, t) → ∃ c', H.own? i = some (c', t) := by
    intro i c t hi
    rcases key i c t hi with ⟨rfl, _, rfl⟩ | ⟨_, hi⟩
    · exact ⟨_, ho⟩
    · exact ⟨_, hi⟩
  constructor
  · intro i c t hi
    rcases key i c t hi with ⟨rfl, rfl, rfl⟩ | ⟨hne, hi⟩
    · exact ⟨k1, (h.own _ _ _ ho).2⟩
    · refine ⟨?_, (h.own _ _ _ hi).2⟩
      rw [k3 _ (fun e => hne (h.inj _ _ _ _ _ _ hi ho e))]
      exact (h.own _ _ _ hi).1
  · intro i c t i' c' t' hi hi' he
    obtain ⟨_, g1⟩ := old _ _ _ hi
    obtain ⟨_, g2⟩ := old _ _ _ hi'
    exact h.inj _ _ _ _ _ _ g1 g2 he
  · intro j c pat o ha
    rw [Heap.arr?_setOwn] at ha
    refine ⟨fun x f r k hx hf => ?_, (h.arr j c pat o ha).2⟩
    have hne : κ.ab j ≠ κ.o id := h.sep j c pat o id cs ty ha ho (.inl ⟨fun e => by rw [e] at hx; simp at hx, fun e => by subst e; simp at hf⟩)
    rw [World.cell?_of_block (w := w) (k3 _ hne)]
    exact (h.arr j c pat o ha).1 x f r k hx hf
  · intro j c pat o i cs' t ha hi hc
    rw [Heap.arr?_setOwn] at ha
    obtain ⟨_, g1⟩ := old _ _ _ hi
    exact h.sep j c pat o i _ t ha g1 hc
  · intro j c pat E ha
    rw [Heap.arr?_setOwn] at ha
    obtain ⟨h1, h2⟩ := h.row j c pat E ha
    refine ⟨h1, h2.1, ?_⟩
    rcases h2.2 with h3 | ⟨g, cap, cur, hv, hg, hh, hr⟩
    · exact .inl h3
    · refine .inr ⟨g, cap, cur, hv, hg, ?_, hr⟩
      have hnl : ρ.nl j = false ∧ κ.ab j = g := by
        simp only [rowVal] at hv
        cases hn : ρ.nl j
        · rw [hn] at hv; simp at hv; exact ⟨rfl, hv.1⟩
        · rw [hn] at hv; simp at hv
      have hne : κ.ab j ≠ κ.o id := h.sep j c pat _ id cs ty ha ho (.inr ⟨rfl, hnl.1⟩)
      rw [k3 g (by rw [← hnl.2]; exact hne)]; exact hh
  · intro j c pat E j' c' pat' o' ha ha'
    rw [Heap.arr?_setOwn] at ha ha'
    exact h.rsep j c pat E j' c' pat' o' ha ha'
theorem run_store_x {P : Program} {ρ : Env} {κ : Kap} {base : Nat} {H : Heap} {w : World} (h : HeapOk ρ κ base H w) {id : Nat} {cs : List SC} {ty : TypeId} (ho : H.own? id = some (cs, ty)) (off : Nat) {t : TypeId} {s : SA}
    (hs : sizeP P t = some s.cells.length) (hl : off + s.cells.length ≤ cs.length) :
    (Instr.storeAt t (.pointer (some ⟨κ.o id, off, none⟩)) (s.den ρ κ)).run P w = .ok () (w.setCells (κ.o id) off (s.cells.map (SC.den ρ κ))) := by
  have hw := (h.own id cs ty ho).1
  have hcell : ∀ j, j < s.cells.length → (w.cell? ⟨κ.o id, off + j, none⟩).isSome = true := fun j hj => by
    rw [cell_of_row w _ _ _ _ _ hw]; simp; omega
  have hfz : ∀ j, w.frozen? ⟨κ.o id, off + j, none⟩ = false := fun j => by
    simp [World.frozen?, hw]
  have := run_storeCells_cells (P := P) (κ.o id) off (s.cells.map (SC.den ρ κ)) 0 w (fun j hj => by simpa using hcell j (by simpa using hj)) (fun j _ => by simpa using hfz j)
    (fun v hv => by obtain ⟨x, _, rfl⟩ := List.mem_map.1 hv; exact SC.den_one ρ κ x)
  simp only [Nat.add_zero] at this
  simp only [Instr.storeAt, Instr.sureAddr, Sem.run_bind, Sem.run_pure, Result.andThen_ok, storeVar, run_sizeP hs, SA.den_cells]
  simp [this]
end Go.SX
