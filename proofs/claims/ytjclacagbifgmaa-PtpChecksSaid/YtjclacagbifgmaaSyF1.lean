/- SyF1: maps with keys of an integer kind; rows whose length is known: append, copy. -/
import Derived.Test.YtjclacagbifgmaaSyF0
import Derived.RangeFuncRecord
set_option linter.unusedSimpArgs false
set_option linter.unusedVariables false
set_option linter.unusedSectionVars false
noncomputable section
namespace Go.SX
open Go Go.RowKit

/-- what a new block's value is -/
inductive NP where
  | ptr
  | os (l c : Nat)
  | gs (l : Nat)
  | mref
def newPtr (n : Nat) : NP → SV
  | .ptr => .c (.ptr n 0)
  | .os l c => .c (.oslice n 0 l c)
  | .gs l => .c (.gslice n 0 l 0)
  | .mref => .c (.mref n)
/-- a choice: the first of these that holds -/
def altDen (ρ : Env) (κ : Kap) : List (BE × SV) → SV → Value
  | [], v => v.den ρ κ
  | (c, v) :: l, e => if c.den ρ = true then v.den ρ κ else altDen ρ κ l e
/-- A NEW BLOCK. -/
def DoesNew (ρ : Env) (κ : Kap) (base : Bk) (H : Heap) (w : World) (r : Result Next) (o : SObj) (np : NP) (src : Option Nat) : Prop :=
  ∀ n, H.Free (one n) → o.has (one n) = false → ∃ κ' w', KBut (one n) κ κ' ∧ r = .ok (.value ((newPtr n np).den ρ κ')) w' ∧ HeapOk ρ κ' base (.obj n o :: H.delS src) w' ∧ Kept base w w'
/-- WHAT TURNS STANDS. -/
def DoesUpd (ρ : Env) (κ : Kap) (base : Bk) (w : World) (r : Result Next) (H' : Heap) (v : SV) : Prop :=
  ∃ w', (r = .ok (.value (v.den ρ κ)) w' ∨ (r = .ok .skip w' ∧ v.den ρ κ = undef)) ∧ HeapOk ρ κ base H' w' ∧ Kept base w w'

/-! ### maps -/
def mapP (P : Program) (t : TypeId) : Option (IntKind × TypeId × TypeId) := match P.underlying t with
  | some (.map kt vt) => match P.underlying kt with
    | some (.int k) => some (k, kt, vt)
    | _ => none
  | _ => none
theorem mapP_spec {P : Program} {t : TypeId} {k : IntKind} {kt vt : TypeId} (h : mapP P t = some (k, kt, vt)) : P.underlying t = some (.map kt vt) ∧ P.underlying kt = some (.int k) := by
  unfold mapP at h
  split at h
  · rename_i a b hu
    split at h
    · rename_i q hk; cases h; exact ⟨hu, hk⟩
    · cases h
  · cases h
theorem run_getObjM {P : Program} {w : World} {r : Nat} {es : Array MapEntry} {clock : Nat} (hb : w.heap[r]? = some (.map es clock)) : (getObj r).run P w = .ok (.map es clock) w := by simp [getObj, Sem.run, hb]
theorem run_setObjM {P : Program} {w : World} {r : Nat} {es : Array MapEntry} {clock : Nat} (o : Obj) (hb : w.heap[r]? = some (.map es clock)) : (setObj r o).run P w = .ok () { w with heap := w.heap.setIfInBounds r o } := by simp [setObj, Sem.run, hb]
/-- the entry at a key -/
def findI (k : IntKind) (a : Int) : List (Value × Value) → Nat → Option (Nat × Value)
  | [], _ => none
  | (.int _ b, v) :: l, i => if a == b then some (i, v) else findI k a l (i + 1)
  | _ :: l, i => findI k a l (i + 1)
theorem findNow_int (k k' : IntKind) (a : Int) : ∀ (l : List MapEntry) (es : List (Int × Value)) (i : Nat), l.map (fun e => (e.key, e.val)) = es.map (fun e => (.int k e.1, e.2)) →
    Instr.findNow (.int k') (.int k a) l i = some (findI k a (es.map fun e => (.int k e.1, e.2)) i)
  | [], [], i, _ => rfl
  | [], _ :: _, _, h => by simp at h
  | _ :: _, [], _, h => by simp at h
  | e :: l, x :: es, i, h => by
    simp only [List.map_cons, List.cons.injEq, Prod.mk.injEq] at h
    obtain ⟨⟨h1, h2⟩, h3⟩ := h
    have ih := findNow_int k k' a l es (i + 1) h3
    simp only [Instr.findNow, h1, Instr.sameNow, if_true, List.map_cons, findI, ih, h2]
    cases a == x.1 <;> simp
theorem run_findKey {P : Program} {w : World} {kt : TypeId} {k : IntKind} (hk : P.underlying kt = some (.int k)) (a : Int) (l : List MapEntry) (es : List (Int × Value)) (h : l.map (fun e => (e.key, e.val)) = es.map (fun e => (.int k e.1, e.2))) :
    (Instr.findKey kt (.int k a) l).run P w = .ok (findI k a (es.map fun e => (.int k e.1, e.2)) 0) w := by
  simp only [Instr.findKey, Sem.run_bind, run_underlying hk, Result.andThen_ok, findNow_int k k a l es 0 h, Sem.run_pure]
theorem run_checkKey {P : Program} {w : World} {kt : TypeId} {k : IntKind} (hk : P.underlying kt = some (.int k)) (b : Bool) (n : Nat) (a : Int) : (Instr.checkKey b (n + 1) kt (.int k a)).run P w = .ok () w := by
  simp only [Instr.checkKey, Sem.run_bind, run_underlying hk, Result.andThen_ok, Sem.run_pure]
def esDen (ρ : Env) (κ : Kap) (es : List (IE × SA)) : List (Int × Value) := es.map fun e => (e.1.den ρ, e.2.den ρ κ)
theorem esDen_map (ρ : Env) (κ : Kap) (k : IntKind) (es : List (IE × SA)) : (esDen ρ κ es).map (fun e => (Value.int k e.1, e.2)) = es.map fun e => (.int k (e.1.den ρ), e.2.den ρ κ) := by
  simp [esDen, List.map_map, Function.comp_def]
theorem den_mref (id : Nat) (ρ : Env) (κ : Kap) : (SV.a (.c (.mref id))).den ρ κ = .map (some (κ.o id)) := by simp only [SV.den, SA.den, SC.den]
theorem den_int (k : IntKind) (e : IE) (ρ : Env) (κ : Kap) : (SV.a (.c (.int k e))).den ρ κ = .int k (e.den ρ) := by simp only [SV.den, SA.den, SC.den]
theorem den_a (s : SA) (ρ : Env) (κ : Kap) : (SV.a s).den ρ κ = s.den ρ κ := rfl
/-- what is at a key: by cases -/
def lookAlts (ok : Bool) (e : IE) : List (IE × SA) → List (BE × SV)
  | [] => []
  | (x, s) :: l => (mkCmp .eql e x, bif ok then .tup [s, .c (.bool (.lit true))] else .a s) :: lookAlts ok e l
def xlook (P : Program) (H : Heap) (t : TypeId) (m i : SV) (ok : Bool) : Option (List (BE × SV) × SV) :=
  match mapP P t, m, i with
  | some (k, _, vt), .a (.c m), .a (.c (.int k' e)) => match zeroP P vt with
    | some z => bif Nat.beq (kn k) (kn k') then
        let els : SV := bif ok then .tup [z, .c (.bool (.lit false))] else .a z
        match m with
        | .mref id => match H.obj? id with
          | some (.map k2 es) => bif Nat.beq (kn k) (kn k2) then some (lookAlts ok e es, els) else none
          | _ => none
        | .lit (.map none) => some ([], els)
        | _ => none
      else none
    | none => none
  | _, _, _ => none
theorem lookAlts_den {ρ : Env} {κ : Kap} (k : IntKind) (ok : Bool) (e : IE) (z : SA) : ∀ (es : List (IE × SA)) (i : Nat),
    altDen ρ κ (lookAlts ok e es) (bif ok then .tup [z, .c (.bool (.lit false))] else .a z) =
      (match findI k (e.den ρ) (es.map fun e => (.int k (e.1.den ρ), e.2.den ρ κ)) i with
        | some (_, v) => if ok = true then .tuple #[v, .bool true] else v
        | none => if ok = true then .tuple #[z.den ρ κ, .bool false] else z.den ρ κ)
  | [], i => by cases ok <;> simp [lookAlts, altDen, findI, SV.den, SA.den, SC.den, BE.den]
  | (x, s) :: es, i => by
    have ih := lookAlts_den (ρ := ρ) (κ := κ) k ok e z es (i + 1)
    simp only [lookAlts, altDen, mkCmp_den, bc, List.map_cons, findI]
    cases hq : (e.den ρ == x.den ρ)
    · simp only [Bool.false_eq_true, if_false]; exact ih
    · simp only [if_true]; cases ok <;> simp [SV.den, SA.den, SC.den, BE.den]
theorem xlook_sound {P : Program} {ρ : Env} {κ : Kap} {base : Bk} {H : Heap} {w : World} (hH : HeapOk ρ κ base H w) {t : TypeId} {m i : SV} {ok : Bool} {l : List (BE × SV)} {v : SV} (h : xlook P H t m i ok = some (l, v)) :
    (Instr.lookup t (m.den ρ κ) (i.den ρ κ) ok).run P w = .ok (altDen ρ κ l v) w := by
  unfold xlook at h
  split at h
  · rename_i k kt vt m k' e hm
    obtain ⟨u1, u2⟩ := mapP_spec hm
    split at h
    · rename_i z hz
      cases hq : Nat.beq (kn k) (kn k')
      · rw [hq] at h; cases h
      · rw [hq] at h; simp only [cond_true] at h
        have := kn_eq hq; subst this
        split at h
        · rename_i id
          split at h
          · rename_i k2 es ho
            cases hq2 : Nat.beq (kn k) (kn k2)
            · rw [hq2] at h; cases h
            · rw [hq2] at h; simp only [cond_true] at h; cases h
              have := kn_eq hq2; subst this
              obtain ⟨⟨b, hb, mp, clock, e1, e2⟩, _⟩ := hH.obj id _ ho
              subst e1
              have hf := run_findKey (P := P) (w := w) u2 (e.den ρ) mp.toList (esDen ρ κ es) (by rw [e2, esDen_map])
              rw [esDen_map] at hf
              rw [den_mref, den_int]
              simp only [Instr.lookup, Sem.run_bind, run_underlying u1, Result.andThen_ok, run_getObjM (P := P) hb, Sem.run_pure, run_checkKey u2 _ 9999, hf]
              have := lookAlts_den (ρ := ρ) (κ := κ) k ok e z es 0
              rw [this]
              cases findI k (e.den ρ) (es.map fun e => (.int k (e.1.den ρ), e.2.den ρ κ)) 0 with
              | none => simp [run_zeroP hz ρ κ]
              | some x => simp
          · cases h
        · cases h
          have hf := run_findKey (P := P) (w := w) u2 (e.den ρ) [] [] rfl
          simp only [SV.den, SA.den, SC.den, bigCell, Value.oneCell', if_true, Instr.lookup, Sem.run_bind, run_underlying u1, Result.andThen_ok, Sem.run_pure, run_checkKey u2 _ 9999, hf]
          simp only [List.map_nil, findI, Sem.run_bind, run_zeroP hz ρ κ, Result.andThen_ok, Sem.run_pure, altDen]
          cases ok <;> simp [SV.den, SA.den, SC.den, BE.den]
        · cases h
    · cases h
  · cases h
/-- an entry put in -/
def putE (e : IE) (s : SA) : List (IE × SA) → Option (List (IE × SA))
  | [] => some [(e, s)]
  | (x, u) :: l => match mkCmp .eql e x with
    | .lit true => some ((e, s) :: l)
    | .lit false => (putE e s l).map ((x, u) :: ·)
    | _ => none
theorem putE_den {ρ : Env} {κ : Kap} (k : IntKind) {e : IE} {s : SA} : ∀ {es r : List (IE × SA)} (i : Nat), putE e s es = some r →
    (∃ j v, findI k (e.den ρ) (es.map fun e => (.int k (e.1.den ρ), e.2.den ρ κ)) i = some (i + j, v) ∧ (es[j]?.map fun x => x.1.den ρ) = some (e.den ρ) ∧ r = es.set j (e, s)) ∨
      (findI k (e.den ρ) (es.map fun e => (.int k (e.1.den ρ), e.2.den ρ κ)) i = none ∧ r = es ++ [(e, s)])
  | [], _, i, h => by simp only [putE] at h; cases h; exact .inr ⟨rfl, rfl⟩
  | (x, u) :: es, r, i, h => by
    unfold putE at h
    have hc := mkCmp_den ρ .eql e x
    simp only [bc] at hc
    split at h
    · rename_i hq
      cases h
      rw [hq] at hc; simp only [BE.den] at hc
      refine .inl ⟨0, u.den ρ κ, by simp only [List.map_cons, findI, ← hc, if_true, Nat.add_zero], ?_, rfl⟩
      simp only [List.getElem?_cons_zero, Option.map_some, Option.some.injEq]
      have := eq_of_beq hc.symm; exact this.symm
    · rename_i hq
      obtain ⟨q, hq2, rfl⟩ := Option.map_eq_some_iff.1 h
      rw [hq] at hc; simp only [BE.den] at hc
      simp only [List.map_cons, findI, ← hc, Bool.false_eq_true, if_false]
      rcases putE_den (ρ := ρ) (κ := κ) k (i + 1) hq2 with ⟨j, v, e1, e2, rfl⟩ | ⟨e1, rfl⟩
      · exact .inl ⟨j + 1, v, by rw [e1]; congr 2; omega, by simpa using e2, rfl⟩
      · exact .inr ⟨e1, rfl⟩
    · cases h
def xput (P : Program) (H : Heap) (t : TypeId) (m i x : SV) : Option (Nat × SObj) :=
  match mapP P t, m, i, x with
  | some (k, _, _), .a (.c (.mref id)), .a (.c (.int k' e)), .a s => match H.obj? id with
    | some (.map k2 es) => bif Nat.beq (kn k) (kn k') && Nat.beq (kn k) (kn k2) then (putE e s es).map fun r => (id, .map k r) else none
    | _ => none
  | _, _, _, _ => none
theorem map_modify_pair (l : List MapEntry) (j : Nat) (key val : Value) : (l.modify j fun e => { e with key, val }).map (fun e => (e.key, e.val)) = (l.map fun e => (e.key, e.val)).modify j fun _ => (key, val) := by
  induction l generalizing j with
  | nil => cases j <;> simp
  | cons e l ih =>
    cases j with
    | zero => simp
    | succ j => simp [ih]
theorem modify_const {α : Type} (l : List α) (j : Nat) (x : α) : (l.modify j fun _ => x) = l.set j x := by
  induction l generalizing j with
  | nil => cases j <;> simp
  | cons e l ih => cases j <;> simp [ih]
theorem xput_sound {P : Program} {ρ : Env} {κ : Kap} {base : Bk} {H : Heap} {w : World} (hH : HeapOk ρ κ base H w) {t : TypeId} {m i x : SV} {id : Nat} {o : SObj} (h : xput P H t m i x = some (id, o)) :
    ∃ w', (Instr.mapUpdate t (m.den ρ κ) (i.den ρ κ) (x.den ρ κ)).run P w = .ok () w' ∧ HeapOk ρ κ base (H.setObj id o) w' ∧ Kept base w w' := by
  unfold xput at h
  split at h
  · rename_i k kt vt id' k' e s hm
    obtain ⟨u1, u2⟩ := mapP_spec hm
    split at h
    · rename_i k2 es ho
      cases hq : (Nat.beq (kn k) (kn k') && Nat.beq (kn k) (kn k2))
      · rw [hq] at h; cases h
      · rw [hq] at h; simp only [cond_true] at h
        simp only [Bool.and_eq_true] at hq
        obtain ⟨r, hr, he⟩ := Option.map_eq_some_iff.1 h; cases he
        have q1 := kn_eq hq.1; have q2 := kn_eq hq.2
        subst q1; subst q2
        obtain ⟨⟨b, hb, mp, clock, e1, e2⟩, e3, e4⟩ := hH.obj id _ ho
        subst e1
        have hf := run_findKey (P := P) (w := w) u2 (e.den ρ) mp.toList (esDen ρ κ es) (by rw [e2, esDen_map])
        rw [esDen_map] at hf
        -- whatever is set
        have fin : ∀ mp' clock', mp'.toList.map (fun e => (e.key, e.val)) = (r.map fun e => (Value.int k (e.1.den ρ), e.2.den ρ κ)) →
            HeapOk ρ κ base (H.setObj id (.map k r)) { w with heap := w.heap.setIfInBounds (κ.o id) (.map mp' clock') } ∧ Kept base w { w with heap := w.heap.setIfInBounds (κ.o id) (.map mp' clock') } := by
          intro mp' clock' hmp
          have hlt := hH.lt ho
          have hoth : ∀ j, j ≠ κ.o id → (w.heap.setIfInBounds (κ.o id) (.map mp' clock'))[j]? = w.heap[j]? := fun j hj => by
            rw [Array.getElem?_setIfInBounds_ne (Ne.symm hj)]
          refine ⟨hH.setObj ho (b := .map mp' clock') (by simp [hlt]) ⟨mp', clock', rfl, hmp⟩ hoth, ⟨⟨rfl, rfl, rfl, by simp, fun j hj => hoth j (by omega)⟩, fun j hj hp => hoth j (fun e => e4 (e ▸ hp))⟩⟩
        rw [den_mref, den_int, den_a]
        simp only [Instr.mapUpdate, Sem.run_bind, run_underlying u1, Result.andThen_ok, run_getObjM (P := P) hb, run_checkKey u2 _ 9999, hf]
        rcases putE_den (ρ := ρ) (κ := κ) k 0 hr with ⟨j, v, g1, g2, rfl⟩ | ⟨g1, rfl⟩
        · rw [g1]
          simp only [Nat.zero_add]
          have hlen : mp.toList.length = es.length := by have := congrArg List.length e2; simpa using this
          have hjl : j < es.length := by
            rcases Nat.lt_or_ge j es.length with h | h
            · exact h
            · rw [List.getElem?_eq_none h] at g2; cases g2
          have hkey : ((mp[j]?).map (·.key)).getD (.int k (e.den ρ)) = .int k (e.den ρ) := by
            have h1 := congrArg (fun l => l[j]?) e2
            simp only [List.getElem?_map] at h1
            rw [List.getElem?_eq_getElem hjl] at h1 g2
            simp only [Option.map_some, Option.some.injEq] at g2
            have : mp[j]? = mp.toList[j]? := by simp
            rw [this]
            cases hm2 : mp.toList[j]? with
            | none => rfl
            | some x => rw [hm2] at h1; simp at h1; simp [h1.1, g2]
          rw [hkey]
          simp only [Instr.keyThatStays, Instr.sameBits, beq_self_eq_true, Bool.and_self, if_true, Sem.run_bind, Sem.run_pure, Result.andThen_ok, run_setObjM (P := P) _ hb]
          obtain ⟨f1, f2⟩ := fin (mp.modify j fun e1 => { e1 with key := .int k (e.den ρ), val := s.den ρ κ }) clock (by
            rw [Array.toList_modify, map_modify_pair, e2, modify_const, List.map_set])
          exact ⟨_, rfl, f1, f2⟩
        · rw [g1]
          simp only [run_setObjM (P := P) _ hb]
          obtain ⟨f1, f2⟩ := fin (mp.push { key := .int k (e.den ρ), val := s.den ρ κ, born := clock }) (clock + 1) (by simp [e2])
          exact ⟨_, rfl, f1, f2⟩
    · cases h
  · cases h
theorem xmkmap_sound {P : Program} {ρ : Env} {κ : Kap} {base : Bk} {H : Heap} {w : World} (hH : HeapOk ρ κ base H w) (hz : base.top ≤ w.heap.size) (t : TypeId) (k : IntKind) :
    DoesNew ρ κ base H w (((Instr.makeMap t none).run P w).andThen fun v w' => .ok (.value v) w') (.map k []) .mref none := by
  intro n hf _
  refine ⟨κ.setO n w.heap.size 0, w.alloc (.map #[] 0), KBut.setO n _ _ κ, ?_, hH.alloc hf hz 0 (.map k []) (.map #[] 0) ⟨#[], 0, rfl, rfl⟩, Kept.of_below ((Below.refl _ _).alloc (Nat.le_refl _) _) (Nat.le_trans base.le hz)⟩
  simp [Instr.makeMap, newPtr, SV.den, SA.den, SC.den, Kap.setO]
end Go.SX
