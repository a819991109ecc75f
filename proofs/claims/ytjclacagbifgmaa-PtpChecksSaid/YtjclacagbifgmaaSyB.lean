/- SxB: the symbolic heap; operations that give a value and leave the world alone. -/
import Derived.Test.YtjclacagbifgmaaSyA
import Derived.Below
import Derived.ChangeKeysEq
set_option linter.unusedSimpArgs false
set_option linter.unusedVariables false
set_option linter.unusedSectionVars false
noncomputable section
namespace Go.SX
open Go Go.RowKit

/-- the kind of a cell of an array -/
inductive CK where
  | int (k : IntKind)
  | bool
  | val
 
def CK.den : CK → Dat → Value
  | .int k, d => .int k d.int
  | .bool, d => .bool d.bool
  | .val, d => d.val
theorem CK.den_one (k : CK) (d : Dat) : (k.den d).oneCell' = true := by cases k <;> first | rfl | exact Dat.val_one _
def CK.sc (c f : Nat) (x : IE) : CK → SC
  | .int k => .int k (.sel c f x)
  | .bool => .bool (.sel c f x)
  | .val => .axs c f x
theorem CK.sc_den (ρ : Env) (κ : Kap) (c f : Nat) (x : IE) (k : CK) : (k.sc c f x).den ρ κ = k.den (ρ.at c f (x.den ρ)) := by
  cases k <;> simp [CK.sc, CK.den, SC.den, IE.den, BE.den]
/-- the cells of one row -/
def rowCells : List CK → List Dat → List Value
  | [], _ => []
  | k :: p, r => k.den (r.headD (.i 0)) :: rowCells p r.tail
theorem rowCells_length (p : List CK) : ∀ (r : List Dat), (rowCells p r).length = p.length := by
  induction p with
  | nil => intro r; rfl
  | cons k p ih => intro r; simp [rowCells, ih]
theorem rowCells_get (p : List CK) : ∀ (r : List Dat) (f : Nat) (k : CK), p[f]? = some k → (rowCells p r)[f]? = some (k.den (r.getD f (.i 0))) := by
  induction p with
  | nil => intro r f k h; simp at h
  | cons k0 p ih =>
    intro r f k h
    cases f with
    | zero => simp at h; subst h; cases r <;> simp [rowCells]
    | succ f => simp at h; have := ih r.tail f k h; cases r <;> simp_all [rowCells]
theorem rowCells_one (p : List CK) : ∀ (r : List Dat), ∀ v ∈ rowCells p r, v.oneCell' = true := by
  induction p with
  | nil => intro r v h; cases h
  | cons k p ih =>
    intro r v h
    rcases List.mem_cons.1 h with rfl | h
    · exact CK.den_one _ _
    · exact ih _ v h
/-- the cells of an array -/
def arrCells (p : List CK) (l : List (List Dat)) : List Value := l.flatMap (rowCells p)
theorem arrCells_length (p : List CK) (l : List (List Dat)) : (arrCells p l).length = l.length * p.length := by
  induction l with
  | nil => simp [arrCells]
  | cons r l ih => simp only [arrCells, List.flatMap_cons, List.length_append, rowCells_length, List.length_cons] at ih ⊢; rw [ih, Nat.add_mul]; omega
theorem arrCells_get (p : List CK) : ∀ (l : List (List Dat)) (x f : Nat) (r : List Dat) (k : CK), l[x]? = some r → p[f]? = some k → (arrCells p l)[x * p.length + f]? = some (k.den (r.getD f (.i 0))) := by
  intro l
  induction l with
  | nil => intro x f r k h; simp at h
  | cons r0 l ih =>
    intro x f r k hx hf
    have hfl : f < p.length := (List.getElem?_eq_some_iff.1 hf).1
    simp only [arrCells, List.flatMap_cons, List.getElem?_append, rowCells_length]
    cases x with
    | zero => simp at hx; subst hx; simp [hfl, rowCells_get p _ f k hf]
    | succ x =>
      simp at hx
      have := ih x f r k hx hf
      simp only [arrCells] at this
      have h1 : ¬ (x + 1) * p.length + f < p.length := by rw [Nat.add_mul]; omega
      rw [if_neg h1, ← this]; congr 1; rw [Nat.add_mul]; omega
/-- the code at a place of a code -/
def codeAt : Code → List Bool → Option Code
  | c, [] => some c
  | .seq a _, false :: p => codeAt a p
  | .seq _ b, true :: p => codeAt b p
  | .cond _ a _, false :: p => codeAt a p
  | .cond _ _ b, true :: p => codeAt b p
  | .block _ b, false :: p => codeAt b p
  | .loop b, false :: p => codeAt b p
  | .scope b, false :: p => codeAt b p
  | .rangeFunc _ _ a _, false :: p => codeAt a p
  | .rangeFunc _ _ _ b, true :: p => codeAt b p
  | _, _ => none
theorem codeAt_nil (c : Code) : codeAt c [] = some c := by cases c <;> rfl
theorem codeAt_append : ∀ (p : List Bool) (c : Code) (q : List Bool), codeAt c (p ++ q) = (codeAt c p).bind fun d => codeAt d q
  | [], c, q => by rw [codeAt_nil]; rfl
  | b :: p, c, q => by
    cases c <;> cases b <;> (try simp only [List.cons_append, codeAt, Option.bind_none]) <;> exact codeAt_append p _ q
/-- the code at a place (told from its end) of a function -/
def placeOf (P : Program) (f : FuncId) (p : List Bool) : Option Code := match P.funcs[f]? with
  | some fn => match fn.body with
    | some c => codeAt c p.reverse
    | none => none
  | none => none
theorem placeOf_cons {P : Program} {f : FuncId} {p : List Bool} {b : Bool} {c d : Code} (h : placeOf P f p = some c) (hd : codeAt c [b] = some d) : placeOf P f (b :: p) = some d := by
  unfold placeOf at h ⊢
  split at h
  · split at h
    · rename_i fn _ c' hb; rw [List.reverse_cons, codeAt_append, h]; exact hd
    · cases h
  · cases h
/-- a loop over a function: the model's record, by terms; its code by its place -/
structure SLoop where
  state : LoopState
  pending : Option Code
  fn : FuncId
  path : List Bool
  sl : Sl
/-- what lies in a block of the call's own: cells (with g = some z: a row of elements of z cells, that may hold more behind these); a loop's record; a map with keys of an integer kind -/
inductive SObj where
  | cells (cs : List SC) (ty : TypeId) (g : Option Nat)
  | loop (r : SLoop)
  | map (k : IntKind) (es : List (IE × SA))
/-- what is known of a block: all of it; or an array that can be read (and, if it is the call's own row, written and appended to) -/
inductive HE where
  | obj (id : Nat) (o : SObj)
  | arr (j c : Nat) (pat : List CK) (row : Option TypeId)
abbrev Heap := List HE
def Heap.obj? (H : Heap) (id : Nat) : Option SObj :=
  match H with
  | [] => none
  | .obj i o :: H => bif Nat.beq i id then some o else Heap.obj? H id
  | _ :: H => Heap.obj? H id
def Heap.own? (H : Heap) (id : Nat) : Option (List SC × TypeId) := match H.obj? id with
  | some (.cells cs ty _) => some (cs, ty)
  | _ => none
def Heap.arr? (H : Heap) (j : Nat) : Option (Nat × List CK × Option TypeId) :=
  match H with
  | [] => none
  | .arr i c p o :: H => bif Nat.beq i j then some (c, p, o) else Heap.arr? H j
  | _ :: H => Heap.arr? H j
/-- the slots' values, where they are known -/
def SlotsOk (ρ : Env) (κ : Kap) (sl : Sl) (tm : Array Value) : Prop := (∀ (t : Nat) (s : SV), slot sl t = some s → t < tm.size) ∧ ∀ (t : Nat) (s : SV), slot sl t = some s → s.isAny = false → tm[t]? = some (s.den ρ κ)
def SObj.Is (P : Program) (ρ : Env) (κ : Kap) (id : Nat) : SObj → Obj → Prop
  | .cells cs ty none, b => b = .cells (cs.map (SC.den ρ κ)).toArray ty (0, 0)
  | .cells cs ty (some z), b => ∃ sp : List Value, b = .cells (cs.map (SC.den ρ κ) ++ sp).toArray ty (0, 0) ∧ cs.length + sp.length = κ.cap id * z ∧ κ.cap id ≤ maxLen
  | .loop r, b => ∃ tm f ps as bo D fn, placeOf P r.fn r.path = some (.rangeFunc f ps as bo) ∧ SlotsOk ρ κ r.sl tm ∧ b = .loop { state := r.state, pending := r.pending, fn := fn, tmps := tm, params := ps, assign := as, body := bo, defers := D }
  | .map k es, b => ∃ l clock, b = .map l clock ∧ l.toList.map (fun e => (e.key, e.val)) = es.map fun e => (.int k (e.1.den ρ), e.2.den ρ κ)
theorem own?_obj {H : Heap} {id : Nat} {cs : List SC} {ty : TypeId} (h : H.own? id = some (cs, ty)) : ∃ g, H.obj? id = some (.cells cs ty g) := by
  unfold Heap.own? at h
  split at h
  · rename_i cs' ty' g hg; cases h; exact ⟨g, hg⟩
  · cases h
/-- the slice that a whole row is -/
def rowVal (ρ : Env) (κ : Kap) (j n : Nat) : Value := .slice (if ρ.nl j then none else some ⟨κ.ab j, 0, none⟩) n (κ.cap j)
/-- what may not turn: the blocks below b, and some others -/
structure Bk where
  P : Program
  b : Nat
  top : Nat
  keep : Nat → Prop
  le : b ≤ top
  lt : ∀ k, keep k → k < top
theorem Bk.new (B : Bk) {k : Nat} (h : B.top ≤ k) : B.b ≤ k ∧ ¬ B.keep k := ⟨Nat.le_trans B.le h, fun hk => by have := B.lt k hk; omega⟩
/-- nothing has turned that may not -/
structure Kept (B : Bk) (w w' : World) : Prop where
  bl : Below B.b w w'
  kp : ∀ k, k < w.heap.size → B.keep k → w'.heap[k]? = w.heap[k]?
theorem Kept.refl (B : Bk) (w : World) : Kept B w w := ⟨Below.refl _ _, fun _ _ _ => rfl⟩
theorem Kept.trans {B : Bk} {w w' w'' : World} (h : Kept B w w') (h' : Kept B w' w'') : Kept B w w'' :=
  ⟨h.bl.trans h'.bl, fun k hk hp => (h'.kp k (Nat.lt_of_lt_of_le hk h.bl.size) hp).trans (h.kp k hk hp)⟩
theorem Kept.of_below {B : Bk} {w w' : World} (h : Below w.heap.size w w') (hz : B.b ≤ w.heap.size) : Kept B w w' := ⟨h.mono hz, fun k hk _ => h.block k hk⟩
theorem Kept.size {B : Bk} {w w' : World} (h : Kept B w w') : w.heap.size ≤ w'.heap.size := h.bl.size
structure HeapOk (ρ : Env) (κ : Kap) (base : Bk) (H : Heap) (w : World) : Prop where
  obj : ∀ id o, H.obj? id = some o → (∃ b, w.heap[κ.o id]? = some b ∧ o.Is base.P ρ κ id b) ∧ base.b ≤ κ.o id ∧ ¬ base.keep (κ.o id)
  inj : ∀ id o id' o', H.obj? id = some o → H.obj? id' = some o' → κ.o id = κ.o id' → id = id'
  arr : ∀ j c pat o, H.arr? j = some (c, pat, o) → (∀ (x f : Nat) r k, (ρ.a c)[x]? = some r → pat[f]? = some k → w.cell? ⟨κ.ab j, κ.ao j + x * pat.length + f, none⟩ = some (k.den (r.getD f (.i 0)))) ∧ (ρ.nl j = true → ρ.a c = [])
  sep : ∀ j c pat o id ob, H.arr? j = some (c, pat, o) → H.obj? id = some ob → (ρ.a c ≠ [] ∧ pat ≠ []) ∨ (o.isSome = true ∧ ρ.nl j = false) → κ.ab j ≠ κ.o id
  row : ∀ j c pat E, H.arr? j = some (c, pat, some E) → κ.ao j = 0 ∧ w.ownsRow base.b E pat.length (rowVal ρ κ j (ρ.a c).length) (ρ.a c).length (arrCells pat (ρ.a c)) ∧ (ρ.nl j = false → ¬ base.keep (κ.ab j))
  rsep : ∀ j c pat E j' c' pat' o', H.arr? j = some (c, pat, some E) → H.arr? j' = some (c', pat', o') → j ≠ j' → ρ.nl j = false → (ρ.a c' ≠ [] ∧ pat' ≠ []) ∨ (o'.isSome = true ∧ ρ.nl j' = false) → κ.ab j ≠ κ.ab j'
/-- the cells of a block of the call's own, and what lies behind them -/
theorem HeapOk.own {ρ : Env} {κ : Kap} {base : Bk} {H : Heap} {w : World} (h : HeapOk ρ κ base H w) {id : Nat} {cs : List SC} {ty : TypeId} (ho : H.own? id = some (cs, ty)) :
    ∃ sp : List Value, w.heap[κ.o id]? = some (.cells (cs.map (SC.den ρ κ) ++ sp).toArray ty (0, 0)) := by
  obtain ⟨g, hg⟩ := own?_obj ho
  obtain ⟨⟨b, h1, h2⟩, _⟩ := h.obj id _ hg
  cases g with
  | none => exact ⟨[], by simp only [SObj.Is] at h2; rw [h1, h2, List.append_nil]⟩
  | some z => obtain ⟨sp, e, _⟩ := h2; exact ⟨sp, by rw [h1, e]⟩

/-! ### data by terms -/
mutual
inductive LV where
  | i (e : IE)
  | b (e : BE)
  | v (s : SC)
  | l (a : AE)
  | n (e : BE)
/-- the rows of an array, by terms -/
inductive AE where
  | nil
  | arr (c : Nat)
  | sub (c : Nat) (x len : IE)
  | rows (l : List (List LV))
  | cat (a b : AE)
  | rep (n : IE) (row : List LV)
  | set (c : Nat) (x : IE) (vs : List LV)     -- row x turned
  | put (c : Nat) (x : IE) (a : AE)     -- the rows from x on turned to a
end
def kap0 : Kap := ⟨fun _ => 0, fun _ => 0, fun _ => 0, fun _ => 0⟩
/-- rows x, x + 1, .. turned -/
def putRows (l : List (List Dat)) (x : Nat) (a : List (List Dat)) : List (List Dat) := l.mapIdx fun i r => if x ≤ i then (a[i - x]?).getD r else r
theorem putRows_length (l : List (List Dat)) (x : Nat) (a : List (List Dat)) : (putRows l x a).length = l.length := by simp [putRows]
theorem putRows_eq {l a : List (List Dat)} {x : Nat} (h : x + a.length ≤ l.length) : putRows l x a = l.take x ++ a ++ l.drop (x + a.length) := by
  apply List.ext_getElem?
  intro i
  simp only [putRows, List.getElem?_mapIdx, List.getElem?_append, List.length_append, List.length_take, List.getElem?_take, List.getElem?_drop]
  have hm : min x l.length = x := Nat.min_eq_left (by omega)
  rw [hm]
  by_cases h1 : i < x
  · rw [if_pos (by omega), if_pos h1, if_pos h1]
    cases l[i]? <;> simp [h1]
    omega
  · by_cases h2 : i < x + a.length
    · rw [if_pos h2, if_neg h1]
      have h3 : i < l.length := by omega
      rw [List.getElem?_eq_getElem h3, List.getElem?_eq_getElem (show i - x < a.length by omega)]
      simp; omega
    · rw [if_neg h2, show x + a.length + (i - (x + a.length)) = i by omega]
      have h4 : a[i - x]? = none := List.getElem?_eq_none (by omega)
      rw [h4]
      cases l[i]? <;> simp
theorem putRows_all {l a : List (List Dat)} (h : a.length = l.length) : putRows l 0 a = a := by
  rw [putRows_eq (by omega)]; simp [h]
mutual
def LV.eval (ρ : Env) : LV → Dat
  | .i e => .i (e.den ρ)
  | .b e => .b (e.den ρ)
  | .v s => .v ⟨s.den ρ kap0, SC.den_one ρ kap0 s⟩
  | .l a => .l (a.den ρ)
  | .n e => .n (e.den ρ)
def AE.den (ρ : Env) : AE → List (List Dat)
  | .nil => []
  | .arr c => ρ.a c
  | .sub c x len => ((ρ.a c).drop (x.den ρ).toNat).take (len.den ρ).toNat
  | .rows l => LV.evalLL ρ l
  | .cat a b => a.den ρ ++ b.den ρ
  | .rep n row => List.replicate (n.den ρ).toNat (LV.evalL ρ row)
  | .set c x vs => (ρ.a c).set (x.den ρ).toNat (LV.evalL ρ vs)
  | .put c x a => putRows (ρ.a c) (x.den ρ).toNat (a.den ρ)
def LV.evalL (ρ : Env) : List LV → List Dat
  | [] => []
  | v :: l => v.eval ρ :: LV.evalL ρ l
def LV.evalLL (ρ : Env) : List (List LV) → List (List Dat)
  | [] => []
  | r :: l => LV.evalL ρ r :: LV.evalLL ρ l
end
theorem LV.evalL_eq (ρ : Env) (l : List LV) : LV.evalL ρ l = l.map (LV.eval ρ) := by
  induction l with
  | nil => rw [LV.evalL]; rfl
  | cons v l ih => rw [LV.evalL, ih]; rfl
theorem LV.evalLL_eq (ρ : Env) (l : List (List LV)) : LV.evalLL ρ l = l.map (LV.evalL ρ) := by
  induction l with
  | nil => rw [LV.evalLL]; rfl
  | cons v l ih => rw [LV.evalLL, ih]; rfl
/-- a value that names no block -/
def SC.free : SC → Bool
  | .vx _ | .axs .. | .lit _ | .str _ | .strA .. => true
  | _ => false
theorem SC.free_den {s : SC} (h : s.free = true) (ρ : Env) (κ κ' : Kap) : s.den ρ κ = s.den ρ κ' := by
  cases s <;> simp [SC.free] at h <;> simp only [SC.den]

/-! ### constants -/
def constSC : Value → Option SC
  | .int k n => some (.int k (.lit n))
  | .bool b => some (.bool (.lit b))
  | .agg _ | .tuple _ => none
  | v => some (.lit v)
theorem constSC_den {v : Value} {s : SC} (h : constSC v = some s) (ρ : Env) (κ : Kap) : s.den ρ κ = v := by
  cases v <;> simp [constSC] at h <;> subst h <;> simp [SC.den, IE.den, BE.den, bigCell, Value.oneCell']
def constSCs : List Value → Option (List SC)
  | [] => some []
  | v :: l => match constSC v, constSCs l with
    | some s, some r => some (s :: r)
    | _, _ => none
theorem constSCs_den {l : List Value} {r : List SC} (h : constSCs l = some r) (ρ : Env) (κ : Kap) : r.map (SC.den ρ κ) = l := by
  induction l generalizing r with
  | nil => simp [constSCs] at h; subst h; rfl
  | cons v l ih =>
    unfold constSCs at h
    split at h
    · rename_i s q h1 h2; simp at h; subst h; simp [constSC_den h1, ih h2]
    · cases h
def constSA : Value → Option SA
  | .agg vs => (constSCs vs.toList).map .agg
  | v => (constSC v).map .c
theorem constSA_den {v : Value} {s : SA} (h : constSA v = some s) (ρ : Env) (κ : Kap) : s.den ρ κ = v := by
  unfold constSA at h
  split at h
  · rename_i vs
    cases hc : constSCs vs.toList with
    | none => simp [hc] at h
    | some r => simp [hc] at h; subst h; simp [SA.den, constSCs_den hc]
  · simp at h
    obtain ⟨r, hc, rfl⟩ := h
    simp [SA.den, constSC_den hc]
def constSV : Value → Option SV
  | .tuple vs => if vs.toList.isEmpty then some (.tup []) else none
  | v => (constSA v).map .a
theorem constSV_den {v : Value} {s : SV} (h : constSV v = some s) (ρ : Env) (κ : Kap) : s.den ρ κ = v := by
  unfold constSV at h
  split at h
  · rename_i vs
    split at h
    · rename_i he
      simp at h; subst h
      have : vs = #[] := by simpa using he
      subst this; rfl
    · cases h
  · simp at h
    obtain ⟨r, hc, rfl⟩ := h
    simp [SV.den, constSA_den hc]

/-- an operand's value -/
def opv (sl : Sl) : Operand → Option SV
  | .tmp t => match slot sl t with
    | some s => bif s.isAny then none else some s
    | none => none
  | .const v => constSV v
  | .func f => some (.c (.fn (.func f) [] []))
  | .global _ => none
/-- the frame is the slots' values, where they are known -/
abbrev FrameOk (ρ : Env) (κ : Kap) (sl : Sl) (a : Act) : Prop := SlotsOk ρ κ sl a.tmps
theorem opv_den {ρ : Env} {κ : Kap} {sl : Sl} {a : Act} (hf : FrameOk ρ κ sl a) {x : Operand} {s : SV} (h : opv sl x = some s) : a.eval x = s.den ρ κ := by
  cases x with
  | tmp t =>
    simp only [opv] at h
    split at h
    · rename_i s' hs
      cases ha : s'.isAny
      · rw [ha] at h; cases h
        simp [Act.eval, hf.2 t s hs ha]
      · rw [ha] at h; cases h
    · cases h
  | const v => exact (constSV_den h ρ κ).symm
  | func f => simp [opv] at h; subst h; simp [Act.eval, SV.den, SA.den, SC.den, SC.denL]
  | global g => cases h

/-! ### tables -/
def sizeP (P : Program) (t : TypeId) : Option Nat := match P.info? t with | some i => some i.size | none => none
theorem run_sizeP {P : Program} {t : TypeId} {n : Nat} (h : sizeP P t = some n) (w : World) : (sizeOf t).run P w = .ok n w := by
  unfold sizeP at h
  split at h
  · rename_i i hi; simp at h; subst h; simp [sizeOf, typeInfo, hi]
  · cases h
def rowP (P : Program) (t : TypeId) : Option Bool := match P.underlying t with
  | some (.struct _) | some (.array _ _) => some true
  | some _ => some false
  | none => none
theorem run_rowP {P : Program} {t : TypeId} {b : Bool} (h : rowP P t = some b) (w : World) : (isAgg t).run P w = .ok b w := by
  unfold rowP at h
  unfold isAgg
  rw [Sem.run_bind]
  split at h
  · rename_i hu; rw [run_underlying hu]; simp at h; subst h; rfl
  · rename_i hu; rw [run_underlying hu]; simp at h; subst h; rfl
  · rename_i d h1 h2 hu
    rw [run_underlying hu]; simp at h; subst h
    cases d <;> first | rfl | (exfalso; simp at h1; done) | (exfalso; simp at h2; done)
  · cases h
def fieldP (P : Program) (t : TypeId) (f : Nat) : Option Field := match P.underlying t with
  | some (.struct fs) => fs[f]?
  | _ => none
/-- The part of a row. -/
def xpart (P : Program) (t : TypeId) (cs : List SC) (off : Nat) : Option SA :=
  match rowP P t, sizeP P t with
  | some true, some n => some (.agg ((cs.drop off).take n))
  | some false, _ => (cs[off]?).map .c
  | _, _ => none
theorem run_xpart {P : Program} {ρ : Env} {κ : Kap} {t : TypeId} {cs : List SC} {off : Nat} {s : SA} (h : xpart P t cs off = some s) (w : World) :
    (part t (cs.map (SC.den ρ κ)).toArray off).run P w = .ok (s.den ρ κ) w := by
  unfold xpart at h
  split at h
  · rename_i n hr hs
    simp at h; subst h
    simp only [part, Sem.run_bind, run_rowP hr, Result.andThen_ok, if_true, run_sizeP hs, Sem.run_pure, SA.den, List.map_take, List.map_drop]
    simp [List.extract_eq_take_drop]
  · rename_i hr
    cases hc : cs[off]? with
    | none => simp [hc] at h
    | some c =>
      simp [hc] at h; subst h
      simp [part, run_rowP hr, SA.den, hc]
  · cases h

/-! ### comparison of values -/
mutual
def xeq (P : Program) : Nat → TypeId → SA → SA → Option BE
  | 0, _, _, _ => none
  | d + 1, t, x, y => match P.underlying t, x, y with
    | some (.int _), .c (.int k a), .c (.int k' b) => bif Nat.beq (kn k) (kn k') then some (mkCmp .eql a b) else none
    | some .bool, .c (.bool a), .c (.bool b) => some (mkEq a b)
    | some (.struct fs), .agg xs, .agg ys => if P.stoodInHeld t then none else xeqF P d fs.toList xs ys
    | some (.array n e), .agg xs, .agg ys => match sizeP P e with
      | some m => xeqA P d e m n 0 xs ys
      | none => none
    | _, _, _ => none
def xeqF (P : Program) : Nat → List Field → List SC → List SC → Option BE
  | 0, _, _, _ => none
  | _ + 1, [], _, _ => some (.lit true)
  | d + 1, f :: fs, xs, ys => if f.name = "_" then none else match xpart P f.type xs f.offset, xpart P f.type ys f.offset with
    | some a, some b => match xeq P d f.type a b, xeqF P d fs xs ys with
      | some p, some q => some (mkAnd p q)
      | _, _ => none
    | _, _ => none
def xeqA (P : Program) : Nat → TypeId → Nat → Nat → Nat → List SC → List SC → Option BE
  | 0, _, _, _, _, _, _ => none
  | _ + 1, _, _, 0, _, _, _ => some (.lit true)
  | d + 1, e, m, n + 1, i, xs, ys => match xpart P e xs (i * m), xpart P e ys (i * m) with
    | some a, some b => match xeq P d e a b, xeqA P d e m n (i + 1) xs ys with
      | some p, some q => some (mkAnd p q)
      | _, _ => none
    | _, _ => none
end
def eqArr (d : Nat) (e : TypeId) (m : Nat) (xs ys : Array Value) : Nat → Nat → Sem Bool
  | 0, _ => pure true
  | n + 1, i => do
    let a ← part e xs (i * m)
    let b ← part e ys (i * m)
    let r ← Op.equalIn d e a b
    if (!r) = true then pure false else eqArr d e m xs ys n (i + 1)
theorem run_equalIn_array {P : Program} (w : World) (d : Nat) (t : TypeId) (n : Nat) (e : TypeId) (m : Nat) (xs ys : Array Value) (ht : P.underlying t = some (.array n e)) (hs : sizeP P e = some m) :
    (Op.equalIn (d + 1) t (.agg xs) (.agg ys)).run P w = (eqArr d e m xs ys n 0).run P w := by
  simp only [Op.equalIn, Sem.run_bind, run_underlying ht, Result.andThen_ok, run_sizeP hs]
  rw [Std.Legacy.Range.forIn_eq_forIn_range']
  have hsz : ({ start := 0, stop := n, step := 1, step_pos := Nat.one_pos } : Std.Legacy.Range).size = n := by simp [Std.Legacy.Range.size]
  simp only [hsz]
  generalize 0 = i
  clear ht hsz
  induction n generalizing i w with
  | zero => simp [eqArr]
  | succ n ih =>
    simp only [List.range'_succ, List.forIn_cons, eqArr, Sem.run_bind]
    generalize (part e xs (i * m)).run P w = r1
    cases r1 with
    | ok a w1 =>
      simp only [Result.andThen_ok]
      generalize (part e ys (i * m)).run P w1 = r2
      cases r2 with
      | ok b w2 =>
        simp only [Result.andThen_ok]
        generalize (Op.equalIn d e a b).run P w2 = r3
        cases r3 with
        | ok r w3 =>
          cases r
          · simp only [Result.andThen_ok, Bool.not_false, if_true, Sem.run_pure]
          · simp only [Result.andThen_ok, Bool.not_true, Bool.false_eq_true, if_false, Sem.run_pure]
            exact ih w3 (i + 1)
        | halt x w3 => simp [Result.andThen]
      | halt x w2 => simp [Result.andThen]
    | halt x w1 => simp [Result.andThen]
theorem xeq_sound (P : Program) (ρ : Env) (κ : Kap) (w : World) : ∀ d,
    (∀ t x y b, xeq P d t x y = some b → ∀ D, d ≤ D → (Op.equalIn D t (x.den ρ κ) (y.den ρ κ)).run P w = .ok (b.den ρ) w) ∧
    (∀ fs xs ys b, xeqF P d fs xs ys = some b → ∀ D, d ≤ D → (Op.eqFields D (xs.map (SC.den ρ κ)).toArray (ys.map (SC.den ρ κ)).toArray fs).run P w = .ok (b.den ρ) w) ∧
    (∀ e m n i xs ys b, xeqA P d e m n i xs ys = some b → ∀ D, d ≤ D → (eqArr D e m (xs.map (SC.den ρ κ)).toArray (ys.map (SC.den ρ κ)).toArray n i).run P w = .ok (b.den ρ) w) := by
  intro d
  induction d with
  | zero => exact ⟨fun t x y b h => by simp [xeq] at h, fun fs xs ys b h => by simp [xeqF] at h, fun e m n i xs ys b h => by simp [xeqA] at h⟩
  | succ d ih =>
    obtain ⟨ih1, ih2, ih3⟩ := ih
    refine ⟨fun t x y b h D hD => ?_, fun fs xs ys b h D hD => ?_, fun e m n i xs ys b h D hD => ?_⟩
    · obtain ⟨D, rfl⟩ : ∃ D', D = D' + 1 := ⟨D - 1, by omega⟩
      unfold xeq at h
      split at h
      · rename_i k0 k a k' b' hu
        cases hk : Nat.beq (kn k) (kn k')
        · rw [hk] at h; cases h
        · rw [hk] at h; simp at h; subst h
          have := kn_eq hk; subst this
          simp only [SA.den, SC.den, mkCmp_den, bc]
          exact run_equalIn_int w D t k _ _ _ hu
      · rename_i a b' hu
        simp at h; subst h
        simp only [SA.den, SC.den, mkEq_den]
        exact run_equalIn_bool' w D t _ _ hu
      · rename_i fs xs ys hu
        split at h
        · cases h
        · rename_i hp
          have hfo : P.fieldsOf t = fs := by simp [Program.fieldsOf, hu]
          simp only [SA.den]
          rw [run_equalIn_struct w D t _ _ (by rw [hfo]; exact hu) (by simpa using hp), hfo]
          exact ih2 _ _ _ _ h D (by omega)
      · rename_i n e xs ys hu
        split at h
        · rename_i m hm
          simp only [SA.den]
          rw [run_equalIn_array w D t n e m _ _ hu hm]
          exact ih3 _ _ _ _ _ _ _ h D (by omega)
        · cases h
      · cases h
    · cases fs with
      | nil => simp [xeqF] at h; subst h; simp [Op.eqFields, BE.den]
      | cons f fs =>
        unfold xeqF at h
        split at h
        · cases h
        · rename_i hne
          split at h
          · rename_i a b' ha hb
            split at h
            · rename_i p q hp hq
              simp at h; subst h
              have e1 := ih1 _ _ _ _ hp D (by omega)
              have e2 := ih2 _ _ _ _ hq D (by omega)
              simp only [Op.eqFields, hne, ne_eq, not_false_eq_true, if_true, Sem.run_bind, run_xpart ha, run_xpart hb, Result.andThen_ok, e1, mkAnd_den]
              cases p.den ρ <;> simp [e2]
            · cases h
          · cases h
    · cases n with
      | zero => simp [xeqA] at h; subst h; simp [eqArr, BE.den]
      | succ n =>
        unfold xeqA at h
        split at h
        · rename_i a b' ha hb
          split at h
          · rename_i p q hp hq
            simp at h; subst h
            have e1 := ih1 _ _ _ _ hp D (by omega)
            have e3 := ih3 _ _ _ _ _ _ _ hq D (by omega)
            simp only [eqArr, Sem.run_bind, run_xpart ha, run_xpart hb, Result.andThen_ok, e1, mkAnd_den]
            cases p.den ρ <;> simp [e3]
          · cases h
        · cases h
end Go.SX
