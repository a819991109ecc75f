/- SxK: the walk of a region that draws its order. -/
import Derived.Test.YthigggddccklpaaSxJ
set_option linter.unusedSimpArgs false
set_option linter.unusedVariables false
set_option linter.unusedSectionVars false
namespace Go.SX
open Go Go.RowKit

/-! ### what an operation looks at -/
def opsOf : Op → List Operand
  | .move x | .assign x | .unOp _ _ x | .convert _ _ x | .fieldAddr _ x _ | .field _ x _ | .load _ x | .extract x _ | .box _ x | .nilCheck x => [x]
  | .pick c a b => [c, a, b]
  | .binOp _ _ x y _ | .indexAddr _ x y | .index _ x y | .store _ x y | .makeSlice _ x y => [x, y]
  | .build _ ps | .buildSlice _ _ ps => ps.toList.map (·.2)
  | .slice _ x l h m => x :: (l.toList ++ (h.toList ++ m.toList))
  | .makeFunc _ a b => a.toList ++ b.toList
  | .call c => (match c.callee with
    | .value f => [f]
    | _ => []) ++ c.args.toList
  | _ => []
mutual
def SC.ids : SC → List Nat
  | .ptr id _ | .oslice id _ _ _ | .aptr id _ _ _ | .slice id _ _ _ _ _ => [id]
  | .fn _ a r => SC.idsL a ++ SC.idsL r
  | _ => []
def SC.idsL : List SC → List Nat
  | [] => []
  | s :: l => s.ids ++ SC.idsL l
end
def SA.ids : SA → List Nat
  | .c s => s.ids
  | .agg l => SC.idsL l
def SV.ids : SV → List Nat
  | .a s => s.ids
  | .tup l => l.flatMap SA.ids
  | _ => []
/-- the arrays that a slice lies in -/
def SV.aids : SV → List Nat
  | .a (.c (.slice j _ _ _ _ _)) => [j]
  | _ => []
/-- what the names lead to -/
def nearIds (H : Heap) : Nat → List Nat → List Nat
  | 0, ids => ids
  | d + 1, ids => nearIds H d (ids ++ ids.flatMap fun id => match H.own? id with
    | some (cs, _) => SC.idsL cs
    | none => [])
theorem nearIds_mem (H : Heap) : ∀ (d : Nat) (l : List Nat), ∀ x ∈ l, x ∈ nearIds H d l
  | 0, _, _, h => h
  | d + 1, l, x, h => nearIds_mem H d _ x (List.mem_append_left _ h)
def evIds (ev : Operand → Option SV) (x : Operand) : List Nat := match ev x with
  | some s => s.ids
  | none => []
def rdOf (H : Heap) (ev : Operand → Option SV) : Op → List Nat
  | .load _ x | .store _ x _ => evIds ev x
  | .indexAddr _ x _ | .slice _ x _ _ _ => match ev x with
    | some s => s.aids
    | none => []
  | .call c => nearIds H 3 (c.args.toList.flatMap (evIds ev))
  | _ => []
theorem evs_congr {ev ev' : Operand → Option SV} : ∀ {l : List Operand}, (∀ x ∈ l, ev x = ev' x) → evs ev l = evs ev' l
  | [], _ => rfl
  | x :: l, h => by simp only [evs, h x (List.mem_cons_self ..), evs_congr fun y hy => h y (List.mem_cons_of_mem _ hy)]
theorem xparts_congr {ev ev' : Operand → Option SV} : ∀ {l : List (Nat × Operand)}, (∀ x ∈ l.map (·.2), ev x = ev' x) → xparts ev l = xparts ev' l
  | [], _ => rfl
  | (i, x) :: l, h => by
    simp only [List.map_cons] at h
    simp only [xparts, h x (List.mem_cons_self ..), xparts_congr fun y hy => h y (List.mem_cons_of_mem _ hy)]
theorem evo_congr {ev ev' : Operand → Option SV} : ∀ {o : Option Operand}, (∀ x ∈ o.toList, ev x = ev' x) → evo ev o = evo ev' o
  | none, _ => rfl
  | some x, h => by simp only [evo, h x (by simp)]
/-- the heaps say the same of some names -/
def SameAt (H H' : Heap) (l : List Nat) : Prop := ∀ x ∈ l, H.own? x = H'.own? x ∧ H.arr? x = H'.arr? x
theorem xcells_congr {H H' : Heap} {p : SC} (h : SameAt H H' p.ids) (n : Nat) : xcells H p n = xcells H' p n := by
  cases p <;> simp only [xcells]
  · rename_i id off; rw [(h id (by simp [SC.ids])).1]
  · rename_i id s c x; rw [(h id (by simp [SC.ids])).2]
theorem xload_congr {P : Program} {H H' : Heap} {s : SV} (h : SameAt H H' s.ids) (t : TypeId) : xload P H t s = xload P H' t s := by
  unfold xload
  split
  · rename_i p
    have := fun n => xcells_congr (p := p) h n
    simp only [this]
  · rfl
theorem xindexAddr_congr {P : Program} {H H' : Heap} {s i : SV} (h : SameAt H H' s.aids) (t : TypeId) : xindexAddr P H t s i = xindexAddr P H' t s i := by
  unfold xindexAddr
  split
  · rename_i p i
    split <;> (try rfl)
    rename_i el j s c x len cap hu
    rw [(h j (by simp [SV.aids])).2]
  · rfl
theorem xslice_congr {P : Program} {H H' : Heap} {s : SV} {lo hi mx : Option SV} (h : SameAt H H' s.aids) (t : TypeId) : xslice P H t s lo hi mx = xslice P H' t s lo hi mx := by
  unfold xslice
  split
  · rename_i x lo hi mx h1 h2 h3
    split <;> (try rfl)
    rename_i e j s c x len cap hu
    have := (h j (by simp [SV.aids])).2
    simp only [this]
  · rfl
theorem xval_congr {P : Program} {H H' : Heap} {ev ev' : Operand → Option SV} {o : Op} (h : ∀ x ∈ opsOf o, ev x = ev' x) (ho : SameAt H H' (rdOf H ev o)) : xval P H ev o = xval P H' ev' o := by
  cases o <;> simp only [opsOf, List.mem_cons, List.not_mem_nil, or_false, forall_eq_or_imp, forall_eq] at h <;> simp only [xval] <;> (try (simp only [h]; done))
  case indexAddr t x i =>
    rw [← h.1, ← h.2]
    simp only [rdOf] at ho
    cases hx : ev x with
    | none => rfl
    | some s =>
      rw [hx] at ho
      cases ev i with
      | none => rfl
      | some i => exact xindexAddr_congr ho t
  case load t x =>
    rw [← h]
    simp only [rdOf, evIds] at ho
    cases hx : ev x with
    | none => rfl
    | some s => rw [hx] at ho; exact xload_congr ho t
  case build t ps => simp only [xbuild, xparts_congr h]
  case slice t x l hi m =>
    obtain ⟨h1, h2⟩ := h
    rw [← h1, ← evo_congr fun y hy => h2 y (List.mem_append_left _ hy), ← evo_congr fun y hy => h2 y (List.mem_append_right _ (List.mem_append_left _ hy)), ← evo_congr fun y hy => h2 y (List.mem_append_right _ (List.mem_append_right _ hy))]
    simp only [rdOf] at ho
    cases hx : ev x with
    | none => rfl
    | some s =>
      rw [hx] at ho
      cases evo ev l with
      | none => rfl
      | some l => cases evo ev hi with
        | none => rfl
        | some hi => cases evo ev m with
          | none => rfl
          | some m => exact xslice_congr ho t
  case makeFunc f a b =>
    rw [evs_congr fun y hy => h y (List.mem_append_left _ hy), evs_congr fun y hy => h y (List.mem_append_right _ hy)]
  case call c =>
    obtain ⟨callee, args, argTypes⟩ := c
    cases callee with
    | builtin b =>
      cases b <;> (try rfl)
      case min => dsimp only; rw [evs_congr fun y hy => h y (by simp [hy])]
      case max => dsimp only; rw [evs_congr fun y hy => h y (by simp [hy])]
      dsimp only
      split
      · rename_i x t hx ht
        rw [h x (by simp [hx])]
      · rename_i hne
        rfl
    | _ => rfl
theorem xbase_congr {P : Program} {H H' : Heap} {E : TypeId} {sz : Nat} {s : SC} (h : SameAt H H' s.ids) : xbase P H E sz s = xbase P H' E sz s := by
  unfold xbase
  split
  · rfl
  · rename_i j s0 len j'; rw [(h j (by simp [SC.ids])).2]
  · rename_i id len cap; rw [(h id (by simp [SC.ids])).1]
  · rfl
theorem xnews_congr {H H' : Heap} {sz : Nat} {pat : List CK} {s : SC} (h : SameAt H H' s.ids) : xnews H sz pat s = xnews H' sz pat s := by
  unfold xnews
  split
  · rename_i id off m cap; rw [(h id (by simp [SC.ids])).1]
  · rename_i k s x len cap; rw [(h k (by simp [SC.ids])).2]
  · rfl
  · rfl
theorem xappend_congr {P : Program} {H H' : Heap} {s x : SV} (h : SameAt H H' s.ids) (h' : SameAt H H' x.ids) (t : TypeId) : xappend P H t s x = xappend P H' t s x := by
  unfold xappend
  split
  · rename_i s x E hu
    have e1 : ∀ E sz, xbase P H E sz s = xbase P H' E sz s := fun E sz => xbase_congr h
    have e2 : ∀ sz pat, xnews H sz pat x = xnews H' sz pat x := fun sz pat => xnews_congr h'
    simp only [e1, e2]
  · rfl
theorem SameAt.mono {H H' : Heap} {l r : List Nat} (h : SameAt H H' l) (hs : ∀ x ∈ r, x ∈ l) : SameAt H H' r := fun x hx => h x (hs x hx)
theorem xone_congr {P : Program} {H H' : Heap} {ev ev' : Operand → Option SV} {o : Op} (h : ∀ x ∈ opsOf o, ev x = ev' x) (ho : SameAt H H' (rdOf H ev o)) : xone P H ev o = xone P H' ev' o := by
  unfold xone
  rw [xval_congr h ho]
  cases xval P H' ev' o with
  | some x => rfl
  | none =>
    cases o <;> simp only [opsOf, List.mem_cons, List.not_mem_nil, or_false, forall_eq_or_imp, forall_eq] at h <;> (try rfl) <;> dsimp only
    case box t x => rw [h]
    case buildSlice t l ps => rw [xparts_congr h]
    case makeSlice t l c => rw [h.1, h.2]
    case store t p x =>
      rw [← h.1, ← h.2]
      simp only [rdOf, evIds] at ho
      split
      · rename_i id off s hp hx
        rw [hp] at ho
        rw [(ho id (by simp [SV.ids, SA.ids, SC.ids])).1]
      · rfl
    case call c =>
      obtain ⟨callee, args, argTypes⟩ := c
      cases callee with
      | value f =>
        dsimp only
        rw [h f (by simp), evs_congr fun y hy => h y (by simp [hy])]
      | builtin b =>
        cases b <;> (try rfl)
        dsimp only
        split
        · rename_i x y t u hx ht
          rw [← h x (by simp [hx]), ← h y (by simp [hx])]
          split
          · rename_i x' y' hx' hy'
            have hs : ∀ z : Operand, ∀ s, (z = x ∨ z = y) → ev z = some s → SameAt H H' s.ids := fun z s hz hs => ho.mono fun i hi => by
              simp only [rdOf]
              refine nearIds_mem H 3 _ _ (List.mem_flatMap.2 ⟨z, by rw [hx]; simpa using hz, by simp only [evIds, hs]; exact hi⟩)
            rw [xappend_congr (hs x x' (.inl rfl) hx') (hs y y' (.inr rfl) hy')]
          · rfl
        · rfl
      | _ => rfl

/-! ### the pass in the order of the text -/
def tmps : List Operand → List Nat
  | [] => []
  | .tmp t :: l => t :: tmps l
  | _ :: l => tmps l
def looksOf (all : List Oper) (o : Oper) : List Nat := tmps (opsOf o.op) ++ (match o.guard with
  | some (j, _) => (match all[j]? with
    | some q => q.dst.toList
    | none => [])
  | none => [])
/-- the part of the heap that a call is told of -/
def Heap.only (H : Heap) (ids : List Nat) : Heap := match H with
  | [] => []
  | .own id cs ty :: H => bif nmem ids id then .own id cs ty :: Heap.only H ids else Heap.only H ids
  | .arr j c p o :: H => bif nmem ids j then .arr j c p o :: Heap.only H ids else Heap.only H ids
theorem Heap.only_own (H : Heap) (ids : List Nat) (x : Nat) : (H.only ids).own? x = bif nmem ids x then H.own? x else none := by
  induction H with
  | nil => simp only [Heap.only, Heap.own?]; cases nmem ids x <;> rfl
  | cons e H ih =>
    cases e with
    | own id cs ty =>
      simp only [Heap.only]
      cases hq : Nat.beq id x
      · cases hm : nmem ids id <;> simp only [cond_true, cond_false, Heap.own?, hq] <;> exact ih
      · rw [Nat.beq_eq] at hq; subst hq
        cases hm : nmem ids id
        · simp only [cond_false]; rw [ih, hm]; rfl
        · simp only [cond_true, Heap.own?]; simp
    | arr j c p o => simp only [Heap.only]; cases hm : nmem ids j <;> simp only [cond_true, cond_false, Heap.own?] <;> exact ih
theorem Heap.only_arr (H : Heap) (ids : List Nat) (x : Nat) : (H.only ids).arr? x = bif nmem ids x then H.arr? x else none := by
  induction H with
  | nil => simp only [Heap.only, Heap.arr?]; cases nmem ids x <;> rfl
  | cons e H ih =>
    cases e with
    | arr id c p o =>
      simp only [Heap.only]
      cases hq : Nat.beq id x
      · cases hm : nmem ids id <;> simp only [cond_true, cond_false, Heap.arr?, hq] <;> exact ih
      · rw [Nat.beq_eq] at hq; subst hq
        cases hm : nmem ids id
        · simp only [cond_false]; rw [ih, hm]; rfl
        · simp only [cond_true, Heap.arr?]; simp
    | own id cs ty => simp only [Heap.only]; cases hm : nmem ids id <;> simp only [cond_true, cond_false, Heap.arr?] <;> exact ih
/-- what a list of values leads to -/
def Heap.near (H : Heap) (vs : List SV) : Heap := H.only (nearIds H 3 (vs.flatMap SV.ids))
theorem HeapOk.only {ρ : Env} {κ : Kap} {base : Nat} {H : Heap} {w : World} (h : HeapOk ρ κ base H w) (ids : List Nat) : HeapOk ρ κ base (H.only ids) w := by
  refine h.sub (fun x y g => ?_) (fun x y g => ?_)
  · rw [Heap.only_own] at g
    cases hm : nmem ids x <;> rw [hm] at g <;> first | exact g | cases g
  · rw [Heap.only_arr] at g
    cases hm : nmem ids x <;> rw [hm] at g <;> first | exact g | cases g
theorem mem_of_nmem {l : List Nat} {n : Nat} (h : nmem l n = true) : n ∈ l := by
  induction l with
  | nil => cases h
  | cons x l ih =>
    simp only [nmem, Bool.or_eq_true, Nat.beq_eq] at h
    rcases h with rfl | h
    · exact List.mem_cons_self ..
    · exact List.mem_cons_of_mem _ (ih h)
theorem HeapOk.onlyAt {ρ : Env} {κ : Kap} {base : Nat} {H H' : Heap} {w : World} (h : HeapOk ρ κ base H' w) {ids : List Nat} (hs : SameAt H H' ids) : HeapOk ρ κ base (H.only ids) w := by
  refine h.sub (fun x y g => ?_) (fun x y g => ?_)
  · rw [Heap.only_own] at g
    cases hm : nmem ids x
    · rw [hm] at g; cases g
    · rw [hm] at g; rw [← (hs x (mem_of_nmem hm)).1]; exact g
  · rw [Heap.only_arr] at g
    cases hm : nmem ids x
    · rw [hm] at g; cases g
    · rw [hm] at g; rw [← (hs x (mem_of_nmem hm)).2]; exact g
def St.sh (st : St) (r : DR) (d : Option Nat) : St := { st with sl := putS st.sl d r.val, H := r.heap st.H }
def xd (C : Cfg) (all : List Oper) : List Oper → St → List DI → List BE → (List DI → List BE → St → Option Tree) → Option Tree
  | [], st, acc, nd, K => K acc nd st
  | o :: rest, st, acc, nd, K => match guardOf all st.sl o.guard with
    | none => none
    | some g => match bsimp st.facts g with
      | .lit false => xd C all rest (st.sh (.put sundef) o.dst) (acc ++ [⟨o.dst, .put sundef, looksOf all o, []⟩]) nd K
      | .lit true => match xone C.P st.H (evF st (.lit true)) o.op with
        | none => none
        | some (ns, r) => match openNeeds st.facts ns with
          | none => none
          | some q => match r with
            | .val v => xd C all rest ((st.learns q).sh (.put v) o.dst) (acc ++ [⟨o.dst, .put v, looksOf all o, rdOf st.H (evF st (.lit true)) o.op⟩]) (nd ++ q) K
            | .new cs ty sl => xd C all rest { (st.learns q).sh (.new st.n cs ty sl) o.dst with n := st.n + 1 } (acc ++ [⟨o.dst, .new st.n cs ty sl, looksOf all o, rdOf st.H (evF st (.lit true)) o.op⟩]) (nd ++ q) K
            | .store id off s => xd C all rest ((st.learns q).sh (.store id off s) o.dst) (acc ++ [⟨o.dst, .store id off s, looksOf all o, rdOf st.H (evF st (.lit true)) o.op⟩]) (nd ++ q) K
            | .row r => match xd C all rest { (st.learns q).sh (.row st.n r.src r.pat r.E) o.dst with n := st.n + 1 } (acc ++ [⟨o.dst, .row st.n r.src r.pat r.E, looksOf all o, rdOf st.H (evF st (.lit true)) o.op⟩]) (nd ++ q) K with
              | some t => bif r.ct.bnd st.n && r.nl.bnd st.n then some (.arr st.n r.ct r.nl t) else none
              | none => none
            | .call f args => match C.ct f with
              | none => none
              | some rs => match rs.mk st.n with
                | (_, _, _ :: _) => none
                | (ks, res, []) => bif (SV.bndL st.n args && res.bnd (st.n + ks.length)) && (st.H.only (rdOf st.H (evF st (.lit true)) o.op)).bnd st.n then
                    match xd C all rest { (st.learns q).sh (.put res) o.dst with n := st.n + ks.length } (acc ++ [⟨o.dst, .put res, looksOf all o, rdOf st.H (evF st (.lit true)) o.op⟩]) (nd ++ q) K with
                    | some t => some (.call f args (st.H.only (rdOf st.H (evF st (.lit true)) o.op)) st.n ks res [] t)
                    | none => none
                  else none
      | c => match xval C.P st.H (evF st c) o.op with
        | none => match xone C.P st.H (evF st c) o.op with
          | some (ns, .call f args) => match openNeeds st.facts (ns.map fun p => mkOr (mkNot c) p) with
            | none => none
            | some q => match C.ct f with
              | none => none
              | some rs => match rs.mk st.n with
                | (_, _, _ :: _) => none
                | (ks, res, []) => bif (SV.bndL st.n args && res.bnd (st.n + ks.length)) && (st.H.only (rdOf st.H (evF st c) o.op)).bnd st.n then
                    match xd C all rest { (st.learns q).sh (.put (SV.guard c res)) o.dst with n := st.n + ks.length } (acc ++ [⟨o.dst, .put (SV.guard c res), looksOf all o, rdOf st.H (evF st c) o.op⟩]) (nd ++ q) K with
                    | some t => some (.call f args (st.H.only (rdOf st.H (evF st c) o.op)) st.n ks res [] t)
                    | none => none
                  else none
          | _ => none
        | some (ns, v) => match openNeeds st.facts (ns.map fun p => mkOr (mkNot c) p) with
          | none => none
          | some q => xd C all rest ((st.learns q).sh (.put (SV.guard c v)) o.dst) (acc ++ [⟨o.dst, .put (SV.guard c v), looksOf all o, rdOf st.H (evF st c) o.op⟩]) (nd ++ q) K
def predsOk : Nat → List Oper → Bool
  | _, [] => true
  | i, o :: l => (preds o).all (fun j => Nat.blt j i) && predsOk (i + 1) l
def xdraw (C : Cfg) (ops : List Oper) (st : St) (K : St → Option Tree) : Option Tree :=
  bif st.bnd && (C.P.follows .mixedOrders && predsOk 0 ops) then
    xd C ops ops st [] [] fun dis nd st' => bif allOk (masks ops []) 0 dis then needT nd (K st') else none
  else none

/-! ### it is right -/
section
variable {C : Cfg} {base : Nat} {w0 : World} {R : Value → World → Prop}
/-- WHAT AN OPERATION DOES, WHEREVER IN THE ORDER IT STANDS. -/
def VOp (C : Cfg) (base : Nat) (w0 : World) (ρ : Env) (ops : Array Oper) (o : Oper) (di : DI) (sl0 : List SV) (H0 : Heap) : Prop :=
  ∀ (sl : List SV) (H : Heap) (κ : Kap) (a : Act) (w : World), (∀ t ∈ di.looks, slot sl t = slot sl0 t) → SameAt H0 H di.rd → FrameOk ρ κ sl a → a.defers = [] → HeapOk ρ κ base H w → Below base w0 w → base ≤ w.heap.size →
    ∀ (K : Act → World → Prop) (Q' : Exit → Act → World → Prop), (match di.r with
      | .put v => ∀ u w', u = v.den ρ κ → (w' = w ∨ Below w.heap.size w w') → K (a.put o.dst u) w'
      | .new id cs ty ps => K (a.put o.dst ((newPtr id ps).den ρ (κ.setO id w.heap.size))) (w.alloc (.cells (cs.map (SC.den ρ κ)).toArray ty))
      | .store id off s => (∃ cs ty, H.own? id = some (cs, ty)) → K (a.put o.dst undef) (w.setCells (κ.o id) off (s.cells.map (SC.den ρ κ)))
      | .row n src pat E => H.Free n ∧ ∀ κ' w', KBut n κ κ' → HeapOk ρ κ' base (.arr n n pat (some E) :: H.del src) w' → Below base w w' → K (a.put o.dst ((rowSV n pat).den ρ κ')) w') →
    if Region.wanted o (yielded ops a.tmps) then o.wp C.P a w K Q' else K (a.put o.dst undef) w
theorem tmps_mem {l : List Operand} {t : Nat} (h : Operand.tmp t ∈ l) : t ∈ tmps l := by
  induction l with
  | nil => cases h
  | cons x l ih =>
    rcases List.mem_cons.1 h with e | h2
    · subst e; exact List.mem_cons_self ..
    · cases x <;> simp only [tmps] <;> first | exact List.mem_cons_of_mem _ (ih h2) | exact ih h2
theorem opv_congr {sl sl0 : List SV} {all : List Oper} {o : Oper} (h : ∀ t ∈ looksOf all o, slot sl t = slot sl0 t) : ∀ x ∈ opsOf o.op, opv sl0 x = opv sl x := by
  intro x hx
  cases x with
  | tmp t => simp only [opv, h t (List.mem_append_left _ (tmps_mem hx))]
  | _ => rfl
theorem guard_congr {sl sl0 : List SV} {all : List Oper} {o : Oper} (h : ∀ t ∈ looksOf all o, slot sl t = slot sl0 t) : guardOf all sl0 o.guard = guardOf all sl o.guard := by
  unfold guardOf
  split
  · rfl
  · rename_i j want hg
    split
    · rename_i q hq
      split
      · rename_i d hd
        rw [h d (List.mem_append_right _ (by rw [hg]; simp only [hq, hd]; simp))]
      · rfl
    · rfl
theorem evF_congr {st : St} {c : BE} {sl : List SV} {H : Heap} {all : List Oper} {o : Oper} (h : ∀ t ∈ looksOf all o, slot sl t = slot st.sl t) : ∀ x ∈ opsOf o.op, evF st c x = evF { st with sl := sl, H := H } c x := by
  intro x hx
  simp only [evF, opv_congr h x hx]
theorem VOp_skip {ρ : Env} {ops : Array Oper} {o : Oper} {st : St} {g : BE} (hg : guardOf ops.toList st.sl o.guard = some g) (hF : ∀ p ∈ st.facts, p.den ρ = true) (hs : bsimp st.facts g = .lit false) :
    VOp C base w0 ρ ops o ⟨o.dst, .put sundef, looksOf ops.toList o, []⟩ st.sl st.H := by
  intro sl H κ a w hl hr hf hd hh hb hz K Q' hK
  rw [guard_congr hl] at hg
  have hw := guardOf_spec hf hg
  have := bsimp_den hF g
  rw [hs] at this; simp only [BE.den] at this
  rw [hw, ← this]; simp only [Bool.false_eq_true, if_false]
  exact hK undef w rfl (.inl rfl)
theorem VOp_guarded {ρ : Env} {ops : Array Oper} {o : Oper} {st : St} {g c : BE} (hg : guardOf ops.toList st.sl o.guard = some g) (hF : ∀ p ∈ st.facts, p.den ρ = true) (hs : bsimp st.facts g = c) {ns q : List BE} {v : SV}
    (hx : xval C.P st.H (evF st c) o.op = some (ns, v)) (hq : openNeeds st.facts (ns.map fun p => mkOr (mkNot c) p) = some q) (hqd : ∀ p ∈ q, p.den ρ = true) :
    VOp C base w0 ρ ops o ⟨o.dst, .put (SV.guard c v), looksOf ops.toList o, rdOf st.H (evF st c) o.op⟩ st.sl st.H := by
  intro sl H κ a w hl hr hf hd hh hb hz K Q' hK
  rw [guard_congr hl] at hg
  have hw := guardOf_spec hf hg
  have hsimp := bsimp_den hF g
  rw [hs] at hsimp
  have hneed := openNeeds_den hF hq hqd
  rw [xval_congr (evF_congr (H := H) hl) hr] at hx
  have hsim : Sim base w0 ρ κ { st with sl := sl, H := H } a w := ⟨hf, hd, hh, hb, hz, hF⟩
  cases hcv : c.den ρ
  · rw [hw, ← hsimp, hcv]; simp only [Bool.false_eq_true, if_false]
    exact hK undef w (by rw [SV.guard_den, hcv]; rfl) (.inl rfl)
  · rw [hw, ← hsimp, hcv]; simp only [if_true]
    have hn : ∀ p ∈ ns, p.den ρ = true := fun p hp => by
      have := hneed _ (List.mem_map_of_mem hp)
      rw [mkOr_den, mkNot_den, hcv] at this
      simpa using this
    have hrun := xval_sound hh (evF_den hsim hcv) hx hn
    unfold Oper.wp
    rw [hrun]
    exact hK _ w (by rw [SV.guard_den, hcv]; rfl) (.inl rfl)
theorem VOp_run {ρ : Env} {ops : Array Oper} {o : Oper} {st : St} {g : BE} (hg : guardOf ops.toList st.sl o.guard = some g) (hF : ∀ p ∈ st.facts, p.den ρ = true) (hs : bsimp st.facts g = .lit true) {ns q : List BE} {r : ORes}
    (hx : xone C.P st.H (evF st (.lit true)) o.op = some (ns, r)) (hq : openNeeds st.facts ns = some q) (hqd : ∀ p ∈ q, p.den ρ = true) {dr : DR}
    (hdr : match r with
      | .val v => dr = .put v
      | .new cs ty ps => ∃ n, dr = .new n cs ty ps
      | .store id off s => dr = .store id off s
      | .row q => ∃ n, dr = .row n q.src q.pat q.E ∧ ρ.a n = q.ct.den ρ ∧ ρ.nl n = q.nl.den ρ
      | .call f args => ∃ res, dr = .put res ∧ ∀ κ w, HeapOk ρ κ base (st.H.only (rdOf st.H (evF st (.lit true)) o.op)) w → Below base w0 w → base ≤ w.heap.size → Calls C.P f (args.map (SV.den ρ κ)).toArray w fun e w' => e = .returned (res.den ρ κ) ∧ Below w.heap.size w w') :
    VOp C base w0 ρ ops o ⟨o.dst, dr, looksOf ops.toList o, rdOf st.H (evF st (.lit true)) o.op⟩ st.sl st.H := by
  intro sl H κ a w hl hr hf hd hh hb hz K Q' hK
  rw [guard_congr hl] at hg
  have hw := guardOf_spec hf hg
  have hsimp := bsimp_den hF g
  rw [hs] at hsimp; simp only [BE.den] at hsimp
  have hneed := openNeeds_den hF hq hqd
  rw [xone_congr (evF_congr (H := H) hl) hr] at hx
  have hsim : Sim base w0 ρ κ { st with sl := sl, H := H } a w := ⟨hf, hd, hh, hb, hz, hF⟩
  obtain ⟨hdoes, hsto, hcall⟩ := xone_sound hh hz (evF_den hsim rfl) hx hneed
  rw [hw, ← hsimp]; simp only [if_true]
  unfold Oper.wp
  cases r with
  | val v =>
    subst hdr
    rw [show (execOp a.eval o).run C.P w = _ from hdoes]
    exact hK _ w rfl (.inl rfl)
  | new cs ty ps =>
    obtain ⟨n, rfl⟩ := hdr
    rw [show (execOp a.eval o).run C.P w = _ from hdoes n]
    exact hK
  | store id off s =>
    subst hdr
    rw [show (execOp a.eval o).run C.P w = _ from hdoes]
    exact hK (hsto _ _ _ rfl)
  | row q =>
    obtain ⟨n, rfl, h1, h2⟩ := hdr
    obtain ⟨κ', w', e1, e2, e3, e4⟩ := hdoes n hK.1 h1 h2
    rw [e2]
    exact hK.2 κ' w' e1 e3 e4
  | call f args =>
    obtain ⟨res, rfl, hc⟩ := hdr
    rw [show (execOp a.eval o).run C.P w = _ from hdoes]
    have hh' : HeapOk ρ κ base (st.H.only (rdOf st.H (evF st (.lit true)) o.op)) w := hh.onlyAt hr
    refine Calls.mono (hc κ w hh' hb hz) fun e w' he => ?_
    obtain ⟨rfl, hbl⟩ := he
    exact hK _ w' rfl (.inr hbl)
theorem VOp_gcall {ρ : Env} {ops : Array Oper} {o : Oper} {st : St} {g c : BE} (hg : guardOf ops.toList st.sl o.guard = some g) (hF : ∀ p ∈ st.facts, p.den ρ = true) (hs : bsimp st.facts g = c) {ns q : List BE} {f : FuncId} {args : List SV} {res : SV}
    (hx : xone C.P st.H (evF st c) o.op = some (ns, .call f args)) (hq : openNeeds st.facts (ns.map fun p => mkOr (mkNot c) p) = some q) (hqd : ∀ p ∈ q, p.den ρ = true)
    (hc : ∀ κ w, HeapOk ρ κ base (st.H.only (rdOf st.H (evF st c) o.op)) w → Below base w0 w → base ≤ w.heap.size → Calls C.P f (args.map (SV.den ρ κ)).toArray w fun e w' => e = .returned (res.den ρ κ) ∧ Below w.heap.size w w') :
    VOp C base w0 ρ ops o ⟨o.dst, .put (SV.guard c res), looksOf ops.toList o, rdOf st.H (evF st c) o.op⟩ st.sl st.H := by
  intro sl H κ a w hl hr hf hd hh hb hz K Q' hK
  rw [guard_congr hl] at hg
  have hw := guardOf_spec hf hg
  have hsimp := bsimp_den hF g
  rw [hs] at hsimp
  have hneed := openNeeds_den hF hq hqd
  rw [xone_congr (evF_congr (H := H) hl) hr] at hx
  have hsim : Sim base w0 ρ κ { st with sl := sl, H := H } a w := ⟨hf, hd, hh, hb, hz, hF⟩
  cases hcv : c.den ρ
  · rw [hw, ← hsimp, hcv]; simp only [Bool.false_eq_true, if_false]
    exact hK undef w (by rw [SV.guard_den, hcv]; rfl) (.inl rfl)
  · rw [hw, ← hsimp, hcv]; simp only [if_true]
    have hn : ∀ p ∈ ns, p.den ρ = true := fun p hp => by
      have := hneed _ (List.mem_map_of_mem hp)
      rw [mkOr_den, mkNot_den, hcv] at this
      simpa using this
    obtain ⟨hdoes, _, _⟩ := xone_sound hh hz (evF_den hsim hcv) hx hn
    unfold Oper.wp
    rw [show (execOp a.eval o).run C.P w = _ from hdoes]
    refine Calls.mono (hc κ w (hh.onlyAt hr) hb hz) fun e w' he => ?_
    obtain ⟨rfl, hbl⟩ := he
    exact hK _ w' (by rw [SV.guard_den, hcv]; rfl) (.inr hbl)
def runD (dis : List DI) (s : DS) : DS := dis.foldl (fun s a => a.r.app a.d s) s
theorem Agree.symm {n : Nat} {ρ ρ' : Env} {κ κ' : Kap} (h : Agree n ρ ρ' κ κ') : Agree n ρ' ρ κ' κ :=
  ⟨fun j hj => (h.i j hj).symm, fun j hj => (h.b j hj).symm, fun j hj => (h.v j hj).symm, fun j hj => (h.a j hj).symm, fun j hj => (h.nl j hj).symm, fun j hj => (h.o j hj).symm, fun j hj => (h.kb j hj).symm, fun j hj => (h.ko j hj).symm, fun j hj => (h.kc j hj).symm⟩
/-- only the data: the places stay -/
theorem Agree.kap {n : Nat} {ρ ρ' : Env} {κ κ' : Kap} (h : Agree n ρ ρ' κ κ') (κ2 : Kap) : Agree n ρ ρ' κ2 κ2 := ⟨h.i, h.b, h.v, h.a, h.nl, fun _ _ => rfl, fun _ _ => rfl, fun _ _ => rfl, fun _ _ => rfl⟩
theorem xd_sound {ops : Array Oper} : ∀ (rest : List Oper) (st : St) (acc : List DI) (nd : List BE) (K : List DI → List BE → St → Option Tree) (t : Tree) (ρ : Env) (κ : Kap) (L : List LCtx),
    xd C ops.toList rest st acc nd K = some t → Den C.P base w0 R t L ρ →
    ∃ (ρ' : Env) (dis : List DI) (nd' : List BE) (st' : St) (t' : Tree), K (acc ++ dis) (nd ++ nd') st' = some t' ∧ Den C.P base w0 R t' L ρ' ∧ Agree st.n ρ ρ' κ κ ∧ st.n ≤ st'.n ∧ st'.d = st.d ∧ st'.fn = st.fn ∧ dis.length = rest.length ∧
      (⟨st'.sl, st'.H⟩ : DS) = runD dis ⟨st.sl, st.H⟩ ∧ (∀ di ∈ dis, ∀ n, di.r.newId = some n → st.n ≤ n) ∧
      ((∀ p ∈ st.facts, p.den ρ' = true) → (∀ p ∈ nd', p.den ρ' = true) → (∀ p ∈ st'.facts, p.den ρ' = true) ∧
        ∀ (q : Nat) o di, rest[q]? = some o → dis[q]? = some di → di.d = o.dst ∧ VOp C base w0 ρ' ops o di (runD (dis.take q) ⟨st.sl, st.H⟩).sl (runD (dis.take q) ⟨st.sl, st.H⟩).H)
  | [], st, acc, nd, K, t, ρ, κ, L, h, hd => by
    simp only [xd] at h
    exact ⟨ρ, [], [], st, t, by simpa using h, hd, Agree.refl _ _ _, Nat.le_refl _, rfl, rfl, rfl, rfl, fun _ h => (by cases h), fun hF _ => ⟨hF, fun q o di ho => by simp at ho⟩⟩
  | o :: rest, st, acc, nd, K, t, ρ, κ, L, h, hd => by
    -- one step, then the rest
    have go : ∀ (st1 : St) (di : DI) (q : List BE) (t1 : Tree) (ρ1 : Env), xd C ops.toList rest st1 (acc ++ [di]) (nd ++ q) K = some t1 → Den C.P base w0 R t1 L ρ1 → Agree st.n ρ ρ1 κ κ → st.n ≤ st1.n → st1.d = st.d → st1.fn = st.fn →
        (⟨st1.sl, st1.H⟩ : DS) = di.r.app di.d ⟨st.sl, st.H⟩ → st1.facts = SX.learns st.facts q → (∀ n, di.r.newId = some n → st.n ≤ n) → di.d = o.dst →
        (∀ ρ', Agree st1.n ρ1 ρ' κ κ → (∀ p ∈ st.facts, p.den ρ' = true) → (∀ p ∈ q, p.den ρ' = true) → VOp C base w0 ρ' ops o di st.sl st.H) →
        ∃ (ρ' : Env) (dis : List DI) (nd' : List BE) (st' : St) (t' : Tree), K (acc ++ dis) (nd ++ nd') st' = some t' ∧ Den C.P base w0 R t' L ρ' ∧ Agree st.n ρ ρ' κ κ ∧ st.n ≤ st'.n ∧ st'.d = st.d ∧ st'.fn = st.fn ∧ dis.length = (o :: rest).length ∧
          (⟨st'.sl, st'.H⟩ : DS) = runD dis ⟨st.sl, st.H⟩ ∧ (∀ di ∈ dis, ∀ n, di.r.newId = some n → st.n ≤ n) ∧
          ((∀ p ∈ st.facts, p.den ρ' = true) → (∀ p ∈ nd', p.den ρ' = true) → (∀ p ∈ st'.facts, p.den ρ' = true) ∧
            ∀ (q : Nat) o' di, (o :: rest)[q]? = some o' → dis[q]? = some di → di.d = o'.dst ∧ VOp C base w0 ρ' ops o' di (runD (dis.take q) ⟨st.sl, st.H⟩).sl (runD (dis.take q) ⟨st.sl, st.H⟩).H) := by
      intro st1 di q t1 ρ1 ht hd1 hA hn hdd hfn heq hfacts hnew hdst hV
      obtain ⟨ρ', dis, nd', st', t', k1, k2, k3, k4, k5, k6, k7, k8, k9, k10⟩ := xd_sound rest st1 (acc ++ [di]) (nd ++ q) K t1 ρ1 κ L ht hd1
      refine ⟨ρ', di :: dis, q ++ nd', st', t', by simpa using k1, k2, hA.trans k3 hn, by omega, by rw [k5, hdd], by rw [k6, hfn], by simp [k7], ?_, ?_, ?_⟩
      · rw [k8, heq]; rfl
      · intro d hdm n hnn
        rcases List.mem_cons.1 hdm with rfl | hdm
        · exact hnew n hnn
        · have := k9 d hdm n hnn; omega
      · intro hF hnd
        have hq : ∀ p ∈ q, p.den ρ' = true := fun p hp => hnd p (List.mem_append_left _ hp)
        obtain ⟨g1, g2⟩ := k10 (by rw [hfacts]; exact learns_den q _ hF hq) (fun p hp => hnd p (List.mem_append_right _ hp))
        refine ⟨g1, fun i o' d ho hdi => ?_⟩
        cases i with
        | zero =>
          simp at ho hdi; subst ho; subst hdi
          exact ⟨hdst, hV ρ' k3 hF hq⟩
        | succ i =>
          have := g2 i o' d (by simpa using ho) (by simpa using hdi)
          rw [heq] at this
          exact this
    unfold xd at h
    split at h
    · cases h
    · rename_i g hg
      split at h
      · rename_i hb
        exact go (st.sh (.put sundef) o.dst) _ [] t ρ (by rw [List.append_nil]; exact h) hd (Agree.refl _ _ _) (Nat.le_refl _) rfl rfl rfl rfl (fun n hn => by cases hn) rfl (fun ρ' _ hF _ => VOp_skip hg hF hb)
      · rename_i hb
        split at h
        · cases h
        · rename_i ns r hx
          split at h
          · cases h
          · rename_i q hq
            split at h
            · exact go _ _ q t ρ h hd (Agree.refl _ _ _) (Nat.le_refl _) rfl rfl rfl rfl (fun n hn => by cases hn) rfl (fun ρ' _ hF hqd => VOp_run hg hF hb hx hq hqd rfl)
            · exact go _ _ q t ρ h hd (Agree.refl _ _ _) (Nat.le_succ _) rfl rfl rfl rfl (fun n hn => by cases hn; exact Nat.le_refl _) rfl (fun ρ' _ hF hqd => VOp_run hg hF hb hx hq hqd ⟨_, rfl⟩)
            · exact go _ _ q t ρ h hd (Agree.refl _ _ _) (Nat.le_refl _) rfl rfl rfl rfl (fun n hn => by cases hn) rfl (fun ρ' _ hF hqd => VOp_run hg hF hb hx hq hqd rfl)
            · rename_i r
              split at h
              · rename_i t1 ht1
                cases hb2 : (r.ct.bnd st.n && r.nl.bnd st.n)
                · rw [hb2] at h; cases h
                · rw [hb2] at h; simp only [cond_true] at h; cases h
                  simp only [Bool.and_eq_true] at hb2
                  have A0 : Agree st.n ρ ((ρ.set st.n (.l (r.ct.den ρ))).set st.n (.n (r.nl.den ρ))) κ κ := (Agree.set ρ κ st.n _).trans (Agree.set _ κ st.n _) (Nat.le_refl _)
                  refine go _ _ q t1 _ ht1 hd A0 (Nat.le_succ _) rfl rfl rfl rfl (fun n hn => by cases hn; exact Nat.le_refl _) rfl (fun ρ' hA' hF hqd => VOp_run hg hF hb hx hq hqd ⟨_, rfl, ?_, ?_⟩)
                  · rw [hA'.a st.n (Nat.lt_succ_self _), AE.agree ((A0.trans hA' (Nat.le_succ _)).kap kap0) r.ct hb2.1]; simp [Env.set]
                  · rw [hA'.nl st.n (Nat.lt_succ_self _), BE.agree (A0.trans hA' (Nat.le_succ _)) hb2.2]; simp [Env.set]
              · cases h
            · rename_i f args
              split at h
              · cases h
              · rename_i rs _
                generalize hm : RS.mk st.n rs = m at h
                obtain ⟨ks, res, hn⟩ := m
                cases hn with
                | cons _ _ => cases h
                | nil =>
                dsimp only at h
                cases hbn : ((SV.bndL st.n args && res.bnd (st.n + ks.length)) && (st.H.only (rdOf st.H (evF st (.lit true)) o.op)).bnd st.n)
                · rw [hbn] at h; cases h
                · rw [hbn] at h; simp only [cond_true] at h
                  simp only [Bool.and_eq_true] at hbn
                  split at h
                  · rename_i t1 ht1
                    cases h
                    obtain ⟨l, hfit, hcall, hd1⟩ := exD_spec _ _ hd
                    have A0 := Agree.setL κ l st.n ρ
                    refine go _ _ q t1 (ρ.setL st.n l) ht1 hd1 A0 (Nat.le_add_right _ _) rfl rfl rfl rfl (fun n hn => by cases hn) rfl (fun ρ' hA' hF hqd => VOp_run hg hF hb hx hq hqd ⟨res, rfl, ?_⟩)
                    intro κ2 w hh hbl hz
                    have A1 : Agree st.n ρ ρ' κ2 κ2 := (A0.trans hA' (Nat.le_add_right _ _)).kap κ2
                    have := hcall κ2 w (hh.agree A1.symm hbn.2) hbl hz
                    rw [← SV.agreeM A1 hbn.1.1] at this
                    rw [SV.agree (hA'.kap κ2) hbn.1.2]
                    exact this
                  · cases h
      · rename_i c hc1 hc2
        split at h
        · split at h
          · rename_i ns f args hx
            split at h
            · cases h
            · rename_i q hq
              split at h
              · cases h
              · rename_i rs _
                generalize hm : RS.mk st.n rs = m at h
                obtain ⟨ks, res, hn⟩ := m
                cases hn with
                | cons _ _ => cases h
                | nil =>
                dsimp only at h
                generalize hcc : bsimp st.facts g = c at *
                cases hbn : ((SV.bndL st.n args && res.bnd (st.n + ks.length)) && (st.H.only (rdOf st.H (evF st c) o.op)).bnd st.n)
                · rw [hbn] at h; cases h
                · rw [hbn] at h; simp only [cond_true] at h
                  simp only [Bool.and_eq_true] at hbn
                  split at h
                  · rename_i t1 ht1
                    cases h
                    obtain ⟨l, hfit, hcall, hd1⟩ := exD_spec _ _ hd
                    have A0 := Agree.setL κ l st.n ρ
                    refine go _ _ q t1 (ρ.setL st.n l) ht1 hd1 A0 (Nat.le_add_right _ _) rfl rfl rfl rfl (fun n hn => by cases hn) rfl (fun ρ' hA' hF hqd => VOp_gcall hg hF hcc hx hq hqd ?_)
                    intro κ2 w hh hbl hz
                    have A1 : Agree st.n ρ ρ' κ2 κ2 := (A0.trans hA' (Nat.le_add_right _ _)).kap κ2
                    have := hcall κ2 w (hh.agree A1.symm hbn.2) hbl hz
                    rw [← SV.agreeM A1 hbn.1.1] at this
                    rw [SV.agree (hA'.kap κ2) hbn.1.2]
                    exact this
                  · cases h
          · cases h
        · rename_i ns v hx
          split at h
          · cases h
          · rename_i q hq
            exact go _ _ q t ρ h hd (Agree.refl _ _ _) (Nat.le_refl _) rfl rfl rfl rfl (fun n hn => by cases hn) rfl (fun ρ' _ hF hqd => VOp_guarded hg hF rfl hx hq hqd)

/-! ### every order -/
theorem foldS_take : ∀ (l : List DI) (i q : Nat) (s : DS), foldS (fun k => Nat.blt k (i + q)) i l s = runD (l.take q) s
  | [], _, _, _ => by simp [foldS, runD]
  | a :: l, i, 0, s => by
    have h0 : Nat.blt i (i + 0) = false := by rw [Bool.eq_false_iff]; simp [Nat.blt_eq]
    simp only [foldS, h0, cond_false]
    have : ∀ (l : List DI) (k : Nat) (s : DS), i ≤ k → foldS (fun x => Nat.blt x (i + 0)) k l s = s := by
      intro l
      induction l with
      | nil => intro k s _; rfl
      | cons b l ih =>
        intro k s hk
        have h1 : Nat.blt k (i + 0) = false := by rw [Bool.eq_false_iff]; simp [Nat.blt_eq]; omega
        simp only [foldS, h1, cond_false]; exact ih (k + 1) s (by omega)
    rw [this l (i + 1) s (by omega)]; rfl
  | a :: l, i, q + 1, s => by
    have h1 : Nat.blt i (i + (q + 1)) = true := by rw [Nat.blt_eq]; omega
    simp only [foldS, h1, cond_true]
    have := foldS_take l (i + 1) q (a.r.app a.d s)
    rw [show i + 1 + q = i + (q + 1) by omega] at this
    rw [this]; rfl
theorem putS_slot {sl sl' : List SV} {t : Nat} (hl : sl.length = sl'.length) (h : slot sl t = slot sl' t) (d : Option Nat) (v : SV) : slot (putS sl d v) t = slot (putS sl' d v) t := by
  cases d with
  | none => exact h
  | some d =>
    simp only [putS, slot_eq, setSlot_eq, List.getElem?_set] at h ⊢
    split <;> simp_all
theorem putS_length (sl : List SV) (d : Option Nat) (v : SV) : (putS sl d v).length = sl.length := by cases d <;> simp [putS, setSlot_eq]
/-- what an operation sees is the same behind two sets that part only in what it does not see -/
theorem foldS_look {S S' : Nat → Bool} {looks rd : List Nat} : ∀ (l : List DI) (i : Nat) (s s' : DS), s.sl.length = s'.sl.length → (∀ t ∈ looks, slot s.sl t = slot s'.sl t) → SameAt s.H s'.H rd →
    (∀ (q : Nat) b, l[q]? = some b → S (i + q) ≠ S' (i + q) → (∀ d, b.d = some d → d ∉ looks) ∧ ∀ x ∈ b.r.ids, x ∉ rd) →
    (foldS S i l s).sl.length = (foldS S' i l s').sl.length ∧ (∀ t ∈ looks, slot (foldS S i l s).sl t = slot (foldS S' i l s').sl t) ∧ SameAt (foldS S i l s).H (foldS S' i l s').H rd
  | [], _, s, s', h1, h2, h3, _ => ⟨h1, h2, h3⟩
  | b :: l, i, s, s', h1, h2, h3, h5 => by
    simp only [foldS]
    have h5' : ∀ (q : Nat) c, l[q]? = some c → S (i + 1 + q) ≠ S' (i + 1 + q) → (∀ d, c.d = some d → d ∉ looks) ∧ ∀ x ∈ c.r.ids, x ∉ rd := fun q c hc hne => h5 (q + 1) c (by simpa using hc) (by rw [show i + (q + 1) = i + 1 + q by omega]; exact hne)
    have lone : ∀ (s : DS), (∀ d, b.d = some d → d ∉ looks) → (∀ x ∈ b.r.ids, x ∉ rd) → (∀ t ∈ looks, slot (b.r.app b.d s).sl t = slot s.sl t) ∧ SameAt (b.r.app b.d s).H s.H rd := by
      intro s hd hx
      constructor
      · intro t ht
        simp only [DR.app]
        cases hb : b.d with
        | none => rfl
        | some d =>
          have : d ≠ t := fun e => hd d hb (e ▸ ht)
          simp only [putS, slot_eq, setSlot_eq, List.getElem?_set_ne this]
      · intro id hid
        have hni : id ∉ b.r.ids := fun e => hx id e hid
        exact ⟨by simp only [DR.app, DR.heap_own]; exact DR.tO_out hni _, by simp only [DR.app, DR.heap_arr]; exact DR.tA_out hni _⟩
    cases hS : S i <;> cases hS' : S' i <;> simp only [cond_true, cond_false]
    · exact foldS_look l (i + 1) s s' h1 h2 h3 h5'
    · obtain ⟨g1, g2⟩ := h5 0 b rfl (by simp [hS, hS'])
      obtain ⟨k1, k2⟩ := lone s' g1 g2
      exact foldS_look l (i + 1) s _ (by simp only [DR.app, putS_length]; exact h1) (fun t ht => (h2 t ht).trans (k1 t ht).symm) (fun id hid => ⟨(h3 id hid).1.trans (k2 id hid).1.symm, (h3 id hid).2.trans (k2 id hid).2.symm⟩) h5'
    · obtain ⟨g1, g2⟩ := h5 0 b rfl (by simp [hS, hS'])
      obtain ⟨k1, k2⟩ := lone s g1 g2
      exact foldS_look l (i + 1) _ s' (by simp only [DR.app, putS_length]; exact h1) (fun t ht => (k1 t ht).trans (h2 t ht)) (fun id hid => ⟨(k2 id hid).1.trans (h3 id hid).1, (k2 id hid).2.trans (h3 id hid).2⟩) h5'
    · refine foldS_look l (i + 1) _ _ (by simp only [DR.app, putS_length]; exact h1) (fun t ht => ?_) (fun id hid => ?_) h5'
      · exact putS_slot h1 (h2 t ht) _ _
      · simp only [DR.app, DR.heap_own, DR.heap_arr, (h3 id hid).1, (h3 id hid).2, and_self]
/-- no part of a state names block n -/
structure DS.Free (n : Nat) (s : DS) : Prop where
  sl : ∀ (t : Nat) v, s.sl[t]? = some v → v.has n = false
  H : s.H.Free n
theorem SC.hasL_set {n : Nat} : ∀ (vs cs : List SC) (o : Nat), SC.hasL n cs = false → SC.hasL n vs = false → SC.hasL n (setMany cs o vs) = false
  | [], _, _, h, _ => h
  | v :: vs, cs, o, h, hv => by
    simp only [SC.hasL, Bool.or_eq_false_iff] at hv
    refine SC.hasL_set vs _ _ ?_ hv.2
    have : ∀ (cs : List SC) (o : Nat), SC.hasL n cs = false → SC.hasL n (cs.set o v) = false := by
      intro cs
      induction cs with
      | nil => intro o h; exact h
      | cons c cs ih =>
        intro o h
        simp only [SC.hasL, Bool.or_eq_false_iff] at h
        cases o with
        | zero => simp only [List.set_cons_zero, SC.hasL, hv.1, h.2, Bool.or_self]
        | succ o => simp only [List.set_cons_succ, SC.hasL, h.1, ih o h.2, Bool.or_self]
    exact this cs o h
theorem SA.has_cells {n : Nat} {s : SA} (h : s.has n = false) : SC.hasL n s.cells = false := by
  cases s with
  | c s => simp only [SA.has] at h; simp only [SA.cells, SC.hasL, h, Bool.or_self]
  | agg l => exact h
theorem DS.Free.app {n : Nat} {s : DS} (h : s.Free n) (d : Option Nat) {r : DR} (hr : r.has n = false) : (r.app d s).Free n := by
  constructor
  · intro t v hv
    simp only [DR.app] at hv
    have hval : r.val.has n = false := by
      cases r with
      | put v => exact hr
      | new id cs ty sl =>
        simp only [DR.has, Bool.or_eq_false_iff] at hr
        cases sl <;> simp only [DR.val, newPtr, SV.has, SA.has, SC.has, hr.1]
      | store id off s => rfl
      | row i src pat E =>
        have : Nat.beq i n = false := by cases src <;> simp only [DR.has, Bool.or_eq_false_iff] at hr <;> first | exact hr.1 | exact hr
        simp only [DR.val, rowSV, SV.has, SA.has, SC.has, CE.has, this, Bool.or_self]
    cases d with
    | none => exact h.sl t v hv
    | some d =>
      simp only [putS, setSlot_eq, List.getElem?_set] at hv
      split at hv
      · split at hv
        · cases hv; exact hval
        · cases hv
      · exact h.sl t v hv
  · constructor
    · intro id cs ty ho
      simp only [DR.app, DR.heap_own] at ho
      cases r with
      | put v => exact h.H.own id cs ty ho
      | new i c t sl =>
        simp only [DR.has, Bool.or_eq_false_iff] at hr
        simp only [DR.tO] at ho
        split at ho
        · rename_i e; cases ho; subst e
          exact ⟨fun e => by subst e; simp at hr, hr.2⟩
        · exact h.H.own id cs ty ho
      | store i off x =>
        simp only [DR.has, Bool.or_eq_false_iff] at hr
        simp only [DR.tO] at ho
        split at ho
        · rename_i e
          obtain ⟨y, hy, he⟩ := Option.map_eq_some_iff.1 ho
          obtain ⟨c0, t0⟩ := y
          simp only [Prod.mk.injEq] at he
          obtain ⟨h1, h2⟩ := h.H.own id c0 t0 hy
          rw [← he.1]
          exact ⟨h1, SC.hasL_set _ _ _ h2 (SA.has_cells hr.2)⟩
        · exact h.H.own id cs ty ho
      | row i src pat E =>
        cases src with
        | nil => exact h.H.own id cs ty ho
        | row j => exact h.H.own id cs ty ho
        | own j =>
          simp only [DR.tO] at ho
          split at ho
          · cases ho
          · exact h.H.own id cs ty ho
    · intro j c pat o ha
      simp only [DR.app, DR.heap_arr] at ha
      cases r with
      | put v => exact h.H.arr j c pat o ha
      | new i c t sl => exact h.H.arr j _ pat o ha
      | store i off x => exact h.H.arr j c pat o ha
      | row i src p E =>
        have hi : i ≠ n := by cases src <;> simp only [DR.has, Bool.or_eq_false_iff] at hr <;> first | exact beq_false hr.1 | exact beq_false hr
        cases src with
        | nil =>
          simp only [DR.tA] at ha
          split at ha
          · rename_i e; rw [e]; exact hi
          · exact h.H.arr j c pat o ha
        | row q =>
          simp only [DR.tA] at ha
          split at ha
          · rename_i e; rw [e]; exact hi
          · split at ha
            · cases ha
            · exact h.H.arr j c pat o ha
        | own q =>
          simp only [DR.tA] at ha
          split at ha
          · rename_i e; rw [e]; exact hi
          · exact h.H.arr j c pat o ha
theorem foldS_free {n : Nat} (S : Nat → Bool) : ∀ (l : List DI) (i : Nat) (s : DS), s.Free n → (∀ (q : Nat) b, l[q]? = some b → S (i + q) = true → b.r.has n = false) → (foldS S i l s).Free n
  | [], _, _, h, _ => h
  | b :: l, i, s, h, hb => by
    simp only [foldS]
    have h' : ∀ (q : Nat) c, l[q]? = some c → S (i + 1 + q) = true → c.r.has n = false := fun q c hc hs => hb (q + 1) c (by simpa using hc) (by rw [← hs]; congr 1; omega)
    cases hS : S i
    · exact foldS_free S l (i + 1) s h h'
    · exact foldS_free S l (i + 1) _ (h.app _ (hb 0 b rfl (by simpa using hS))) h'
theorem free_of_bnd {st : St} (h : st.bnd = true) {m : Nat} (hm : st.n ≤ m) : (⟨st.sl, st.H⟩ : DS).Free m := by
  simp only [St.bnd, Bool.and_eq_true] at h
  exact ⟨fun t v hv => SV.bnd_has hm (SV.bndL_get h.1 hv), Heap.free_of_bnd hm h.2.1⟩
theorem predsOk_spec : ∀ (l : List Oper) (i : Nat), predsOk i l = true → ∀ (q : Nat) o, l[q]? = some o → ∀ j ∈ preds o, j < i + q
  | [], _, _, q, o, h, _, _ => by simp at h
  | a :: l, i, h, 0, o, ho, j, hj => by
    simp at ho; subst ho
    simp only [predsOk, Bool.and_eq_true, List.all_eq_true, Nat.blt_eq] at h
    have := h.1 j hj; omega
  | a :: l, i, h, q + 1, o, ho, j, hj => by
    simp only [predsOk, Bool.and_eq_true] at h
    have := predsOk_spec l (i + 1) h.2 q o (by simpa using ho) j hj
    omega
theorem count_lt {p q : Nat → Bool} : ∀ (l : List Nat), (∀ x ∈ l, q x = true → p x = true) → (∃ x ∈ l, p x = true ∧ q x = false) → (l.filter q).length < (l.filter p).length
  | [], _, ⟨x, hx, _⟩ => by cases hx
  | a :: l, h, ⟨x, hx, hp, hq⟩ => by
    have h' : ∀ x ∈ l, q x = true → p x = true := fun y hy => h y (List.mem_cons_of_mem _ hy)
    have le : ∀ (l : List Nat), (∀ x ∈ l, q x = true → p x = true) → (l.filter q).length ≤ (l.filter p).length := by
      intro l
      induction l with
      | nil => intro _; exact Nat.le_refl _
      | cons b l ih =>
        intro hb
        have := ih fun y hy => hb y (List.mem_cons_of_mem _ hy)
        simp only [List.filter_cons]
        cases hqb : q b
        · cases p b <;> simp <;> omega
        · rw [hb b (List.mem_cons_self ..) hqb]; simp; omega
    simp only [List.filter_cons]
    rcases List.mem_cons.1 hx with rfl | hx
    · rw [hp, hq]; simp; have := le l h'; omega
    · have := count_lt l h' ⟨x, hx, hp, hq⟩
      cases hqa : q a
      · cases p a <;> simp <;> omega
      · rw [h a (List.mem_cons_self ..) hqa]; simp; omega
theorem mem_preds {o : Oper} {e : Edge} (he : e ∈ o.after.toList) (hb : Region.binds .any e = true) : e.on ∈ preds o := by
  unfold preds
  exact List.mem_filterMap.2 ⟨e, he, by rw [hb]; rfl⟩
theorem of_mem_preds {o : Oper} {i : Nat} (h : i ∈ preds o) : ∃ e ∈ o.after.toList, Region.binds .any e = true ∧ e.on = i := by
  unfold preds at h
  obtain ⟨e, he, hi⟩ := List.mem_filterMap.1 h
  cases hb : Region.binds .any e
  · rw [hb] at hi; cases hi
  · rw [hb] at hi; simp at hi; exact ⟨e, he, hb, hi⟩
theorem KBut.agree {n m : Nat} {κ κ' : Kap} (K : KBut n κ κ') (h : m ≤ n) {ρ : Env} : Agree m ρ ρ κ κ' :=
  ⟨fun _ _ => rfl, fun _ _ => rfl, fun _ _ => rfl, fun _ _ => rfl, fun _ _ => rfl, fun j hj => K.o j (by omega), fun j hj => K.ab j (by omega), fun j hj => K.ao j (by omega), fun j hj => K.cap j (by omega)⟩
theorem FrameOk.kbut {n : Nat} {ρ : Env} {κ κ' : Kap} {sl : List SV} {a : Act} (h : FrameOk ρ κ sl a) (hf : ∀ (t : Nat) v, sl[t]? = some v → v.has n = false) (K : KBut n κ κ') : FrameOk ρ κ' sl a :=
  ⟨h.1, fun t v hv ha => by rw [h.2 t v hv ha, SV.has_den K (hf t v hv)]⟩
/-- THE REGION, WHATEVER THE ORDER. -/
theorem xdraw_sound {ops : Array Oper} {id : Nat} {st : St} {K : St → Option Tree} {t : Tree} (h : xdraw C ops.toList st K = some t) {ρ : Env} {κ : Kap} {a : Act} {w : World} {L : List LCtx} {Q : Exit → Act → World → Prop}
    (hs : Sim base w0 ρ κ st a w) (hd : Den C.P base w0 R t L ρ)
    (hk : ∀ st' t' ρ' κ' a' w', K st' = some t' → st'.d = st.d → st.n ≤ st'.n → st'.fn = st.fn → Agree st.n ρ ρ' κ κ' → Sim base w0 ρ' κ' st' a' w' → Den C.P base w0 R t' L ρ' → Q .normal a' w') :
    (Code.region id ops true).wp C.P Q a w := by
  unfold xdraw at h
  cases hc : (st.bnd && (C.P.follows .mixedOrders && predsOk 0 ops.toList))
  · rw [hc] at h; cases h
  · rw [hc] at h; simp only [cond_true] at h
    simp only [Bool.and_eq_true] at hc
    obtain ⟨hbnd, hmix, hpo⟩ := hc
    obtain ⟨ρ', dis, nd', st', t', k1, k2, k3, k4, k5, k6, k7, k8, k9, k10⟩ := xd_sound (base := base) (w0 := w0) (R := R) ops.toList st [] [] _ t ρ κ L h hd
    simp only [List.nil_append] at k1
    cases hall : allOk (masks ops.toList []) 0 dis
    · rw [hall] at k1; cases k1
    · rw [hall] at k1; simp only [cond_true] at k1
      -- the needs
      have hneed : ∃ t2, K st' = some t2 ∧ (∀ p ∈ nd', p.den ρ' = true) ∧ Den C.P base w0 R t2 L ρ' := by
        unfold needT at k1
        split at k1
        · exact ⟨t', k1, fun p hp => (by cases hp), k2⟩
        · split at k1
          · rename_i t2 ht2
            cases k1
            exact ⟨t2, ht2, allN_spec k2.1, k2.2⟩
          · cases k1
      obtain ⟨t2, hK, hnd, hd2⟩ := hneed
      have hbnd2 := hbnd
      simp only [St.bnd, Bool.and_eq_true] at hbnd2
      have hF0 : ∀ p ∈ st.facts, p.den ρ' = true := facts_agree k3 hbnd2.2.2 hs.fc
      obtain ⟨hF', hV⟩ := k10 hF0 hnd
      have hs0 : Sim base w0 ρ' κ st a w := hs.agree k3 hbnd
      have hlen : dis.length = ops.size := by rw [k7]; simp
      have hmask := masks_spec (ops := ops.toList) ops.toList [] (fun j => by simp) (fun k i hb => by simp at hb)
      have hpair := allOk_spec dis 0 hall
      simp only [Nat.zero_add] at hpair
      -- the invariant
      let s0 : DS := ⟨st.sl, st.H⟩
      let SS : Array Bool → Nat → Bool := fun listed i => listed.getD i false
      have main : ∀ (fuel : Nat) (listed : Array Bool) (κ1 : Kap) (a1 : Act) (w1 : World), listed.size = ops.size → ((List.range ops.size).filter fun i => !(SS listed i)).length ≤ fuel →
          Closed ops.toList (fun i => SS listed i = true) → Agree st.n ρ ρ' κ κ1 → FrameOk ρ' κ1 (foldS (SS listed) 0 dis s0).sl a1 → a1.defers = [] → HeapOk ρ' κ1 base (foldS (SS listed) 0 dis s0).H w1 → Below base w0 w1 → base ≤ w1.heap.size →
          wpAny C.P .any ops Q fuel listed a1 w1 := by
        have fin : ∀ (listed : Array Bool) (κ1 : Kap) (a1 : Act) (w1 : World), listed.size = ops.size → Closed ops.toList (fun i => SS listed i = true) → Agree st.n ρ ρ' κ κ1 → FrameOk ρ' κ1 (foldS (SS listed) 0 dis s0).sl a1 → a1.defers = [] → HeapOk ρ' κ1 base (foldS (SS listed) 0 dis s0).H w1 → Below base w0 w1 → base ≤ w1.heap.size →
            Region.ready .any ops listed = [] → Q .normal a1 w1 := by
          intro listed κ1 a1 w1 hsz hcl hA hf hdf hh hbl hz hr
          have hallS : ∀ i, i < ops.size → SS listed i = true := by
            intro i
            induction i using Nat.strongRecOn with
            | _ i ih =>
              intro hi
              by_cases hS : SS listed i = true
              · exact hS
              · exfalso
                have hin : i ∈ Region.ready .any ops listed := by
                  unfold Region.ready
                  refine List.mem_filter.2 ⟨List.mem_range.2 hi, ?_⟩
                  have hoi : ops[i]? = some ops[i] := by simp [hi]
                  have h1 : listed.getD i true = false := by
                    have : SS listed i = false := by simpa using hS
                    simp only [SS] at this
                    simp only [Array.getD_eq_getD_getElem?] at this ⊢
                    rw [Array.getElem?_eq_getElem (by omega)] at this ⊢
                    simpa using this
                  rw [h1, hoi]
                  simp only [Bool.not_false, Option.map_some, Option.getD_some, Bool.true_and]
                  rw [Array.all_eq_true_iff_forall_mem]
                  intro e he
                  cases hb : Region.binds .any e
                  · rfl
                  · simp only [Bool.not_true, Bool.false_or]
                    have hlt := predsOk_spec ops.toList 0 hpo i ops[i] (by simp [hi]) e.on (mem_preds (by simpa using he) hb)
                    exact ih e.on (by omega) (by omega)
                rw [hr] at hin; cases hin
          have hfold : foldS (SS listed) 0 dis s0 = runD dis s0 := by
            have h1 := foldS_take dis 0 dis.length s0
            rw [List.take_length, Nat.zero_add] at h1
            rw [← h1]
            have : ∀ (l : List DI) (i : Nat) (s : DS), (∀ q, q < l.length → SS listed (i + q) = Nat.blt (i + q) dis.length) → foldS (SS listed) i l s = foldS (fun k => Nat.blt k dis.length) i l s := by
              intro l
              induction l with
              | nil => intro i s _; rfl
              | cons b l ih =>
                intro i s hq
                simp only [foldS]
                rw [show SS listed i = Nat.blt i dis.length from hq 0 (by simp)]
                exact ih (i + 1) _ fun q hq' => by
                  have := hq (q + 1) (by simp; omega)
                  rw [show i + (q + 1) = i + 1 + q by omega] at this; exact this
            refine this dis 0 s0 fun q hq => ?_
            rw [Nat.zero_add, hallS q (by omega)]
            symm; rw [Nat.blt_eq]; exact hq
          rw [hfold, ← k8] at hf hh
          exact hk st' t2 ρ' κ1 a1 w1 hK k5 k4 k6 hA ⟨hf, hdf, hh, hbl, hz, hF'⟩ hd2
        intro fuel
        induction fuel with
        | zero =>
          intro listed κ1 a1 w1 hsz hcnt hcl hA hf hdf hh hbl hz
          have hr : Region.ready .any ops listed = [] := by
            rw [List.eq_nil_iff_forall_not_mem]
            intro i hi
            unfold Region.ready at hi
            obtain ⟨hi1, hi2⟩ := List.mem_filter.1 hi
            have hi1' := List.mem_range.1 hi1
            simp only [Bool.and_eq_true, Bool.not_eq_true'] at hi2
            have : i ∈ (List.range ops.size).filter fun i => !(SS listed i) := by
              refine List.mem_filter.2 ⟨hi1, ?_⟩
              have h2 := hi2.1
              simp only [SS, Array.getD_eq_getD_getElem?] at h2 ⊢
              rw [Array.getElem?_eq_getElem (by omega)] at h2 ⊢
              simpa using h2
            have hl := List.length_pos_of_mem this
            omega
          exact ⟨hr, fin listed κ1 a1 w1 hsz hcl hA hf hdf hh hbl hz hr⟩
        | succ fuel ih =>
          intro listed κ1 a1 w1 hsz hcnt hcl hA hf hdf hh hbl hz
          refine ⟨fin listed κ1 a1 w1 hsz hcl hA hf hdf hh hbl hz, fun j hj => ?_⟩
          unfold Region.ready at hj
          obtain ⟨hj1, hj2⟩ := List.mem_filter.1 hj
          have hjlt := List.mem_range.1 hj1
          simp only [Bool.and_eq_true, Bool.not_eq_true'] at hj2
          obtain ⟨hj2, hj3⟩ := hj2
          have hSj : SS listed j = false := by
            simp only [SS, Array.getD_eq_getD_getElem?] at hj2 ⊢
            rw [Array.getElem?_eq_getElem (by omega)] at hj2 ⊢
            simpa using hj2
          have hoj : ops[j]? = some ops[j] := by simp [hjlt]
          have hojl : ops.toList[j]? = some ops[j] := by simp [hjlt]
          have hready : ∀ o, ops.toList[j]? = some o → ∀ i ∈ preds o, SS listed i = true := by
            intro o ho i hi
            rw [hojl] at ho; cases ho
            obtain ⟨e, he, hb, rfl⟩ := of_mem_preds hi
            rw [hoj] at hj3
            simp only [Option.map_some, Option.getD_some] at hj3
            have := (Array.all_eq_true_iff_forall_mem.1 hj3) e (by simpa using he)
            rw [hb] at this
            simpa [SS] using this
          obtain ⟨dj, hdj⟩ : ∃ d, dis[j]? = some d := ⟨dis[j]'(by omega), by simp [hlen, hjlt]⟩
          obtain ⟨hdst, hVj⟩ := hV j _ dj hojl hdj
          -- whoever is not ordered against j does not see it
          have hind : ∀ (i : Nat) di, dis[i]? = some di → i ≠ j → (SS listed i ≠ Nat.blt i j) → indep dj di = true := by
            intro i di hdi hne hpart
            rcases Nat.lt_or_gt_of_ne hne with hlt | hgt
            · rcases (hpair i j di dj hlt hdi hdj).1 with hm | hi
              · exfalso
                have hb : SS listed i = true := anc_ready hcl (hmask _ _ hm) hready
                rw [hb] at hpart
                exact hpart (by symm; rw [Nat.blt_eq]; exact hlt)
              · exact indep_symm hi
            · rcases (hpair j i dj di hgt hdj hdi).1 with hm | hi
              · exfalso
                have hb : SS listed i = false := by
                  cases hSi : SS listed i
                  · rfl
                  · have := hcl.anc (hmask _ _ hm) hSi
                    rw [hSj] at this; cases this
                rw [hb] at hpart
                exact hpart (by symm; rw [Bool.eq_false_iff]; simp [Nat.blt_eq]; omega)
              · exact hi
          have hlook := foldS_look (S := SS listed) (S' := fun k => Nat.blt k j) (looks := dj.looks) (rd := dj.rd) dis 0 s0 s0 rfl (fun _ _ => rfl) (fun _ _ => ⟨rfl, rfl⟩) (fun q b hb hne => by
            rw [Nat.zero_add] at hne
            by_cases hqj : q = j
            · exfalso; subst hqj
              apply hne; rw [hSj]; symm; rw [Bool.eq_false_iff]; simp [Nat.blt_eq]
            · have hi := indep_symm (hind q b hb hqj hne)
              simp only [indep, Bool.and_eq_true] at hi
              obtain ⟨⟨h1, _⟩, ⟨h3, _⟩, _⟩ := hi
              refine ⟨fun d hdd => ?_, fun x hx hr => disj_spec h3 x hx (List.mem_append_left _ hr)⟩
              simp only [dOk, hdd, Bool.and_eq_true, Bool.not_eq_true'] at h1
              exact nmem_mem h1.1)
          have htake := foldS_take dis 0 j s0
          rw [Nat.zero_add] at htake
          rw [htake] at hlook
          obtain ⟨_, l2, l3⟩ := hlook
          -- the set behind the step
          have hS' : SS (listed.setIfInBounds j true) j = true := by
            simp only [SS, Array.getD_eq_getD_getElem?, Array.getElem?_setIfInBounds, if_true]
            simp [hsz, hjlt]
          have hSo : ∀ i, i ≠ j → SS (listed.setIfInBounds j true) i = SS listed i := by
            intro i hi
            simp only [SS, Array.getD_eq_getD_getElem?, Array.getElem?_setIfInBounds_ne (Ne.symm hi)]
          have hadd := foldS_add hSj hS' hSo dis 0 s0 dj (Nat.zero_le _) (by simpa using hdj) (fun q b hb hlt hs => by
            rw [Nat.zero_add] at hlt hs
            refine hind q b hb (by omega) ?_
            rw [hs]; intro e
            have := Nat.blt_eq ▸ e.symm; omega)
          have hcl' : Closed ops.toList (fun i => SS (listed.setIfInBounds j true) i = true) := by
            intro k o hk hSk i hi
            by_cases hkj : k = j
            · subst hkj
              by_cases hij : i = k
              · subst hij; exact hS'
              · rw [hSo i hij]; exact hready o hk i hi
            · rw [hSo k hkj] at hSk
              have := hcl k o hk hSk i hi
              by_cases hij : i = j
              · subst hij; exact hS'
              · rw [hSo i hij]; exact this
          have hcnt' : ((List.range ops.size).filter fun i => !(SS (listed.setIfInBounds j true) i)).length ≤ fuel := by
            have := count_lt (p := fun i => !(SS listed i)) (q := fun i => !(SS (listed.setIfInBounds j true) i)) (List.range ops.size) (fun x _ hx => by
              by_cases hxj : x = j
              · subst hxj; rw [hS'] at hx; cases hx
              · rw [hSo x hxj] at hx; exact hx) ⟨j, hj1, by rw [hSj]; rfl, by rw [hS']; rfl⟩
            omega
          -- the step
          unfold wpOp
          rw [hoj]
          have step := hVj (foldS (SS listed) 0 dis s0).sl (foldS (SS listed) 0 dis s0).H κ1 a1 w1 l2 (fun x hx => ⟨(l3 x hx).1.symm, (l3 x hx).2.symm⟩) hf hdf hh hbl hz (wpAny C.P .any ops Q fuel (listed.setIfInBounds j true)) Q ?_
          · simp only
            split
            · rename_i hw; rw [if_pos hw] at step; exact .inl step
            · rename_i hw; rw [if_neg hw] at step; exact step
          · -- what it leaves
            have put : ∀ (v : SV) (u : Value) (κ2 : Kap) (w2 : World), dj.r.val = v → u = v.den ρ' κ2 → FrameOk ρ' κ2 (foldS (SS listed) 0 dis s0).sl a1 → FrameOk ρ' κ2 (foldS (SS (listed.setIfInBounds j true)) 0 dis s0).sl (a1.put ops[j].dst u) := by
              intro v u κ2 w2 hv hu hf2
              rw [hadd.sl]
              simp only [DR.app, hdst]
              cases hdd : ops[j].dst with
              | none => exact hf2
              | some d => rw [hv]; exact hf2.put d (fun _ => hu)
            have hsz' : (listed.setIfInBounds j true).size = ops.size := by simp [hsz]
            have hge : ∀ nid, dj.r.newId = some nid → st.n ≤ nid := fun nid hn => k9 dj (List.mem_of_getElem? hdj) nid hn
            have free : ∀ nid, dj.r.newId = some nid → (foldS (SS listed) 0 dis s0).Free nid := by
              intro nid hn
              refine foldS_free _ dis 0 s0 (free_of_bnd hbnd (hge nid hn)) fun q b hb hs => ?_
              rw [Nat.zero_add] at hs
              have hqj : q ≠ j := fun e => by subst e; rw [hSj] at hs; cases hs
              have hi : hasOk dj b = true := by
                by_cases hlt : q < j
                · exact (hpair q j b dj hlt hb hdj).2
                · have hi := hind q b hb hqj (by rw [hs]; intro e; have := Nat.blt_eq ▸ e.symm; omega)
                  simp only [indep, Bool.and_eq_true] at hi
                  exact hi.2.2.1
              simpa [hasOk, hn] using hi
            cases hr : dj.r with
            | put v =>
              intro u w2 hu hw2
              refine ih _ κ1 _ w2 hsz' hcnt' hcl' hA (put v u κ1 w2 (by rw [hr]; rfl) hu hf) (by cases ops[j].dst <;> exact hdf) ?_ ?_ ?_
              · refine HeapOk.congr ?_ (fun x => (hadd.own x).symm) (fun x => (hadd.arr x).symm)
                simp only [DR.app, hr, DR.heap]
                rcases hw2 with rfl | hw2
                · exact hh
                · exact hh.below fun k hk => hw2.block k hk
              · rcases hw2 with rfl | hw2
                · exact hbl
                · exact hbl.trans (hw2.mono hz)
              · rcases hw2 with rfl | hw2
                · exact hz
                · have := hw2.size; omega
            | new nid cs ty ps =>
              simp only
              have hfree := free nid (by rw [hr]; rfl)
              have hcs : SC.hasL nid cs = false := by
                have := allOk_self dis 0 hall dj (List.mem_of_getElem? hdj)
                simpa [selfOk, hr] using this
              have K := KBut.setO nid w1.heap.size κ1
              refine ih _ (κ1.setO nid w1.heap.size) _ _ hsz' hcnt' hcl' (hA.trans (K.agree (hge nid (by rw [hr]; rfl))) (Nat.le_refl _)) (put (newPtr nid ps) _ (κ1.setO nid w1.heap.size) w1 (by rw [hr]; rfl) rfl (hf.kbut hfree.sl K)) (by cases ops[j].dst <;> exact hdf) ?_ (hbl.alloc hz _) (by rw [World.size_alloc]; omega)
              refine HeapOk.congr ?_ (fun x => (hadd.own x).symm) (fun x => (hadd.arr x).symm)
              simp only [DR.app, hr, DR.heap]
              exact hh.alloc hfree.H hz cs hcs ty
            | row nid src pat E =>
              simp only
              have hfree := free nid (by rw [hr]; rfl)
              refine ⟨hfree.H, fun κ2 w2 K hh2 hw2 => ?_⟩
              refine ih _ κ2 _ w2 hsz' hcnt' hcl' (hA.trans (K.agree (hge nid (by rw [hr]; rfl))) (Nat.le_refl _)) (put (rowSV nid pat) _ κ2 w2 (by rw [hr]; rfl) rfl (hf.kbut hfree.sl K)) (by cases ops[j].dst <;> exact hdf) ?_ (hbl.trans hw2) (by have := hw2.size; omega)
              refine HeapOk.congr ?_ (fun x => (hadd.own x).symm) (fun x => (hadd.arr x).symm)
              simp only [DR.app, hr, DR.heap]
              exact hh2
            | store sid off s =>
              intro hex
              obtain ⟨cs, ty, ho⟩ := hex
              obtain ⟨q1, q2, q3, q4, q5, q6⟩ := setCells_heap (κ1.o sid) (s.cells.map (SC.den ρ' κ1)) off w1 _ ty (hh.own sid cs ty ho).1
              refine ih _ κ1 _ _ hsz' hcnt' hcl' hA (put sundef undef κ1 w1 (by rw [hr]; rfl) (sundef_den ρ' κ1).symm hf) (by cases ops[j].dst <;> exact hdf) ?_ ?_ ?_
              · refine HeapOk.congr ?_ (fun x => (hadd.own x).symm) (fun x => (hadd.arr x).symm)
                simp only [DR.app, hr, DR.heap, ho]
                exact hh.store ho off s.cells
              · exact hbl.trans ⟨q4, q5, q6, by rw [q2]; exact Nat.le_refl _, fun k hk => q3 k (by have := (hh.own sid cs ty ho).2; omega)⟩
              · rw [q2]; exact hz
      have hinit : foldS (SS (Array.replicate ops.size false)) 0 dis s0 = s0 := by
        have : ∀ (l : List DI) (i : Nat) (s : DS), foldS (SS (Array.replicate ops.size false)) i l s = s := by
          intro l
          induction l with
          | nil => intro i s; rfl
          | cons b l ih =>
            intro i s
            have : SS (Array.replicate ops.size false) i = false := by
              simp only [SS, Array.getD_eq_getD_getElem?, Array.getElem?_replicate]
              split <;> rfl
            simp only [foldS, this, cond_false]; exact ih (i + 1) s
        exact this dis 0 s0
      refine wp_region_any hmix ?_
      have hlisted : ∀ i, SS (Array.replicate ops.size false) i = false := by
        intro i
        simp only [SS, Array.getD_eq_getD_getElem?, Array.getElem?_replicate]
        split <;> rfl
      refine main ops.size (Array.replicate ops.size false) κ a _ (by simp) ?_ ?_ k3 (by rw [hinit]; exact hs0.fr) hs.df (by rw [hinit]; exact hs0.hp.below (fun k _ => rfl)) hs.bl.drew hs.sz
      · exact Nat.le_trans (List.length_filter_le _ _) (by simp)
      · intro k o hk hSk
        rw [hlisted k] at hSk; cases hSk
end
end Go.SX
