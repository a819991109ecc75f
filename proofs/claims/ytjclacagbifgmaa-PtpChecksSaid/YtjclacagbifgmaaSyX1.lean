/- SyX1: the walk itself: its tasks and its tree. -/
import Derived.Test.YtjclacagbifgmaaSyK
set_option linter.unusedSimpArgs false
set_option linter.unusedVariables false
set_option linter.unusedSectionVars false
noncomputable section
namespace Go.SX
open Go Go.RowKit

/-! ### names -/
mutual
def SC.ids : SC → List Nat
  | .ptr id _ | .oslice id _ _ _ | .aptr id _ _ _ | .slice id _ _ _ _ _ | .gslice id _ _ _ | .yld id | .mref id => [id]
  | .fn _ a r => SC.idsL a ++ SC.idsL r
  | _ => []
def SC.idsL : List SC → List Nat
  | [] => []
  | s :: l => s.ids ++ SC.idsL l
end
def SA.ids : SA → List Nat
  | .c s => s.ids
  | .agg l => SC.idsL l
def SV.ids : SV → List Nat
  | .a s => s.ids
  | .tup l => l.flatMap SA.ids
  | .ite _ x y => x.ids ++ y.ids
  | .any => []
def SObj.ids : SObj → List Nat
  | .cells cs _ _ => SC.idsL cs
  | .loop r => r.sl.ids SV.ids
  | .map _ es => es.flatMap fun e => e.2.ids
/-- those that are not there yet -/
def fresh (acc : List Nat) : List Nat → List Nat
  | [] => []
  | x :: l => bif nmem acc x then fresh acc l else x :: fresh (x :: acc) l
/-- what names lead to -/
def reach (H : Heap) : Nat → List Nat → List Nat → List Nat
  | 0, acc, _ => acc
  | d + 1, acc, new => match fresh acc new with
    | [] => acc
    | l => reach H d (l ++ acc) (l.flatMap fun id => match H.obj? id with
      | some o => o.ids
      | none => [])
def opsOf : Op → List Operand
  | .move x | .assign x | .unOp _ _ x | .convert _ _ x | .fieldAddr _ x _ | .field _ x _ | .load _ x | .extract x _ | .box _ x | .nilCheck x => [x]
  | .pick c a b => [c, a, b]
  | .binOp _ _ x y _ | .indexAddr _ x y | .index _ x y | .store _ x y | .makeSlice _ x y => [x, y]
  | .build _ ps | .buildSlice _ _ ps => ps.toList.map (·.2)
  | .slice _ x l h m => x :: (l.toList ++ (h.toList ++ m.toList))
  | .makeFunc _ a b => a.toList ++ b.toList
  | .mapUpdate _ m k x | .insert _ m k x => [m, k, x]
  | .lookup _ m i _ => [m, i]
  | .makeMap _ r => r.toList
  | .call c => (match c.callee with
    | .value f => [f]
    | _ => []) ++ c.args.toList
  | _ => []
def tmps : List Operand → List Nat
  | [] => []
  | .tmp t :: l => t :: tmps l
  | _ :: l => tmps l
def looksOf (all : List Oper) (o : Oper) : List Nat := tmps (opsOf o.op) ++ (match o.guard with
  | some (j, _) => (match all[j]? with
    | some q => q.dst.toList
    | none => [])
  | none => [])
def slIds (sl : Sl) (x : Operand) : List Nat := match opv sl x with
  | some s => s.ids
  | none => []
/-- the names that an operation sees -/
def rdOf (H : Heap) (sl : Sl) (o : Op) : List Nat := match o with
  | .call { callee := .value f, args, argTypes := _ } => reach H 40 [] (slIds sl f ++ args.toList.flatMap (slIds sl))
  | .load _ x => slIds sl x
  | .store _ p _ => slIds sl p
  | o => fresh [] ((opsOf o).flatMap (slIds sl))
def Heap.ids : Heap → List Nat
  | [] => []
  | .obj i _ :: H => i :: Heap.ids H
  | .arr j _ _ _ :: H => j :: Heap.ids H
def SObj.eqb : SObj → SObj → Bool
  | .cells cs ty g, .cells cs' ty' g' => (Nat.beq ty ty' && oq g g') && SC.eqbL cs cs'
  | .loop r, .loop r' => (lseq r.state r'.state && (r.pending.isNone && r'.pending.isNone)) && (Nat.beq r.fn r'.fn && (pathq r.path r'.path && r.sl.eqb r'.sl))
  | .map k es, .map k' es' => Nat.beq (kn k) (kn k') && esq es es'
  | _, _ => false
def oObjq : Option SObj → Option SObj → Bool
  | none, none => true
  | some a, some b => a.eqb b
  | _, _ => false
def oArrq : Option (Nat × List CK × Option TypeId) → Option (Nat × List CK × Option TypeId) → Bool
  | none, none => true
  | some (c, p, o), some (c', p', o') => Nat.beq c c' && (patq p p' && oq o o')
  | _, _ => false
/-- the names at which two heaps part -/
def diffs (H H' : Heap) : List Nat → List Nat
  | [] => []
  | x :: l => bif oObjq (H.obj? x) (H'.obj? x) && oArrq (H.arr? x) (H'.arr? x) then diffs H H' l else x :: diffs H H' l
/-- at these names stand blocks, and rows of the call's own -/
def rowsOnly (H : Heap) : List Nat → Bool
  | [] => true
  | x :: l => (match H.arr? x with
    | some (_, _, none) => false
    | _ => true) && rowsOnly H l
/-- trees without loops, with names from n on: one way through them is taken -/
def T.plain (n : Nat) : T → Bool
  | .leaf _ => true
  | .ite _ t e => t.plain n && e.plain n
  | .need _ t => t.plain n
  | .call _ _ _ m _ _ _ t => Nat.ble n m && t.plain n
  | .loop .. | .cont .. => false
  | .arr m _ _ t => Nat.ble n m && t.plain n
  | .dead => true

/-- the length of a row that has turned -/
def lenFacts (F : List BE) (n : Nat) : AE → List BE
  | .set c _ _ | .put c _ _ => bif Nat.blt c n then [.cmp .eql (.alen n) (renI F (.alen c))] else []
  | _ => []
theorem lenFacts_den {ρ : Env} {F : List BE} (hF : ∀ p ∈ F, p.den ρ = true) {n : Nat} {ct : AE} {l : List (List Dat)} (hl : ∀ c x vs, ct = .set c x vs → c < n → l.length = (ρ.a c).length) (hp : ∀ c x a, ct = .put c x a → c < n → l.length = (ρ.a c).length) (hn : ρ.a n = l) :
    ∀ p ∈ lenFacts F n ct, p.den ρ = true := by
  intro p hpm
  unfold lenFacts at hpm
  split at hpm
  · rename_i c x vs
    cases hq : Nat.blt c n
    · rw [hq] at hpm; cases hpm
    · rw [hq] at hpm; simp only [cond_true, List.mem_singleton] at hpm; subst hpm
      rw [Nat.blt_eq] at hq
      simp [BE.den, bc, renI_den hF, IE.den, hn, hl c x vs rfl hq]
  · rename_i c x a
    cases hq : Nat.blt c n
    · rw [hq] at hpm; cases hpm
    · rw [hq] at hpm; simp only [cond_true, List.mem_singleton] at hpm; subst hpm
      rw [Nat.blt_eq] at hq
      simp [BE.den, bc, renI_den hF, IE.den, hn, hp c x a rfl hq]
  · cases hpm
/-- a tree without loops with further trees at its leaves, that are told what was learned on the way -/
def T.bndF : T → List BE → (Lf → List BE → Option T) → Option T
  | .leaf l, F, k => k l F
  | .ite c t e, F, k => match t.bndF (SX.learn F c true) k, e.bndF (SX.learn F c false) k with
    | some t, some e => some (.ite c t e)
    | _, _ => none
  | .need ps t, F, k => match t.bndF (SX.learns F ps) k with
    | some t => some (.need ps t)
    | none => none
  | .call f args H n vks res Hn t, F, k => bif BE.bndL n F then match t.bndF F k with
      | some t => some (.call f args H n vks res Hn t)
      | none => none
    else none
  | .arr n ct nl t, F, k => bif BE.bndL n F then match t.bndF (lenFacts F n ct ++ F) k with
      | some t => some (.arr n ct nl t)
      | none => none
    else none
  | .loop .., _, _ => none
  | .cont .., _, _ => none
  | .dead, _, _ => some .dead

/-! ### rows at a loop's head -/
def normLoc (P : Program) (st : St) : Loc → Option (Option (AE × BE) × St)
  | .row t E => match slot st.sl t with
    | some (.a (.c (.slice ..))) => some (none, st)
    | some (.a (.c c)) => match sizeP P E with
      | some sz => match xbase P st.H E sz c with
        | some b => bif Nat.blt 0 sz then some (some (b.old, b.nl), { st with H := .arr st.n st.n b.pat (some E) :: st.H.del b.src, n := st.n + 1, sl := setSlot st.sl t (rowSV st.n b.pat) }) else none
        | none => none
      | none => none
    | _ => none
  | .rowc id off E => match st.H.own? id with
    | some (cs, _) => match cs[off]?, sizeP P E with
      | some (.slice ..), _ => some (none, st)
      | some c, some sz => match xbase P st.H E sz c with
        | some b => bif Nat.blt 0 sz then some (some (b.old, b.nl), { st with H := Heap.setOwn (.arr st.n st.n b.pat (some E) :: st.H.del b.src) id (cs.set off (.slice st.n b.pat.length 0 (.lit 0) (.alen st.n) (.k st.n))), n := st.n + 1 }) else none
        | none => none
      | _, _ => none
    | none => none
  | _ => some (none, st)
def normT (P : Program) : List Loc → St → (St → Option T) → Option T
  | [], st, K => K st
  | l :: r, st, K => match normLoc P st l with
    | none => none
    | some (none, st1) => normT P r st1 K
    | some (some (ct, nl), st1) => bif st.bndQ && (ct.bnd st.n && nl.bnd st.n) then arrT st.n ct nl (normT P r st1 K) else none
def noIte : SV → SV
  | .ite .. => .any
  | s => s
/-- the state at a loop's head -/
def headOf (P : Program) (st : St) (b : Code) (locs : List Loc) : Option (St × List VK) :=
  match hav P st.sl st.H st.n locs with
  | some (sl, H, ks) => some ({ st with sl := (anys sl locs (Code.dsts b)).map noIte, H := H, n := st.n + ks.length, d := st.d + 1 }, ks)
  | none => none
/-- a frame's first slots -/
def setArgs (sl : Sl) (i : Nat) : List SV → Sl
  | [] => sl
  | a :: l => setArgs (setSlot sl i a) (i + 1) l
def frame0 (fn : Func) (args : List SV) : Sl := bif Nat.ble args.length fn.ntmps then setArgs (Sl.fill sundef 40 fn.ntmps) 0 args else .nil

inductive Task where
  | code (c : Code) (p : List Bool) (st : St)
  | loopU (c : Code) (p : List Bool) (st : St)
  | ops (rest all : List Oper) (st : St)
  | run (all : List Oper) (o : Oper) (st : St)
  | op (o : Oper) (st : St)
  | fork (o : Oper) (st : St) (e : IE) (k m : Nat)
  | call (f : FuncId) (args : List SV) (st : St)
  | yld (l : Nat) (args : List SV) (st : St)
  | draw (rest all : List Oper) (st : St) (acc : List DI)

def leafT (v : SV) (st : St) : Option T := some (.leaf ⟨.normal, v, st⟩)
def leafE (e : Exit) (st : St) : Option T := some (.leaf ⟨e, sundef, st⟩)
def altT (st : St) : List (BE × SV) → SV → Option T
  | [], v => leafT v st
  | (b, x) :: l, v => match bsimp st.facts b with
    | .lit true => leafT x st
    | .lit false => altT st l v
    | c => iteT c (leafT x (st.learn c true)) (altT (st.learn c false) l v)
/-- what has become unreachable is forgotten -/
def Heap.gc (H : Heap) (n : Nat) (roots : List Nat) : Heap :=
  let olds := H.ids.filter fun i => Nat.blt i n
  let l := reach H 60 [] (roots ++ olds)
  H.sift fun x => Nat.blt x n || nmem l x
def setPs : Sl → List (Nat × SV) → Sl
  | sl, [] => sl
  | sl, (t, v) :: l => setPs (setSlot sl t v) l
def jumpOf : Exit → Option (Option Code)
  | .normal => some none
  | .ret => some (some .ret)
  | .exit i => some (some (.exit i))
  | .goto t => some (some (.goto t))
  | _ => none
def exitOf : Option Code → Option Exit
  | none => some .normal
  | some .ret => some .ret
  | some (.exit i) => some (.exit i)
  | some (.goto t) => some (.goto t)
  | _ => none
def loop? (H : Heap) (l : Nat) : Option SLoop := match H.obj? l with
  | some (.loop r) => some r
  | _ => none
def rndOk (st : St) : Bool := match st.rnd with
  | none => true
  | some l => (loop? st.H l).isSome
/-- an index that is not known, into cells that are: the index, how many elements -/
def forkOf (P : Program) (st : St) : Op → Option (IE × Nat)
  | .indexAddr _ x i => match evF st (.lit true) x, evF st (.lit true) i with
    | some (.a (.c (.oslice _ _ m _))), some (.a (.c (.int _ e))) => bif Nat.blt 0 m && Nat.ble m 64 then some (e, m) else none
    | some (.a (.c (.gslice _ _ m _))), some (.a (.c (.int _ e))) => bif Nat.blt 0 m && Nat.ble m 64 then some (e, m) else none
    | _, _ => none
  | .index t x i => match evF st (.lit true) x, evF st (.lit true) i with
    | some (.a (.agg _)), some (.a (.c (.int _ e))) => match P.underlying t with
      | some (.array n _) => bif Nat.blt 0 n && Nat.ble n 64 then some (e, n) else none
      | _ => none
    | _, _ => none
  | _ => none
def callee? (P : Program) : Option SV → Option (FuncId × List SC × List SC)
  | some (.a (.c (.fn (.func g) first cap))) => bif callable P g then some (g, first, cap) else none
  | _ => none

/-- a number, a list, so that the kernel works them out -/
def natF {α : Type} (n : Nat) (k : Nat → α) : α := Nat.casesOn n (k 0) fun m => k m.succ
def lstF {β α : Type} (l : List β) (k : List β → α) : α := List.casesOn l (k []) fun a l => k (a :: l)
def optF {β α : Type} (l : Option β) (k : Option β → α) : α := Option.casesOn l (k none) fun a => k (some a)
def force {α : Type} (st : St) (k : St → α) : α := natF st.n fun n => natF st.d fun d => natF st.fn fun fn => lstF st.facts fun facts => optF st.rnd fun rnd => lstF st.H fun H => k ⟨st.sl, H, n, facts, d, fn, rnd⟩
theorem natF_eq {α : Type} (n : Nat) (k : Nat → α) : natF n k = k n := by cases n <;> rfl
theorem lstF_eq {β α : Type} (l : List β) (k : List β → α) : lstF l k = k l := by cases l <;> rfl
theorem optF_eq {β α : Type} (l : Option β) (k : Option β → α) : optF l k = k l := by cases l <;> rfl
theorem force_eq {α : Type} (st : St) (k : St → α) : force st k = k st := by simp only [force, natF_eq, lstF_eq, optF_eq]
def s_code (C : Cfg) (R : Task → Option T) (c : Code) (p : List Bool) (st : St) : Option T := match c with
    | .skip | .label _ => leafE .normal st
    | .exit id => leafE (.exit id) st
    | .goto l => leafE (.goto l) st
    | .ret => leafE .ret st
    | .region _ ops false => R (.ops ops.toList ops.toList st)
    | .region _ ops true => bif st.bndQ && (C.P.follows .mixedOrders && predsOk 0 ops.toList) then R (.draw ops.toList ops.toList st []) else none
    | .seq a b => thenT (R (.code a (false :: p) st)) fun l => match l.e with
        | .normal => R (.code b (true :: p) l.st)
        | e => leafE e l.st
    | .cond c x y => match opv st.sl c with
      | some (.a (.c (.bool b))) => match bsimp st.facts b with
        | .lit true => R (.code x (false :: p) st)
        | .lit false => R (.code y (true :: p) st)
        | q => iteT q (R (.code x (false :: p) (st.learn q true))) (R (.code y (true :: p) (st.learn q false)))
      | _ => none
    | .block id b => thenT (R (.code b (false :: p) st)) fun l => match l.e with
        | .exit i => leafE (bif Nat.beq i id then .normal else .exit i) l.st
        | e => leafE e l.st
    | .scope b => thenT (R (.code b (false :: p) st)) fun l => match l.e with
        | .goto _ => none
        | e => leafE e l.st
    | .loop b => match C.ann st.fn ((firstRegion b).getD 0) st.n with
      | none => R (.loopU b (false :: p) st)
      | some locs => normT C.P locs st fun st => match headOf C.P st b locs with
        | some (head, ks) => match lcheck st.n ks head st, bif BE.bndL st.n st.facts then thenT (R (.code b (false :: p) head)) fun l => (match l.e with
              | .normal => normT C.P locs l.st fun st' => match lcheck st.n ks head st' with
                | some vals => some (.cont (st'.d - head.d) vals)
                | none => none
              | e => leafE e l.st) else none with
          | some init, some body => some (.loop ks st.n init body)
          | _, _ => none
        | none => none
    | .rangeFunc f _ _ _ => match callee? C.P (evF st (.lit true) f) with
      | some (g, first, cap) => bif st.bndQ && (rndOk st && SC.bndL st.n (first ++ cap)) then
          thenT (R (.call g (first.map SV.c ++ ([.c (.yld st.n)] ++ cap.map SV.c)) { st with H := .obj st.n (.loop ⟨.ready, none, st.fn, p, st.sl⟩) :: st.H, n := st.n + 1 })) fun l =>
            match loop? l.st.H st.n with
            | some r => match r.state, exitOf r.pending with
              | .busy, _ => none
              | _, some e => leafE e { l.st with H := l.st.H.delO st.n }
              | _, none => none
            | none => none
        else none
      | none => none
    | _ => none

def s_loopU (R : Task → Option T) (c : Code) (p : List Bool) (st : St) : Option T := thenT (R (.code c p st)) fun l => match l.e with
      | .normal => R (.loopU c p l.st)
      | e => leafE e l.st

def s_ops (R : Task → Option T) (rest all : List Oper) (st : St) : Option T := match rest with
    | [] => leafE .normal st
    | o :: rest => thenT (R (.run all o st)) fun l => R (.ops rest all (l.st.put o.dst l.v))

def s_run (C : Cfg) (R : Task → Option T) (all : List Oper) (o : Oper) (st : St) : Option T := match guardOf all st.sl o.guard with
    | none => none
    | some g => match bsimpG st.facts g with
      | .lit false => leafT sundef st
      | .lit true => R (.op o st)
      | c => forceL (learn st.facts c true) fun F => match xvalF C.P st.H (evO st F o.op) o.op with
        | some (ns, v) => match openNeeds st.facts (ns.map fun p => mkOr (mkNot c) p) with
          | some q => needT q (leafT (SV.guard c v) (st.learns q))
          | none => none
        | none => iteT c (R (.op o (st.learn c true))) (leafT sundef (st.learn c false))

def s_fork (R : Task → Option T) (o : Oper) (st : St) (e : IE) (k m : Nat) : Option T := bif Nat.blt (k + 1) m then iteT (mkCmp .eql e (.lit (.ofNat k))) (R (.op o (st.learn (mkCmp .eql e (.lit (.ofNat k))) true))) (R (.fork o (st.learn (mkCmp .eql e (.lit (.ofNat k))) false) e (k + 1) m))
      else needT [mkCmp .eql e (.lit (.ofNat k))] (R (.op o (st.learns [mkCmp .eql e (.lit (.ofNat k))])))

def s_op (C : Cfg) (R : Task → Option T) (o : Oper) (st : St) : Option T := match xoneF C.P st.H (evO st st.facts o.op) o.op with
    | none => match forkOf C.P st o.op with
      | some (e, m) => match e with
        | .lit _ => some .dead
        | e => R (.fork o st e 0 m)
      | none => some .dead
    | some (ns, r) => match openNeeds st.facts ns with
      | none => none
      | some q => needT q (match r with
        | .val v => leafT v (st.learns q)
        | .new ob np src => bif (st.learns q).bndQ && ob.bnd st.n then leafT (newPtr st.n np) { st.learns q with H := .obj st.n ob :: st.H.delS src, n := st.n + 1 } else none
        | .upd H v => leafT v { st.learns q with H := H }
        | .call f args => R (.call f args (st.learns q))
        | .yld l args => R (.yld l args (st.learns q))
        | .row r => bif (st.bndQ && BE.bndL st.n ns) && (r.ct.bnd st.n && r.nl.bnd st.n) then arrT st.n r.ct r.nl (leafT (rowSV st.n r.pat) { st.learns q with H := .arr st.n st.n r.pat (some r.E) :: st.H.del r.src, n := st.n + 1 }) else none
        | .alts l v => altT (st.learns q) l v
        | .turn j ct v => bif (st.bndQ && BE.bndL st.n ns) && (ct.bnd st.n && v.bnd st.n) then arrT st.n ct (.lit false) (leafT v { st.learns q with H := st.H.turnA j st.n, n := st.n + 1, facts := lenFacts (st.learns q).facts st.n ct ++ (st.learns q).facts }) else none)

def s_call (C : Cfg) (R : Task → Option T) (f : FuncId) (args : List SV) (st : St) : Option T := match C.ct f with
    | some rs => match rs.mk st.n with
      | (ks, res, hn) => bif (st.bndQ && SV.bndL st.n args) && newRows st.n hn then
          some (.call f args (st.H.only (reach st.H 60 [] (args.flatMap SV.ids))) st.n ks res hn (.leaf ⟨.normal, res, { st with H := hn ++ st.H, n := st.n + ks.length }⟩))
        else none
    | none => match C.P.funcs[f]? with
      | some fn => match fn.body with
        | some c => bif st.bndQ then thenT (R (.code c [] { st with sl := frame0 fn args, fn := f, rnd := none })) fun l => match l.e with
          | .normal | .ret => match xresults C.P fn l.st with
            | some v => leafT v { l.st with sl := st.sl, H := l.st.H.gc st.n v.ids, fn := st.fn, rnd := st.rnd }
            | none => none
          | _ => none
          else none
        | none => none
      | none => none

def s_yld (C : Cfg) (R : Task → Option T) (l : Nat) (args : List SV) (st : St) : Option T := match loop? st.H l with
    | some r => match r.state, placeOf C.P r.fn r.path with
      | .ready, some (.rangeFunc _ ps as bo) => bif Nat.beq args.length ps.size && (st.bndQ && Nat.blt l st.n) then
          thenT (R (.code as (false :: r.path) { st with sl := setPs r.sl (ps.toList.zip args), fn := r.fn, rnd := some l })) fun l1 => match l1.e, loop? l1.st.H l with
            | .normal, some r1 => match r1.state with
              | .ready => thenT (R (.code bo (true :: r.path) { l1.st with H := l1.st.H.setObj l (.loop { r1 with state := .busy }) })) fun l2 => match jumpOf l2.e, loop? l2.st.H l with
                | some j, some r2 => leafT (.c (.bool (.lit j.isNone))) { l2.st with sl := st.sl, fn := st.fn, rnd := st.rnd, H := l2.st.H.setObj l (.loop { r2 with state := if j.isNone then .ready else .done, pending := j }) }
                | _, _ => none
              | _ => none
            | _, _ => none
        else none
      | _, _ => none
    | none => none

def s_draw (R : Task → Option T) (rest all : List Oper) (st : St) (acc : List DI) : Option T := match rest with
    | [] => bif allOk (masks all []) 0 acc then leafE .normal st else none
    | o :: rest =>
      let looks := looksOf all o
      let rd := rdOf st.H st.sl o.op
      let st0 := { st with sl := maskS looks st.sl, H := st.H.only rd }
      match R (.run all o st0) with
      | some t => bif t.plain st.n && st0.bndQ then t.bndF st.facts fun l F =>
          let wr := diffs st0.H l.st.H (fresh [] (st0.H.ids ++ l.st.H.ids))
          bif (Nat.ble st.n l.st.n && (l.st.bndQ && l.v.bnd l.st.n)) && rowsOnly l.st.H wr then
            R (.draw rest all { st with sl := putS st.sl o.dst l.v, H := l.st.H.only wr ++ st.H.drop wr, n := l.st.n, facts := F } (acc ++ [⟨o.dst, l.v, looks, rd, wr, st0, l.st⟩]))
          else none
        else none
      | none => none
/-- one step, task by task -/
def stepT (C : Cfg) (R : Task → Option T) (t : Task) : Option T := match t with
  | .code c p st => force st fun st => s_code C R c p st
  | .loopU c p st => s_loopU R c p st
  | .ops rest all st => force st fun st => s_ops R rest all st
  | .run all o st => s_run C R all o st
  | .fork o st e k m => s_fork R o st e k m
  | .op o st => s_op C R o st
  | .call f args st => force st fun st => s_call C R f args st
  | .yld l args st => force st fun st => s_yld C R l args st
  | .draw rest all st acc => force st fun st => s_draw R rest all st acc
def XC (C : Cfg) : Nat → Task → Option T
  | 0, _ => none
  | n + 1, t => stepT C (XC C n) t
noncomputable def X (C : Cfg) (n : Nat) : Task → Option T := Nat.rec (motive := fun _ => Task → Option T) (fun _ => none) (fun _ ih t => stepT C ih t) n
theorem X_zero (C : Cfg) (t : Task) : X C 0 t = none := rfl
theorem X_succ (C : Cfg) (n : Nat) (t : Task) : X C (n + 1) t = stepT C (X C n) t := rfl
end Go.SX
