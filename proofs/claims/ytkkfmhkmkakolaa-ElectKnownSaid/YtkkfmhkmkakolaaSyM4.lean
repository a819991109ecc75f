/- A part of the proof: see the text that states the theorem. -/
import Derived.Test.YtkkfmhkmkakolaaSyM3
/- SyX1: the walk itself: its tasks and its tree. -/
set_option linter.unusedSimpArgs false
set_option linter.unusedVariables false
set_option linter.unusedSectionVars false
noncomputable section
namespace Go.SX
open Go Go.RowKit

/-! ### names -/
mutual
def SC.ids : SC → List Nat
  | .ptr id _ | .oslice id _ _ _ | .aptr id _ _ _ | .slice id _ _ _ _ _ | .gslice id _ _ _ | .yld id | .mref id => [id]
  | .fn _ a r => SC.idsL a ++ SC.idsL r
  | _ => []
def SC.idsL : List SC → List Nat
  | [] => []
  | s :: l => s.ids ++ SC.idsL l
end
def SA.ids : SA → List Nat
  | .c s => s.ids
  | .agg l => SC.idsL l
def SV.ids : SV → List Nat
  | .a s => s.ids
  | .tup l => l.flatMap SA.ids
  | .ite _ x y => x.ids ++ y.ids
  | .any => []
def SObj.ids : SObj → List Nat
  | .cells cs _ _ => SC.idsL cs
  | .loop r => r.sl.ids SV.ids
  | .map _ es => es.flatMap fun e => e.2.ids
/-- those that are not there yet -/
def fresh (acc : List Nat) : List Nat → List Nat
  | [] => []
  | x :: l => bif nmem acc x then fresh acc l else x :: fresh (x :: acc) l
/-- what names lead to -/
def reach (H : Heap) : Nat → List Nat → List Nat → List Nat
  | 0, acc, _ => acc
  | d + 1, acc, new => match fresh acc new with
    | [] => acc
    | l => reach H d (l ++ acc) (l.flatMap fun id => match H.obj? id with
      | some o => o.ids
      | none => [])
def opsOf : Op → List Operand
  | .move x | .assign x | .unOp _ _ x | .convert _ _ x | .fieldAddr _ x _ | .field _ x _ | .load _ x | .extract x _ | .box _ x | .nilCheck x => [x]
  | .pick c a b => [c, a, b]
  | .binOp _ _ x y _ | .indexAddr _ x y | .index _ x y | .store _ x y | .makeSlice _ x y => [x, y]
  | .build _ ps | .buildSlice _ _ ps => ps.toList.map (·.2)
  | .slice _ x l h m => x :: (l.toList ++ (h.toList ++ m.toList))
  | .makeFunc _ a b => a.toList ++ b.toList
  | .mapUpdate _ m k x | .insert _ m k x => [m, k, x]
  | .lookup _ m i _ => [m, i]
  | .makeMap _ r => r.toList
  | .call c => (match c.callee with
    | .value f => [f]
    | _ => []) ++ c.args.toList
  | _ => []
def tmps : List Operand → List Nat
  | [] => []
  | .tmp t :: l => t :: tmps l
  | _ :: l => tmps l
def looksOf (all : List Oper) (o : Oper) : List Nat := tmps (opsOf o.op) ++ (match o.guard with
  | some (j, _) => (match all[j]? with
    | some q => q.dst.toList
    | none => [])
  | none => [])
def slIds (sl : Sl) (x : Operand) : List Nat := match opv sl x with
  | some s => s.ids
  | none => []
/-- the names that an operation sees -/
def rdOf (H : Heap) (sl : Sl) (o : Op) : List Nat := match o with
  | .call { callee := .value f, args, argTypes := _ } => reach H 40 [] (slIds sl f ++ args.toList.flatMap (slIds sl))
  | .load _ x => slIds sl x
  | .store _ p _ => slIds sl p
  | o => fresh [] ((opsOf o).flatMap (slIds sl))
def Heap.ids : Heap → List Nat
  | [] => []
  | .obj i _ :: H => i :: Heap.ids H
  | .arr j _ _ _ :: H => j :: Heap.ids H
def SObj.eqb : SObj → SObj → Bool
  | .cells cs ty g, .cells cs' ty' g' => (Nat.beq ty ty' && oq g g') && SC.eqbL cs cs'
  | .loop r, .loop r' => (lseq r.state r'.state && (r.pending.isNone && r'.pending.isNone)) && (Nat.beq r.fn r'.fn && (pathq r.path r'.path && r.sl.eqb r'.sl))
  | .map k es, .map k' es' => Nat.beq (kn k) (kn k') && esq es es'
  | _, _ => false
def oObjq : Option SObj → Option SObj → Bool
  | none, none => true
  | some a, some b => a.eqb b
  | _, _ => false
def oArrq : Option (Nat × List CK × Option TypeId) → Option (Nat × List CK × Option TypeId) → Bool
  | none, none => true
  | some (c, p, o), some (c', p', o') => Nat.beq c c' && (patq p p' && oq o o')
  | _, _ => false
/-- the names at which two heaps part -/
def diffs (H H' : Heap) : List Nat → List Nat
  | [] => []
  | x :: l => bif oObjq (H.obj? x) (H'.obj? x) && oArrq (H.arr? x) (H'.arr? x) then diffs H H' l else x :: diffs H H' l
/-- at these names stand blocks, and rows of the call's own -/
def rowsOnly (H : Heap) : List Nat → Bool
  | [] => true
  | x :: l => (match H.arr? x with
    | some (_, _, none) => false
    | _ => true) && rowsOnly H l
/-- trees without loops, with names from n on: one way through them is taken -/
def T.plain (n : Nat) : T → Bool
  | .leaf _ => true
  | .ite _ t e => t.plain n && e.plain n
  | .need _ t => t.plain n
  | .call _ _ _ m _ _ _ t => Nat.ble n m && t.plain n
  | .loop .. | .cont .. => false
  | .arr m _ _ t => Nat.ble n m && t.plain n
  | .dead => true

/-- the length of a row that has turned -/
def lenFacts (F : List BE) (n : Nat) : AE → List BE
  | .set c _ _ | .put c _ _ => bif Nat.blt c n then [.cmp .eql (.alen n) (renI F (.alen c))] else []
  | _ => []
theorem lenFacts_den {ρ : Env} {F : List BE} (hF : ∀ p ∈ F, p.den ρ = true) {n : Nat} {ct : AE} {l : List (List Dat)} (hl : ∀ c x vs, ct = .set c x vs → c < n → l.length = (ρ.a c).length) (hp : ∀ c x a, ct = .put c x a → c < n → l.length = (ρ.a c).length) (hn : ρ.a n = l) :
    ∀ p ∈ lenFacts F n ct, p.den ρ = true := by
  intro p hpm
  unfold lenFacts at hpm
  split at hpm
  · rename_i c x vs
    cases hq : Nat.blt c n
    · rw [hq] at hpm; cases hpm
    · rw [hq] at hpm; simp only [cond_true, List.mem_singleton] at hpm; subst hpm
      rw [Nat.blt_eq] at hq
      simp [BE.den, bc, renI_den hF, IE.den, hn, hl c x vs rfl hq]
  · rename_i c x a
    cases hq : Nat.blt c n
    · rw [hq] at hpm; cases hpm
    · rw [hq] at hpm; simp only [cond_true, List.mem_singleton] at hpm; subst hpm
      rw [Nat.blt_eq] at hq
      simp [BE.den, bc, renI_den hF, IE.den, hn, hp c x a rfl hq]
  · cases hpm
/-- a tree without loops with further trees at its leaves, that are told what was learned on the way -/
def T.bndF : T → List BE → (Lf → List BE → Option T) → Option T
  | .leaf l, F, k => k l F
  | .ite c t e, F, k => match t.bndF (SX.learn F c true) k, e.bndF (SX.learn F c false) k with
    | some t, some e => some (.ite c t e)
    | _, _ => none
  | .need ps t, F, k => match t.bndF (SX.learns F ps) k with
    | some t => some (.need ps t)
    | none => none
  | .call f args H n vks res Hn t, F, k => bif BE.bndL n F then match t.bndF F k with
      | some t => some (.call f args H n vks res Hn t)
      | none => none
    else none
  | .arr n ct nl t, F, k => bif BE.bndL n F then match t.bndF (lenFacts F n ct ++ F) k with
      | some t => some (.arr n ct nl t)
      | none => none
    else none
  | .loop .., _, _ => none
  | .cont .., _, _ => none
  | .dead, _, _ => some .dead

/-! ### rows at a loop's head -/
def normLoc (P : Program) (st : St) : Loc → Option (Option (AE × BE) × St)
  | .row t E => match slot st.sl t with
    | some (.a (.c (.slice ..))) => some (none, st)
    | some (.a (.c c)) => match sizeP P E with
      | some sz => match xbase P st.H E sz c with
        | some b => bif Nat.blt 0 sz then some (some (b.old, b.nl), { st with H := .arr st.n st.n b.pat (some E) :: st.H.del b.src, n := st.n + 1, sl := setSlot st.sl t (rowSV st.n b.pat) }) else none
        | none => none
      | none => none
    | _ => none
  | .rowc id off E => match st.H.own? id with
    | some (cs, _) => match cs[off]?, sizeP P E with
      | some (.slice ..), _ => some (none, st)
      | some c, some sz => match xbase P st.H E sz c with
        | some b => bif Nat.blt 0 sz then some (some (b.old, b.nl), { st with H := Heap.setOwn (.arr st.n st.n b.pat (some E) :: st.H.del b.src) id (cs.set off (.slice st.n b.pat.length 0 (.lit 0) (.alen st.n) (.k st.n))), n := st.n + 1 }) else none
        | none => none
      | _, _ => none
    | none => none
  | _ => some (none, st)
def normT (P : Program) : List Loc → St → (St → Option T) → Option T
  | [], st, K => K st
  | l :: r, st, K => match normLoc P st l with
    | none => none
    | some (none, st1) => normT P r st1 K
    | some (some (ct, nl), st1) => bif st.bndQ && (ct.bnd st.n && nl.bnd st.n) then arrT st.n ct nl (normT P r st1 K) else none
def noIte : SV → SV
  | .ite .. => .any
  | s => s
/-- the state at a loop's head -/
def headOf (P : Program) (st : St) (b : Code) (locs : List Loc) : Option (St × List VK) :=
  match hav P st.sl st.H st.n locs with
  | some (sl, H, ks) => some ({ st with sl := (anys sl locs (Code.dsts b)).map noIte, H := H, n := st.n + ks.length, d := st.d + 1 }, ks)
  | none => none
/-- a frame's first slots -/
def setArgs (sl : Sl) (i : Nat) : List SV → Sl
  | [] => sl
  | a :: l => setArgs (setSlot sl i a) (i + 1) l
def frame0 (fn : Func) (args : List SV) : Sl := bif Nat.ble args.length fn.ntmps then setArgs (Sl.fill sundef 40 fn.ntmps) 0 args else .nil

inductive Task where
  | code (c : Code) (p : List Bool) (st : St)
  | loopU (c : Code) (p : List Bool) (st : St)
  | ops (rest all : List Oper) (st : St)
  | run (all : List Oper) (o : Oper) (st : St)
  | op (o : Oper) (st : St)
  | fork (o : Oper) (st : St) (e : IE) (k m : Nat)
  | call (f : FuncId) (args : List SV) (st : St)
  | yld (l : Nat) (args : List SV) (st : St)
  | draw (rest all : List Oper) (st : St) (acc : List DI)

def leafT (v : SV) (st : St) : Option T := some (.leaf ⟨.normal, v, st⟩)
def leafE (e : Exit) (st : St) : Option T := some (.leaf ⟨e, sundef, st⟩)
def altT (st : St) : List (BE × SV) → SV → Option T
  | [], v => leafT v st
  | (b, x) :: l, v => match bsimp st.facts b with
    | .lit true => leafT x st
    | .lit false => altT st l v
    | c => iteT c (leafT x (st.learn c true)) (altT (st.learn c false) l v)
/-- what has become unreachable is forgotten -/
def Heap.gc (H : Heap) (n : Nat) (roots : List Nat) : Heap :=
  let olds := H.ids.filter fun i => Nat.blt i n
  let l := reach H 60 [] (roots ++ olds)
  H.sift fun x => Nat.blt x n || nmem l x
def setPs : Sl → List (Nat × SV) → Sl
  | sl, [] => sl
  | sl, (t, v) :: l => setPs (setSlot sl t v) l
def jumpOf : Exit → Option (Option Code)
  | .normal => some none
  | .ret => some (some .ret)
  | .exit i => some (some (.exit i))
  | .goto t => some (some (.goto t))
  | _ => none
def exitOf : Option Code → Option Exit
  | none => some .normal
  | some .ret => some .ret
  | some (.exit i) => some (.exit i)
  | some (.goto t) => some (.goto t)
  | _ => none
def loop? (H : Heap) (l : Nat) : Option SLoop := match H.obj? l with
  | some (.loop r) => some r
  | _ => none
def rndOk (st : St) : Bool := match st.rnd with
  | none => true
  | some l => (loop? st.H l).isSome
/-- an index that is not known, into cells that are: the index, how many elements -/
def forkOf (P : Program) (st : St) : Op → Option (IE × Nat)
  | .indexAddr _ x i => match evF st (.lit true) x, evF st (.lit true) i with
    | some (.a (.c (.oslice _ _ m _))), some (.a (.c (.int _ e))) => bif Nat.blt 0 m && Nat.ble m 64 then some (e, m) else none
    | some (.a (.c (.gslice _ _ m _))), some (.a (.c (.int _ e))) => bif Nat.blt 0 m && Nat.ble m 64 then some (e, m) else none
    | _, _ => none
  | .index t x i => match evF st (.lit true) x, evF st (.lit true) i with
    | some (.a (.agg _)), some (.a (.c (.int _ e))) => match P.underlying t with
      | some (.array n _) => bif Nat.blt 0 n && Nat.ble n 64 then some (e, n) else none
      | _ => none
    | _, _ => none
  | _ => none
def callee? (P : Program) : Option SV → Option (FuncId × List SC × List SC)
  | some (.a (.c (.fn ⟨.func g, [], []⟩ first cap))) => bif callable P g then some (g, first, cap) else none
  | _ => none

/-- a number, a list, so that the kernel works them out -/
def natF {α : Type} (n : Nat) (k : Nat → α) : α := Nat.casesOn n (k 0) fun m => k m.succ
def lstF {β α : Type} (l : List β) (k : List β → α) : α := List.casesOn l (k []) fun a l => k (a :: l)
def optF {β α : Type} (l : Option β) (k : Option β → α) : α := Option.casesOn l (k none) fun a => k (some a)
def force {α : Type} (st : St) (k : St → α) : α := natF st.n fun n => natF st.d fun d => natF st.fn fun fn => lstF st.facts fun facts => optF st.rnd fun rnd => lstF st.H fun H => k ⟨st.sl, H, n, facts, d, fn, rnd⟩
theorem natF_eq {α : Type} (n : Nat) (k : Nat → α) : natF n k = k n := by cases n <;> rfl
theorem lstF_eq {β α : Type} (l : List β) (k : List β → α) : lstF l k = k l := by cases l <;> rfl
theorem optF_eq {β α : Type} (l : Option β) (k : Option β → α) : optF l k = k l := by cases l <;> rfl
theorem force_eq {α : Type} (st : St) (k : St → α) : force st k = k st := by simp only [force, natF_eq, lstF_eq, optF_eq]
def s_code (C : Cfg) (R : Task → Option T) (c : Code) (p : List Bool) (st : St) : Option T := match c with
    | .skip | .label _ => leafE .normal st
    | .exit id => leafE (.exit id) st
    | .goto l => leafE (.goto l) st
    | .ret => leafE .ret st
    | .region _ ops false => R (.ops ops.toList ops.toList st)
    | .region _ ops true => bif st.bndQ && (C.P.follows .mixedOrders && predsOk 0 ops.toList) then R (.draw ops.toList ops.toList st []) else none
    | .seq a b => thenT (R (.code a (false :: p) st)) fun l => match l.e with
        | .normal => R (.code b (true :: p) l.st)
        | e => leafE e l.st
    | .cond c x y => match opv st.sl c with
      | some (.a (.c (.bool b))) => match bsimp st.facts b with
        | .lit true => R (.code x (false :: p) st)
        | .lit false => R (.code y (true :: p) st)
        | q => iteT q (R (.code x (false :: p) (st.learn q true))) (R (.code y (true :: p) (st.learn q false)))
      | _ => none
    | .block id b => thenT (R (.code b (false :: p) st)) fun l => match l.e with
        | .exit i => leafE (bif Nat.beq i id then .normal else .exit i) l.st
        | e => leafE e l.st
    | .scope b => thenT (R (.code b (false :: p) st)) fun l => match l.e with
        | .goto _ => none
        | e => leafE e l.st
    | .loop b => match C.ann st.fn ((firstRegion b).getD 0) st.n with
      | none => R (.loopU b (false :: p) st)
      | some locs => normT C.P locs st fun st => match headOf C.P st b locs with
        | some (head, ks) => match lcheck st.n ks head st, bif BE.bndL st.n st.facts then thenT (R (.code b (false :: p) head)) fun l => (match l.e with
              | .normal => normT C.P locs l.st fun st' => match lcheck st.n ks head st' with
                | some vals => some (.cont (st'.d - head.d) vals)
                | none => none
              | e => leafE e l.st) else none with
          | some init, some body => some (.loop ks st.n init body)
          | _, _ => none
        | none => none
    | .rangeFunc f _ _ _ => match callee? C.P (evF st (.lit true) f) with
      | some (g, first, cap) => bif st.bndQ && (rndOk st && SC.bndL st.n (first ++ cap)) then
          thenT (R (.call g (first.map SV.c ++ ([.c (.yld st.n)] ++ cap.map SV.c)) { st with H := .obj st.n (.loop ⟨.ready, none, st.fn, p, st.sl⟩) :: st.H, n := st.n + 1 })) fun l =>
            match loop? l.st.H st.n with
            | some r => match r.state, exitOf r.pending with
              | .busy, _ => none
              | _, some e => leafE e { l.st with H := l.st.H.delO st.n }
              | _, none => none
            | none => none
        else none
      | none => none
    | _ => none

def s_loopU (R : Task → Option T) (c : Code) (p : List Bool) (st : St) : Option T := thenT (R (.code c p st)) fun l => match l.e with
      | .normal => R (.loopU c p l.st)
      | e => leafE e l.st

def s_ops (R : Task → Option T) (rest all : List Oper) (st : St) : Option T := match rest with
    | [] => leafE .normal st
    | o :: rest => thenT (R (.run all o st)) fun l => R (.ops rest all (l.st.put o.dst l.v))

def s_run (C : Cfg) (R : Task → Option T) (all : List Oper) (o : Oper) (st : St) : Option T := match guardOf all st.sl o.guard with
    | none => none
    | some g => match bsimpG st.facts g with
      | .lit false => leafT sundef st
      | .lit true => R (.op o st)
      | c => forceL (learn st.facts c true) fun F => match xvalF C.P st.H (evO st F o.op) o.op with
        | some (ns, v) => match openNeeds st.facts (ns.map fun p => mkOr (mkNot c) p) with
          | some q => needT q (leafT (SV.guard c v) (st.learns q))
          | none => none
        | none => iteT c (R (.op o (st.learn c true))) (leafT sundef (st.learn c false))

def s_fork (R : Task → Option T) (o : Oper) (st : St) (e : IE) (k m : Nat) : Option T := bif Nat.blt (k + 1) m then iteT (mkCmp .eql e (.lit (.ofNat k))) (R (.op o (st.learn (mkCmp .eql e (.lit (.ofNat k))) true))) (R (.fork o (st.learn (mkCmp .eql e (.lit (.ofNat k))) false) e (k + 1) m))
      else needT [mkCmp .eql e (.lit (.ofNat k))] (R (.op o (st.learns [mkCmp .eql e (.lit (.ofNat k))])))

def s_op (C : Cfg) (R : Task → Option T) (o : Oper) (st : St) : Option T := match xoneF C.P st.H (evO st st.facts o.op) o.op with
    | none => match forkOf C.P st o.op with
      | some (e, m) => match e with
        | .lit _ => some .dead
        | e => R (.fork o st e 0 m)
      | none => some .dead
    | some (ns, r) => match openNeeds st.facts ns with
      | none => none
      | some q => needT q (match r with
        | .val v => leafT v (st.learns q)
        | .new ob np src => bif (st.learns q).bndQ && ob.bnd st.n then leafT (newPtr st.n np) { st.learns q with H := .obj st.n ob :: st.H.delS src, n := st.n + 1 } else none
        | .upd H v => leafT v { st.learns q with H := H }
        | .call f args => R (.call f args (st.learns q))
        | .yld l args => R (.yld l args (st.learns q))
        | .row r => bif (st.bndQ && BE.bndL st.n ns) && (r.ct.bnd st.n && r.nl.bnd st.n) then arrT st.n r.ct r.nl (leafT (rowSV st.n r.pat) { st.learns q with H := .arr st.n st.n r.pat (some r.E) :: st.H.del r.src, n := st.n + 1 }) else none
        | .alts l v => altT (st.learns q) l v
        | .turn j ct v => bif (st.bndQ && BE.bndL st.n ns) && (ct.bnd st.n && v.bnd st.n) then arrT st.n ct (.lit false) (leafT v { st.learns q with H := st.H.turnA j st.n, n := st.n + 1, facts := lenFacts (st.learns q).facts st.n ct ++ (st.learns q).facts }) else none)

def s_call (C : Cfg) (R : Task → Option T) (f : FuncId) (args : List SV) (st : St) : Option T := match C.cv f args with
    | some v => bif st.bndQ then leafT v st else none
    | none => match C.ct f with
    | some rs => match rs.mk st.n with
      | (ks, res, hn) => bif (st.bndQ && SV.bndL st.n args) && newRows st.n hn then
          some (.call f args (st.H.only (reach st.H 60 [] (args.flatMap SV.ids))) st.n ks res hn (.leaf ⟨.normal, res, { st with H := hn ++ st.H, n := st.n + ks.length }⟩))
        else none
    | none => match C.P.funcs[f]? with
      | some fn => match fn.body with
        | some c => bif st.bndQ then thenT (R (.code c [] { st with sl := frame0 fn args, fn := f, rnd := none })) fun l => match l.e with
          | .normal | .ret => match xresults C.P fn l.st with
            | some v => leafT v { l.st with sl := st.sl, H := l.st.H.gc st.n v.ids, fn := st.fn, rnd := st.rnd }
            | none => none
          | _ => none
          else none
        | none => none
      | none => none

def s_yld (C : Cfg) (R : Task → Option T) (l : Nat) (args : List SV) (st : St) : Option T := match loop? st.H l with
    | some r => match r.state, placeOf C.P r.fn r.path with
      | .ready, some (.rangeFunc _ ps as bo) => bif Nat.beq args.length ps.size && (st.bndQ && Nat.blt l st.n) then
          thenT (R (.code as (false :: r.path) { st with sl := setPs r.sl (ps.toList.zip args), fn := r.fn, rnd := some l })) fun l1 => match l1.e, loop? l1.st.H l with
            | .normal, some r1 => match r1.state with
              | .ready => thenT (R (.code bo (true :: r.path) { l1.st with H := l1.st.H.setObj l (.loop { r1 with state := .busy }) })) fun l2 => match jumpOf l2.e, loop? l2.st.H l with
                | some j, some r2 => leafT (.c (.bool (.lit j.isNone))) { l2.st with sl := st.sl, fn := st.fn, rnd := st.rnd, H := l2.st.H.setObj l (.loop { r2 with state := if j.isNone then .ready else .done, pending := j }) }
                | _, _ => none
              | _ => none
            | _, _ => none
        else none
      | _, _ => none
    | none => none

def s_draw (R : Task → Option T) (rest all : List Oper) (st : St) (acc : List DI) : Option T := match rest with
    | [] => bif allOk (masks all []) 0 acc then leafE .normal st else none
    | o :: rest =>
      let looks := looksOf all o
      let rd := rdOf st.H st.sl o.op
      let st0 := { st with sl := maskS looks st.sl, H := st.H.only rd }
      match R (.run all o st0) with
      | some t => bif t.plain st.n && st0.bndQ then t.bndF st.facts fun l F =>
          let wr := diffs st0.H l.st.H (fresh [] (st0.H.ids ++ l.st.H.ids))
          bif (Nat.ble st.n l.st.n && (l.st.bndQ && l.v.bnd l.st.n)) && rowsOnly l.st.H wr then
            R (.draw rest all { st with sl := putS st.sl o.dst l.v, H := l.st.H.only wr ++ st.H.drop wr, n := l.st.n, facts := F } (acc ++ [⟨o.dst, l.v, looks, rd, wr, st0, l.st⟩]))
          else none
        else none
      | none => none
/-- one step, task by task -/
def stepT (C : Cfg) (R : Task → Option T) (t : Task) : Option T := match t with
  | .code c p st => force st fun st => s_code C R c p st
  | .loopU c p st => s_loopU R c p st
  | .ops rest all st => force st fun st => s_ops R rest all st
  | .run all o st => s_run C R all o st
  | .fork o st e k m => s_fork R o st e k m
  | .op o st => s_op C R o st
  | .call f args st => force st fun st => s_call C R f args st
  | .yld l args st => force st fun st => s_yld C R l args st
  | .draw rest all st acc => force st fun st => s_draw R rest all st acc
def XC (C : Cfg) : Nat → Task → Option T
  | 0, _ => none
  | n + 1, t => stepT C (XC C n) t
noncomputable def X (C : Cfg) (n : Nat) : Task → Option T := Nat.rec (motive := fun _ => Task → Option T) (fun _ => none) (fun _ ih t => stepT C ih t) n
theorem X_zero (C : Cfg) (t : Task) : X C 0 t = none := rfl
theorem X_succ (C : Cfg) (n : Nat) (t : Task) : X C (n + 1) t = stepT C (X C n) t := rfl
end Go.SX

/- SyX2: what is asked of a walk's tree, task by task; steps of states. -/
set_option linter.unusedSimpArgs false
set_option linter.unusedVariables false
set_option linter.unusedSectionVars false
noncomputable section
namespace Go.SX
open Go Go.RowKit

theorem Agree.symm {n : Nat} {ρ ρ' : Env} {κ κ' : Kap} (h : Agree n ρ ρ' κ κ') : Agree n ρ' ρ κ' κ :=
  ⟨fun j hj => (h.i j hj).symm, fun j hj => (h.b j hj).symm, fun j hj => (h.v j hj).symm, fun j hj => (h.a j hj).symm, fun j hj => (h.nl j hj).symm, fun j hj => (h.o j hj).symm, fun j hj => (h.kb j hj).symm, fun j hj => (h.ko j hj).symm, fun j hj => (h.kc j hj).symm⟩
/-- only the data: the places stay -/
theorem Agree.kap {n : Nat} {ρ ρ' : Env} {κ κ' : Kap} (h : Agree n ρ ρ' κ κ') (κ2 : Kap) : Agree n ρ ρ' κ2 κ2 := ⟨h.i, h.b, h.v, h.a, h.nl, fun _ _ => rfl, fun _ _ => rfl, fun _ _ => rfl, fun _ _ => rfl⟩
/-- how a state came of another -/
structure Aft (st : St) (ρ : Env) (κ : Kap) (L : List LCtx) (s : St) (ρ' : Env) (κ' : Kap) (L' : List LCtx) : Prop where
  len : L'.length = s.d
  suf : L <:+ L'
  n : st.n ≤ s.n
  fn : s.fn = st.fn
  rnd : s.rnd = st.rnd
  A : Agree st.n ρ ρ' κ κ'
theorem Aft.refl {st : St} {ρ : Env} {κ : Kap} {L : List LCtx} (h : L.length = st.d) : Aft st ρ κ L st ρ κ L := ⟨h, List.suffix_refl _, Nat.le_refl _, rfl, rfl, Agree.refl _ _ _⟩
theorem Aft.trans {st s s' : St} {ρ ρ' ρ'' : Env} {κ κ' κ'' : Kap} {L L' L'' : List LCtx} (h : Aft st ρ κ L s ρ' κ' L') (h' : Aft s ρ' κ' L' s' ρ'' κ'' L'') : Aft st ρ κ L s' ρ'' κ'' L'' :=
  ⟨h'.len, h.suf.trans h'.suf, Nat.le_trans h.n h'.n, h'.fn.trans h.fn, h'.rnd.trans h.rnd, h.A.trans h'.A h.n⟩
/-- states that have the same names, functions and depths -/
theorem Aft.to {st s s' : St} {ρ ρ' : Env} {κ κ' : Kap} {L L' : List LCtx} (h : Aft st ρ κ L s ρ' κ' L') (h1 : s'.d = s.d) (h2 : s.n ≤ s'.n) (h3 : s'.fn = s.fn) (h4 : s'.rnd = s.rnd) : Aft st ρ κ L s' ρ' κ' L' :=
  ⟨h.len.trans h1.symm, h.suf, Nat.le_trans h.n h2, h3.trans h.fn, h4.trans h.rnd, h.A⟩
theorem Aft.of {st st' s : St} {ρ ρ' : Env} {κ κ' : Kap} {L L' : List LCtx} (h : Aft st' ρ κ L s ρ' κ' L') (h2 : st.n = st'.n) (h3 : st'.fn = st.fn) (h4 : st'.rnd = st.rnd) : Aft st ρ κ L s ρ' κ' L' :=
  ⟨h.len, h.suf, by rw [h2]; exact h.n, h.fn.trans h3, h.rnd.trans h4, by rw [h2]; exact h.A⟩
theorem Aft.round {st s : St} {ρ ρ' : Env} {κ κ' : Kap} {L L' : List LCtx} (h : Aft st ρ κ L s ρ' κ' L') (hr : ∀ l, st.rnd = some l → l < st.n) : s.rnd.map κ'.o = st.rnd.map κ.o := by
  rw [h.rnd]
  cases hl : st.rnd with
  | none => rfl
  | some l => simp only [Option.map_some, h.A.o l (hr l hl)]
section
variable (C : Cfg)
abbrev Lc := List LCtx
def SoundCode (n : Nat) : Prop := ∀ c p st t, X C n (.code c p st) = some t → placeOf C.P st.fn p = some c → ∀ (base : Bk) (w0 : World) (ρ : Env) (κ : Kap) (a : Act) (w : World) (L : Lc) (Φ : Lf → Lc → Env → Prop) (Q : Exit → Act → World → Prop),
  base.P = C.P → L.length = st.d → Sim base w0 ρ κ st a w → Den C.P base w0 t L ρ Φ → (∀ l L' ρ' κ' a' w', Φ l L' ρ' → Aft st ρ κ L l.st ρ' κ' L' → Sim base w0 ρ' κ' l.st a' w' → Q l.e a' w') → wpC C.P (st.rnd.map κ.o) c Q a w
def SoundLoop (n : Nat) : Prop := ∀ c p st t, X C n (.loopU c p st) = some t → placeOf C.P st.fn p = some c → ∀ (base : Bk) (w0 : World) (ρ : Env) (κ : Kap) (a : Act) (w : World) (L : Lc) (Φ : Lf → Lc → Env → Prop) (Q : Exit → Act → World → Prop),
  base.P = C.P → L.length = st.d → Sim base w0 ρ κ st a w → Den C.P base w0 t L ρ Φ → (∀ l L' ρ' κ' a' w', Φ l L' ρ' → Aft st ρ κ L l.st ρ' κ' L' → Sim base w0 ρ' κ' l.st a' w' → Q l.e a' w') → Code.roundsIn (Wd (st.rnd.map κ.o)) 0 C.P c Q n a w
def SoundOps (n : Nat) : Prop := ∀ (ops : Array Oper) rest st t, X C n (.ops rest ops.toList st) = some t → ∀ (base : Bk) (w0 : World) (ρ : Env) (κ : Kap) (a : Act) (w : World) (L : Lc) (Φ : Lf → Lc → Env → Prop) (Q : Exit → Act → World → Prop),
  base.P = C.P → L.length = st.d → Sim base w0 ρ κ st a w → Den C.P base w0 t L ρ Φ → (∀ l L' ρ' κ' a' w', Φ l L' ρ' → Aft st ρ κ L l.st ρ' κ' L' → Sim base w0 ρ' κ' l.st a' w' → Q l.e a' w') → wpL C.P (st.rnd.map κ.o) ops Q rest a w
/-- what is done behind an operation -/
def PostV (base : Bk) (w0 : World) (st : St) (ρ : Env) (κ : Kap) (L : Lc) (a : Act) (Φ : Lf → Lc → Env → Prop) (R : Value → World → Prop) : Prop :=
  ∀ l L' ρ' κ' w', Φ l L' ρ' → Aft st ρ κ L l.st ρ' κ' L' → l.st.sl = st.sl → Sim base w0 ρ' κ' l.st a w' → R (l.v.den ρ' κ') w'
def SoundRun (n : Nat) : Prop := ∀ (ops : Array Oper) o st t, X C n (.run ops.toList o st) = some t → ∀ (base : Bk) (w0 : World) (ρ : Env) (κ : Kap) (a : Act) (w : World) (L : Lc) (Φ : Lf → Lc → Env → Prop) (K : Act → World → Prop) (Q : Exit → Act → World → Prop),
  base.P = C.P → L.length = st.d → Sim base w0 ρ κ st a w → Den C.P base w0 t L ρ Φ → PostV base w0 st ρ κ L a Φ (fun v w' => K (a.put o.dst v) w') → if Region.wanted o (yielded ops a.tmps) then wpO C.P (st.rnd.map κ.o) o a w K Q else K (a.put o.dst undef) w
def SoundOp (n : Nat) : Prop := ∀ (o : Oper) st t, X C n (.op o st) = some t → ∀ (base : Bk) (w0 : World) (ρ : Env) (κ : Kap) (a : Act) (w : World) (L : Lc) (Φ : Lf → Lc → Env → Prop) (K : Act → World → Prop) (Q : Exit → Act → World → Prop),
  base.P = C.P → L.length = st.d → Sim base w0 ρ κ st a w → Den C.P base w0 t L ρ Φ → PostV base w0 st ρ κ L a Φ (fun v w' => K (a.put o.dst v) w') → wpO C.P (st.rnd.map κ.o) o a w K Q
def SoundFork (n : Nat) : Prop := ∀ (o : Oper) st e k m t, X C n (.fork o st e k m) = some t → ∀ (base : Bk) (w0 : World) (ρ : Env) (κ : Kap) (a : Act) (w : World) (L : Lc) (Φ : Lf → Lc → Env → Prop) (K : Act → World → Prop) (Q : Exit → Act → World → Prop),
  base.P = C.P → L.length = st.d → Sim base w0 ρ κ st a w → Den C.P base w0 t L ρ Φ → PostV base w0 st ρ κ L a Φ (fun v w' => K (a.put o.dst v) w') → wpO C.P (st.rnd.map κ.o) o a w K Q
def SoundCall (n : Nat) : Prop := ∀ f args st t, X C n (.call f args st) = some t → ∀ (base : Bk) (w0 : World) (ρ : Env) (κ : Kap) (a : Act) (w : World) (L : Lc) (Φ : Lf → Lc → Env → Prop) (R : Value → World → Prop),
  base.P = C.P → L.length = st.d → Sim base w0 ρ κ st a w → Den C.P base w0 t L ρ Φ → PostV base w0 st ρ κ L a Φ R → Calls C.P f (args.map (SV.den ρ κ)).toArray w fun e w' => ∃ v, e = .returned v ∧ R v w'
def SoundYld (n : Nat) : Prop := ∀ l args st t, X C n (.yld l args st) = some t → ∀ (base : Bk) (w0 : World) (ρ : Env) (κ : Kap) (a : Act) (w : World) (L : Lc) (Φ : Lf → Lc → Env → Prop) (R : Value → World → Prop),
  base.P = C.P → L.length = st.d → Sim base w0 ρ κ st a w → Den C.P base w0 t L ρ Φ → PostV base w0 st ρ κ L a Φ R → ∀ b : Loop, w.heap[κ.o l]? = some (.loop b) → args.length = b.params.size ∧
    RoundIn (Wd (st.rnd.map κ.o)) 0 C.P (κ.o l) b.fn ((b.params.zip (args.map (SV.den ρ κ)).toArray).foldl (fun tmps (t, a) => tmps.setIfInBounds t a) b.tmps) b.assign b.body w fun e w' => ∃ v, e = .returned v ∧ R v w'
end
/-! ### steps of states -/
section
variable {base : Bk} {w0 : World} {ρ ρ' : Env} {κ κ' : Kap} {st : St} {a : Act} {w w' : World}
theorem Sim.rb (h : Sim base w0 ρ κ st a w) : ∀ l, st.rnd = some l → l < st.n := by obtain ⟨_, h⟩ := h; exact h.rb
theorem Sim.fc (h : Sim base w0 ρ κ st a w) : ∀ p ∈ st.facts, p.den ρ = true := by obtain ⟨_, h⟩ := h; exact h.fc
theorem Sim.fr (h : Sim base w0 ρ κ st a w) : FrameOk ρ κ st.sl a := by obtain ⟨_, h⟩ := h; exact h.fr
theorem Sim.learn (h : Sim base w0 ρ κ st a w) {c : BE} {v : Bool} (hc : c.den ρ = v) : Sim base w0 ρ κ (st.learn c v) a w := by
  obtain ⟨Ds, h⟩ := h
  exact ⟨Ds, h.fr, h.df, h.dn, h.db, h.sz, h.hp, h.bl, learn_den c st.facts v h.fc hc, h.rb⟩
theorem Sim.learns (h : Sim base w0 ρ κ st a w) {q : List BE} (hq : ∀ p ∈ q, p.den ρ = true) : Sim base w0 ρ κ (st.learns q) a w := by
  obtain ⟨Ds, h⟩ := h
  exact ⟨Ds, h.fr, h.df, h.dn, h.db, h.sz, h.hp, h.bl, learns_den q st.facts h.fc hq, h.rb⟩
theorem St.put_n (st : St) (d : Option Nat) (v : SV) : (st.put d v).n = st.n := by cases d <;> rfl
theorem St.put_d (st : St) (d : Option Nat) (v : SV) : (st.put d v).d = st.d := by cases d <;> rfl
theorem St.put_fn (st : St) (d : Option Nat) (v : SV) : (st.put d v).fn = st.fn := by cases d <;> rfl
theorem St.put_rnd (st : St) (d : Option Nat) (v : SV) : (st.put d v).rnd = st.rnd := by cases d <;> rfl
/-- the base that protects the frame's own deferred blocks -/
theorem SimD.step {Ds : List Nat} (h : SimD base w0 Ds ρ κ st a w) {st' : St} (hfr : FrameOk ρ' κ' st'.sl a) (hk : Kept (base.plus Ds w.heap.size h.sz fun D hD => (h.db D hD).1) w w')
    (hp : HeapOk ρ' κ' (base.plus Ds w.heap.size h.sz fun D hD => (h.db D hD).1) st'.H w') (hf : ∀ p ∈ st'.facts, p.den ρ' = true) (hr : ∀ l, st'.rnd = some l → l < st'.n) : SimD base w0 Ds ρ' κ' st' a w' := by
  have hz := hk.size
  have hle : base.Le (base.plus Ds w.heap.size h.sz fun D hD => (h.db D hD).1) := Bk.Le.plus ..
  have hdb : ∀ D ∈ Ds, D < w'.heap.size ∧ base.b ≤ D ∧ ¬ base.keep D ∧ w'.heap[D]? = some (.deferred (some [])) := fun D hD => by
    obtain ⟨k1, k2, k3, k4⟩ := h.db D hD
    exact ⟨Nat.lt_of_lt_of_le k1 hz, k2, k3, by rw [hk.kp D k1 (.inr hD)]; exact k4⟩
  exact ⟨hfr, h.df, h.dn, hdb, Nat.le_trans h.sz hz, hp.up rfl rfl fun k _ hk => hk, h.bl.trans (hk.le hle), hf, hr⟩
end
end Go.SX

/- SyX3: operations. -/
set_option linter.unusedSimpArgs false
set_option linter.unusedVariables false
set_option linter.unusedSectionVars false
noncomputable section
namespace Go.SX
open Go Go.RowKit

section
variable {C : Cfg}
theorem soundOps {n : Nat} (hO : SoundOps C n) (hR : SoundRun C n) : SoundOps C (n + 1) := by
  intro ops rest st t h base w0 ρ κ a w L Φ Q hP hL hs hd hk
  cases rest with
  | nil =>
    simp only [X_succ, stepT, force_eq, s_code, s_loopU, s_ops, s_run, s_op, s_fork, s_call, s_yld, s_draw, xoneF_eq, xvalF_eq, forceL_eq, leafE] at h; cases h
    exact hk _ L ρ κ a w hd (Aft.refl hL) hs
  | cons o rest =>
    simp only [X_succ, stepT, force_eq, s_code, s_loopU, s_ops, s_run, s_op, s_fork, s_call, s_yld, s_draw, xoneF_eq, xvalF_eq, forceL_eq, St.bndQ_eq] at h
    obtain ⟨t', ht', hdd⟩ := thenT_spec (P := C.P) (base := base) (w0 := w0) h
    refine wpL_step fun K hK => ?_
    refine hR ops o st t' ht' base w0 ρ κ a w L _ K Q hP hL hs (hdd L ρ Φ hd) ?_
    intro l L' ρ' κ' w' hl hA hsl hs'
    obtain ⟨u, hu, hdu⟩ := hl
    refine hK _ _ ?_
    have := hO ops rest _ u hu base w0 ρ' κ' (a.put o.dst (l.v.den ρ' κ')) w' L' Φ Q hP (by rw [St.put_d]; exact hA.len) (hs'.put o.dst fun _ => rfl) hdu ?_
    · rw [St.put_rnd, hA.round hs.rb] at this; exact this
    · intro l2 L2 ρ2 κ2 a2 w2 h2 hA2 hs2
      exact hk l2 L2 ρ2 κ2 a2 w2 h2 (hA.trans (hA2.of (by rw [St.put_n]) (by rw [St.put_fn]) (by rw [St.put_rnd]))) hs2
theorem xone_ndefer {P : Program} {H : Heap} {ev : Operand → Option SV} {o : Op} {x : List BE × ORes} (h : xone P H ev o = some x) : ∀ c, o ≠ .defer c := by
  intro c e
  subst e
  simp [xone, xval] at h
theorem xval_ndefer {P : Program} {H : Heap} {ev : Operand → Option SV} {o : Op} {x : List BE × SV} (h : xval P H ev o = some x) : ∀ c, o ≠ .defer c := by
  intro c e
  subst e
  simp [xval] at h
theorem Sim.hp {base : Bk} {w0 : World} {ρ : Env} {κ : Kap} {st : St} {a : Act} {w : World} (h : Sim base w0 ρ κ st a w) : HeapOk ρ κ base st.H w := by
  obtain ⟨Ds, h⟩ := h
  exact h.hp.le (Bk.Le.plus ..)
theorem Sim.sz {base : Bk} {w0 : World} {ρ : Env} {κ : Kap} {st : St} {a : Act} {w : World} (h : Sim base w0 ρ κ st a w) : base.top ≤ w.heap.size := by obtain ⟨_, h⟩ := h; exact h.sz
theorem soundRun {n : Nat} (hp : SoundOp C n) : SoundRun C (n + 1) := by
  intro ops o st t h base w0 ρ κ a w L Φ K Q hP hL hs hd hk
  simp only [X_succ, stepT, force_eq, s_code, s_loopU, s_ops, s_run, s_op, s_fork, s_call, s_yld, s_draw, xoneF_eq, xvalF_eq, forceL_eq, St.bndQ_eq] at h
  split at h
  · cases h
  · rename_i g hg
    have hw := guardOf_spec hs.fr hg
    have hsimp := bsimpG_den hs.fc g
    rw [hw]
    generalize bsimpG st.facts g = c at h hsimp
    split at h
    · simp only [BE.den] at hsimp
      rw [← hsimp]; simp only [Bool.false_eq_true, if_false]
      simp only [leafT] at h; cases h
      have := hk _ L ρ κ w hd (Aft.refl hL) rfl hs
      rw [sundef_den] at this; exact this
    · simp only [BE.den] at hsimp
      rw [← hsimp]; simp only [if_true]
      exact hp o st t h base w0 ρ κ a w L Φ K Q hP hL hs hd hk
    · split at h
      · rename_i ns v hx
        split at h
        · rename_i q hq
          obtain ⟨t', ht', hdd⟩ := needT_spec (P := C.P) (base := base) (w0 := w0) h
          obtain ⟨hqd, hd'⟩ := hdd L ρ Φ hd
          simp only [leafT] at ht'; cases ht'
          have hneed := openNeeds_den hs.fc hq hqd
          have fin : ∀ u, u = (SV.guard c v).den ρ κ → K (a.put o.dst u) w := by
            intro u hu; subst hu
            exact hk _ L ρ κ w hd' ((Aft.refl hL).to rfl (Nat.le_refl _) rfl rfl) rfl (hs.learns hqd)
          cases hcv : c.den ρ
          · rw [← hsimp, hcv]; simp only [Bool.false_eq_true, if_false]
            exact fin _ (by rw [SV.guard_den, hcv]; rfl)
          · rw [← hsimp, hcv]; simp only [if_true]
            have hn : ∀ p ∈ ns, p.den ρ = true := fun p hp => by
              have := hneed _ (List.mem_map_of_mem hp)
              rw [mkOr_den, mkNot_den, hcv] at this
              simpa using this
            have hrun := xval_sound (P := C.P) hs.hp (evO_den hs.fr (learn_den c st.facts true hs.fc hcv)) hx hn
            exact wpO_value (xval_ndefer hx) hrun (fin _ (by rw [SV.guard_den, hcv]; rfl))
        · cases h
      · obtain ⟨t1, t2, h1, h2, rfl⟩ := iteT_spec h
        cases hcv : c.den ρ
        · rw [← hsimp, hcv]; simp only [Bool.false_eq_true, if_false]
          simp only [leafT] at h2; cases h2
          have := hk _ L ρ κ w (hd.2 hcv) ((Aft.refl hL).to rfl (Nat.le_refl _) rfl rfl) rfl (hs.learn hcv)
          rw [sundef_den] at this; exact this
        · rw [← hsimp, hcv]; simp only [if_true]
          refine hp o (st.learn c true) t1 h1 base w0 ρ κ a w L Φ K Q hP hL (hs.learn hcv) (hd.1 hcv) ?_
          intro l L' ρ' κ' w' hl hA hsl hs'
          exact hk l L' ρ' κ' w' hl (hA.of rfl rfl rfl) hsl hs'
theorem altT_sound {base : Bk} {w0 : World} {ρ : Env} {κ : Kap} {a : Act} {w : World} {L : Lc} {Φ : Lf → Lc → Env → Prop} {R : Value → World → Prop} : ∀ (l : List (BE × SV)) (v : SV) (st : St) (t : T), altT st l v = some t → L.length = st.d → Sim base w0 ρ κ st a w →
    Den C.P base w0 t L ρ Φ → PostV base w0 st ρ κ L a Φ R → R (altDen ρ κ l v) w
  | [], v, st, t, h, hL, hs, hd, hk => by
    simp only [altT, leafT] at h; cases h
    exact hk _ L ρ κ w hd (Aft.refl hL) rfl hs
  | (b, x) :: l, v, st, t, h, hL, hs, hd, hk => by
    unfold altT at h
    have e := bsimp_den hs.fc b
    split at h
    · rename_i hb
      rw [hb] at e; simp only [BE.den] at e
      simp only [leafT] at h; cases h
      simp only [altDen, ← e, if_true]
      exact hk _ L ρ κ w hd (Aft.refl hL) rfl hs
    · rename_i hb
      rw [hb] at e; simp only [BE.den] at e
      simp only [altDen, ← e, Bool.false_eq_true, if_false]
      exact altT_sound l v st t h hL hs hd hk
    · generalize bsimp st.facts b = c at h e
      obtain ⟨t1, t2, h1, h2, rfl⟩ := iteT_spec h
      cases hc : c.den ρ
      · rw [hc] at e
        simp only [altDen, ← e, Bool.false_eq_true, if_false]
        exact altT_sound l v (st.learn c false) t2 h2 hL (hs.learn hc) (hd.2 hc) fun l' L' ρ' κ' w' hl hA hsl hs' => hk l' L' ρ' κ' w' hl (hA.of rfl rfl rfl) hsl hs'
      · rw [hc] at e
        simp only [altDen, ← e, if_true]
        simp only [leafT] at h1; cases h1
        exact hk _ L ρ κ w (hd.1 hc) ((Aft.refl hL).to rfl (Nat.le_refl _) rfl rfl) rfl (hs.learn hc)
theorem soundFork {n : Nat} (hO : SoundOp C n) (hF : SoundFork C n) : SoundFork C (n + 1) := by
  intro o st e k m t h base w0 ρ κ a w L Φ K Q hP hL hs hd hk
  simp only [X_succ, stepT, force_eq, s_code, s_loopU, s_ops, s_run, s_op, s_fork, s_call, s_yld, s_draw, xoneF_eq, xvalF_eq, forceL_eq, St.bndQ_eq] at h
  generalize mkCmp .eql e (.lit (.ofNat k)) = c at h
  cases hb : Nat.blt (k + 1) m
  · rw [hb] at h; simp only [cond_false] at h
    obtain ⟨t', ht', hdd⟩ := needT_spec (P := C.P) (base := base) (w0 := w0) h
    obtain ⟨hqd, hd'⟩ := hdd L ρ Φ hd
    exact hO o (st.learns [c]) t' ht' base w0 ρ κ a w L Φ K Q hP hL (hs.learns hqd) hd' fun l L' ρ' κ' w' hl hA hsl hs2 => hk l L' ρ' κ' w' hl (hA.of rfl rfl rfl) hsl hs2
  · rw [hb] at h; simp only [cond_true] at h
    obtain ⟨t1, t2, h1, h2, rfl⟩ := iteT_spec h
    cases hc : c.den ρ
    · exact hF o (st.learn c false) e (k + 1) m t2 h2 base w0 ρ κ a w L Φ K Q hP hL (hs.learn hc) (hd.2 hc) fun l L' ρ' κ' w' hl hA hsl hs2 => hk l L' ρ' κ' w' hl (hA.of rfl rfl rfl) hsl hs2
    · exact hO o (st.learn c true) t1 h1 base w0 ρ κ a w L Φ K Q hP hL (hs.learn hc) (hd.1 hc) fun l L' ρ' κ' w' hl hA hsl hs2 => hk l L' ρ' κ' w' hl (hA.of rfl rfl rfl) hsl hs2
theorem soundOp {n : Nat} (hC : SoundCall C n) (hY : SoundYld C n) (hFk : SoundFork C n) : SoundOp C (n + 1) := by
  intro o st t h base w0 ρ κ a w L Φ K Q hP hL hs hd hk
  simp only [X_succ, stepT, force_eq, s_code, s_loopU, s_ops, s_run, s_op, s_fork, s_call, s_yld, s_draw, xoneF_eq, xvalF_eq, forceL_eq, St.bndQ_eq] at h
  split at h
  · split at h
    · split at h
      · cases h; exact hd.elim
      · exact hFk o st _ _ _ t h base w0 ρ κ a w L Φ K Q hP hL hs hd hk
    · cases h; exact hd.elim
  · rename_i ns r hx
    have hnd := xone_ndefer hx
    split at h
    · cases h
    · rename_i q hq
      obtain ⟨t', ht', hdd⟩ := needT_spec (P := C.P) (base := base) (w0 := w0) h
      obtain ⟨hqd, hd'⟩ := hdd L ρ Φ hd
      have hneed := openNeeds_den hs.fc hq hqd
      have hs' := hs.learns hqd
      obtain ⟨Ds, hsd⟩ := hs
      have hB : (base.plus Ds w.heap.size hsd.sz fun D hD => (hsd.db D hD).1).top ≤ w.heap.size := Nat.le_refl _
      obtain ⟨hdoes, hcal, hyl⟩ := xone_sound (P := C.P) hsd.hp hB (evO_den hsd.fr hsd.fc) hx hneed
      have hrb : ∀ l, (st.learns q).rnd = some l → l < st.n := hsd.rb
      cases r with
      | val v =>
        simp only [leafT] at ht'; cases ht'
        exact wpO_value hnd hdoes (hk _ L ρ κ w hd' ((Aft.refl hL).to rfl (Nat.le_refl _) rfl rfl) rfl hs')
      | new ob np src =>
        simp only at ht'
        cases hb : ((st.learns q).bnd && ob.bnd st.n)
        · rw [hb] at ht'; cases ht'
        · rw [hb] at ht'; simp only [cond_true, leafT] at ht'; cases ht'
          simp only [Bool.and_eq_true] at hb
          have hb' := hb.1
          simp only [St.bnd, Bool.and_eq_true] at hb'
          obtain ⟨κ1, w1, k1, k2, k3, k4⟩ := hdoes st.n (Heap.free_of_bnd (one_lt (Nat.le_refl _)) hb'.1.2.1) (SObj.bnd_has (one_lt (Nat.le_refl _)) hb.2)
          have A := k1.agree (one_lt (Nat.le_refl st.n)) ρ
          refine wpO_value hnd k2 (hk _ L ρ κ1 w1 hd' ⟨hL, List.suffix_refl _, Nat.le_succ _, rfl, rfl, A⟩ rfl ⟨Ds, ?_⟩)
          exact hsd.step (hsd.fr.agree A hb'.1.1) k4 k3 (facts_agree A hb'.1.2.2 hs'.fc) fun l hl => Nat.lt_succ_of_lt (hrb l hl)
      | upd H v =>
        simp only [leafT] at ht'; cases ht'
        obtain ⟨w1, k1, k2, k3⟩ := hdoes
        have hs2 : Sim base w0 ρ κ { st.learns q with H := H } a w1 := ⟨Ds, hsd.step hsd.fr k3 k2 hs'.fc hsd.rb⟩
        have fin := hk ⟨.normal, v, { st.learns q with H := H }⟩ L ρ κ w1 hd' ((Aft.refl hL).to rfl (Nat.le_refl _) rfl rfl) rfl hs2
        rcases k1 with k1 | ⟨k1, k1'⟩
        · exact wpO_value hnd k1 fin
        · refine wpO_skip hnd k1 ?_
          simp only at fin; rw [k1'] at fin; exact fin
      | call f args =>
        simp only at ht'
        refine wpO_enter hnd hdoes ?_
        have := hC f args _ t' ht' base w0 ρ κ a w L Φ (fun v w' => K (a.put o.dst v) w') hP hL hs' hd' fun l L' ρ' κ' w' hl hA hsl hs2 => hk l L' ρ' κ' w' hl (hA.of rfl rfl rfl) hsl hs2
        exact this.mono fun e w'' ⟨v, he, hr⟩ => by subst he; exact hr
      | yld l args =>
        simp only at ht'
        obtain ⟨rc, h1, h2⟩ := hdoes
        obtain ⟨⟨b, b1, b2⟩, _⟩ := hsd.hp.obj l _ h1
        obtain ⟨tm, f, ps, as, bo, D, fn, _, _, rfl⟩ := b2
        have := hY l args _ t' ht' base w0 ρ κ a w L Φ (fun v w' => K (a.put o.dst v) w') hP hL hs' hd' (fun l L' ρ' κ' w' hl hA hsl hs2 => hk l L' ρ' κ' w' hl (hA.of rfl rfl rfl) hsl hs2) _ b1
        refine wpO_round hnd (h2 _ b1 this.1) (this.2.mono fun e w'' ⟨v, he, hr⟩ => by subst he; exact hr)
      | row r =>
        simp only at ht'
        cases hb : ((st.bnd && BE.bndL st.n ns) && (r.ct.bnd st.n && r.nl.bnd st.n))
        · rw [hb] at ht'; cases ht'
        · rw [hb] at ht'; simp only [cond_true] at ht'
          simp only [Bool.and_eq_true] at hb
          obtain ⟨⟨hb1, hb2⟩, hb4, hb5⟩ := hb
          simp only [arrT, leafT] at ht'; cases ht'
          simp only [Den] at hd'
          have A0 : Agree st.n ρ ((ρ.set st.n (.l (r.ct.den ρ))).set st.n (.n (r.nl.den ρ))) κ κ := (Agree.set ρ κ st.n _).trans (Agree.set _ κ st.n _) (Nat.le_refl _)
          have e1 : ((ρ.set st.n (.l (r.ct.den ρ))).set st.n (.n (r.nl.den ρ))).a st.n = r.ct.den ρ := by simp [Env.set]
          have e2 : ((ρ.set st.n (.l (r.ct.den ρ))).set st.n (.n (r.nl.den ρ))).nl st.n = r.nl.den ρ := by simp [Env.set]
          generalize ((ρ.set st.n (.l (r.ct.den ρ))).set st.n (.n (r.nl.den ρ))) = ρ1 at hd' A0 e1 e2
          have hb1' := hb1
          simp only [St.bnd, Bool.and_eq_true] at hb1'
          have hfr1 := hsd.fr.agree A0 hb1'.1.1
          have hfc1 := facts_agree A0 hb1'.1.2.2 hsd.fc
          have hneed1 := facts_agree A0 hb2 hneed
          obtain ⟨hdoes1, _, _⟩ := xone_sound (P := C.P) (hsd.hp.agree A0 hb1'.1.2.1) hB (evO_den hfr1 hfc1) hx hneed1
          obtain ⟨κ1, w1, k1, k2, k3, k4⟩ := hdoes1 st.n (Heap.free_of_bnd (one_lt (Nat.le_refl _)) hb1'.1.2.1) (by rw [e1]; exact (AE.agree (A0.kap kap0) r.ct hb4).symm) (by rw [e2]; exact (BE.agree A0 hb5).symm)
          have A1 : Agree st.n ρ ρ1 κ κ1 := A0.trans (k1.agree (one_lt (Nat.le_refl st.n)) ρ1) (Nat.le_refl _)
          have hq1 : ∀ p ∈ q, p.den ρ1 = true := openNeeds_keep hfc1 hq hneed1
          refine wpO_value hnd k2 (hk _ L ρ1 κ1 w1 hd' ⟨hL, List.suffix_refl _, Nat.le_succ _, rfl, rfl, A1⟩ rfl ⟨Ds, ?_⟩)
          exact hsd.step (hsd.fr.agree A1 hb1'.1.1) k4 k3 (learns_den q _ hfc1 hq1) fun l hl => Nat.lt_succ_of_lt (hrb l hl)
      | turn j ct v =>
        simp only at ht'
        cases hb : ((st.bnd && BE.bndL st.n ns) && (ct.bnd st.n && v.bnd st.n))
        · rw [hb] at ht'; cases ht'
        · rw [hb] at ht'; simp only [cond_true] at ht'
          simp only [Bool.and_eq_true] at hb
          obtain ⟨⟨hb1, hb2⟩, hb4, hb5⟩ := hb
          simp only [arrT, leafT] at ht'; cases ht'
          simp only [Den] at hd'
          have A0 : Agree st.n ρ ((ρ.set st.n (.l (ct.den ρ))).set st.n (.n ((BE.lit false).den ρ))) κ κ := (Agree.set ρ κ st.n _).trans (Agree.set _ κ st.n _) (Nat.le_refl _)
          have e1 : ((ρ.set st.n (.l (ct.den ρ))).set st.n (.n ((BE.lit false).den ρ))).a st.n = ct.den ρ := by simp [Env.set]
          generalize ((ρ.set st.n (.l (ct.den ρ))).set st.n (.n ((BE.lit false).den ρ))) = ρ1 at hd' A0 e1
          have hb1' := hb1
          simp only [St.bnd, Bool.and_eq_true] at hb1'
          have hfr1 := hsd.fr.agree A0 hb1'.1.1
          have hfc1 := facts_agree A0 hb1'.1.2.2 hsd.fc
          have hneed1 := facts_agree A0 hb2 hneed
          obtain ⟨hdoes1, _, _⟩ := xone_sound (P := C.P) (hsd.hp.agree A0 hb1'.1.2.1) hB (evO_den hfr1 hfc1) hx hneed1
          obtain ⟨c, pat, E, q1, w1, k2, q3⟩ := hdoes1
          obtain ⟨k3, k4⟩ := q3 st.n (by rw [e1]; exact (AE.agree (A0.kap kap0) ct hb4).symm)
          have hq1 : ∀ p ∈ q, p.den ρ1 = true := openNeeds_keep hfc1 hq hneed1
          have hfl : ∀ p ∈ (st.learns q).facts, p.den ρ1 = true := learns_den q _ hfc1 hq1
          have hfl2 : ∀ p ∈ lenFacts (st.learns q).facts st.n ct ++ (st.learns q).facts, p.den ρ1 = true := fun p hp => by
            rcases List.mem_append.1 hp with hp | hp
            · refine lenFacts_den (l := ct.den ρ) hfl ?_ ?_ e1 p hp
              · intro c x vs e hc; subst e; rw [A0.a c hc]; simp [AE.den]
              · intro c x a e hc; subst e; rw [A0.a c hc]; simp [AE.den, putRows_length]
            · exact hfl p hp
          have fin := hk _ L ρ1 κ w1 hd' ⟨hL, List.suffix_refl _, Nat.le_succ _, rfl, rfl, A0⟩ rfl ⟨Ds, hsd.step (hsd.fr.agree A0 hb1'.1.1) k4 k3 hfl2 fun l hl => Nat.lt_succ_of_lt (hrb l hl)⟩
          rcases k2 with k2 | ⟨k2, k2'⟩
          · exact wpO_value hnd k2 fin
          · refine wpO_skip hnd k2 ?_
            simp only at fin; rw [k2'] at fin; exact fin
      | alts l v =>
        simp only at ht'
        refine wpO_value hnd hdoes (altT_sound (R := fun v w' => K (a.put o.dst v) w') l v _ t' ht' hL hs' hd' fun l L' ρ' κ' w' hl hA hsl hs2 => hk l L' ρ' κ' w' hl (hA.of rfl rfl rfl) hsl hs2)
end
end Go.SX

/- SyX4: calls, and rounds of loops over functions. -/
set_option linter.unusedSimpArgs false
set_option linter.unusedVariables false
set_option linter.unusedSectionVars false
noncomputable section
namespace Go.SX
open Go Go.RowKit

section
variable {base : Bk} {w0 : World} {ρ ρ' : Env} {κ κ' : Kap} {st : St} {a : Act} {w w' : World} {Ds : List Nat}
/-- the base of a frame within a frame -/
abbrev SimD.B1 (h : SimD base w0 Ds ρ κ st a w) : Bk := base.plus Ds w.heap.size h.sz fun D hD => (h.db D hD).1
theorem SimD.callee (h : SimD base w0 Ds ρ κ st a w) {st' : St} {a' : Act} (hd : a'.defers = []) (hfr : FrameOk ρ κ st'.sl a') (hH : HeapOk ρ κ h.B1 st'.H w) (hf : ∀ p ∈ st'.facts, p.den ρ = true) (hr : ∀ l, st'.rnd = some l → l < st'.n) :
    Sim h.B1 w ρ κ st' a' w := by
  refine ⟨[], ⟨hfr, hd, List.nodup_nil, fun D hD => (by cases hD), Nat.le_refl _, ?_, Kept.refl _ _, hf, hr⟩⟩
  exact hH.up rfl rfl fun k _ hk hk' => hk'.elim hk fun h => (by cases h)
theorem SimD.back (h : SimD base w0 Ds ρ κ st a w) {s : St} {a' : Act} {Ds' : List Nat} {w3 : World} (h' : SimD h.B1 w Ds' ρ' κ' s a' w')
    (hw : w3.heap.size = w'.heap.size ∧ w3.os = w'.os ∧ w3.tape = w'.tape ∧ w3.output = w'.output ∧ ∀ k, k ∉ Ds' → w3.heap[k]? = w'.heap[k]?) :
    HeapOk ρ' κ' h.B1 s.H w3 ∧ ∀ {st' : St}, FrameOk ρ' κ' st'.sl a → (∀ x y, st'.H.obj? x = some y → s.H.obj? x = some y) → (∀ x y, st'.H.arr? x = some y → s.H.arr? x = some y) → (∀ p ∈ st'.facts, p.den ρ' = true) → (∀ l, st'.rnd = some l → l < st'.n) → Sim base w0 ρ' κ' st' a w3 := by
  obtain ⟨hw1, hw2, hw3, hw4, hw5⟩ := hw
  have hH : HeapOk ρ' κ' h.B1 s.H w3 := by
    refine HeapOk.le (HeapOk.stands h'.hp (fun id o ho => hw5 _ fun hD => (h'.hp.obj id o ho).2.2 (.inr hD)) fun j c p o ha hex => hw5 _ fun hD => ?_) (Bk.Le.plus ..)
    obtain ⟨_, k2, k3, k4⟩ := h'.db _ hD
    -- an array's block is no deferred block
    rcases hex with ⟨h1, h2⟩ | ⟨h1, h2⟩
    · cases p with
      | nil => exact absurd rfl h2
      | cons kk p =>
        cases hl : ρ'.a c with
        | nil => exact absurd hl h1
        | cons r l =>
          have := (h'.hp.arr j c _ o ha).1 0 0 r kk (by rw [hl]; rfl) rfl
          simp [World.cell?, k4] at this
    · obtain ⟨E, rfl⟩ := Option.isSome_iff_exists.1 h1
      exact (h'.hp.row j c p E ha).2.2 h2 (.inr hD)
  have hk : Kept h.B1 w w3 := by
    refine ⟨⟨by rw [hw2]; exact h'.bl.bl.os, by rw [hw3]; exact h'.bl.bl.tape, by rw [hw4]; exact h'.bl.bl.output, by rw [hw1]; exact h'.bl.bl.size, fun k hk => ?_⟩, fun k hk hp => ?_⟩
    · rw [hw5 k fun hD => by have := (h'.db k hD).2.1; omega]; exact h'.bl.bl.block k hk
    · rw [hw5 k fun hD => (h'.db k hD).2.2.1 hp]; exact h'.bl.kp k hk hp
  exact ⟨hH, fun hfr ho ha hf hr => ⟨Ds, h.step hfr hk (hH.sub ho ha) hf hr⟩⟩
/-- a block of the call's own is turned -/
theorem SimD.turn (h : SimD base w0 Ds ρ κ st a w) {id : Nat} {o0 o : SObj} (ho : st.H.obj? id = some o0) {b : Obj} (hi : o.Is base.P ρ κ id b) : SimD base w0 Ds ρ κ { st with H := st.H.setObj id o } a (w.putObj (κ.o id) b) := by
  obtain ⟨⟨b0, k1, _⟩, k2, k3⟩ := h.hp.obj id o0 ho
  have hlt := h.hp.lt ho
  have hhere : (w.putObj (κ.o id) b).heap[κ.o id]? = some b := by simp [World.putObj, hlt]
  have hoth : ∀ k, k ≠ κ.o id → (w.putObj (κ.o id) b).heap[k]? = w.heap[k]? := fun k hk => World.putObj_heap_other hk
  have hsz : (w.putObj (κ.o id) b).heap.size = w.heap.size := by simp [World.putObj]
  refine h.step h.fr ⟨⟨rfl, rfl, rfl, by rw [hsz]; exact Nat.le_refl _, fun k hk => hoth k fun e => ?_⟩, fun k _ hp => hoth k fun e => k3 (e ▸ hp)⟩ (h.hp.setObj ho hhere hi hoth) h.fc h.rb
  subst e; exact absurd hk (Nat.not_lt.2 k2)
end
theorem SlotsOk.setEq {ρ : Env} {κ : Kap} {sl : Sl} {tm : Array Value} (h : SlotsOk ρ κ sl tm) {d : Nat} {v : SV} (hd : tm[d]? = some (v.den ρ κ)) : SlotsOk ρ κ (setSlot sl d v) tm := by
  refine ⟨fun t s hs => ?_, fun t s hs ha => ?_⟩
  · rw [slot_setSlot] at hs
    split at hs
    · rename_i e; subst e
      obtain ⟨x, hx, _⟩ := Option.map_eq_some_iff.1 hs
      exact h.1 t x hx
    · exact h.1 t s hs
  · rw [slot_setSlot] at hs
    split at hs
    · rename_i e; subst e
      obtain ⟨x, _, rfl⟩ := Option.map_eq_some_iff.1 hs
      exact hd
    · exact h.2 t s hs ha
theorem setArgs_ok {ρ : Env} {κ : Kap} {tm : Array Value} : ∀ (args : List SV) (i : Nat) (sl : Sl), SlotsOk ρ κ sl tm → (∀ (k : Nat) a, args[k]? = some a → tm[i + k]? = some (a.den ρ κ)) → SlotsOk ρ κ (setArgs sl i args) tm
  | [], _, _, h, _ => h
  | a :: l, i, sl, h, ha => setArgs_ok l (i + 1) _ (h.setEq (by have := ha 0 a rfl; rwa [Nat.add_zero] at this)) fun k b hb => by
      have := ha (k + 1) b (by simpa using hb)
      rw [show i + 1 + k = i + (k + 1) by omega]; exact this
theorem frame0_ok {ρ : Env} {κ : Kap} {fn : Func} {args : List SV} : FrameOk ρ κ (frame0 fn args) { tmps := (args.map (SV.den ρ κ)).toArray ++ Array.replicate (fn.ntmps - (args.map (SV.den ρ κ)).toArray.size) undef, defers := [] } := by
  unfold frame0
  cases hq : Nat.ble args.length fn.ntmps
  · exact ⟨fun t s hs => (by have hs : slot .nil t = some s := hs; rw [slot_nil] at hs; cases hs), fun t s hs => (by have hs : slot .nil t = some s := hs; rw [slot_nil] at hs; cases hs)⟩
  · rw [Nat.ble_eq] at hq
    -- first all slots are undefined, then the arguments are set
    have hsz : ((args.map (SV.den ρ κ)).toArray ++ Array.replicate (fn.ntmps - (args.map (SV.den ρ κ)).toArray.size) undef).size = fn.ntmps := by simp; omega
    have hget : ∀ (k : Nat) a, args[k]? = some a → ((args.map (SV.den ρ κ)).toArray ++ Array.replicate (fn.ntmps - (args.map (SV.den ρ κ)).toArray.size) undef)[k]? = some (a.den ρ κ) := fun k a hk => by
      have := (List.getElem?_eq_some_iff.1 hk).1
      simp only [Array.getElem?_append]
      rw [if_pos (by simpa using this)]
      simp [hk]
    show SlotsOk ρ κ (setArgs (Sl.fill sundef 40 fn.ntmps) 0 args) _
    -- what is set last counts
    have key : ∀ (l : List SV) (i : Nat) (sl : Sl) (tm : Array Value), (∀ t s, slot sl t = some s → t < tm.size) → (∀ t s, slot sl t = some s → s.isAny = false → (i ≤ t ∧ t < i + l.length) ∨ tm[t]? = some (s.den ρ κ)) → (∀ (k : Nat) a, l[k]? = some a → tm[i + k]? = some (a.den ρ κ)) → SlotsOk ρ κ (setArgs sl i l) tm := by
      intro l
      induction l with
      | nil => intro i sl tm h1 h2 _; exact ⟨h1, fun t s hs ha => (h2 t s hs ha).elim (fun h => by simp at h; omega) id⟩
      | cons a l ih =>
        intro i sl tm h1 h2 h3
        refine ih (i + 1) _ tm (fun t s hs => ?_) (fun t s hs ha => ?_) fun k b hb => by
          have := h3 (k + 1) b (by simpa using hb)
          rw [show i + 1 + k = i + (k + 1) by omega]; exact this
        · rw [slot_setSlot] at hs
          split at hs
          · rename_i e; subst e
            obtain ⟨x, hx, _⟩ := Option.map_eq_some_iff.1 hs
            exact h1 t x hx
          · exact h1 t s hs
        · rw [slot_setSlot] at hs
          split at hs
          · rename_i e; subst e
            obtain ⟨x, _, rfl⟩ := Option.map_eq_some_iff.1 hs
            exact .inr (by have := h3 0 a rfl; rwa [Nat.add_zero] at this)
          · rename_i hne
            rcases h2 t s hs ha with h | h
            · exact .inl ⟨by omega, by simp only [List.length_cons] at h; omega⟩
            · exact .inr h
    refine key args 0 _ _ (fun t s hs => ?_) (fun t s hs ha => ?_) fun k a hk => by rw [Nat.zero_add]; exact hget k a hk
    · rw [hsz]; exact (fill_get _ _ _ _ _ hs).1
    · obtain ⟨h1, rfl⟩ := fill_get _ _ _ _ _ hs
      by_cases hlt : t < args.length
      · exact .inl ⟨Nat.zero_le _, by omega⟩
      · refine .inr ?_
        rw [sundef_den]
        simp only [Array.getElem?_append]
        rw [if_neg (by simpa using hlt), Array.getElem?_replicate, if_pos (by simp; omega)]
theorem sift_sub_obj {f : Nat → Bool} {H : Heap} {x : Nat} {y : SObj} (h : (H.sift f).obj? x = some y) : H.obj? x = some y := by
  rw [Heap.sift_obj] at h
  cases hq : f x <;> rw [hq] at h <;> first | exact h | cases h
theorem sift_sub_arr {f : Nat → Bool} {H : Heap} {x : Nat} {y : Nat × List CK × Option TypeId} (h : (H.sift f).arr? x = some y) : H.arr? x = some y := by
  rw [Heap.sift_arr] at h
  cases hq : f x <;> rw [hq] at h <;> first | exact h | cases h
theorem gc_obj {H : Heap} {n : Nat} {l : List Nat} {x : Nat} {y : SObj} (h : (H.gc n l).obj? x = some y) : H.obj? x = some y := sift_sub_obj h
theorem gc_arr {H : Heap} {n : Nat} {l : List Nat} {x : Nat} {y : Nat × List CK × Option TypeId} (h : (H.gc n l).arr? x = some y) : H.arr? x = some y := sift_sub_arr h
section
variable {C : Cfg}
theorem soundCall {n : Nat} (hCd : SoundCode C n) : SoundCall C (n + 1) := by
  intro f args st t h base w0 ρ κ a w L Φ R hP hL hs hd hk
  simp only [X_succ, stepT, force_eq, s_code, s_loopU, s_ops, s_run, s_op, s_fork, s_call, s_yld, s_draw, xoneF_eq, xvalF_eq, forceL_eq, St.bndQ_eq] at h
  obtain ⟨Ds, hsd⟩ := hs
  split at h
  · rename_i v hcv
    cases hbn : st.bnd
    · rw [hbn] at h; cases h
    · rw [hbn] at h; simp only [cond_true] at h
      simp only [Bool.and_eq_true, St.bnd] at hbn
      have hkept : ∀ {w' : World}, Below w.heap.size w w' → Kept hsd.B1 w w' := fun hb => Kept.of_below hb (Nat.le_trans base.le hsd.sz)
      cases h
      refine Calls.mono (C.cvOk f args v hcv ρ κ w) fun e w' he => ?_
      obtain ⟨rfl, hbl⟩ := he
      have A := Agree.refl st.n ρ κ
      exact ⟨_, rfl, hk _ L _ κ w' hd ⟨hL, List.suffix_refl _, Nat.le_refl _, rfl, rfl, A⟩ rfl ⟨Ds, hsd.step (hsd.fr.agree A hbn.1.1) (hkept hbl) ((hsd.hp.below fun k hk => hbl.block k hk).agree A hbn.1.2.1) (facts_agree A hbn.1.2.2 hsd.fc) fun l' hl' => hsd.rb l' hl'⟩⟩
  split at h
  · rename_i rs hct
    generalize RS.mk st.n rs = m at h
    obtain ⟨ks, res, hn⟩ := m
    cases hbn : ((st.bnd && SV.bndL st.n args) && newRows st.n hn)
    · rw [hbn] at h; cases h
    · rw [hbn] at h; simp only [cond_true] at h; cases h
      simp only [Bool.and_eq_true, St.bnd] at hbn
      obtain ⟨hbn, hnew⟩ := hbn
      obtain ⟨l, hfit, hcall, hd'⟩ := exD_spec _ _ hd
      have A := Agree.setL κ l st.n ρ
      have hH : HeapOk ρ κ base (st.H.only (reach st.H 60 [] (args.flatMap SV.ids))) w := (hsd.hp.le (Bk.Le.plus ..)).sub (fun _ _ g => sift_sub_obj g) (fun _ _ g => sift_sub_arr g)
      have hkept : ∀ {w' : World}, Below w.heap.size w w' → Kept hsd.B1 w w' := fun hb => Kept.of_below hb (Nat.le_trans base.le hsd.sz)
      cases hn with
      | cons h0 hn =>
        refine Calls.mono (hcall κ w hH hsd.bl hsd.sz) fun e w' he => ?_
        obtain ⟨κ', hA, rfl, hbl, hh'⟩ := he
        have A2 : Agree st.n ρ (ρ.setL st.n l) κ κ' := ⟨A.i, A.b, A.v, A.a, A.nl, hA.o, hA.kb, hA.ko, hA.kc⟩
        refine ⟨_, rfl, hk _ L _ κ' w' hd' ⟨hL, List.suffix_refl _, Nat.le_add_right _ _, rfl, rfl, A2⟩ rfl ⟨Ds, hsd.step (hsd.fr.agree A2 hbn.1.1.1) (hkept hbl) ?_ (facts_agree A2 hbn.1.1.2.2 hsd.fc) fun l' hl' => Nat.lt_of_lt_of_le (hsd.rb l' hl') (Nat.le_add_right _ _)⟩⟩
        have hh2 : HeapOk (ρ.setL st.n l) κ' (Bk.at hsd.B1.P w.heap.size) (h0 :: hn) w' := by
          have : hsd.B1.P = C.P := hP
          rw [this]; exact hh'
        exact HeapOk.join (P := hsd.B1.P) hsd.hp (Nat.le_refl _) hbl A2 hbn.1.1.2.1 hnew hh2
      | nil =>
        refine Calls.mono (hcall κ w hH hsd.bl hsd.sz) fun e w' he => ?_
        obtain ⟨rfl, hbl⟩ := he
        exact ⟨_, rfl, hk _ L _ κ w' hd' ⟨hL, List.suffix_refl _, Nat.le_add_right _ _, rfl, rfl, A⟩ rfl ⟨Ds, hsd.step (hsd.fr.agree A hbn.1.1.1) (hkept hbl) ((hsd.hp.below fun k hk => hbl.block k hk).agree A hbn.1.1.2.1) (facts_agree A hbn.1.1.2.2 hsd.fc) fun l' hl' => Nat.lt_of_lt_of_le (hsd.rb l' hl') (Nat.le_add_right _ _)⟩⟩
  · split at h
    · rename_i fn hfn
      split at h
      · rename_i c hc
        cases hb : st.bnd
        · rw [hb] at h; cases h
        · rw [hb] at h; simp only [cond_true] at h
          simp only [St.bnd, Bool.and_eq_true] at hb
          have hdB := Den.rebase (P := C.P) (Bk.Le.plus base Ds w.heap.size hsd.sz fun D hD => (hsd.db D hD).1) hsd.bl t L ρ hd
          obtain ⟨t', ht', hdd⟩ := thenT_spec (P := C.P) (base := hsd.B1) (w0 := w) h
          have hpl : placeOf C.P f [] = some c := by simp only [placeOf, hfn, hc, List.reverse_nil, codeAt_nil]
          refine callsIn_wd.1 (callsIn_of_wp_marks (F := Wd none) (n := 0) hfn hc trivial ?_)
          have hsim : Sim hsd.B1 w ρ κ { st with sl := frame0 fn args, fn := f, rnd := none } { tmps := (args.map (SV.den ρ κ)).toArray ++ Array.replicate (fn.ntmps - (args.map (SV.den ρ κ)).toArray.size) undef, defers := [] } w :=
            hsd.callee rfl frame0_ok hsd.hp hsd.fc fun l hl => by cases hl
          refine hCd c [] _ t' ht' hpl hsd.B1 w ρ κ _ w L _ _ hP hL hsim (hdd L ρ Φ hdB) ?_
          intro l L' ρ' κ' a' w' hl hA hs'
          obtain ⟨u, hu, hdu⟩ := hl
          have fin : ∀ v, xresults C.P fn l.st = some v → u = .leaf ⟨.normal, v, { l.st with sl := st.sl, H := l.st.H.gc st.n v.ids, fn := st.fn, rnd := st.rnd }⟩ →
              LeavesInM (Wd none) 0 C.P fn a'.tmps (fun e w' => ∃ v, e = .returned v ∧ R v w') a'.defers .returning w' := by
            intro v hv hu2
            subst hu2
            obtain ⟨Ds', hsd'⟩ := hs'
            rw [hsd'.df]
            refine leaves_marks Ds' w' hsd'.dn (fun D hD => (hsd'.db D hD).2.2.2) fun w3 g1 g2 g3 g4 g5 => ?_
            obtain ⟨hH3, hb3⟩ := hsd.back hsd' ⟨g1, g2, g3, g4, g5⟩
            refine ⟨_, run_results_x (P := C.P) hsd'.fr hH3 hv, _, rfl, ?_⟩
            refine hk _ L' ρ' κ' w3 hdu ⟨hA.len, hA.suf, hA.n, rfl, rfl, hA.A⟩ rfl ?_
            exact hb3 (hsd.fr.agree hA.A hb.1.1) (fun _ _ g => gc_obj g) (fun _ _ g => gc_arr g) hsd'.fc fun l' hl' => Nat.lt_of_lt_of_le (hsd.rb l' hl') hA.n
          obtain ⟨le, lv, lst⟩ := l
          cases le with
          | normal =>
            simp only at hu
            split at hu
            · rename_i v hv; simp only [leafT] at hu; cases hu; exact fin v hv rfl
            · cases hu
          | ret =>
            simp only at hu
            split at hu
            · rename_i v hv; simp only [leafT] at hu; cases hu; exact fin v hv rfl
            · cases hu
          | _ => cases hu
      · cases h
    · cases h
theorem loop?_spec {H : Heap} {l : Nat} {r : SLoop} (h : loop? H l = some r) : H.obj? l = some (.loop r) := by
  unfold loop? at h
  split at h
  · cases h; assumption
  · cases h
theorem setPs_ok {ρ : Env} {κ : Kap} : ∀ (ps : List (Nat × SV)) (sl : Sl) (tm : Array Value), SlotsOk ρ κ sl tm → SlotsOk ρ κ (setPs sl ps) ((ps.map fun x => (x.1, x.2.den ρ κ)).foldl (fun tmps (x : Nat × Value) => tmps.setIfInBounds x.1 x.2) tm)
  | [], sl, tm, h => h
  | (t, v) :: ps, sl, tm, h => setPs_ok ps (setSlot sl t v) (tm.setIfInBounds t (v.den ρ κ)) (h.put t fun _ => rfl)
theorem zip_den {ρ : Env} {κ : Kap} (ps : Array Nat) (args : List SV) (tm : Array Value) :
    (ps.zip (args.map (SV.den ρ κ)).toArray).foldl (fun tmps (t, a) => tmps.setIfInBounds t a) tm = ((ps.toList.zip args).map fun x => (x.1, x.2.den ρ κ)).foldl (fun tmps (x : Nat × Value) => tmps.setIfInBounds x.1 x.2) tm := by
  rw [← Array.foldl_toList, Array.toList_zip, List.zip_map_right]
  rfl
theorem soundYld {n : Nat} (hCd : SoundCode C n) : SoundYld C (n + 1) := by
  intro l args st t h base w0 ρ κ a w L Φ R hP hL hs hd hk b hb
  simp only [X_succ, stepT, force_eq, s_code, s_loopU, s_ops, s_run, s_op, s_fork, s_call, s_yld, s_draw, xoneF_eq, xvalF_eq, forceL_eq, St.bndQ_eq] at h
  obtain ⟨Ds, hsd⟩ := hs
  split at h
  · rename_i r hr
    have hr := loop?_spec hr
    obtain ⟨⟨b0, e1, e2⟩, _⟩ := hsd.hp.obj l _ hr
    obtain ⟨tm, g, ps, as, bo, D, fn, k0, k1, rfl⟩ := e2
    have hP' : hsd.B1.P = C.P := hP
    rw [hP'] at k0
    rw [hb] at e1; cases e1
    split at h
    · rename_i f' ps' as' bo' hst hpl
      rw [k0] at hpl; cases hpl
      cases hbn : (Nat.beq args.length ps.size && (st.bnd && Nat.blt l st.n))
      · rw [hbn] at h; cases h
      · rw [hbn] at h; simp only [cond_true] at h
        simp only [Bool.and_eq_true, Nat.beq_eq, Nat.blt_eq] at hbn
        obtain ⟨hlen, hbnd, hl⟩ := hbn
        simp only [St.bnd, Bool.and_eq_true] at hbnd
        refine ⟨hlen, roundIn_of_wpIn trivial ?_⟩
        have hdB := Den.rebase (P := C.P) (Bk.Le.plus base Ds w.heap.size hsd.sz fun D hD => (hsd.db D hD).1) hsd.bl t L ρ hd
        obtain ⟨t', ht', hdd⟩ := thenT_spec (P := C.P) (base := hsd.B1) (w0 := w) h
        have hpa : placeOf C.P r.fn (false :: r.path) = some as := placeOf_cons k0 (codeAt_nil as)
        have hpb : placeOf C.P r.fn (true :: r.path) = some bo := placeOf_cons k0 (codeAt_nil bo)
        have hsim : Sim hsd.B1 w ρ κ { st with sl := setPs r.sl (ps.toList.zip args), fn := r.fn, rnd := some l } { tmps := (ps.zip (args.map (SV.den ρ κ)).toArray).foldl (fun tmps (t, a) => tmps.setIfInBounds t a) tm, defers := [] } w :=
          hsd.callee rfl (by show SlotsOk _ _ _ _; rw [zip_den]; exact setPs_ok _ _ _ k1) hsd.hp hsd.fc fun l' hl' => by cases hl'; exact hl
        refine hCd as _ _ t' ht' hpa hsd.B1 w ρ κ _ w L _ _ hP hL hsim (hdd L ρ Φ hdB) ?_
        intro l1 L1 ρ1 κ1 a1 w1 hl1 hA1 hs1
        obtain ⟨u, hu, hdu⟩ := hl1
        obtain ⟨le, lv, lst⟩ := l1
        cases le with
        | normal =>
          simp only at hu
          split at hu
          · rename_i r1 _ hr1
            have hr1 := loop?_spec hr1
            split at hu
            · rename_i hst1
              obtain ⟨Ds1, hsd1⟩ := hs1
              obtain ⟨⟨b1, q1, q2⟩, _⟩ := hsd1.hp.obj l _ hr1
              obtain ⟨tm1, g1, ps1, as1, bo1, D1, fn1, j0, j1, rfl⟩ := q2
              have hkl : κ1.o l = κ.o l := hA1.A.o l hl
              rw [hkl] at q1
              refine ⟨_, run_beginRound q1 hst1, ?_⟩
              have hturn := hsd1.turn hr1 (o := .loop { r1 with state := .busy }) (b := .loop { state := .busy, pending := r1.pending, fn := fn1, tmps := tm1, params := ps1, assign := as1, body := bo1, defers := D1 })
                ⟨tm1, g1, ps1, as1, bo1, D1, fn1, j0, j1, rfl⟩
              rw [hkl] at hturn
              obtain ⟨t2, ht2, hdd2⟩ := thenT_spec (P := C.P) (base := hsd.B1) (w0 := w) hu
              have hfn1 : lst.fn = r.fn := hA1.fn
              have hrd1 : lst.rnd = some l := hA1.rnd
              have := hCd bo _ { lst with H := lst.H.setObj l (.loop { r1 with state := .busy }) } t2 ht2 (by simp only [hfn1]; exact hpb) hsd.B1 w ρ1 κ1 a1 _ L1 _ (roundPost C.P (κ.o l) fun e w' => ∃ v, e = .returned v ∧ R v w') hP hA1.len ⟨Ds1, hturn⟩ (hdd2 L1 ρ1 Φ hdu) ?_
              · have hro : ({ lst with H := lst.H.setObj l (.loop { r1 with state := .busy }) } : St).rnd.map κ1.o = some (κ.o l) := by simp only [hrd1, Option.map_some, hkl]
                rw [hro] at this
                exact this
              · intro l2 L2 ρ2 κ2 a2 w2 hl2 hA2 hs2
                obtain ⟨u2, hu2, hdu2⟩ := hl2
                split at hu2
                · rename_i j r2 hj hr2
                  have hr2 := loop?_spec hr2
                  simp only [leafT] at hu2; cases hu2
                  obtain ⟨Ds2, hsd2⟩ := hs2
                  obtain ⟨⟨b2, q1, q2⟩, _⟩ := hsd2.hp.obj l _ hr2
                  obtain ⟨tm2, g2, ps2, as2, bo2, D2, fn2, i0, i1, rfl⟩ := q2
                  have hA12 := hA1.A.trans hA2.A hA1.n
                  have hkl2 : κ2.o l = κ.o l := hA12.o l hl
                  rw [hkl2] at q1
                  have hturn2 := hsd2.turn hr2 (o := .loop { r2 with state := if j.isNone then .ready else .done, pending := j }) (b := .loop { state := if j.isNone then .ready else .done, pending := j, fn := fn2, tmps := tm2, params := ps2, assign := as2, body := bo2, defers := D2 })
                    ⟨tm2, g2, ps2, as2, bo2, D2, fn2, i0, i1, rfl⟩
                  rw [hkl2] at hturn2
                  obtain ⟨_, hback⟩ := hsd.back hturn2 (w3 := _) ⟨rfl, rfl, rfl, rfl, fun _ _ => rfl⟩
                  have hnn : st.n ≤ l2.st.n := Nat.le_trans hA1.n hA2.n
                  have fin := hk _ L2 ρ2 κ2 _ hdu2 ⟨hA2.len, hA1.suf.trans hA2.suf, hnn, rfl, rfl, hA12⟩ rfl (hback (hsd.fr.agree hA12 hbnd.1.1) (fun _ _ g => g) (fun _ _ g => g) hsd2.fc fun l' hl' => Nat.lt_of_lt_of_le (hsd.rb l' hl') hnn)
                  have hrun := run_endRound (P := C.P) j q1
                  have fin' : ∃ v w', (Instr.endRound (κ.o l) j).run C.P w2 = .ok v w' ∧ ∃ v', Ending.returned v = .returned v' ∧ R v' w' := ⟨_, _, hrun, _, rfl, fin⟩
                  obtain ⟨le2, lv2, lst2⟩ := l2
                  cases le2 <;> simp only [jumpOf, Option.some.injEq, reduceCtorEq] at hj <;> subst hj <;> exact fin'
                · cases hu2
            · cases hu
          · cases hu
        | _ => simp only [reduceCtorEq] at hu
    · cases h
  · cases h
end
end Go.SX

/- SyX5: regions that draw their order; rows at a loop's head. -/
set_option linter.unusedSimpArgs false
set_option linter.unusedVariables false
set_option linter.unusedSectionVars false
noncomputable section
namespace Go.SX
open Go Go.RowKit

/-- one way through a tree -/
theorem path_of {P : Program} {base : Bk} {w0 : World} {L : Lc} {n : Nat} {k : Lf → List BE → Option T} {Φ : Lf → Lc → Env → Prop} : ∀ (t : T) (F : List BE) (ρ : Env) (u : T), t.bndF F k = some u → Den P base w0 u L ρ Φ → (∀ p ∈ F, p.den ρ = true) → t.plain n = true →
    ∃ l F' ρ' u', k l F' = some u' ∧ Den P base w0 u' L ρ' Φ ∧ (∀ p ∈ F', p.den ρ' = true) ∧ Agree n ρ ρ' kap0 kap0 ∧ Den P base w0 t L ρ fun l' L' ρ'' => l' = l ∧ L' = L ∧ ρ'' = ρ'
  | .leaf l, F, ρ, u, h, hd, hF, _ => ⟨l, F, ρ, u, h, hd, hF, Agree.refl _ _ _, rfl, rfl, rfl⟩
  | .ite c t e, F, ρ, u, h, hd, hF, hp => by
    simp only [T.plain, Bool.and_eq_true] at hp
    simp only [T.bndF] at h
    split at h
    · rename_i t1 e1 h1 h2
      cases h
      cases hc : c.den ρ
      · obtain ⟨l, F', ρ', u', g1, g2, g3, g4, g5⟩ := path_of e _ ρ e1 h2 (hd.2 hc) (learn_den c F false hF hc) hp.2
        exact ⟨l, F', ρ', u', g1, g2, g3, g4, fun h => (by rw [hc] at h; cases h), fun _ => g5⟩
      · obtain ⟨l, F', ρ', u', g1, g2, g3, g4, g5⟩ := path_of t _ ρ t1 h1 (hd.1 hc) (learn_den c F true hF hc) hp.1
        exact ⟨l, F', ρ', u', g1, g2, g3, g4, fun _ => g5, fun h => (by rw [hc] at h; cases h)⟩
    · cases h
  | .need ps t, F, ρ, u, h, hd, hF, hp => by
    simp only [T.bndF] at h
    split at h
    · rename_i t1 h1
      cases h
      obtain ⟨l, F', ρ', u', g1, g2, g3, g4, g5⟩ := path_of t _ ρ t1 h1 hd.2 (learns_den ps F hF (allN_spec hd.1)) hp
      exact ⟨l, F', ρ', u', g1, g2, g3, g4, hd.1, g5⟩
    · cases h
  | .call f args H m vks res Hn t, F, ρ, u, h, hd, hF, hp => by
    simp only [T.plain, Bool.and_eq_true, Nat.ble_eq] at hp
    simp only [T.bndF] at h
    cases hb : BE.bndL m F
    · rw [hb] at h; cases h
    · rw [hb] at h; simp only [cond_true] at h
      split at h
      · rename_i t1 h1
        cases h
        have key : ∀ (ks : List VK) (F : List Dat → Prop), exD ks F → ∃ l, F l ∧ ∀ G : List Dat → Prop, G l → exD ks G := by
          intro ks
          induction ks with
          | nil => intro F h; exact ⟨[], h, fun G g => g⟩
          | cons k r ih =>
            intro F h
            cases k <;> (obtain ⟨x, h⟩ := h; obtain ⟨l, h1, h2⟩ := ih _ h; exact ⟨_, h1, fun G g => ⟨x, h2 _ g⟩⟩)
        obtain ⟨l0, ⟨q1, q2⟩, q3⟩ := key vks _ hd
        obtain ⟨l, F', ρ', u', g1, g2, g3, g4, g5⟩ := path_of t F _ t1 h1 q2 (facts_agree (Agree.setL kap0 l0 m ρ) hb hF) hp.2
        exact ⟨l, F', ρ', u', g1, g2, g3, ((Agree.setL kap0 l0 m ρ).weak hp.1).trans g4 (Nat.le_refl _), q3 _ ⟨q1, g5⟩⟩
      · cases h
  | .loop .., _, _, _, _, _, _, hp => by cases hp
  | .dead, _, _, _, h, hd, _, _ => by simp only [T.bndF] at h; cases h; exact False.elim hd
  | .cont .., _, _, _, _, _, _, hp => by cases hp
  | .arr m ct nl t, F, ρ, u, h, hd, hF, hp => by
    simp only [T.plain, Bool.and_eq_true, Nat.ble_eq] at hp
    simp only [T.bndF] at h
    cases hb : BE.bndL m F
    · rw [hb] at h; cases h
    · rw [hb] at h; simp only [cond_true] at h
      split at h
      · rename_i t1 h1
        cases h
        have A : Agree m ρ ((ρ.set m (.l (ct.den ρ))).set m (.n (nl.den ρ))) kap0 kap0 := (Agree.set ρ kap0 m _).trans (Agree.set _ kap0 m _) (Nat.le_refl _)
        have hF1 := facts_agree A hb hF
        have hF2 : ∀ p ∈ lenFacts F m ct ++ F, p.den ((ρ.set m (.l (ct.den ρ))).set m (.n (nl.den ρ))) = true := fun p hp => by
          rcases List.mem_append.1 hp with hp | hp
          · refine lenFacts_den (l := ct.den ρ) hF1 ?_ ?_ (by simp [Env.set]) p hp
            · intro c x vs e hc; subst e; rw [A.a c hc]; simp [AE.den]
            · intro c x a e hc; subst e; rw [A.a c hc]; simp [AE.den, putRows_length]
          · exact hF1 p hp
        obtain ⟨l, F', ρ', u', g1, g2, g3, g4, g5⟩ := path_of t _ _ t1 h1 hd hF2 hp.2
        exact ⟨l, F', ρ', u', g1, g2, g3, (A.weak hp.1).trans g4 (Nat.le_refl _), g5⟩
      · cases h
/-- places of two kinds of names -/
def Kap.mix (κ κ' : Kap) (n : Nat) : Kap := ⟨fun j => if j < n then κ'.o j else κ.o j, fun j => if j < n then κ'.ab j else κ.ab j, fun j => if j < n then κ'.ao j else κ.ao j, fun j => if j < n then κ'.cap j else κ.cap j⟩
theorem SObj.eqb_is {o o' : SObj} (h : o.eqb o' = true) : o = o' := by
  unfold SObj.eqb at h
  split at h
  · simp only [Bool.and_eq_true, Nat.beq_eq] at h
    rw [h.1.1, oq_eq h.1.2, SC.eqbL_eq h.2]
  · rename_i r r'
    simp only [Bool.and_eq_true, Nat.beq_eq, Option.isNone_iff_eq_none] at h
    obtain ⟨⟨h1, h2, h2'⟩, h3, h4, h5⟩ := h
    cases r; cases r'
    simp only at h1 h2 h2' h3 h4 h5
    rw [lseq_eq h1, h2, h2', h3, pathq_eq h4, Sl.eqb_eq h5]
  · simp only [Bool.and_eq_true] at h
    rw [kn_eq h.1, esq_eq h.2]
  · cases h
theorem oObjq_is {a b : Option SObj} (h : oObjq a b = true) : a = b := by
  unfold oObjq at h
  split at h
  · rfl
  · rw [SObj.eqb_is h]
  · cases h
theorem oArrq_is {a b : Option (Nat × List CK × Option TypeId)} (h : oArrq a b = true) : a = b := by
  unfold oArrq at h
  split at h
  · rfl
  · simp only [Bool.and_eq_true, Nat.beq_eq] at h
    rw [h.1, patq_eq h.2.1, oq_eq h.2.2]
  · cases h
theorem diffs_spec {H H' : Heap} : ∀ {l : List Nat} {x : Nat}, x ∈ l → x ∉ diffs H H' l → H.obj? x = H'.obj? x ∧ H.arr? x = H'.arr? x
  | y :: l, x, hx, hn => by
    unfold diffs at hn
    cases hq : (oObjq (H.obj? y) (H'.obj? y) && oArrq (H.arr? y) (H'.arr? y))
    · rw [hq] at hn; simp only [cond_false, List.mem_cons, not_or] at hn
      rcases List.mem_cons.1 hx with e | hx
      · exact absurd e hn.1
      · exact diffs_spec hx hn.2
    · rw [hq] at hn; simp only [cond_true] at hn
      rcases List.mem_cons.1 hx with e | hx
      · subst e
        simp only [Bool.and_eq_true] at hq
        exact ⟨oObjq_is hq.1, oArrq_is hq.2⟩
      · exact diffs_spec hx hn
theorem fresh_mem : ∀ {l acc : List Nat} {x : Nat}, x ∈ l → x ∈ acc ∨ x ∈ fresh acc l
  | y :: l, acc, x, hx => by
    unfold fresh
    cases hq : nmem acc y
    · simp only [cond_false]
      rcases List.mem_cons.1 hx with e | hx
      · subst e; exact .inr (List.mem_cons_self ..)
      · rcases fresh_mem (acc := y :: acc) hx with h | h
        · rcases List.mem_cons.1 h with e | h
          · subst e; exact .inr (List.mem_cons_self ..)
          · exact .inl h
        · exact .inr (List.mem_cons_of_mem _ h)
    · simp only [cond_true]
      rcases List.mem_cons.1 hx with e | hx
      · subst e; exact .inl (mem_of_nmem hq)
      · exact fresh_mem hx
theorem ids_obj {x : Nat} {y : SObj} : ∀ {H : Heap}, H.obj? x = some y → x ∈ H.ids
  | .obj i o :: H, h => by
    rw [obj?_cons] at h
    simp only [Heap.ids]
    split at h
    · rename_i e; rw [e]; exact List.mem_cons_self ..
    · exact List.mem_cons_of_mem _ (ids_obj h)
  | .arr .. :: H, h => List.mem_cons_of_mem _ (ids_obj (H := H) h)
theorem ids_arr {x : Nat} {y : Nat × List CK × Option TypeId} : ∀ {H : Heap}, H.arr? x = some y → x ∈ H.ids
  | .arr i c p o :: H, h => by
    rw [arr?_cons] at h
    simp only [Heap.ids]
    split at h
    · rename_i e; rw [e]; exact List.mem_cons_self ..
    · exact List.mem_cons_of_mem _ (ids_arr h)
  | .obj .. :: H, h => List.mem_cons_of_mem _ (ids_arr (H := H) h)
theorem diffs_all {H H' : Heap} {x : Nat} (h : nmem (diffs H H' (fresh [] (H.ids ++ H'.ids))) x = false) : H'.obj? x = H.obj? x ∧ H'.arr? x = H.arr? x := by
  have hn := nmem_mem h
  by_cases hx : x ∈ H.ids ++ H'.ids
  · rcases fresh_mem (acc := []) hx with hx | hx
    · cases hx
    · obtain ⟨h1, h2⟩ := diffs_spec hx hn
      exact ⟨h1.symm, h2.symm⟩
  · have none_ : ∀ {H : Heap}, x ∉ H.ids → H.obj? x = none ∧ H.arr? x = none := fun {H} hx => by
      constructor
      · cases ho : H.obj? x
        · rfl
        · exact absurd (ids_obj ho) hx
      · cases ho : H.arr? x
        · rfl
        · exact absurd (ids_arr ho) hx
    simp only [List.mem_append, not_or] at hx
    rw [(none_ hx.1).1, (none_ hx.1).2, (none_ hx.2).1, (none_ hx.2).2]
    exact ⟨rfl, rfl⟩
theorem rowsOnly_spec {H : Heap} : ∀ {l : List Nat}, rowsOnly H l = true → ∀ j c p o, nmem l j = true → H.arr? j = some (c, p, o) → o.isSome = true
  | [], _, j, c, p, o, hj, _ => by cases hj
  | x :: l, h, j, c, p, o, hj, ha => by
    simp only [rowsOnly, Bool.and_eq_true] at h
    simp only [nmem_nil, nmem_cons, Bool.or_eq_true, Nat.beq_eq] at hj
    rcases hj with rfl | hj
    · have h1 := h.1
      rw [ha] at h1
      cases o
      · simp at h1
      · rfl
    · exact rowsOnly_spec h.2 j c p o hj ha
section
variable {C : Cfg}
def SoundDraw (C : Cfg) (n : Nat) : Prop := ∀ (ops : Array Oper) rest st acc t, X C n (.draw rest ops.toList st acc) = some t → ∀ (base : Bk) (w0 : World) (ρ : Env) (L : Lc) (Φ : Lf → Lc → Env → Prop), base.P = C.P → L.length = st.d → Den C.P base w0 t L ρ Φ → (∀ p ∈ st.facts, p.den ρ = true) →
  ∃ dis l ρ', Φ l L ρ' ∧ l.e = .normal ∧ Agree st.n ρ ρ' kap0 kap0 ∧ st.n ≤ l.st.n ∧ l.st.d = st.d ∧ l.st.fn = st.fn ∧ l.st.rnd = st.rnd ∧ (∀ p ∈ l.st.facts, p.den ρ' = true) ∧ (⟨l.st.sl, l.st.H⟩ : DS) = runD dis ⟨st.sl, st.H⟩ ∧ dis.length = rest.length ∧
    allOk (masks ops.toList []) 0 (acc ++ dis) = true ∧ ∀ (q : Nat) o di, rest[q]? = some o → dis[q]? = some di → DOk st (runD (dis.take q) ⟨st.sl, st.H⟩) o di ρ' ∧ VOp C.P base w0 ρ' ops o di
theorem soundDraw {n : Nat} (hR : SoundRun C n) (hD : SoundDraw C n) : SoundDraw C (n + 1) := by
  intro ops rest st acc t h base w0 ρ L Φ hP hL hd hF
  cases rest with
  | nil =>
    simp only [X_succ, stepT, force_eq, s_code, s_loopU, s_ops, s_run, s_op, s_fork, s_call, s_yld, s_draw, xoneF_eq, xvalF_eq, forceL_eq, St.bndQ_eq] at h
    cases hall : allOk (masks ops.toList []) 0 acc
    · rw [hall] at h; cases h
    · rw [hall] at h; simp only [cond_true, leafE] at h; cases h
      exact ⟨[], ⟨.normal, sundef, st⟩, ρ, hd, rfl, Agree.refl _ _ _, Nat.le_refl _, rfl, rfl, rfl, hF, rfl, rfl, by rw [List.append_nil]; exact hall, fun q o di ho => by simp at ho⟩
  | cons o rest =>
    simp only [X_succ, stepT, force_eq, s_code, s_loopU, s_ops, s_run, s_op, s_fork, s_call, s_yld, s_draw, xoneF_eq, xvalF_eq, forceL_eq, St.bndQ_eq] at h
    split at h
    · rename_i t1 ht1
      cases hb : (t1.plain st.n && ({ st with sl := maskS (looksOf ops.toList o) st.sl, H := st.H.only (rdOf st.H st.sl o.op) } : St).bnd)
      · rw [hb] at h; cases h
      · rw [hb] at h; simp only [cond_true] at h
        simp only [Bool.and_eq_true] at hb
        obtain ⟨hpl, hb0⟩ := hb
        obtain ⟨l1, F1, ρ1, u, hu, hdu, hF1, A1, hpath⟩ := path_of t1 _ ρ t h hd hF hpl
        cases hb1 : ((Nat.ble st.n l1.st.n && (l1.st.bnd && l1.v.bnd l1.st.n)) && rowsOnly l1.st.H (diffs (st.H.only (rdOf st.H st.sl o.op)) l1.st.H (fresh [] (Heap.ids (st.H.only (rdOf st.H st.sl o.op)) ++ l1.st.H.ids))))
        · rw [hb1] at hu; cases hu
        · rw [hb1] at hu; simp only [cond_true] at hu
          simp only [Bool.and_eq_true, Nat.ble_eq] at hb1
          obtain ⟨⟨hn1, hb2, hb3⟩, hrows⟩ := hb1
          have hfb : BE.bndL st.n st.facts = true := by
            have := hb0
            simp only [St.bnd, Bool.and_eq_true] at this
            exact this.1.2.2
          obtain ⟨dis, l, ρ', k1, k2, k3, k4, k5, k6, k7, k8, k9, k10, k11, k12⟩ := hD ops rest _ _ u hu base w0 ρ1 L Φ hP hL hdu hF1
          have A2 : Agree st.n ρ ρ' kap0 kap0 := A1.trans k3 hn1
          let di : DI := ⟨o.dst, l1.v, looksOf ops.toList o, rdOf st.H st.sl o.op, diffs (st.H.only (rdOf st.H st.sl o.op)) l1.st.H (fresh [] (Heap.ids (st.H.only (rdOf st.H st.sl o.op)) ++ l1.st.H.ids)), { st with sl := maskS (looksOf ops.toList o) st.sl, H := st.H.only (rdOf st.H st.sl o.op) }, l1.st⟩
          refine ⟨di :: dis, l, ρ', k1, k2, A2, Nat.le_trans hn1 k4, k5, k6, k7, k8, k9, by simp [k10], by simpa using k11, fun q o' d ho hdq => ?_⟩
          cases q with
          | succ q =>
            obtain ⟨g1, g2⟩ := k12 q o' d (by simpa using ho) (by simpa using hdq)
            exact ⟨⟨g1.d, g1.sl, g1.H, g1.fc, g1.rnd, Nat.le_trans hn1 g1.n, g1.wr, g1.rows⟩, g2⟩
          | zero =>
            simp at ho hdq; subst ho; subst hdq
            refine ⟨⟨rfl, rfl, rfl, facts_agree A2 hfb hF, rfl, Nat.le_refl _, fun x hx => diffs_all hx, rowsOnly_spec hrows⟩, ?_⟩
            intro κ a w B hle hk hsim K Q hKQ
            -- the sandbox, at the data of the text's order
            have hs0 : Sim B w ρ κ di.st0 a w := hsim.agree (A2.symm.kap κ) hb0
            have hdB := Den.rebase (P := C.P) hle hk t1 L ρ hpath
            have hPB : B.P = C.P := hle.P.trans hP
            refine hR ops o di.st0 t1 ht1 B w ρ κ a w L _ K Q hPB hL hs0 hdB ?_
            intro l2 L2 ρ2 κ2 w2 hl2 hA hsl hs2
            obtain ⟨rfl, rfl, rfl⟩ := hl2
            have A3 : Agree l2.st.n ρ2 ρ' κ2 (κ.mix κ2 l2.st.n) := by
              have := k3
              exact ⟨this.i, this.b, this.v, this.a, this.nl, fun j hj => by simp only [Kap.mix, if_pos hj], fun j hj => by simp only [Kap.mix, if_pos hj], fun j hj => by simp only [Kap.mix, if_pos hj], fun j hj => by simp only [Kap.mix, if_pos hj]⟩
            rw [← SV.agree A3 hb3]
            refine hKQ (κ.mix κ2 l2.st.n) w2 ?_ (hs2.agree A3 hb2)
            have key : ∀ j, di.rng j = false → j < l2.st.n → j < st.n := by
              intro j hr hj
              simp only [DI.rng] at hr
              have : Nat.blt j l2.st.n = true := by rw [Nat.blt_eq]; exact hj
              rw [show di.st1.n = l2.st.n from rfl, this, Bool.and_true] at hr
              rw [Bool.eq_false_iff] at hr
              simp only [ne_eq, Nat.ble_eq] at hr
              exact Nat.lt_of_not_le hr
            refine ⟨fun j hj => ?_, fun j hj => ?_, fun j hj => ?_, fun j hj => ?_⟩ <;> simp only [Kap.mix] <;> split
            · rename_i hlt; exact hA.A.o j (key j hj hlt)
            · rfl
            · rename_i hlt; exact hA.A.kb j (key j hj hlt)
            · rfl
            · rename_i hlt; exact hA.A.ko j (key j hj hlt)
            · rfl
            · rename_i hlt; exact hA.A.kc j (key j hj hlt)
            · rfl
    · cases h
/-! ### rows at a loop's head -/
theorem HeapOk.setEq {ρ : Env} {κ : Kap} {base : Bk} {H : Heap} {w : World} (h : HeapOk ρ κ base H w) {id : Nat} {cs' : List SC} (he : ∀ cs ty g, H.obj? id = some (.cells cs ty g) → cs'.map (SC.den ρ κ) = cs.map (SC.den ρ κ)) : HeapOk ρ κ base (H.setOwn id cs') w := by
  unfold Heap.setOwn
  split
  · rename_i cs ty g ho
    have e := he cs ty g ho
    obtain ⟨⟨b, k1, k2⟩, _⟩ := h.obj id _ ho
    refine h.setObj ho k1 ?_ fun _ _ => rfl
    cases g with
    | none => simp only [SObj.Is] at k2 ⊢; rw [e]; exact k2
    | some z =>
      obtain ⟨sp, j1, j2, j3⟩ := k2
      have hl : cs'.length = cs.length := by have := congrArg List.length e; simpa using this
      exact ⟨sp, by rw [e]; exact j1, by rw [hl]; exact j2, j3⟩
  · exact h
theorem norm_row {base : Bk} {w0 : World} {ρ : Env} {κ : Kap} {st : St} {a : Act} {w : World} {Ds : List Nat} (h : SimD base w0 Ds ρ κ st a w) (hb : st.bnd = true) {E : TypeId} {sz : Nat} {c : SC} (hc : c.bnd st.n = true) {b : RowBase} (hx : xbase C.P st.H E sz c = some b) (hsz : 0 < sz) (h1 : b.old.bnd st.n = true) (h2 : b.nl.bnd st.n = true) :
    ∃ κ1, KBut (one st.n) κ κ1 ∧ Agree st.n ρ ((ρ.set st.n (.l (b.old.den ρ))).set st.n (.n (b.nl.den ρ))) κ κ1 ∧ c.den ρ κ = (SC.slice st.n b.pat.length 0 (.lit 0) (.alen st.n) (.k st.n)).den ((ρ.set st.n (.l (b.old.den ρ))).set st.n (.n (b.nl.den ρ))) κ1 ∧
      HeapOk ((ρ.set st.n (.l (b.old.den ρ))).set st.n (.n (b.nl.den ρ))) κ1 h.B1 (.arr st.n st.n b.pat (some E) :: st.H.del b.src) w := by
  have A0 : Agree st.n ρ ((ρ.set st.n (.l (b.old.den ρ))).set st.n (.n (b.nl.den ρ))) κ κ := (Agree.set ρ κ st.n _).trans (Agree.set _ κ st.n _) (Nat.le_refl _)
  have e1 : ((ρ.set st.n (.l (b.old.den ρ))).set st.n (.n (b.nl.den ρ))).a st.n = b.old.den ρ := by simp [Env.set]
  have e2 : ((ρ.set st.n (.l (b.old.den ρ))).set st.n (.n (b.nl.den ρ))).nl st.n = b.nl.den ρ := by simp [Env.set]
  generalize ((ρ.set st.n (.l (b.old.den ρ))).set st.n (.n (b.nl.den ρ))) = ρ1 at A0 e1 e2
  have hbb := hb
  simp only [St.bnd, Bool.and_eq_true] at hbb
  have hs1 := h.hp.agree A0 hbb.1.2.1
  obtain ⟨b1, _, b3, b4, b5⟩ := xbase_spec hs1 hx
  rw [← AE.agree (A0.kap kap0) b.old h1] at e1
  rw [← BE.agree A0 h2] at e2
  rw [← SC.agree A0 c hc]
  obtain ⟨_, κ1, k1, k2, k3⟩ := hs1.newRow (Nat.le_refl _) (w' := w) (v := c.den ρ1 κ) (v' := c.den ρ1 κ) (s := b.src) (n := st.n) (pat := b.pat) (E := E) (Heap.free_of_bnd (one_lt (Nat.le_refl _)) hbb.1.2.1) b5 (by rw [e1, b1]; exact b3) ⟨rfl, rfl, rfl, Nat.le_refl _, fun _ _ _ => rfl⟩ (by rw [e2]; exact b4) (.inl rfl) (fun e => by rw [e] at b1; simp at b1; omega)
  exact ⟨κ1, k1, A0.trans (k1.agree (one_lt (Nat.le_refl st.n)) ρ1) (Nat.le_refl _), k2, k3⟩
theorem SC.bndL_mem {n : Nat} {l : List SC} (h : SC.bndL n l = true) {i : Nat} {c : SC} (hi : l[i]? = some c) : c.bnd n = true := by
  induction l generalizing i with
  | nil => simp at hi
  | cons x l ih =>
    simp only [SC.bndL, Bool.and_eq_true] at h
    cases i with
    | zero => simp at hi; subst hi; exact h.1
    | succ i => exact ih h.2 (by simpa using hi)
theorem normT_sound {base : Bk} {w0 : World} {Φ : Lf → Lc → Env → Prop} : ∀ (locs : List Loc) (st : St) (K : St → Option T) (t : T) (ρ : Env) (κ : Kap) (a : Act) (w : World) (L : Lc), normT C.P locs st K = some t → Sim base w0 ρ κ st a w → Den C.P base w0 t L ρ Φ →
    ∃ st1 t1 ρ1 κ1, K st1 = some t1 ∧ Agree st.n ρ ρ1 κ κ1 ∧ Sim base w0 ρ1 κ1 st1 a w ∧ Den C.P base w0 t1 L ρ1 Φ ∧ st.n ≤ st1.n ∧ st1.d = st.d ∧ st1.fn = st.fn ∧ st1.rnd = st.rnd
  | [], st, K, t, ρ, κ, a, w, L, h, hs, hd => ⟨st, t, ρ, κ, h, Agree.refl _ _ _, hs, hd, Nat.le_refl _, rfl, rfl, rfl⟩
  | l :: r, st, K, t, ρ, κ, a, w, L, h, hs, hd => by
    unfold normT at h
    split at h
    · cases h
    · rename_i st1 hst
      have : st1 = st := by
        unfold normLoc at hst
        repeat' split at hst
        all_goals first | (cases hst; rfl) | cases hst | skip
        all_goals (rename_i b _ ; first | (cases hq : Nat.blt 0 _ <;> rw [hq] at hst <;> cases hst))
      subst this
      exact normT_sound r st1 K t ρ κ a w L h hs hd
    · rename_i ct nl st1 hst
      rw [St.bndQ_eq] at h
      cases hb : (st.bnd && (ct.bnd st.n && nl.bnd st.n))
      · rw [hb] at h; cases h
      · rw [hb] at h; simp only [cond_true] at h
        simp only [Bool.and_eq_true] at hb
        obtain ⟨hb1, hb2, hb3⟩ := hb
        unfold arrT at h
        split at h
        · rename_i t1 ht1
          cases h
          simp only [Den] at hd
          have hbb := hb1
          simp only [St.bnd, Bool.and_eq_true] at hbb
          obtain ⟨Ds, hs⟩ := hs
          have hrb : ∀ l, st.rnd = some l → l < st.n + 1 := fun l hl => Nat.lt_succ_of_lt (hs.rb l hl)
          have key : ∃ κ1, Agree st.n ρ ((ρ.set st.n (.l (ct.den ρ))).set st.n (.n (nl.den ρ))) κ κ1 ∧ Sim base w0 ((ρ.set st.n (.l (ct.den ρ))).set st.n (.n (nl.den ρ))) κ1 st1 a w ∧ st1.n = st.n + 1 ∧ st1.d = st.d ∧ st1.fn = st.fn ∧ st1.rnd = st.rnd := by
            unfold normLoc at hst
            split at hst
            · rename_i t' E
              split at hst
              · cases hst
              · rename_i c _ hslot
                split at hst
                · rename_i sz hsz
                  split at hst
                  · rename_i b hx
                    cases hq : Nat.blt 0 sz
                    · rw [hq] at hst; cases hst
                    · rw [hq] at hst; cases hst
                      have hcb0 : c.bnd st.n = true := Sl.all_get (f := SV.bnd st.n) hbb.1.1 hslot
                      obtain ⟨κ1, k1, k2, k3, k4⟩ := norm_row (C := C) hs hb1 (c := c) hcb0 hx (by simpa [Nat.blt_eq] using hq) hb2 hb3
                      refine ⟨κ1, k2, ⟨Ds, hs.step (SlotsOk.setEq (hs.fr.agree k2 hbb.1.1) ?_) (Kept.refl _ _) k4 (facts_agree k2 hbb.1.2.2 hs.fc) hrb⟩, rfl, rfl, rfl, rfl⟩
                      rw [hs.fr.2 _ _ hslot rfl]
                      exact congrArg some k3
                  · cases hst
                · cases hst
              · cases hst
            · rename_i id off E
              split at hst
              · rename_i cs ty ho
                split at hst
                · cases hst
                · rename_i c sz _ hc hsz
                  split at hst
                  · rename_i b hx
                    cases hq : Nat.blt 0 sz
                    · rw [hq] at hst; cases hst
                    · rw [hq] at hst; cases hst
                      obtain ⟨g0, hg0⟩ := own?_obj ho
                      have hob := (Heap.bnd_obj hbb.1.2.1 hg0).2
                      have hcb := SC.bndL_mem (n := st.n) (l := cs) (by simpa [SObj.bnd] using hob) hc
                      obtain ⟨κ1, k1, k2, k3, k4⟩ := norm_row (C := C) hs hb1 hcb hx (by simpa [Nat.blt_eq] using hq) hb2 hb3
                      refine ⟨κ1, k2, ⟨Ds, hs.step (hs.fr.agree k2 hbb.1.1) (Kept.refl _ _) (k4.setEq ?_) (facts_agree k2 hbb.1.2.2 hs.fc) hrb⟩, rfl, rfl, rfl, rfl⟩
                      intro cs0 ty0 g1 ho0
                      have ho1 : (st.H.del b.src).obj? id = some (.cells cs0 ty0 g1) := ho0
                      have ho2 := (Heap.del_obj ho1).1
                      rw [hg0] at ho2; cases ho2
                      rw [← SC.agree k2 c hcb] at k3
                      apply List.ext_getElem?
                      intro i
                      simp only [List.getElem?_map, List.getElem?_set]
                      split
                      · rename_i e; subst e
                        rw [hc]
                        have : off < cs.length := (List.getElem?_eq_some_iff.1 hc).1
                        simp [this, k3]
                      · rfl
                  · cases hst
                · cases hst
              · cases hst
            · cases hst
          obtain ⟨κ1, A1, S1, n1, d1, f1, r1⟩ := key
          obtain ⟨st2, t2, ρ2, κ2, g1, g2, g3, g4, g5, g6, g7, g8⟩ := normT_sound r st1 K t1 _ κ1 a w L ht1 S1 hd
          exact ⟨st2, t2, ρ2, κ2, g1, A1.trans g2 (by omega), g3, g4, by omega, by rw [g6, d1], by rw [g7, f1], by rw [g8, r1]⟩
        · cases h
end
end Go.SX

/- SyX6: the walk is right. -/
set_option linter.unusedSimpArgs false
set_option linter.unusedVariables false
set_option linter.unusedSectionVars false
noncomputable section
namespace Go.SX
open Go Go.RowKit

section
variable {C : Cfg}
theorem soundLoop {n : Nat} (hL : SoundLoop C n) (hCd : SoundCode C n) : SoundLoop C (n + 1) := by
  intro c p st t h hpl base w0 ρ κ a w L Φ Q hP hLn hs hd hk
  simp only [X_succ, stepT, force_eq, s_code, s_loopU, s_ops, s_run, s_op, s_fork, s_call, s_yld, s_draw, xoneF_eq, xvalF_eq, forceL_eq, St.bndQ_eq] at h
  obtain ⟨t', ht', hdd⟩ := thenT_spec (P := C.P) (base := base) (w0 := w0) h
  rw [roundsIn_succ]
  refine hCd c p st t' ht' hpl base w0 ρ κ a w L _ _ hP hLn hs (hdd L ρ Φ hd) ?_
  intro l L' ρ' κ' a' w' hl hA hs'
  obtain ⟨u, hu, hdu⟩ := hl
  obtain ⟨le, lv, lst⟩ := l
  cases le with
  | normal =>
    have hpl' : placeOf C.P lst.fn p = some c := by rw [hA.fn]; exact hpl
    have := hL c p lst u hu hpl' base w0 ρ' κ' a' w' L' Φ Q hP hA.len hs' hdu fun l2 L2 ρ2 κ2 a2 w2 h2 hA2 hs2 => hk l2 L2 ρ2 κ2 a2 w2 h2 (hA.trans hA2) hs2
    rw [hA.round hs.rb] at this
    exact this
  | _ => simp only [leafE] at hu; cases hu; exact hk ⟨_, sundef, lst⟩ L' ρ' κ' a' w' hdu hA hs'
theorem callee?_spec {P : Program} {s : Option SV} {g : FuncId} {first cap : List SC} (h : callee? P s = some (g, first, cap)) : s = some (.a (.c (.fn ⟨.func g, [], []⟩ first cap))) ∧ callable P g = true := by
  unfold callee? at h
  split at h
  · rename_i g' f' c'
    cases hb : callable P g'
    · rw [hb] at h; cases h
    · rw [hb] at h; simp only [cond_true] at h; cases h; exact ⟨rfl, hb⟩
  · cases h
/-- a new loop's record -/
theorem SimD.enter {base : Bk} {w0 : World} {ρ : Env} {κ : Kap} {st : St} {a : Act} {w : World} {Ds : List Nat} (h : SimD base w0 Ds ρ κ st a w) (hb : st.bnd = true) {p : List Bool} {f : Operand} {ps : Array Nat} {as bo : Code} (hpl : placeOf base.P st.fn p = some (.rangeFunc f ps as bo)) (fn D : Nat) :
    SimD base w0 Ds ρ (κ.setO st.n w.heap.size 0) { st with H := .obj st.n (.loop ⟨.ready, none, st.fn, p, st.sl⟩) :: st.H, n := st.n + 1 } a (w.alloc (.loop { state := .ready, pending := none, fn, tmps := a.tmps, params := ps, assign := as, body := bo, defers := D })) := by
  simp only [St.bnd, Bool.and_eq_true] at hb
  have A := Agree.setO st.n w.heap.size 0 ρ κ
  refine h.step (h.fr.agree A hb.1.1) (Kept.of_below ((Below.refl _ w).alloc (Nat.le_refl _) _) (Nat.le_trans base.le h.sz)) ?_ h.fc fun l hl => Nat.lt_succ_of_lt (h.rb l hl)
  refine h.hp.alloc (Heap.free_of_bnd (one_lt (Nat.le_refl _)) hb.1.2.1) (Nat.le_refl _) 0 _ _ ?_
  exact ⟨a.tmps, f, ps, as, bo, D, fn, hpl, h.fr.agree A hb.1.1, rfl⟩
/-- a block for the deferred calls of a loop's rounds -/
theorem SimD.mark {base : Bk} {w0 : World} {ρ : Env} {κ : Kap} {st : St} {a : Act} {w : World} {Ds : List Nat} (h : SimD base w0 Ds ρ κ st a w) :
    SimD base w0 (w.heap.size :: Ds) ρ κ st { a with defers := { target := .collected w.heap.size, args := #[] } :: a.defers } (w.alloc (.deferred (some []))) := by
  have hbl : Below w.heap.size w (w.alloc (.deferred (some []))) := (Below.refl _ w).alloc (Nat.le_refl _) _
  have hdb : ∀ D ∈ w.heap.size :: Ds, D < (w.alloc (.deferred (some []))).heap.size ∧ base.b ≤ D ∧ ¬ base.keep D ∧ (w.alloc (.deferred (some []))).heap[D]? = some (.deferred (some [])) := by
    intro D hD
    rcases List.mem_cons.1 hD with rfl | hD
    · have := base.new h.sz
      exact ⟨by rw [World.size_alloc]; exact Nat.lt_succ_self _, this.1, this.2, World.alloc_heap_new w _⟩
    · obtain ⟨k1, k2, k3, k4⟩ := h.db D hD
      exact ⟨by rw [World.size_alloc]; omega, k2, k3, by rw [Below.heap_alloc w _ _ k1]; exact k4⟩
  have hsz : base.top ≤ (w.alloc (.deferred (some []))).heap.size := by rw [World.size_alloc]; have := h.sz; omega
  refine ⟨h.fr, ?_, ?_, hdb, hsz, ?_, h.bl.trans (Kept.of_below hbl (Nat.le_trans base.le h.sz)), h.fc, h.rb⟩
  · simp only [List.map_cons, h.df]; rfl
  · exact List.nodup_cons.2 ⟨fun hm => by have := (h.db _ hm).1; omega, h.dn⟩
  · refine (h.hp.below fun k hk => hbl.block k hk).up rfl rfl fun k hO hk hk' => ?_
    rcases hk' with hk' | hk'
    · exact hk (.inl hk')
    · rcases List.mem_cons.1 hk' with rfl | hk'
      · rcases hO with ⟨id, o, g1, g2⟩ | ⟨j, c, q, E, g1, g2, g3⟩
        · have := h.hp.lt g1; omega
        · have := h.hp.arrlt g1 (.inr ⟨rfl, g2⟩); omega
      · exact hk (.inr hk')
theorem soundCode {n : Nat} (hCd : SoundCode C n) (hO : SoundOps C n) (hLp : SoundLoop C n) (hD : SoundDraw C n) (hC : SoundCall C n) : SoundCode C (n + 1) := by
  intro c p st t h hpl base w0 ρ κ a w L Φ Q hP hL hs hd hk
  have self : ∀ e, leafE e st = some t → Q e a w := fun e he => by
    simp only [leafE] at he; cases he
    exact hk ⟨e, sundef, st⟩ L ρ κ a w hd (Aft.refl hL) hs
  cases c with
  | skip => simp only [X_succ, stepT, force_eq, s_code, s_loopU, s_ops, s_run, s_op, s_fork, s_call, s_yld, s_draw, xoneF_eq, xvalF_eq, forceL_eq, St.bndQ_eq] at h; exact wpIn_skip (self _ h)
  | label l => simp only [X_succ, stepT, force_eq, s_code, s_loopU, s_ops, s_run, s_op, s_fork, s_call, s_yld, s_draw, xoneF_eq, xvalF_eq, forceL_eq, St.bndQ_eq] at h; exact wpIn_label (self _ h)
  | exit id => simp only [X_succ, stepT, force_eq, s_code, s_loopU, s_ops, s_run, s_op, s_fork, s_call, s_yld, s_draw, xoneF_eq, xvalF_eq, forceL_eq, St.bndQ_eq] at h; exact wpIn_exit (self _ h)
  | goto l => simp only [X_succ, stepT, force_eq, s_code, s_loopU, s_ops, s_run, s_op, s_fork, s_call, s_yld, s_draw, xoneF_eq, xvalF_eq, forceL_eq, St.bndQ_eq] at h; exact wpIn_goto (self _ h)
  | ret => simp only [X_succ, stepT, force_eq, s_code, s_loopU, s_ops, s_run, s_op, s_fork, s_call, s_yld, s_draw, xoneF_eq, xvalF_eq, forceL_eq, St.bndQ_eq] at h; exact wpIn_ret (self _ h)
  | region id ops draw =>
    cases draw with
    | false =>
      simp only [X_succ, stepT, force_eq, s_code, s_loopU, s_ops, s_run, s_op, s_fork, s_call, s_yld, s_draw, xoneF_eq, xvalF_eq, forceL_eq, St.bndQ_eq] at h
      exact wpC_region (hO ops _ st t h base w0 ρ κ a w L Φ Q hP hL hs hd hk)
    | true =>
      simp only [X_succ, stepT, force_eq, s_code, s_loopU, s_ops, s_run, s_op, s_fork, s_call, s_yld, s_draw, xoneF_eq, xvalF_eq, forceL_eq, St.bndQ_eq] at h
      cases hb : (st.bnd && (C.P.follows .mixedOrders && predsOk 0 ops.toList))
      · rw [hb] at h; cases h
      · rw [hb] at h; simp only [cond_true] at h
        simp only [Bool.and_eq_true] at hb
        obtain ⟨hbnd, hmix, hpo⟩ := hb
        obtain ⟨dis, l, ρ', k1, k2, k3, k4, k5, k6, k7, k8, k9, k10, k11, k12⟩ := hD ops ops.toList st [] t h base w0 ρ L Φ hP hL hd hs.fc
        simp only [List.nil_append] at k11
        refine draw_sound (st' := l.st) hbnd hmix hpo k11 (by rw [k10]; simp) (hs.agree (k3.kap κ) hbnd) k12 k9 k8 k7 k4 ?_
        intro κ' a' w' hA hs'
        rw [← k2]
        exact hk l L ρ' κ' a' w' k1 ⟨by rw [k5]; exact hL, List.suffix_refl _, k4, k6, k7, (k3.kap κ).trans hA (Nat.le_refl _)⟩ hs'
  | seq x y =>
    simp only [X_succ, stepT, force_eq, s_code, s_loopU, s_ops, s_run, s_op, s_fork, s_call, s_yld, s_draw, xoneF_eq, xvalF_eq, forceL_eq, St.bndQ_eq] at h
    obtain ⟨t', ht', hdd⟩ := thenT_spec (P := C.P) (base := base) (w0 := w0) h
    refine wpIn_seq (hCd x _ st t' ht' (placeOf_cons hpl (codeAt_nil x)) base w0 ρ κ a w L _ _ hP hL hs (hdd L ρ Φ hd) ?_)
    intro l L' ρ' κ' a' w' hl hA hs'
    obtain ⟨u, hu, hdu⟩ := hl
    obtain ⟨le, lv, lst⟩ := l
    cases le with
    | normal =>
      have hpl' : placeOf C.P lst.fn (true :: p) = some y := by rw [hA.fn]; exact placeOf_cons hpl (codeAt_nil y)
      have := hCd y _ lst u hu hpl' base w0 ρ' κ' a' w' L' Φ Q hP hA.len hs' hdu fun l2 L2 ρ2 κ2 a2 w2 h2 hA2 hs2 => hk l2 L2 ρ2 κ2 a2 w2 h2 (hA.trans hA2) hs2
      rw [hA.round hs.rb] at this
      exact this
    | _ => simp only [leafE] at hu; cases hu; exact hk ⟨_, sundef, lst⟩ L' ρ' κ' a' w' hdu hA hs'
  | cond c x y =>
    simp only [X_succ, stepT, force_eq, s_code, s_loopU, s_ops, s_run, s_op, s_fork, s_call, s_yld, s_draw, xoneF_eq, xvalF_eq, forceL_eq, St.bndQ_eq] at h
    split at h
    · rename_i b hb
      have hev := opv_den hs.fr hb
      simp only [SV.den, SA.den, SC.den] at hev
      have hsimp := bsimp_den hs.fc b
      rw [← hsimp] at hev
      generalize bsimp st.facts b = q at h hev
      refine wpIn_cond hev ?_
      have hx := placeOf_cons (d := x) (b := false) hpl (codeAt_nil x)
      have hy := placeOf_cons (d := y) (b := true) hpl (codeAt_nil y)
      split at h
      · exact hCd x _ st t h hx base w0 ρ κ a w L Φ Q hP hL hs hd hk
      · exact hCd y _ st t h hy base w0 ρ κ a w L Φ Q hP hL hs hd hk
      · obtain ⟨t1, t2, h1, h2, rfl⟩ := iteT_spec h
        cases hp : q.den ρ
        · simp only [Bool.false_eq_true, if_false]
          exact hCd y _ (st.learn q false) t2 h2 hy base w0 ρ κ a w L Φ Q hP hL (hs.learn hp) (hd.2 hp) fun l L' ρ' κ' a' w' hl hA hs' => hk l L' ρ' κ' a' w' hl (hA.of rfl rfl rfl) hs'
        · simp only [if_true]
          exact hCd x _ (st.learn q true) t1 h1 hx base w0 ρ κ a w L Φ Q hP hL (hs.learn hp) (hd.1 hp) fun l L' ρ' κ' a' w' hl hA hs' => hk l L' ρ' κ' a' w' hl (hA.of rfl rfl rfl) hs'
    · cases h
  | block id b =>
    simp only [X_succ, stepT, force_eq, s_code, s_loopU, s_ops, s_run, s_op, s_fork, s_call, s_yld, s_draw, xoneF_eq, xvalF_eq, forceL_eq, St.bndQ_eq] at h
    obtain ⟨t', ht', hdd⟩ := thenT_spec (P := C.P) (base := base) (w0 := w0) h
    refine wpIn_block (hCd b _ st t' ht' (placeOf_cons hpl (codeAt_nil b)) base w0 ρ κ a w L _ _ hP hL hs (hdd L ρ Φ hd) ?_)
    intro l L' ρ' κ' a' w' hl hA hs'
    obtain ⟨u, hu, hdu⟩ := hl
    obtain ⟨le, lv, lst⟩ := l
    cases le with
    | exit i =>
      simp only [leafE] at hu; cases hu
      have := hk ⟨_, sundef, lst⟩ L' ρ' κ' a' w' hdu hA hs'
      simp only [Exit.inBlock]
      simp only at this
      cases hq : Nat.beq i id
      · rw [hq] at this
        have hne : ¬ i = id := beq_false hq
        rw [if_neg hne]; exact this
      · rw [hq] at this
        rw [Nat.beq_eq] at hq
        rw [if_pos hq]; exact this
    | _ => simp only [leafE] at hu; cases hu; exact hk ⟨_, sundef, lst⟩ L' ρ' κ' a' w' hdu hA hs'
  | scope b =>
    simp only [X_succ, stepT, force_eq, s_code, s_loopU, s_ops, s_run, s_op, s_fork, s_call, s_yld, s_draw, xoneF_eq, xvalF_eq, forceL_eq, St.bndQ_eq] at h
    obtain ⟨t', ht', hdd⟩ := thenT_spec (P := C.P) (base := base) (w0 := w0) h
    refine wpC_scope (hCd b _ st t' ht' (placeOf_cons hpl (codeAt_nil b)) base w0 ρ κ a w L _ _ hP hL hs (hdd L ρ Φ hd) ?_)
    intro l L' ρ' κ' a' w' hl hA hs'
    obtain ⟨u, hu, hdu⟩ := hl
    obtain ⟨le, lv, lst⟩ := l
    cases le with
    | goto t => cases hu
    | _ => simp only [leafE] at hu; cases hu; exact hk ⟨_, sundef, lst⟩ L' ρ' κ' a' w' hdu hA hs'
  | loop b =>
    simp only [X_succ, stepT, force_eq, s_code, s_loopU, s_ops, s_run, s_op, s_fork, s_call, s_yld, s_draw, xoneF_eq, xvalF_eq, forceL_eq, St.bndQ_eq] at h
    have hpb := placeOf_cons (d := b) (b := false) hpl (codeAt_nil b)
    split at h
    · exact wpIn_loop_rounds n (hLp b _ st t h hpb base w0 ρ κ a w L Φ Q hP hL hs hd hk)
    · rename_i locs _
      obtain ⟨st1, t1, ρ1, κ1, h, A1, hs1, hd1, n1, d1, f1, r1⟩ := normT_sound (C := C) locs st _ t ρ κ a w L h hs hd
      have hround : st1.rnd.map κ1.o = st.rnd.map κ.o := by
        rw [r1]
        cases hl : st.rnd with
        | none => rfl
        | some l => simp only [Option.map_some, A1.o l (hs.rb l hl)]
      have hk1 : ∀ l L' ρ' κ' a' w', Φ l L' ρ' → Aft st1 ρ1 κ1 L l.st ρ' κ' L' → Sim base w0 ρ' κ' l.st a' w' → Q l.e a' w' := fun l L' ρ' κ' a' w' hl hA hs' =>
        hk l L' ρ' κ' a' w' hl ⟨hA.len, hA.suf, Nat.le_trans n1 hA.n, hA.fn.trans f1, hA.rnd.trans r1, A1.trans hA.A n1⟩ hs'
      have hL1 : L.length = st1.d := by rw [d1]; exact hL
      have hpb1 : placeOf C.P st1.fn (false :: p) = some b := by rw [f1]; exact hpb
      rw [← hround]
      clear hk self hs hd hL hround hpb hpl
      revert h hs1 hd1 hk1 hL1 hpb1
      generalize st1 = st, t1 = t, ρ1 = ρ, κ1 = κ
      intro h hs hd hk hL hpb
      split at h
      · rename_i head ks hhead
        have hheadn : head.n = st.n + ks.length ∧ head.facts = st.facts ∧ head.d = st.d + 1 ∧ head.fn = st.fn ∧ head.rnd = st.rnd := by
          unfold headOf at hhead
          split at hhead
          · cases hhead; exact ⟨rfl, rfl, rfl, rfl, rfl⟩
          · cases hhead
        obtain ⟨e1, e2, e3, e4, e5⟩ := hheadn
        have hrb : ∀ l, head.rnd = some l → l < head.n := fun l hl => by
          rw [e5] at hl; have := hs.rb l hl; omega
        split at h
        · rename_i init body hinit hbody
          cases h
          cases hbf : BE.bndL st.n st.facts
          · rw [hbf] at hbody; cases hbody
          · rw [hbf] at hbody; simp only [cond_true] at hbody
            obtain ⟨I, μ, hI, hall⟩ := hd
            have hbf' : BE.bndL st.n head.facts = true := by rw [e2]; exact hbf
            have hf' : ∀ p ∈ head.facts, p.den ρ = true := by rw [e2]; exact hs.fc
            obtain ⟨f0, κ0, A0, s0⟩ := lcheck_sim (Agree.refl st.n ρ κ) hinit hs hbf' hf' hrb
            have hpbh : placeOf C.P head.fn (false :: p) = some b := by rw [e4]; exact hpb
            refine wpIn_loop_ghost (fun m a w => ∃ l κ', fitsL ks l = true ∧ I l ∧ μ l = m ∧ Agree st.n ρ (ρ.setL st.n l) κ κ' ∧ Sim base w0 (ρ.setL st.n l) κ' head a w) (μ (init.map (LV.eval ρ)))
              ⟨_, κ0, f0, hI, rfl, A0, s0⟩ ?_
            intro m a1 w1 ⟨l, κ1, hfit, hIl, hml, hA1, hs1⟩
            have hdb := allD_spec ks _ hall l hfit hIl
            have hro : head.rnd.map κ1.o = st.rnd.map κ.o := by
              rw [e5]
              cases hl : st.rnd with
              | none => rfl
              | some l => simp only [Option.map_some, hA1.o l (hs.rb l hl)]
            rw [← hro]
            obtain ⟨tb, htb, hddb⟩ := thenT_spec (P := C.P) (base := base) (w0 := w0) hbody
            refine hCd b _ head tb htb hpbh base w0 (ρ.setL st.n l) κ1 a1 w1 (⟨I, μ, μ l⟩ :: L) _ _ hP (by rw [e3, List.length_cons, hL]) hs1 (hddb _ _ Φ hdb) ?_
            intro l' L' ρ' κ' a' w' hl' hA' hs'
            obtain ⟨u, hu, hdu⟩ := hl'
            have hA2 : Agree st.n ρ ρ' κ κ' := hA1.trans hA'.A (by omega)
            have hn' : st.n ≤ l'.st.n := by have := hA'.n; omega
            obtain ⟨le, lv, lst⟩ := l'
            have other : ∀ e, leafE e lst = some u → Q e a' w' := fun e he => by
              simp only [leafE] at he; cases he
              exact hk ⟨_, sundef, lst⟩ L' ρ' κ' a' w' hdu ⟨hA'.len, (List.suffix_cons _ _).trans hA'.suf, hn', by rw [← e4]; exact hA'.fn, by rw [← e5]; exact hA'.rnd, hA2⟩ hs'
            cases le with
            | normal =>
              simp only at hu
              obtain ⟨st2, t2, ρ2, κ2, ht2, A2, hs2, hd2, n2, d2, f2, r2⟩ := normT_sound (C := C) locs lst _ u ρ' κ' a' w' L' hu hs' hdu
              split at ht2
              · rename_i vals hvals
                cases ht2
                have hA3 : Agree st.n ρ ρ2 κ κ2 := hA2.trans A2 hn'
                obtain ⟨f3, κ3, A3, s3⟩ := lcheck_sim hA3 hvals hs2 hbf' hf' hrb
                obtain ⟨pre, hpre⟩ := hA'.suf
                have hidx : L'[st2.d - head.d]? = some ⟨I, μ, μ l⟩ := by
                  have hlen : pre.length = st2.d - head.d := by
                    rw [d2, ← hA'.len, ← hpre, e3, ← hL]; simp
                  rw [← hpre, ← hlen]; simp
                simp only [Den, hidx] at hd2
                exact ⟨_, by rw [← hml]; exact hd2.2, _, κ3, f3, hd2.1, rfl, A3, s3⟩
              · cases ht2
            | exit id => exact other _ hu
            | goto l => exact other _ hu
            | ret => exact other _ hu
            | panic ch => exact other _ hu
            | outgrown => exact other _ hu
        · cases h
      · cases h
  | rangeFunc f ps as bo =>
    simp only [X_succ, stepT, force_eq, s_code, s_loopU, s_ops, s_run, s_op, s_fork, s_call, s_yld, s_draw, xoneF_eq, xvalF_eq, forceL_eq, St.bndQ_eq] at h
    split at h
    · rename_i g first cap hcal
      obtain ⟨hev, hcb⟩ := callee?_spec hcal
      have hev := evF_den hs.fr hs.fc (c := .lit true) rfl _ _ hev
      cases hb : (st.bnd && (rndOk st && SC.bndL st.n (first ++ cap)))
      · rw [hb] at h; cases h
      · rw [hb] at h; simp only [cond_true] at h
        simp only [Bool.and_eq_true] at hb
        obtain ⟨hbnd, hro, hfc⟩ := hb
        obtain ⟨t', ht', hdd⟩ := thenT_spec (P := C.P) (base := base) (w0 := w0) h
        have hd' := hdd L ρ Φ hd
        obtain ⟨Ds, hsd⟩ := hs
        have hplB : placeOf base.P st.fn p = some (.rangeFunc f ps as bo) := by rw [hP]; exact hpl
        refine wpIn_rangeFunc fun fn _ => ?_
        -- whichever way the record was laid
        have main : ∀ (Ds1 : List Nat) (mark : List Deferred) (wa : World) (D : Nat), SimD base w0 Ds1 ρ κ st { a with defers := mark ++ a.defers } wa →
            (Instr.enterLoop fn a.tmps ps as bo (st.rnd.map κ.o)).run C.P w = .ok (wa.heap.size, mark) (wa.alloc (.loop { state := .ready, pending := none, fn, tmps := a.tmps, params := ps, assign := as, body := bo, defers := D })) →
            ∃ (l : Nat) (mark : List Deferred) (w₁ : World) (d : Deferred) (w₁' : World) (f' : FuncId) (args : Array Value) (w₂ : World),
              (Instr.enterLoop fn a.tmps ps as bo (Wd (st.rnd.map κ.o)).round).run C.P w = .ok (l, mark) w₁ ∧ (resolve a.eval (rangeCall f l) 0).run C.P w₁ = .ok d w₁' ∧ (∀ f', Target.leads C.P w₁' d.target d.args = some f' → (Wd (st.rnd.map κ.o)).fn f') ∧
              (invoke d.target d.args).run C.P w₁' = .ok (.enter f' args) w₂ ∧ ((Wd (st.rnd.map κ.o)).depth.isSome = true → 1 ≤ 0) ∧
              CallsIn (Wd (st.rnd.map κ.o)) (0 - 1) C.P f' args w₂ (rangePost (Wd (st.rnd.map κ.o)) 0 C.P l Q { a with defers := mark ++ a.defers }) := by
          intro Ds1 mark wa D hsa hent
          have hse := hsa.enter hbnd hplB fn D
          dsimp only at hse
          generalize hW : wa.alloc (.loop { state := .ready, pending := none, fn, tmps := a.tmps, params := ps, assign := as, body := bo, defers := D }) = W at hent hse
          have hval : a.eval f = .func (.func g) (first.map (SC.den ρ κ)).toArray (cap.map (SC.den ρ κ)).toArray := by
            rw [hev]; simp only [SV.den, SA.den, SC.den, SC.denL_eq, regroup]
          refine ⟨wa.heap.size, mark, W, { target := .fn (.func g) (cap.map (SC.den ρ κ)).toArray, args := (first.map (SC.den ρ κ)).toArray ++ #[.func (.yield wa.heap.size) #[] #[]] }, W, g,
            ((first.map (SC.den ρ κ)).toArray ++ #[.func (.yield wa.heap.size) #[] #[]]) ++ (cap.map (SC.den ρ κ)).toArray, W, hent, ?_, fun _ _ => trivial, ?_, fun hx => by simp [Wd] at hx, ?_⟩
          · simp only [resolve, hval, Deferred.ofValue]
            simp [Act.eval]
          · simp only [invoke]
            exact run_callFunc hcb _ _
          · refine callsIn_wd.2 ?_
            have A0 := Agree.setO st.n wa.heap.size 0 ρ κ
            have hargs : ((first.map SV.c ++ ([SV.c (.yld st.n)] ++ cap.map SV.c)).map (SV.den ρ (κ.setO st.n wa.heap.size 0))).toArray = ((first.map (SC.den ρ κ)).toArray ++ #[.func (.yield wa.heap.size) #[] #[]]) ++ (cap.map (SC.den ρ κ)).toArray := by
              have hsplit : SC.bndL st.n first = true ∧ SC.bndL st.n cap = true := by
                have : ∀ (l r : List SC), SC.bndL st.n (l ++ r) = true → SC.bndL st.n l = true ∧ SC.bndL st.n r = true := by
                  intro l
                  induction l with
                  | nil => intro r h; exact ⟨rfl, h⟩
                  | cons x l ih =>
                    intro r h
                    simp only [List.cons_append, SC.bndL, Bool.and_eq_true] at h ⊢
                    exact ⟨⟨h.1, (ih r h.2).1⟩, (ih r h.2).2⟩
                exact this _ _ hfc
              have e3 : ∀ (l : List SC), SC.bndL st.n l = true → (l.map SV.c).map (SV.den ρ (κ.setO st.n wa.heap.size 0)) = l.map (SC.den ρ κ) := fun l hl => by
                rw [List.map_map, ← SC.agreeM A0 hl]; rfl
              rw [List.map_append, List.map_append, e3 _ hsplit.1, e3 _ hsplit.2]
              simp [SV.den, SA.den, SC.den, Kap.setO]
            rw [← hargs]
            have := hC g _ _ t' ht' base w0 ρ _ _ _ L _ (fun _ w3 => rangePost (Wd (st.rnd.map κ.o)) 0 C.P wa.heap.size Q { a with defers := mark ++ a.defers } (.returned undef) w3) hP hL ⟨Ds1, hse⟩ hd' ?_
            · exact this.mono fun e w3 ⟨v, he, hr⟩ => by subst he; exact hr
            · intro l L' ρ' κ' w3 hl hA hsl hs3
              obtain ⟨u, hu, hdu⟩ := hl
              split at hu
              · rename_i r hr
                have hr := loop?_spec hr
                have hnb : r.state ≠ .busy ∧ ∃ e, exitOf r.pending = some e ∧ leafE e { l.st with H := l.st.H.delO st.n } = some u := by
                  split at hu
                  · cases hu
                  · rename_i e hst he
                    exact ⟨he, e, by assumption, hu⟩
                  · cases hu
                obtain ⟨hnb, e, he, hu⟩ := hnb
                obtain ⟨Ds3, hsd3⟩ := hs3
                obtain ⟨⟨b3, q1, q2⟩, _⟩ := hsd3.hp.obj st.n _ hr
                obtain ⟨tm3, g3, ps3, as3, bo3, D3, fn3, j0, j1, rfl⟩ := q2
                have hkl : κ'.o st.n = wa.heap.size := by
                  rw [hA.A.o st.n (Nat.lt_succ_self _)]; simp [Kap.setO]
                rw [hkl] at q1
                have hrun := run_endLoop (P := C.P) q1 hnb
                have hturn := hsd3.turn hr (o := .loop { r with state := .exhausted }) (b := .loop { state := .exhausted, pending := r.pending, fn := fn3, tmps := tm3, params := ps3, assign := as3, body := bo3, defers := D3 })
                  ⟨tm3, g3, ps3, as3, bo3, D3, fn3, j0, j1, rfl⟩
                rw [hkl] at hturn
                have hfin : Sim base w0 ρ' κ' { l.st with H := l.st.H.delO st.n } { a with defers := mark ++ a.defers } (w3.putObj wa.heap.size (.loop { state := .exhausted, pending := r.pending, fn := fn3, tmps := tm3, params := ps3, assign := as3, body := bo3, defers := D3 })) := by
                  refine ⟨Ds3, hturn.step hturn.fr (Kept.refl _ _) (hturn.hp.sub (fun x y g => ?_) (fun x y g => ?_)) hturn.fc hturn.rb⟩
                  · rw [Heap.delO_obj] at g
                    split at g
                    · cases g
                    · rename_i hne
                      show (l.st.H.setObj st.n _).obj? x = some y
                      rw [Heap.obj?_setObj, if_neg hne]; exact g
                  · rw [Heap.delO_arr] at g
                    show (l.st.H.setObj st.n _).arr? x = some y
                    rw [Heap.arr?_setObj]; exact g
                have hQ : Q e { a with defers := mark ++ a.defers } (w3.putObj wa.heap.size (.loop { state := .exhausted, pending := r.pending, fn := fn3, tmps := tm3, params := ps3, assign := as3, body := bo3, defers := D3 })) := by
                  simp only [leafE] at hu; cases hu
                  refine hk ⟨e, sundef, { l.st with H := l.st.H.delO st.n }⟩ L' ρ' κ' _ _ hdu ⟨hA.len, hA.suf, by have := hA.n; simp only at this ⊢; omega, hA.fn, hA.rnd, ?_⟩ hfin
                  exact A0.trans hA.A (Nat.le_succ _)
                refine ⟨_, _, hrun, ?_⟩
                simp only
                cases hp : r.pending with
                | none => rw [hp] at he hQ; simp only [exitOf, Option.some.injEq] at he; subst he; exact hQ
                | some c =>
                  rw [hp] at he hQ
                  cases c <;> simp only [exitOf, Option.some.injEq, reduceCtorEq] at he <;> subst he <;> simp only <;> first | exact wpIn_ret hQ | exact wpIn_exit hQ | exact wpIn_goto hQ
              · cases hu
        cases hr : st.rnd with
        | none =>
          have hm := hsd.mark
          rw [hr] at main
          refine main (w.heap.size :: Ds) [{ target := .collected w.heap.size, args := #[] }] (w.alloc (.deferred (some []))) w.heap.size hm ?_
          simp only [Option.map_none]
          rw [run_enterLoop_outer, World.size_alloc]
        | some l0 =>
          simp only [rndOk, hr] at hro
          obtain ⟨r0, hr0⟩ := Option.isSome_iff_exists.1 hro
          have hr0 := loop?_spec hr0
          obtain ⟨⟨b0, q1, q2⟩, _⟩ := hsd.hp.obj l0 _ hr0
          obtain ⟨tm0, g0, ps0, as0, bo0, D0, fn0, _, _, rfl⟩ := q2
          rw [hr] at main
          refine main Ds [] w D0 ?_ ?_
          · exact hsd
          · simp only [Option.map_some]
            exact run_enterLoop_inner q1 _ _ _ _ _
    · cases h
  | _ => simp only [X_succ, stepT, force_eq, s_code, s_loopU, s_ops, s_run, s_op, s_fork, s_call, s_yld, s_draw, xoneF_eq, xvalF_eq, forceL_eq, St.bndQ_eq] at h; cases h
theorem sound (n : Nat) : SoundCode C n ∧ SoundLoop C n ∧ SoundOps C n ∧ SoundRun C n ∧ SoundOp C n ∧ SoundCall C n ∧ SoundYld C n ∧ SoundDraw C n ∧ SoundFork C n := by
  induction n with
  | zero => exact ⟨fun _ _ _ _ h => (by cases h), fun _ _ _ _ h => (by cases h), fun _ _ _ _ h => (by cases h), fun _ _ _ _ h => (by cases h), fun _ _ _ h => (by cases h), fun _ _ _ _ h => (by cases h), fun _ _ _ _ h => (by cases h), fun _ _ _ _ _ h => (by cases h), fun _ _ _ _ _ _ h => (by cases h)⟩
  | succ n ih =>
    obtain ⟨h1, h2, h3, h4, h5, h6, h7, h8, h9⟩ := ih
    exact ⟨soundCode h1 h3 h2 h8 h6, soundLoop h2 h1, soundOps h3 h4, soundRun h5, soundOp h6 h7 h9, soundCall h1, soundYld h1, soundDraw h4 h8, soundFork h5 h9⟩
end
end Go.SX
