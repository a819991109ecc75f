/- SxL: the walk of code, and that it is right. -/
import Derived.Test.YthigggddccklpaaSxK
set_option linter.unusedSimpArgs false
set_option linter.unusedVariables false
set_option linter.unusedSectionVars false
namespace Go.SX
open Go Go.RowKit

/-- the whole row n -/
def rowSC' (n : Nat) (pat : List CK) : SC := .slice n pat.length 0 (.lit 0) (.alen n) (.k n)
/-- a slice that a loop turns: from here on it is a row of the call's own -/
def normLoc (P : Program) (st : St) : Loc → Option (Option (AE × BE) × St)
  | .row t E => match slot st.sl t with
    | some (.a (.c (.slice ..))) => some (none, st)
    | some (.a (.c c)) => match sizeP P E with
      | some sz => match xbase P st.H E sz c with
        | some b => bif Nat.blt 0 sz then some (some (b.old, b.nl), { st with H := .arr st.n st.n b.pat (some E) :: st.H.del b.src, n := st.n + 1, sl := setSlot st.sl t (rowSV st.n b.pat) }) else none
        | none => none
      | none => none
    | _ => none
  | .rowc t off E => match slot st.sl t with
    | some (.a (.c (.ptr id k))) => match st.H.own? id with
      | some (cs, _) => match cs[k + off]?, sizeP P E with
        | some (.slice ..), _ => some (none, st)
        | some c, some sz => match xbase P st.H E sz c with
          | some b => bif Nat.blt 0 sz then some (some (b.old, b.nl), { st with H := Heap.setOwn (.arr st.n st.n b.pat (some E) :: st.H.del b.src) id (cs.set (k + off) (rowSC' st.n b.pat)), n := st.n + 1 }) else none
          | none => none
        | _, _ => none
      | none => none
    | _ => none
  | _ => some (none, st)
def arrT (n : Nat) (ct : AE) (nl : BE) : Option Tree → Option Tree
  | some t => some (.arr n ct nl t)
  | none => none
def normT (P : Program) : List Loc → St → (St → Option Tree) → Option Tree
  | [], st, K => K st
  | l :: r, st, K => match normLoc P st l with
    | none => none
    | some (none, st1) => normT P r st1 K
    | some (some (ct, nl), st1) => bif st.bnd && (ct.bnd st.n && nl.bnd st.n) then arrT st.n ct nl (normT P r st1 K) else none
def noIte : SV → SV
  | .ite .. => .any
  | s => s
/-- the state at a loop's head -/
def headOf (P : Program) (st : St) (b : Code) (locs : List Loc) : Option (St × List VK) :=
  match hav P st.sl st.H st.n locs with
  | some (sl, H, ks) => some ({ sl := (anys sl locs (Code.dsts b)).map noIte, H := H, n := st.n + ks.length, facts := st.facts, d := st.d + 1, fn := st.fn }, ks)
  | none => none
def frame0 (fn : Func) (args : List SV) : List SV := args ++ List.replicate (fn.ntmps - args.length) sundef

inductive Task where
  | code (c : Code) (st : St) (K : Exit → St → Option Tree)
  | loopU (c : Code) (st : St) (K : Exit → St → Option Tree)
  | ops (all rest : List Oper) (st : St) (K : St → Option Tree)
  | run (o : Oper) (c : BE) (st : St) (K : St → Option Tree)
  | call (f : FuncId) (args : List SV) (st : St) (K : SV → St → Option Tree)

def X (C : Cfg) : Nat → Task → Option Tree
  | 0, _ => none
  | n + 1, .code c st K => match c with
    | .skip | .label _ => K .normal st
    | .region _ ops false => X C n (.ops ops.toList ops.toList st (K .normal))
    | .region _ ops true => xdraw C ops.toList st (K .normal)
    | .seq a b => X C n (.code a st fun e st' => match e with
        | .normal => X C n (.code b st' K)
        | e => K e st')
    | .cond c x y => match opv st.sl c with
      | some (.a (.c (.bool b))) => match bsimp st.facts b with
        | .lit true => X C n (.code x st K)
        | .lit false => X C n (.code y st K)
        | p => iteT p (X C n (.code x (st.learn p true) K)) (X C n (.code y (st.learn p false) K))
      | _ => none
    | .block id b => X C n (.code b st fun e st' => match e with
        | .exit i => K (bif Nat.beq i id then .normal else .exit i) st'
        | e => K e st')
    | .loop b => match C.ann st.fn ((firstRegion b).getD 0) with
      | none => X C n (.loopU b st K)
      | some locs => normT C.P locs st fun st => match headOf C.P st b locs with
        | some (head, ks) => match lcheck st.n ks head st, bif BE.bndL st.n st.facts then X C n (.code b head fun e st' => match e with
              | .normal => normT C.P locs st' fun st' => match lcheck st.n ks head st' with
                | some vals => some (.cont (st'.d - head.d) vals)
                | none => none
              | e => K e st') else none with
          | some init, some body => some (.loop ks st.n init body)
          | _, _ => none
        | none => none
    | .exit id => K (.exit id) st
    | .goto l => K (.goto l) st
    | .scope b => X C n (.code b st fun e st' => match e with
        | .goto _ => none
        | e => K e st')
    | .ret => K .ret st
    | _ => none
  | n + 1, .loopU c st K => X C n (.code c st fun e st' => match e with
      | .normal => X C n (.loopU c st' K)
      | e => K e st')
  | n + 1, .ops all rest st K => match rest with
    | [] => K st
    | o :: rest => match guardOf all st.sl o.guard with
      | none => none
      | some g => match bsimp st.facts g with
        | .lit false => X C n (.ops all rest (st.put o.dst sundef) K)
        | .lit true => X C n (.run o (.lit true) st fun st' => X C n (.ops all rest st' K))
        | c => match xval C.P st.H (evF st c) o.op with
          | some (ns, v) => match openNeeds st.facts (ns.map fun p => mkOr (mkNot c) p) with
            | some q => needT q (X C n (.ops all rest ((st.learns q).put o.dst (SV.guard c v)) K))
            | none => none
          | none => iteT c (X C n (.run o c (st.learn c true) fun st' => X C n (.ops all rest st' K))) (X C n (.ops all rest ((st.learn c false).put o.dst sundef) K))
  | n + 1, .run o c st K => match xone C.P st.H (evF st c) o.op with
    | none => none
    | some (ns, r) => match openNeeds st.facts ns with
      | none => none
      | some q0 => needT q0 (match r with
        | .val v => K ((st.learns q0).put o.dst v)
        | .new cs ty sl => bif (st.learns q0).bnd && SC.bndL st.n cs then K ({ st.learns q0 with H := .own st.n cs ty :: st.H, n := st.n + 1 }.put o.dst (newPtr st.n sl)) else none
        | .store id off s => match st.H.own? id with
          | some (cs, _) => K ({ st.learns q0 with H := st.H.setOwn id (setMany cs off s.cells) }.put o.dst sundef)
          | none => none
        | .row q => bif (st.bnd && (BE.bndL st.n ns && c.bnd st.n)) && (q.ct.bnd st.n && q.nl.bnd st.n) then arrT st.n q.ct q.nl (K ({ st.learns q0 with H := .arr st.n st.n q.pat (some q.E) :: st.H.del q.src, n := st.n + 1 }.put o.dst (rowSV st.n q.pat))) else none
        | .call f args => bif SV.bndL st.n st.sl then X C n (.call f args (st.learns q0) fun v st' => K ({ st' with sl := st.sl, fn := st.fn }.put o.dst v)) else none)
  | n + 1, .call f args st K => match C.ct f with
    | some rs => match rs.mk st.n with
      | (ks, res, hn) => bif (st.bnd && SV.bndL st.n args) && newRows st.n hn then match K res { st with H := hn ++ st.H, n := st.n + ks.length } with
          | some t => some (.call f args (st.H.near args) st.n ks res hn t)
          | none => none
        else none
    | none => match C.P.funcs[f]? with
      | some fn => match fn.body with
        | some c => X C n (.code c { st with sl := frame0 fn args, fn := f } fun e st' => match e with
          | .normal | .ret => match xresults C.P fn st' with
            | some v => K v st'
            | none => none
          | _ => none)
        | none => none
      | none => none

section
variable (C : Cfg) (base : Nat) (w0 : World) (R : Value → World → Prop)
abbrev D := Den C.P base w0 R
/-- what follows is right -/
def KOk (st : St) (ρ : Env) (κ : Kap) (L : List LCtx) (K : Exit → St → Option Tree) (Q : Exit → Act → World → Prop) : Prop :=
  ∀ e st' t' ρ' κ' a' w' L', K e st' = some t' → L'.length = st'.d → L <:+ L' → st.n ≤ st'.n → st'.fn = st.fn → Agree st.n ρ ρ' κ κ' → Sim base w0 ρ' κ' st' a' w' → D C base w0 R t' L' ρ' → Q e a' w'
def KOk1 (st : St) (ρ : Env) (κ : Kap) (L : List LCtx) (K : St → Option Tree) (Q : Act → World → Prop) : Prop :=
  ∀ st' t' ρ' κ' a' w' L', K st' = some t' → L'.length = st'.d → L <:+ L' → st.n ≤ st'.n → st'.fn = st.fn → Agree st.n ρ ρ' κ κ' → Sim base w0 ρ' κ' st' a' w' → D C base w0 R t' L' ρ' → Q a' w'
def KOkC (st : St) (ρ : Env) (κ : Kap) (L : List LCtx) (K : SV → St → Option Tree) (_w : World) (Q : Value → World → Prop) : Prop :=
  ∀ v st' t' ρ' κ' w', K v st' = some t' → ∀ L', L'.length = st'.d → L <:+ L' → st.n ≤ st'.n → Agree st.n ρ ρ' κ κ' → HeapOk ρ' κ' base st'.H w' → Below base w0 w' → base ≤ w'.heap.size → (∀ p ∈ st'.facts, p.den ρ' = true) → D C base w0 R t' L' ρ' → Q (v.den ρ' κ') w'
def SoundCode (n : Nat) : Prop := ∀ c st K t, X C n (.code c st K) = some t → ∀ ρ κ a w L Q, L.length = st.d → Sim base w0 ρ κ st a w → D C base w0 R t L ρ → KOk C base w0 R st ρ κ L K Q → c.wp C.P Q a w
def SoundLoop (n : Nat) : Prop := ∀ c st K t, X C n (.loopU c st K) = some t → ∀ ρ κ a w L Q, L.length = st.d → Sim base w0 ρ κ st a w → D C base w0 R t L ρ → KOk C base w0 R st ρ κ L K Q → Code.rounds C.P c Q n a w
def SoundOps (n : Nat) : Prop := ∀ (ops : Array Oper) rest st K t, X C n (.ops ops.toList rest st K) = some t → ∀ ρ κ a w L Q, L.length = st.d → Sim base w0 ρ κ st a w → D C base w0 R t L ρ → KOk1 C base w0 R st ρ κ L K (Q .normal) → wpList C.P ops Q rest a w
def SoundRun (n : Nat) : Prop := ∀ (o : Oper) c st K t, X C n (.run o c st K) = some t → ∀ ρ κ a w L Q Q', L.length = st.d → Sim base w0 ρ κ st a w → c.den ρ = true → D C base w0 R t L ρ → KOk1 C base w0 R st ρ κ L K Q → o.wp C.P a w Q Q'
def SoundCall (n : Nat) : Prop := ∀ f args st K t, X C n (.call f args st K) = some t → ∀ ρ κ w L Q, L.length = st.d → HeapOk ρ κ base st.H w → Below base w0 w → base ≤ w.heap.size → (∀ p ∈ st.facts, p.den ρ = true) → D C base w0 R t L ρ → KOkC C base w0 R st ρ κ L K w Q →
  Calls C.P f (args.map (SV.den ρ κ)).toArray w fun e w' => match e with
    | .returned v => Q v w'
    | _ => False
end
section
variable {C : Cfg} {base : Nat} {w0 : World} {R : Value → World → Prop}
theorem KOk.refl_suffix {L L' L'' : List LCtx} (h : L <:+ L') (h' : L' <:+ L'') : L <:+ L'' := h.trans h'
theorem Sim.learn {ρ : Env} {κ : Kap} {st : St} {a : Act} {w : World} (h : Sim base w0 ρ κ st a w) {c : BE} {v : Bool} (hc : c.den ρ = v) : Sim base w0 ρ κ (st.learn c v) a w :=
  ⟨h.fr, h.df, h.hp, h.bl, h.sz, learn_den c st.facts v h.fc hc⟩
theorem Sim.learns {ρ : Env} {κ : Kap} {st : St} {a : Act} {w : World} (h : Sim base w0 ρ κ st a w) {q : List BE} (hq : ∀ p ∈ q, p.den ρ = true) : Sim base w0 ρ κ (st.learns q) a w :=
  ⟨h.fr, h.df, h.hp, h.bl, h.sz, learns_den q st.facts h.fc hq⟩
theorem needT_spec {q : List BE} {t : Option Tree} {u : Tree} (h : needT q t = some u) : ∃ t', t = some t' ∧ ∀ L ρ, D C base w0 R u L ρ → (∀ p ∈ q, p.den ρ = true) ∧ D C base w0 R t' L ρ := by
  unfold needT at h
  split at h
  · exact ⟨u, h, fun L ρ hd => ⟨fun p hp => (by cases hp), hd⟩⟩
  · split at h
    · rename_i t'
      cases h
      exact ⟨t', rfl, fun L ρ hd => ⟨allN_spec hd.1, hd.2⟩⟩
    · cases h
theorem iteT_spec {c : BE} {t u : Option Tree} {v : Tree} (h : iteT c t u = some v) : ∃ t' u', t = some t' ∧ u = some u' ∧ v = .ite c t' u' := by
  unfold iteT at h
  split at h
  · cases h; exact ⟨_, _, rfl, rfl, rfl⟩
  · cases h
theorem St.put_n (st : St) (d : Option Nat) (v : SV) : (st.put d v).n = st.n := by cases d <;> rfl
theorem St.put_d (st : St) (d : Option Nat) (v : SV) : (st.put d v).d = st.d := by cases d <;> rfl
theorem St.put_fn (st : St) (d : Option Nat) (v : SV) : (st.put d v).fn = st.fn := by cases d <;> rfl

theorem soundOps {n : Nat} (hO : SoundOps C base w0 R n) (hR : SoundRun C base w0 R n) : SoundOps C base w0 R (n + 1) := by
  intro ops rest st K t h ρ κ a w L Q hL hs hd hk
  cases rest with
  | nil =>
    simp only [X] at h
    exact hk st t ρ κ a w L h hL (List.suffix_refl _) (Nat.le_refl _) rfl (Agree.refl _ _ _) hs hd
  | cons o rest =>
    simp only [X] at h
    refine wpList_step fun K' hK' => ?_
    split at h
    · cases h
    · rename_i g hg
      have hw := guardOf_spec hs.fr hg
      have hsimp := bsimp_den hs.fc g
      rw [hw]
      generalize bsimp st.facts g = c at h hsimp
      -- what is done behind an operation that ran
      have after : ∀ (st1 : St) (ρ1 : Env) (κ1 : Kap), st.n ≤ st1.n → st1.fn = st.fn → Agree st.n ρ ρ1 κ κ1 → KOk1 C base w0 R st1 ρ1 κ1 L (fun st' => X C n (.ops ops.toList rest st' K)) K' := by
        intro st1 ρ1 κ1 hn hfn hA st' t' ρ' κ' a' w' L' ht hL' hsuf hn' hfn' hA' hs' hd'
        refine hK' a' w' (hO ops rest st' K t' ht ρ' κ' a' w' L' Q hL' hs' hd' ?_)
        intro st2 t2 ρ2 κ2 a2 w2 L2 h2 hL2 hsuf2 hn2 hfn2 hA2 hs2 hd2
        exact hk st2 t2 ρ2 κ2 a2 w2 L2 h2 hL2 (hsuf.trans hsuf2) (by omega) (by rw [hfn2, hfn', hfn]) ((hA.trans hA' hn).trans hA2 (by omega)) hs2 hd2
      have skip : ∀ (st1 : St) (t1 : Tree), st1.n = st.n → st1.fn = st.fn → st1.d = st.d → Sim base w0 ρ κ st1 a w → X C n (.ops ops.toList rest (st1.put o.dst sundef) K) = some t1 → D C base w0 R t1 L ρ → K' (a.put o.dst undef) w := by
        intro st1 t1 e1 e2 e3 hs1 ht hd1
        refine hK' _ _ (hO ops rest _ K t1 ht ρ κ _ w L Q (by rw [St.put_d, e3]; exact hL) (hs1.put o.dst (fun _ => sundef_den ρ κ ▸ rfl)) hd1 ?_)
        intro st2 t2 ρ2 κ2 a2 w2 L2 h2 hL2 hsuf2 hn2 hfn2 hA2 hs2 hd2
        rw [St.put_n, e1] at hn2 hA2; rw [St.put_fn, e2] at hfn2
        exact hk st2 t2 ρ2 κ2 a2 w2 L2 h2 hL2 hsuf2 hn2 hfn2 hA2 hs2 hd2
      split at h
      · simp only [BE.den] at hsimp
        rw [← hsimp]; simp only [Bool.false_eq_true, if_false]
        exact skip st t rfl rfl rfl hs h hd
      · simp only [BE.den] at hsimp
        rw [← hsimp]; simp only [if_true]
        exact hR o (.lit true) st _ t h ρ κ a w L K' Q hL hs rfl hd (after st ρ κ (Nat.le_refl _) rfl (Agree.refl _ _ _))
      · split at h
        · rename_i ns v hx
          split at h
          · rename_i q hq
            obtain ⟨t', ht', hdd⟩ := needT_spec (C := C) (base := base) (w0 := w0) (R := R) h
            obtain ⟨hqd, hd'⟩ := hdd L ρ hd
            have hneed := openNeeds_den hs.fc hq hqd
            have hgd : ∀ cv, c.den ρ = cv → (cv = true → ∀ p ∈ ns, p.den ρ = true) := by
              intro cv hcv hct p hp
              have := hneed _ (List.mem_map_of_mem hp)
              rw [mkOr_den, mkNot_den, hcv, hct] at this
              simpa using this
            have fin : ∀ u, u = (SV.guard c v).den ρ κ → K' (a.put o.dst u) w := by
              intro u hu
              refine hK' _ _ (hO ops rest _ K t' ht' ρ κ _ w L Q (by rw [St.put_d]; exact hL) ((hs.learns hqd).put o.dst (fun _ => hu)) hd' ?_)
              intro st2 t2 ρ2 κ2 a2 w2 L2 h2 hL2 hsuf2 hn2 hfn2 hA2 hs2 hd2
              rw [St.put_n] at hn2 hA2; rw [St.put_fn] at hfn2
              exact hk st2 t2 ρ2 κ2 a2 w2 L2 h2 hL2 hsuf2 hn2 hfn2 hA2 hs2 hd2
            cases hcv : c.den ρ
            · rw [← hsimp, hcv]; simp only [Bool.false_eq_true, if_false]
              exact fin _ (by rw [SV.guard_den, hcv]; rfl)
            · rw [← hsimp, hcv]; simp only [if_true]
              have hrun := xval_sound hs.hp (evF_den hs hcv) hx (hgd true hcv rfl)
              unfold Oper.wp
              rw [hrun]
              exact fin _ (by rw [SV.guard_den, hcv]; rfl)
          · cases h
        · obtain ⟨t1, t2, h1, h2, rfl⟩ := iteT_spec h
          cases hcv : c.den ρ
          · rw [← hsimp, hcv]; simp only [Bool.false_eq_true, if_false]
            exact skip (st.learn c false) t2 rfl rfl rfl (hs.learn hcv) h2 (hd.2 hcv)
          · rw [← hsimp, hcv]; simp only [if_true]
            exact hR o c (st.learn c true) _ t1 h1 ρ κ a w L K' Q hL (hs.learn hcv) hcv (hd.1 hcv) (after (st.learn c true) ρ κ (Nat.le_refl _) rfl (Agree.refl _ _ _))
theorem openNeeds_keep {ρ : Env} {F : List BE} (hF : ∀ p ∈ F, p.den ρ = true) : ∀ {l r : List BE}, openNeeds F l = some r → (∀ p ∈ l, p.den ρ = true) → ∀ p ∈ r, p.den ρ = true := by
  intro l
  induction l with
  | nil => intro r h _ p hp; cases h; cases hp
  | cons q l ih =>
    intro r h hl p hp
    have e := bsimp_den hF q
    have hl' : ∀ p ∈ l, p.den ρ = true := fun p hp => hl p (List.mem_cons_of_mem _ hp)
    unfold openNeeds at h
    split at h
    · exact ih h hl' p hp
    · cases h
    · rename_i q' r' h2 _ _
      cases h
      rcases List.mem_cons.1 hp with rfl | hp
      · rw [e]; exact hl _ (List.mem_cons_self ..)
      · exact ih h2 hl' p hp
    · cases h
theorem soundRun {n : Nat} (hC : SoundCall C base w0 R n) : SoundRun C base w0 R (n + 1) := by
  intro o c st K t h ρ κ a w L Q Q' hL hs hc hd hk
  simp only [X] at h
  split at h
  · cases h
  · rename_i ns r hx
    split at h
    · cases h
    · rename_i q hq
      obtain ⟨t', ht', hdd⟩ := needT_spec (C := C) (base := base) (w0 := w0) (R := R) h
      obtain ⟨hqd, hd'⟩ := hdd L ρ hd
      have hneed := openNeeds_den hs.fc hq hqd
      obtain ⟨hdoes, hsto, hcall⟩ := xone_sound hs.hp hs.sz (evF_den hs hc) hx hneed
      have hs' := hs.learns hqd
      unfold Oper.wp
      split at ht'
      · rename_i v
        rw [show (execOp a.eval o).run C.P w = _ from hdoes]
        refine hk _ t' ρ κ _ w L ht' (by rw [St.put_d]; exact hL) (List.suffix_refl _) (by rw [St.put_n]; exact Nat.le_refl _) (by rw [St.put_fn]; rfl) (Agree.refl _ _ _) (hs'.put o.dst (fun _ => rfl)) hd'
      · rename_i cs ty sl
        cases hb : ((st.learns q).bnd && SC.bndL st.n cs)
        · rw [hb] at ht'; cases ht'
        · rw [hb] at ht'; simp only [cond_true] at ht'
          simp only [Bool.and_eq_true] at hb
          rw [show (execOp a.eval o).run C.P w = _ from hdoes st.n]
          have A := Agree.setO st.n w.heap.size ρ κ
          have hb' := hb.1
          simp only [St.bnd, Bool.and_eq_true] at hb'
          have hheap := hs'.hp.alloc (n := st.n) (Heap.free_of_bnd (Nat.le_refl _) hb'.2.1) hs.sz cs (SC.bndL_has (Nat.le_refl _) cs hb.2) ty
          have hs2 : Sim base w0 ρ (κ.setO st.n w.heap.size) { st.learns q with H := .own st.n cs ty :: st.H, n := st.n + 1 } a (w.alloc (.cells (cs.map (SC.den ρ κ)).toArray ty)) :=
            ⟨hs'.fr.agree A hb'.1, hs.df, hheap, hs.bl.alloc hs.sz _, by rw [World.size_alloc]; have := hs.sz; omega, facts_agree A hb'.2.2 hs'.fc⟩
          refine hk _ t' ρ _ _ _ L ht' (by rw [St.put_d]; exact hL) (List.suffix_refl _) (by rw [St.put_n]; exact Nat.le_succ _) (by rw [St.put_fn]; rfl) A (hs2.put o.dst (fun _ => rfl)) hd'
      · rename_i id off s
        obtain ⟨cs, ty, ho⟩ := hsto _ _ _ rfl
        rw [ho] at ht'
        simp only at ht'
        rw [show (execOp a.eval o).run C.P w = _ from hdoes]
        have hheap := hs.hp.store ho off s.cells
        obtain ⟨k1, k2, k3, k4, k5, k6⟩ := setCells_heap (κ.o id) (s.cells.map (SC.den ρ κ)) off w _ ty (hs.hp.own id cs ty ho).1
        have hbl : Below base w0 (w.setCells (κ.o id) off (s.cells.map (SC.den ρ κ))) :=
          hs.bl.trans ⟨k4, k5, k6, by rw [k2]; exact Nat.le_refl _, fun k hk => k3 k (by have := (hs.hp.own id cs ty ho).2; omega)⟩
        have hs2 : Sim base w0 ρ κ { st.learns q with H := st.H.setOwn id (SX.setMany cs off s.cells) } a (w.setCells (κ.o id) off (s.cells.map (SC.den ρ κ))) :=
          ⟨hs.fr, hs.df, hheap, hbl, by rw [k2]; exact hs.sz, hs'.fc⟩
        refine hk _ t' ρ κ _ _ L ht' (by rw [St.put_d]; exact hL) (List.suffix_refl _) (by rw [St.put_n]; exact Nat.le_refl _) (by rw [St.put_fn]; rfl) (Agree.refl _ _ _) (hs2.put o.dst (fun _ => sundef_den ρ κ ▸ rfl)) hd'
      · rename_i r
        cases hb : ((st.bnd && (BE.bndL st.n ns && c.bnd st.n)) && (r.ct.bnd st.n && r.nl.bnd st.n))
        · rw [hb] at ht'; cases ht'
        · rw [hb] at ht'; simp only [cond_true] at ht'
          simp only [Bool.and_eq_true] at hb
          obtain ⟨⟨hb1, hb2, hb3⟩, hb4, hb5⟩ := hb
          unfold arrT at ht'
          split at ht'
          · rename_i t1 ht1
            cases ht'
            have A0 : Agree st.n ρ ((ρ.set st.n (.l (r.ct.den ρ))).set st.n (.n (r.nl.den ρ))) κ κ := (Agree.set ρ κ st.n _).trans (Agree.set _ κ st.n _) (Nat.le_refl _)
            simp only [D, Den] at hd'
            have e1 : ((ρ.set st.n (.l (r.ct.den ρ))).set st.n (.n (r.nl.den ρ))).a st.n = r.ct.den ρ := by simp [Env.set]
            have e2 : ((ρ.set st.n (.l (r.ct.den ρ))).set st.n (.n (r.nl.den ρ))).nl st.n = r.nl.den ρ := by simp [Env.set]
            generalize ((ρ.set st.n (.l (r.ct.den ρ))).set st.n (.n (r.nl.den ρ))) = ρ1 at hd' A0 e1 e2
            have hs1 := hs.agree A0 hb1
            obtain ⟨hdoes1, _, _⟩ := xone_sound hs1.hp hs1.sz (evF_den hs1 (by rw [BE.agree A0 hb3]; exact hc)) hx (facts_agree A0 hb2 hneed)
            have hb1' := hb1
            simp only [St.bnd, Bool.and_eq_true] at hb1'
            obtain ⟨κ1, w1, k1, k2, k3, k4⟩ := hdoes1 st.n (Heap.free_of_bnd (Nat.le_refl _) hb1'.2.1) (by rw [e1]; exact (AE.agree (A0.kap kap0) r.ct hb4).symm) (by rw [e2]; exact (BE.agree A0 hb5).symm)
            rw [k2]
            have A1 : Agree st.n ρ ρ1 κ κ1 := A0.trans (k1.agree (Nat.le_refl _)) (Nat.le_refl _)
            have hq1 : ∀ p ∈ q, p.den ρ1 = true := openNeeds_keep hs1.fc hq (facts_agree A0 hb2 hneed)
            have hs2 : Sim base w0 ρ1 κ1 { st.learns q with H := .arr st.n st.n r.pat (some r.E) :: st.H.del r.src, n := st.n + 1 } a w1 :=
              ⟨hs.fr.agree A1 hb1'.1, hs.df, k3, hs.bl.trans k4, by have := hs.sz; have := k4.size; omega, learns_den q _ hs1.fc hq1⟩
            exact hk _ t1 ρ1 κ1 _ w1 L ht1 (by rw [St.put_d]; exact hL) (List.suffix_refl _) (by rw [St.put_n]; exact Nat.le_succ _) (by rw [St.put_fn]; rfl) A1 (hs2.put o.dst (fun _ => rfl)) hd'
          · cases ht'
      · rename_i f args
        cases hb : SV.bndL st.n st.sl
        · rw [hb] at ht'; cases ht'
        · rw [hb] at ht'; simp only [cond_true] at ht'
          rw [show (execOp a.eval o).run C.P w = _ from hdoes]
          have := hC f args (st.learns q) _ t' ht' ρ κ w L (fun v w' => Q (a.put o.dst v) w') hL hs.hp hs.bl hs.sz hs'.fc hd' ?_
          · refine Calls.mono this fun e w' he => ?_
            cases e <;> first | exact he | exact he.elim
          · intro v st' t2 ρ' κ' w' h2 L' hL' hsuf hn' hA' hh' hb' hz' hf' hd2
            have hs2 : Sim base w0 ρ' κ' { st' with sl := st.sl, fn := st.fn } a w' :=
              ⟨hs.fr.agree hA' hb, hs.df, hh', hb', hz', hf'⟩
            exact hk _ t2 ρ' κ' _ w' L' h2 (by rw [St.put_d]; exact hL') hsuf (by rw [St.put_n]; exact hn') (by rw [St.put_fn]) hA' (hs2.put o.dst (fun _ => rfl)) hd2
theorem frame0_ok {ρ : Env} {κ : Kap} {fn : Func} {args : List SV} : FrameOk ρ κ (frame0 fn args) { tmps := (args.map (SV.den ρ κ)).toArray ++ Array.replicate (fn.ntmps - (args.map (SV.den ρ κ)).toArray.size) undef, defers := [] } := by
  refine ⟨by simp [frame0], fun t s hs _ => ?_⟩
  simp only [frame0] at hs
  rw [List.getElem?_append] at hs
  simp only [Array.getElem?_append]
  split at hs
  · rename_i hl
    rw [if_pos (by simpa using hl)]
    simp [hs]
  · rename_i hl
    rw [if_neg (by simpa using hl)]
    simp only [List.getElem?_replicate] at hs
    split at hs
    · rename_i h2
      cases hs
      simp [h2, sundef_den]
    · cases hs
theorem soundCall {n : Nat} (hCd : SoundCode C base w0 R n) : SoundCall C base w0 R (n + 1) := by
  intro f args st K t h ρ κ w L Q hL hh hb hz hf hd hk
  simp only [X] at h
  split at h
  · rename_i rs hct
    generalize RS.mk st.n rs = m at h
    obtain ⟨ks, res, hn⟩ := m
    cases hbn : ((st.bnd && SV.bndL st.n args) && newRows st.n hn)
    · rw [hbn] at h; cases h
    · rw [hbn] at h; simp only [cond_true] at h
      simp only [Bool.and_eq_true, St.bnd] at hbn
      obtain ⟨hbn, hnew⟩ := hbn
      split at h
      · rename_i t' ht'
        cases h
        obtain ⟨l, hfit, hcall, hd'⟩ := exD_spec _ _ hd
        have A := Agree.setL κ l st.n ρ
        cases hn with
        | cons h0 hn =>
        refine Calls.mono (hcall κ w (hh.only _) hb hz) fun e w' he => ?_
        obtain ⟨κ', hA, rfl, hbl, hh'⟩ := he
        have A2 : Agree st.n ρ (ρ.setL st.n l) κ κ' := ⟨A.i, A.b, A.v, A.a, A.nl, hA.o, hA.kb, hA.ko, hA.kc⟩
        exact hk res _ t' (ρ.setL st.n l) κ' w' ht' L hL (List.suffix_refl _) (Nat.le_add_right _ _) A2 (hh.join hz hbl A2 hbn.1.2.1 hnew hh') (hb.trans (hbl.mono hz)) (by have := hbl.size; omega) (facts_agree A2 hbn.1.2.2 hf) hd'
        | nil =>
        refine Calls.mono (hcall κ w (hh.only _) hb hz) fun e w' he => ?_
        obtain ⟨rfl, hbl⟩ := he
        refine hk res _ t' (ρ.setL st.n l) κ w' ht' L hL (List.suffix_refl _) (Nat.le_add_right _ _) A ((hh.below (fun k hk => hbl.block k hk)).agree A hbn.1.2.1) (hb.trans (hbl.mono hz)) (by have := hbl.size; omega) (facts_agree A hbn.1.2.2 hf) hd'
      · cases h
  · split at h
    · rename_i fn hfn
      split at h
      · rename_i c hc
        refine calls_of_wp hfn hc (hCd c _ _ t h ρ κ _ w L _ hL ⟨frame0_ok, rfl, hh, hb, hz, hf⟩ hd ?_)
        intro e st' t' ρ' κ' a' w' L' ht' hL' hsuf hn' hfn' hA' hs' hd'
        have fin : ∀ v, xresults C.P fn st' = some v → K v st' = some t' → a'.defers = [] ∧ ∃ u, (results fn a'.tmps).run C.P w' = .ok u w' ∧ Q u w' := fun v hv hK =>
          ⟨hs'.df, _, run_results_x hs' hv, hk v st' t' ρ' κ' w' hK L' hL' hsuf hn' hA' hs'.hp hs'.bl hs'.sz hs'.fc hd'⟩
        cases e with
        | normal =>
          simp only at ht'
          split at ht'
          · rename_i v hv; exact fin v hv ht'
          · cases ht'
        | ret =>
          simp only at ht'
          split at ht'
          · rename_i v hv; exact fin v hv ht'
          · cases ht'
        | _ => cases ht'
      · cases h
    · cases h
theorem soundLoop {n : Nat} (hL : SoundLoop C base w0 R n) (hCd : SoundCode C base w0 R n) : SoundLoop C base w0 R (n + 1) := by
  intro c st K t h ρ κ a w L Q hLn hs hd hk
  simp only [X] at h
  rw [rounds_succ]
  refine hCd c st _ t h ρ κ a w L _ hLn hs hd ?_
  intro e st' t' ρ' κ' a' w' L' ht' hL' hsuf hn' hfn' hA' hs' hd'
  cases e with
  | normal =>
    refine hL c st' K t' ht' ρ' κ' a' w' L' Q hL' hs' hd' ?_
    intro e2 st2 t2 ρ2 κ2 a2 w2 L2 h2 hL2 hsuf2 hn2 hfn2 hA2 hs2 hd2
    exact hk e2 st2 t2 ρ2 κ2 a2 w2 L2 h2 hL2 (hsuf.trans hsuf2) (by omega) (by rw [hfn2, hfn']) (hA'.trans hA2 hn') hs2 hd2
  | exit id => exact hk _ st' t' ρ' κ' a' w' L' ht' hL' hsuf hn' hfn' hA' hs' hd'
  | goto l => exact hk _ st' t' ρ' κ' a' w' L' ht' hL' hsuf hn' hfn' hA' hs' hd'
  | ret => exact hk _ st' t' ρ' κ' a' w' L' ht' hL' hsuf hn' hfn' hA' hs' hd'
  | panic ch => exact hk _ st' t' ρ' κ' a' w' L' ht' hL' hsuf hn' hfn' hA' hs' hd'
  | outgrown => exact hk _ st' t' ρ' κ' a' w' L' ht' hL' hsuf hn' hfn' hA' hs' hd'
theorem HeapOk.setEq {ρ : Env} {κ : Kap} {H : Heap} {w : World} (h : HeapOk ρ κ base H w) {id : Nat} {cs' : List SC} (he : ∀ cs ty, H.own? id = some (cs, ty) → cs'.map (SC.den ρ κ) = cs.map (SC.den ρ κ)) : HeapOk ρ κ base (H.setOwn id cs') w := by
  have old : ∀ x c t, (H.setOwn id cs').own? x = some (c, t) → ∃ c', H.own? x = some (c', t) ∧ c.map (SC.den ρ κ) = c'.map (SC.den ρ κ) := by
    intro x c t g
    rw [Heap.own?_setOwn] at g
    split at g
    · rename_i e; subst e
      obtain ⟨y, hy, hz⟩ := Option.map_eq_some_iff.1 g
      obtain ⟨c0, t0⟩ := y
      simp only [Prod.mk.injEq] at hz
      obtain ⟨rfl, rfl⟩ := hz
      exact ⟨c0, hy, he c0 t0 hy⟩
    · exact ⟨c, g, rfl⟩
  have ha : ∀ x, (H.setOwn id cs').arr? x = H.arr? x := fun x => Heap.arr?_setOwn _ _ _ _
  refine ⟨fun x c t g => ?_, fun x c t x' c' t' g g' => ?_, fun j c p o g => ?_, fun j c p o x cs ty g g' => ?_, fun j c p E g => ?_, fun j c p E j' c' p' o' g g' => ?_⟩
  · obtain ⟨c', g1, g2⟩ := old _ _ _ g
    rw [g2]; exact h.own _ _ _ g1
  · obtain ⟨_, g1, _⟩ := old _ _ _ g
    obtain ⟨_, g2, _⟩ := old _ _ _ g'
    exact h.inj _ _ _ _ _ _ g1 g2
  · rw [ha] at g; exact h.arr j c p o g
  · rw [ha] at g
    obtain ⟨_, g1, _⟩ := old _ _ _ g'
    exact h.sep j c p o x _ ty g g1
  · rw [ha] at g; exact h.row j c p E g
  · rw [ha] at g g'; exact h.rsep j c p E j' c' p' o' g g'
theorem norm_row {ρ : Env} {κ : Kap} {st : St} {a : Act} {w : World} (h : Sim base w0 ρ κ st a w) (hb : st.bnd = true) {E : TypeId} {sz : Nat} {c : SC} (hc : c.bnd st.n = true) {b : RowBase} (hx : xbase C.P st.H E sz c = some b) (hsz : 0 < sz) (h1 : b.old.bnd st.n = true) (h2 : b.nl.bnd st.n = true) :
    ∃ κ1, KBut st.n κ κ1 ∧ Agree st.n ρ ((ρ.set st.n (.l (b.old.den ρ))).set st.n (.n (b.nl.den ρ))) κ κ1 ∧ c.den ρ κ = (rowSC' st.n b.pat).den ((ρ.set st.n (.l (b.old.den ρ))).set st.n (.n (b.nl.den ρ))) κ1 ∧
      HeapOk ((ρ.set st.n (.l (b.old.den ρ))).set st.n (.n (b.nl.den ρ))) κ1 base (.arr st.n st.n b.pat (some E) :: st.H.del b.src) w := by
  have A0 : Agree st.n ρ ((ρ.set st.n (.l (b.old.den ρ))).set st.n (.n (b.nl.den ρ))) κ κ := (Agree.set ρ κ st.n _).trans (Agree.set _ κ st.n _) (Nat.le_refl _)
  have e1 : ((ρ.set st.n (.l (b.old.den ρ))).set st.n (.n (b.nl.den ρ))).a st.n = b.old.den ρ := by simp [Env.set]
  have e2 : ((ρ.set st.n (.l (b.old.den ρ))).set st.n (.n (b.nl.den ρ))).nl st.n = b.nl.den ρ := by simp [Env.set]
  generalize ((ρ.set st.n (.l (b.old.den ρ))).set st.n (.n (b.nl.den ρ))) = ρ1 at A0 e1 e2
  have hs1 := h.agree A0 hb
  obtain ⟨b1, _, b3, b4, b5⟩ := xbase_spec hs1.hp hx
  have hbb := hb
  simp only [St.bnd, Bool.and_eq_true] at hbb
  rw [← AE.agree (A0.kap kap0) b.old h1] at e1
  rw [← BE.agree A0 h2] at e2
  rw [← SC.agree A0 c hc]
  obtain ⟨κ1, k1, k2, k3⟩ := hs1.hp.newRow (w' := w) (v := c.den ρ1 κ) (v' := c.den ρ1 κ) (s := b.src) (n := st.n) (pat := b.pat) (E := E) (Heap.free_of_bnd (Nat.le_refl _) hbb.2.1) b5 (by rw [e1, b1]; exact b3) ⟨rfl, rfl, rfl, Nat.le_refl _, fun _ _ _ => rfl⟩ (by rw [e2]; exact b4) (.inl rfl) (fun e => by rw [e] at b1; simp at b1; omega)
  exact ⟨κ1, k1, A0.trans (k1.agree (Nat.le_refl _)) (Nat.le_refl _), k2, k3⟩
theorem SC.bndL_mem {n : Nat} {l : List SC} (h : SC.bndL n l = true) {i : Nat} {c : SC} (hi : l[i]? = some c) : c.bnd n = true := by
  induction l generalizing i with
  | nil => simp at hi
  | cons x l ih =>
    simp only [SC.bndL, Bool.and_eq_true] at h
    cases i with
    | zero => simp at hi; subst hi; exact h.1
    | succ i => exact ih h.2 (by simpa using hi)
theorem normT_sound : ∀ (locs : List Loc) (st : St) (K : St → Option Tree) (t : Tree) (ρ : Env) (κ : Kap) (a : Act) (w : World) (L : List LCtx), normT C.P locs st K = some t → Sim base w0 ρ κ st a w → D C base w0 R t L ρ →
    ∃ st1 t1 ρ1 κ1, K st1 = some t1 ∧ Agree st.n ρ ρ1 κ κ1 ∧ Sim base w0 ρ1 κ1 st1 a w ∧ D C base w0 R t1 L ρ1 ∧ st.n ≤ st1.n ∧ st1.d = st.d ∧ st1.fn = st.fn
  | [], st, K, t, ρ, κ, a, w, L, h, hs, hd => ⟨st, t, ρ, κ, h, Agree.refl _ _ _, hs, hd, Nat.le_refl _, rfl, rfl⟩
  | l :: r, st, K, t, ρ, κ, a, w, L, h, hs, hd => by
    unfold normT at h
    split at h
    · cases h
    · rename_i st1 hst
      have : st1 = st := by
        unfold normLoc at hst
        repeat' split at hst
        all_goals first | (cases hst; rfl) | cases hst | skip
        all_goals (rename_i b _ ; first | (cases hq : Nat.blt 0 _ <;> rw [hq] at hst <;> cases hst))
      subst this
      exact normT_sound r st1 K t ρ κ a w L h hs hd
    · rename_i ct nl st1 hst
      cases hb : (st.bnd && (ct.bnd st.n && nl.bnd st.n))
      · rw [hb] at h; cases h
      · rw [hb] at h; simp only [cond_true] at h
        simp only [Bool.and_eq_true] at hb
        obtain ⟨hb1, hb2, hb3⟩ := hb
        unfold arrT at h
        split at h
        · rename_i t1 ht1
          cases h
          simp only [D, Den] at hd
          have hbb := hb1
          simp only [St.bnd, Bool.and_eq_true] at hbb
          have key : ∃ κ1, Agree st.n ρ ((ρ.set st.n (.l (ct.den ρ))).set st.n (.n (nl.den ρ))) κ κ1 ∧ Sim base w0 ((ρ.set st.n (.l (ct.den ρ))).set st.n (.n (nl.den ρ))) κ1 st1 a w ∧ st1.n = st.n + 1 ∧ st1.d = st.d ∧ st1.fn = st.fn := by
            unfold normLoc at hst
            split at hst
            · rename_i t' E
              split at hst
              · cases hst
              · rename_i c _ hslot
                split at hst
                · rename_i sz hsz
                  split at hst
                  · rename_i b hx
                    cases hq : Nat.blt 0 sz
                    · rw [hq] at hst; cases hst
                    · rw [hq] at hst; cases hst
                      rw [slot_eq] at hslot
                      obtain ⟨κ1, k1, k2, k3, k4⟩ := norm_row (C := C) hs hb1 (c := c) (by have := SV.bndL_get hbb.1 hslot; exact this) hx (by simpa [Nat.blt_eq] using hq) hb2 hb3
                      refine ⟨κ1, k2, ⟨⟨by rw [setSlot_eq, List.length_set]; exact hs.fr.1, fun t s ht ha => ?_⟩, hs.df, k4, hs.bl, hs.sz, facts_agree k2 hbb.2.2 hs.fc⟩, rfl, rfl, rfl⟩
                      rw [setSlot_eq, List.getElem?_set] at ht
                      split at ht
                      · rename_i e; subst e
                        split at ht
                        · cases ht
                          rw [hs.fr.2 _ _ hslot rfl]
                          exact congrArg some k3
                        · cases ht
                      · exact (hs.fr.agree k2 hbb.1).2 t s ht ha
                  · cases hst
                · cases hst
              · cases hst
            · rename_i t' off E
              split at hst
              · rename_i id k hslot
                split at hst
                · rename_i cs ty ho
                  split at hst
                  · cases hst
                  · rename_i c sz _ hc hsz
                    split at hst
                    · rename_i b hx
                      cases hq : Nat.blt 0 sz
                      · rw [hq] at hst; cases hst
                      · rw [hq] at hst; cases hst
                        have hcb := SC.bndL_mem (Heap.bnd_own hbb.2.1 ho).2 hc
                        obtain ⟨κ1, k1, k2, k3, k4⟩ := norm_row (C := C) hs hb1 hcb hx (by simpa [Nat.blt_eq] using hq) hb2 hb3
                        refine ⟨κ1, k2, ⟨hs.fr.agree k2 hbb.1, hs.df, k4.setEq ?_, hs.bl, hs.sz, facts_agree k2 hbb.2.2 hs.fc⟩, rfl, rfl, rfl⟩
                        intro cs0 ty0 ho0
                        have ho1 := (Heap.del_own (s := b.src) ho0).1
                        rw [ho] at ho1; cases ho1
                        rw [← SC.agree k2 c hcb] at k3
                        apply List.ext_getElem?
                        intro i
                        simp only [List.getElem?_map, List.getElem?_set]
                        split
                        · rename_i e; subst e
                          rw [hc]
                          have : k + off < cs.length := (List.getElem?_eq_some_iff.1 hc).1
                          simp [this, k3]
                        · rfl
                    · cases hst
                  · cases hst
                · cases hst
              · cases hst
            · cases hst
          obtain ⟨κ1, A1, S1, n1, d1, f1⟩ := key
          obtain ⟨st2, t2, ρ2, κ2, g1, g2, g3, g4, g5, g6, g7⟩ := normT_sound r st1 K t1 _ κ1 a w L ht1 S1 hd
          exact ⟨st2, t2, ρ2, κ2, g1, A1.trans g2 (by omega), g3, g4, by omega, by rw [g6, d1], by rw [g7, f1]⟩
        · cases h
theorem soundCode {n : Nat} (hCd : SoundCode C base w0 R n) (hO : SoundOps C base w0 R n) (hLp : SoundLoop C base w0 R n) : SoundCode C base w0 R (n + 1) := by
  intro c st K t h ρ κ a w L Q hL hs hd hk
  have self : ∀ e, K e st = some t → Q e a w := fun e he => hk e st t ρ κ a w L he hL (List.suffix_refl _) (Nat.le_refl _) rfl (Agree.refl _ _ _) hs hd
  cases c with
  | skip => simp only [X] at h; exact wp_skip (self _ h)
  | label l => simp only [X] at h; exact wp_label (self _ h)
  | exit id => simp only [X] at h; exact wp_exit (self _ h)
  | goto l => simp only [X] at h; exact wp_goto (self _ h)
  | ret => simp only [X] at h; exact wp_ret (self _ h)
  | region id ops draw =>
    cases draw with
    | false =>
      simp only [X] at h
      refine wp_region_list (hO ops _ st _ t h ρ κ a w L Q hL hs hd ?_)
      intro st2 t2 ρ2 κ2 a2 w2 L2 h2 hL2 hsuf2 hn2 hfn2 hA2 hs2 hd2
      exact hk _ st2 t2 ρ2 κ2 a2 w2 L2 h2 hL2 hsuf2 hn2 hfn2 hA2 hs2 hd2
    | true =>
      simp only [X] at h
      refine xdraw_sound h hs hd ?_
      intro st' t' ρ' κ' a' w' hK hdd hn hfn hA hs' hd'
      exact hk _ st' t' ρ' κ' a' w' L hK (by rw [hdd]; exact hL) (List.suffix_refl _) hn hfn hA hs' hd'
  | seq x y =>
    simp only [X] at h
    refine wp_seq (hCd x st _ t h ρ κ a w L _ hL hs hd ?_)
    intro e st' t' ρ' κ' a' w' L' ht' hL' hsuf hn' hfn' hA' hs' hd'
    cases e with
    | normal =>
      refine hCd y st' K t' ht' ρ' κ' a' w' L' Q hL' hs' hd' ?_
      intro e2 st2 t2 ρ2 κ2 a2 w2 L2 h2 hL2 hsuf2 hn2 hfn2 hA2 hs2 hd2
      exact hk e2 st2 t2 ρ2 κ2 a2 w2 L2 h2 hL2 (hsuf.trans hsuf2) (by omega) (by rw [hfn2, hfn']) (hA'.trans hA2 hn') hs2 hd2
    | exit id => exact hk _ st' t' ρ' κ' a' w' L' ht' hL' hsuf hn' hfn' hA' hs' hd'
    | goto l => exact hk _ st' t' ρ' κ' a' w' L' ht' hL' hsuf hn' hfn' hA' hs' hd'
    | ret => exact hk _ st' t' ρ' κ' a' w' L' ht' hL' hsuf hn' hfn' hA' hs' hd'
    | panic ch => exact hk _ st' t' ρ' κ' a' w' L' ht' hL' hsuf hn' hfn' hA' hs' hd'
    | outgrown => exact hk _ st' t' ρ' κ' a' w' L' ht' hL' hsuf hn' hfn' hA' hs' hd'
  | cond c x y =>
    simp only [X] at h
    split at h
    · rename_i b hb
      have hev := opv_den hs.fr hb
      simp only [SV.den, SA.den, SC.den] at hev
      have hsimp := bsimp_den hs.fc b
      rw [← hsimp] at hev
      generalize bsimp st.facts b = p at h hev
      refine wp_cond hev ?_
      split at h
      · exact hCd x st K t h ρ κ a w L Q hL hs hd hk
      · exact hCd y st K t h ρ κ a w L Q hL hs hd hk
      · obtain ⟨t1, t2, h1, h2, rfl⟩ := iteT_spec h
        cases hp : p.den ρ
        · simp only [Bool.false_eq_true, if_false]
          exact hCd y _ K t2 h2 ρ κ a w L Q hL (hs.learn hp) (hd.2 hp) hk
        · simp only [if_true]
          exact hCd x _ K t1 h1 ρ κ a w L Q hL (hs.learn hp) (hd.1 hp) hk
    · cases h
  | block id b =>
    simp only [X] at h
    refine wp_block (hCd b st _ t h ρ κ a w L _ hL hs hd ?_)
    intro e st' t' ρ' κ' a' w' L' ht' hL' hsuf hn' hfn' hA' hs' hd'
    have := hk (match e with
      | .exit i => bif Nat.beq i id then .normal else .exit i
      | e => e) st' t' ρ' κ' a' w' L' (by cases e <;> exact ht') hL' hsuf hn' hfn' hA' hs' hd'
    cases e with
    | exit i =>
      simp only [Exit.inBlock]
      simp only at this
      cases hq : Nat.beq i id
      · rw [hq] at this
        have hne : ¬ i = id := fun e => by subst e; simp at hq
        rw [if_neg hne]; exact this
      · rw [hq] at this
        rw [Nat.beq_eq] at hq
        rw [if_pos hq]; exact this
    | _ => exact this
  | scope b =>
    simp only [X] at h
    refine wp_scope_straight (hCd b st _ t h ρ κ a w L _ hL hs hd ?_)
    intro e st' t' ρ' κ' a' w' L' ht' hL' hsuf hn' hfn' hA' hs' hd'
    cases e with
    | goto l => cases ht'
    | _ => exact hk _ st' t' ρ' κ' a' w' L' ht' hL' hsuf hn' hfn' hA' hs' hd'
  | loop b =>
    simp only [X] at h
    split at h
    · exact wp_loop_rounds n (hLp b st K t h ρ κ a w L Q hL hs hd hk)
    · rename_i locs _
      obtain ⟨st1, t1, ρ1, κ1, h, A1, hs1, hd1, n1, d1, f1⟩ := normT_sound (C := C) (base := base) (w0 := w0) (R := R) locs st _ t ρ κ a w L h hs hd
      have hk1 : KOk C base w0 R st1 ρ1 κ1 L K Q := fun e st' t' ρ' κ' a' w' L' g1 g2 g3 g4 g5 g6 g7 g8 => hk e st' t' ρ' κ' a' w' L' g1 g2 g3 (by omega) (by rw [g5, f1]) (A1.trans g6 n1) g7 g8
      have hL1 : L.length = st1.d := by rw [d1]; exact hL
      clear hk self hs hd hL
      revert h hs1 hd1 hk1 hL1
      generalize st1 = st, t1 = t, ρ1 = ρ, κ1 = κ
      intro h hs hd hk hL
      split at h
      · rename_i head ks hhead
        have hheadn : head.n = st.n + ks.length ∧ head.facts = st.facts ∧ head.d = st.d + 1 ∧ head.fn = st.fn := by
          unfold headOf at hhead
          split at hhead
          · cases hhead; exact ⟨rfl, rfl, rfl, rfl⟩
          · cases hhead
        obtain ⟨e1, e2, e3, e4⟩ := hheadn
        split at h
        · rename_i init body hinit hbody
          cases h
          cases hbf : BE.bndL st.n st.facts
          · rw [hbf] at hbody; cases hbody
          · rw [hbf] at hbody; simp only [cond_true] at hbody
            obtain ⟨I, μ, hI, hall⟩ := hd
            have hbf' : BE.bndL st.n head.facts = true := by rw [e2]; exact hbf
            have hf' : ∀ p ∈ head.facts, p.den ρ = true := by rw [e2]; exact hs.fc
            obtain ⟨f0, κ0, A0, s0⟩ := lcheck_sim (Agree.refl st.n ρ κ) hinit hs hbf' hf'
            refine wp_loop_ghost (fun m a w => ∃ l κ', fitsL ks l = true ∧ I l ∧ μ l = m ∧ Agree st.n ρ (ρ.setL st.n l) κ κ' ∧ Sim base w0 (ρ.setL st.n l) κ' head a w) (μ (init.map (LV.eval ρ)))
              ⟨_, κ0, f0, hI, rfl, A0, s0⟩ ?_
            intro m a1 w1 ⟨l, κ1, hfit, hIl, hml, hA1, hs1⟩
            have hdb := allD_spec ks _ hall l hfit hIl
            refine hCd b head _ body hbody (ρ.setL st.n l) κ1 a1 w1 (⟨I, μ, μ l⟩ :: L) _ (by rw [e3, List.length_cons, hL]) hs1 hdb ?_
            intro e st' t' ρ' κ' a' w' L' ht' hL' hsuf hn' hfn' hA' hs' hd'
            have hA2 : Agree st.n ρ ρ' κ κ' := hA1.trans hA' (by omega)
            have other : ∀ e, K e st' = some t' → Q e a' w' := fun e he =>
              hk e st' t' ρ' κ' a' w' L' he hL' ((List.suffix_cons _ _).trans hsuf) (by omega) (by rw [hfn', e4]) hA2 hs' hd'
            cases e with
            | normal =>
              simp only at ht'
              obtain ⟨st2, t2, ρ2, κ2, ht2, A2, hs2, hd2, n2, d2, f2⟩ := normT_sound (C := C) (base := base) (w0 := w0) (R := R) locs st' _ t' ρ' κ' a' w' L' ht' hs' hd'
              split at ht2
              · rename_i vals hvals
                cases ht2
                have hA3 : Agree st.n ρ ρ2 κ κ2 := hA2.trans A2 (by omega)
                obtain ⟨f3, κ3, A3, s3⟩ := lcheck_sim hA3 hvals hs2 hbf' hf'
                obtain ⟨pre, hpre⟩ := hsuf
                have hidx : L'[st2.d - head.d]? = some ⟨I, μ, μ l⟩ := by
                  have hlen : pre.length = st2.d - head.d := by
                    rw [d2, ← hL', ← hpre, e3, ← hL]; simp
                  rw [← hpre, ← hlen]; simp
                simp only [D, Den, hidx] at hd2
                exact ⟨_, by rw [← hml]; exact hd2.2, _, κ3, f3, hd2.1, rfl, A3, s3⟩
              · cases ht2
            | exit id => exact other _ ht'
            | goto l => exact other _ ht'
            | ret => exact other _ ht'
            | panic ch => exact other _ ht'
            | outgrown => exact other _ ht'
        · cases h
      · cases h
  | _ => simp only [X] at h; cases h
theorem sound (n : Nat) : SoundCode C base w0 R n ∧ SoundLoop C base w0 R n ∧ SoundOps C base w0 R n ∧ SoundRun C base w0 R n ∧ SoundCall C base w0 R n := by
  induction n with
  | zero => exact ⟨fun _ _ _ _ h => (by cases h), fun _ _ _ _ h => (by cases h), fun _ _ _ _ _ h => (by cases h), fun _ _ _ _ _ h => (by cases h), fun _ _ _ _ _ h => (by cases h)⟩
  | succ n ih =>
    obtain ⟨h1, h2, h3, h4, h5⟩ := ih
    exact ⟨soundCode h1 h3 h2, soundLoop h2 h1, soundOps h3 h4, soundRun h5, soundCall h1⟩
end
/-- THE CALL of a function: the walk's tree, and what it says. -/
def callTree (C : Cfg) (fuel : Nat) (f : FuncId) (args : List SV) (H : Heap) (n : Nat) : Option Tree :=
  match C.P.funcs[f]? with
  | some fn => match fn.body with
    | some c => X C fuel (.code c { sl := frame0 fn args, H := H, n := n, facts := [], d := 0, fn := f } fun e st' => match e with
      | .normal | .ret => match xresults C.P fn st' with
        | some v => some (.done v (st'.H.near [v]))
        | none => none
      | _ => none)
    | none => none
  | none => none
theorem calls_of_tree {C : Cfg} {fuel : Nat} {f : FuncId} {args : List SV} {H : Heap} {n : Nat} {t : Tree} (h : callTree C fuel f args H n = some t) {ρ : Env} {κ : Kap} {w : World} {R : Value → World → Prop}
    (hH : HeapOk ρ κ w.heap.size H w) (hd : Den C.P w.heap.size w R t [] ρ) :
    Calls C.P f (args.map (SV.den ρ κ)).toArray w fun e w' => ∃ v, e = .returned v ∧ R v w' ∧ Below w.heap.size w w' := by
  unfold callTree at h
  split at h
  · rename_i fn hfn
    split at h
    · rename_i c hc
      refine calls_of_wp hfn hc ((sound (C := C) (base := w.heap.size) (w0 := w) (R := R) fuel).1 c _ _ t h ρ κ _ w [] _ rfl ⟨frame0_ok, rfl, hH, Below.refl _ _, Nat.le_refl _, fun p hp => by cases hp⟩ hd ?_)
      intro e st' t' ρ' κ' a' w' L' ht' hL' hsuf hn' hfn' hA' hs' hd'
      have fin : ∀ v, xresults C.P fn st' = some v → t' = .done v (st'.H.near [v]) → a'.defers = [] ∧ ∃ u, (results fn a'.tmps).run C.P w' = .ok u w' ∧ ∃ v, (Ending.returned u) = .returned v ∧ R v w' ∧ Below w.heap.size w w' := by
        intro v hv ht
        subst ht
        exact ⟨hs'.df, _, run_results_x hs' hv, _, rfl, hd' κ' w' (hs'.hp.only _) hs'.bl, hs'.bl⟩
      cases e with
      | normal =>
        simp only at ht'
        split at ht'
        · rename_i v hv; cases ht'; exact fin v hv rfl
        · cases ht'
      | ret =>
        simp only at ht'
        split at ht'
        · rename_i v hv; cases ht'; exact fin v hv rfl
        · cases ht'
      | _ => cases ht'
    · cases h
  · cases h
end Go.SX
