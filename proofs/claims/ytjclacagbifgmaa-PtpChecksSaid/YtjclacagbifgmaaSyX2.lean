/- SyX2: what is asked of a walk's tree, task by task; steps of states. -/
import Derived.Test.YtjclacagbifgmaaSyX1
set_option linter.unusedSimpArgs false
set_option linter.unusedVariables false
set_option linter.unusedSectionVars false
noncomputable section
namespace Go.SX
open Go Go.RowKit

theorem Agree.symm {n : Nat} {ρ ρ' : Env} {κ κ' : Kap} (h : Agree n ρ ρ' κ κ') : Agree n ρ' ρ κ' κ :=
  ⟨fun j hj => (h.i j hj).symm, fun j hj => (h.b j hj).symm, fun j hj => (h.v j hj).symm, fun j hj => (h.a j hj).symm, fun j hj => (h.nl j hj).symm, fun j hj => (h.o j hj).symm, fun j hj => (h.kb j hj).symm, fun j hj => (h.ko j hj).symm, fun j hj => (h.kc j hj).symm⟩
/-- only the data: the places stay -/
theorem Agree.kap {n : Nat} {ρ ρ' : Env} {κ κ' : Kap} (h : Agree n ρ ρ' κ κ') (κ2 : Kap) : Agree n ρ ρ' κ2 κ2 := ⟨h.i, h.b, h.v, h.a, h.nl, fun _ _ => rfl, fun _ _ => rfl, fun _ _ => rfl, fun _ _ => rfl⟩
/-- how a state came of another -/
structure Aft (st : St) (ρ : Env) (κ : Kap) (L : List LCtx) (s : St) (ρ' : Env) (κ' : Kap) (L' : List LCtx) : Prop where
  len : L'.length = s.d
  suf : L <:+ L'
  n : st.n ≤ s.n
  fn : s.fn = st.fn
  rnd : s.rnd = st.rnd
  A : Agree st.n ρ ρ' κ κ'
theorem Aft.refl {st : St} {ρ : Env} {κ : Kap} {L : List LCtx} (h : L.length = st.d) : Aft st ρ κ L st ρ κ L := ⟨h, List.suffix_refl _, Nat.le_refl _, rfl, rfl, Agree.refl _ _ _⟩
theorem Aft.trans {st s s' : St} {ρ ρ' ρ'' : Env} {κ κ' κ'' : Kap} {L L' L'' : List LCtx} (h : Aft st ρ κ L s ρ' κ' L') (h' : Aft s ρ' κ' L' s' ρ'' κ'' L'') : Aft st ρ κ L s' ρ'' κ'' L'' :=
  ⟨h'.len, h.suf.trans h'.suf, Nat.le_trans h.n h'.n, h'.fn.trans h.fn, h'.rnd.trans h.rnd, h.A.trans h'.A h.n⟩
/-- states that have the same names, functions and depths -/
theorem Aft.to {st s s' : St} {ρ ρ' : Env} {κ κ' : Kap} {L L' : List LCtx} (h : Aft st ρ κ L s ρ' κ' L') (h1 : s'.d = s.d) (h2 : s.n ≤ s'.n) (h3 : s'.fn = s.fn) (h4 : s'.rnd = s.rnd) : Aft st ρ κ L s' ρ' κ' L' :=
  ⟨h.len.trans h1.symm, h.suf, Nat.le_trans h.n h2, h3.trans h.fn, h4.trans h.rnd, h.A⟩
theorem Aft.of {st st' s : St} {ρ ρ' : Env} {κ κ' : Kap} {L L' : List LCtx} (h : Aft st' ρ κ L s ρ' κ' L') (h2 : st.n = st'.n) (h3 : st'.fn = st.fn) (h4 : st'.rnd = st.rnd) : Aft st ρ κ L s ρ' κ' L' :=
  ⟨h.len, h.suf, by rw [h2]; exact h.n, h.fn.trans h3, h.rnd.trans h4, by rw [h2]; exact h.A⟩
theorem Aft.round {st s : St} {ρ ρ' : Env} {κ κ' : Kap} {L L' : List LCtx} (h : Aft st ρ κ L s ρ' κ' L') (hr : ∀ l, st.rnd = some l → l < st.n) : s.rnd.map κ'.o = st.rnd.map κ.o := by
  rw [h.rnd]
  cases hl : st.rnd with
  | none => rfl
  | some l => simp only [Option.map_some, h.A.o l (hr l hl)]
section
variable (C : Cfg)
abbrev Lc := List LCtx
def SoundCode (n : Nat) : Prop := ∀ c p st t, X C n (.code c p st) = some t → placeOf C.P st.fn p = some c → ∀ (base : Bk) (w0 : World) (ρ : Env) (κ : Kap) (a : Act) (w : World) (L : Lc) (Φ : Lf → Lc → Env → Prop) (Q : Exit → Act → World → Prop),
  base.P = C.P → L.length = st.d → Sim base w0 ρ κ st a w → Den C.P base w0 t L ρ Φ → (∀ l L' ρ' κ' a' w', Φ l L' ρ' → Aft st ρ κ L l.st ρ' κ' L' → Sim base w0 ρ' κ' l.st a' w' → Q l.e a' w') → wpC C.P (st.rnd.map κ.o) c Q a w
def SoundLoop (n : Nat) : Prop := ∀ c p st t, X C n (.loopU c p st) = some t → placeOf C.P st.fn p = some c → ∀ (base : Bk) (w0 : World) (ρ : Env) (κ : Kap) (a : Act) (w : World) (L : Lc) (Φ : Lf → Lc → Env → Prop) (Q : Exit → Act → World → Prop),
  base.P = C.P → L.length = st.d → Sim base w0 ρ κ st a w → Den C.P base w0 t L ρ Φ → (∀ l L' ρ' κ' a' w', Φ l L' ρ' → Aft st ρ κ L l.st ρ' κ' L' → Sim base w0 ρ' κ' l.st a' w' → Q l.e a' w') → Code.roundsIn (Wd (st.rnd.map κ.o)) 0 C.P c Q n a w
def SoundOps (n : Nat) : Prop := ∀ (ops : Array Oper) rest st t, X C n (.ops rest ops.toList st) = some t → ∀ (base : Bk) (w0 : World) (ρ : Env) (κ : Kap) (a : Act) (w : World) (L : Lc) (Φ : Lf → Lc → Env → Prop) (Q : Exit → Act → World → Prop),
  base.P = C.P → L.length = st.d → Sim base w0 ρ κ st a w → Den C.P base w0 t L ρ Φ → (∀ l L' ρ' κ' a' w', Φ l L' ρ' → Aft st ρ κ L l.st ρ' κ' L' → Sim base w0 ρ' κ' l.st a' w' → Q l.e a' w') → wpL C.P (st.rnd.map κ.o) ops Q rest a w
/-- what is done behind an operation -/
def PostV (base : Bk) (w0 : World) (st : St) (ρ : Env) (κ : Kap) (L : Lc) (a : Act) (Φ : Lf → Lc → Env → Prop) (R : Value → World → Prop) : Prop :=
  ∀ l L' ρ' κ' w', Φ l L' ρ' → Aft st ρ κ L l.st ρ' κ' L' → l.st.sl = st.sl → Sim base w0 ρ' κ' l.st a w' → R (l.v.den ρ' κ') w'
def SoundRun (n : Nat) : Prop := ∀ (ops : Array Oper) o st t, X C n (.run ops.toList o st) = some t → ∀ (base : Bk) (w0 : World) (ρ : Env) (κ : Kap) (a : Act) (w : World) (L : Lc) (Φ : Lf → Lc → Env → Prop) (K : Act → World → Prop) (Q : Exit → Act → World → Prop),
  base.P = C.P → L.length = st.d → Sim base w0 ρ κ st a w → Den C.P base w0 t L ρ Φ → PostV base w0 st ρ κ L a Φ (fun v w' => K (a.put o.dst v) w') → if Region.wanted o (yielded ops a.tmps) then wpO C.P (st.rnd.map κ.o) o a w K Q else K (a.put o.dst undef) w
def SoundOp (n : Nat) : Prop := ∀ (o : Oper) st t, X C n (.op o st) = some t → ∀ (base : Bk) (w0 : World) (ρ : Env) (κ : Kap) (a : Act) (w : World) (L : Lc) (Φ : Lf → Lc → Env → Prop) (K : Act → World → Prop) (Q : Exit → Act → World → Prop),
  base.P = C.P → L.length = st.d → Sim base w0 ρ κ st a w → Den C.P base w0 t L ρ Φ → PostV base w0 st ρ κ L a Φ (fun v w' => K (a.put o.dst v) w') → wpO C.P (st.rnd.map κ.o) o a w K Q
def SoundFork (n : Nat) : Prop := ∀ (o : Oper) st e k m t, X C n (.fork o st e k m) = some t → ∀ (base : Bk) (w0 : World) (ρ : Env) (κ : Kap) (a : Act) (w : World) (L : Lc) (Φ : Lf → Lc → Env → Prop) (K : Act → World → Prop) (Q : Exit → Act → World → Prop),
  base.P = C.P → L.length = st.d → Sim base w0 ρ κ st a w → Den C.P base w0 t L ρ Φ → PostV base w0 st ρ κ L a Φ (fun v w' => K (a.put o.dst v) w') → wpO C.P (st.rnd.map κ.o) o a w K Q
def SoundCall (n : Nat) : Prop := ∀ f args st t, X C n (.call f args st) = some t → ∀ (base : Bk) (w0 : World) (ρ : Env) (κ : Kap) (a : Act) (w : World) (L : Lc) (Φ : Lf → Lc → Env → Prop) (R : Value → World → Prop),
  base.P = C.P → L.length = st.d → Sim base w0 ρ κ st a w → Den C.P base w0 t L ρ Φ → PostV base w0 st ρ κ L a Φ R → Calls C.P f (args.map (SV.den ρ κ)).toArray w fun e w' => ∃ v, e = .returned v ∧ R v w'
def SoundYld (n : Nat) : Prop := ∀ l args st t, X C n (.yld l args st) = some t → ∀ (base : Bk) (w0 : World) (ρ : Env) (κ : Kap) (a : Act) (w : World) (L : Lc) (Φ : Lf → Lc → Env → Prop) (R : Value → World → Prop),
  base.P = C.P → L.length = st.d → Sim base w0 ρ κ st a w → Den C.P base w0 t L ρ Φ → PostV base w0 st ρ κ L a Φ R → ∀ b : Loop, w.heap[κ.o l]? = some (.loop b) → args.length = b.params.size ∧
    RoundIn (Wd (st.rnd.map κ.o)) 0 C.P (κ.o l) b.fn ((b.params.zip (args.map (SV.den ρ κ)).toArray).foldl (fun tmps (t, a) => tmps.setIfInBounds t a) b.tmps) b.assign b.body w fun e w' => ∃ v, e = .returned v ∧ R v w'
end
/-! ### steps of states -/
section
variable {base : Bk} {w0 : World} {ρ ρ' : Env} {κ κ' : Kap} {st : St} {a : Act} {w w' : World}
theorem Sim.rb (h : Sim base w0 ρ κ st a w) : ∀ l, st.rnd = some l → l < st.n := by obtain ⟨_, h⟩ := h; exact h.rb
theorem Sim.fc (h : Sim base w0 ρ κ st a w) : ∀ p ∈ st.facts, p.den ρ = true := by obtain ⟨_, h⟩ := h; exact h.fc
theorem Sim.fr (h : Sim base w0 ρ κ st a w) : FrameOk ρ κ st.sl a := by obtain ⟨_, h⟩ := h; exact h.fr
theorem Sim.learn (h : Sim base w0 ρ κ st a w) {c : BE} {v : Bool} (hc : c.den ρ = v) : Sim base w0 ρ κ (st.learn c v) a w := by
  obtain ⟨Ds, h⟩ := h
  exact ⟨Ds, h.fr, h.df, h.dn, h.db, h.sz, h.hp, h.bl, learn_den c st.facts v h.fc hc, h.rb⟩
theorem Sim.learns (h : Sim base w0 ρ κ st a w) {q : List BE} (hq : ∀ p ∈ q, p.den ρ = true) : Sim base w0 ρ κ (st.learns q) a w := by
  obtain ⟨Ds, h⟩ := h
  exact ⟨Ds, h.fr, h.df, h.dn, h.db, h.sz, h.hp, h.bl, learns_den q st.facts h.fc hq, h.rb⟩
theorem St.put_n (st : St) (d : Option Nat) (v : SV) : (st.put d v).n = st.n := by cases d <;> rfl
theorem St.put_d (st : St) (d : Option Nat) (v : SV) : (st.put d v).d = st.d := by cases d <;> rfl
theorem St.put_fn (st : St) (d : Option Nat) (v : SV) : (st.put d v).fn = st.fn := by cases d <;> rfl
theorem St.put_rnd (st : St) (d : Option Nat) (v : SV) : (st.put d v).rnd = st.rnd := by cases d <;> rfl
/-- the base that protects the frame's own deferred blocks -/
theorem SimD.step {Ds : List Nat} (h : SimD base w0 Ds ρ κ st a w) {st' : St} (hfr : FrameOk ρ' κ' st'.sl a) (hk : Kept (base.plus Ds w.heap.size h.sz fun D hD => (h.db D hD).1) w w')
    (hp : HeapOk ρ' κ' (base.plus Ds w.heap.size h.sz fun D hD => (h.db D hD).1) st'.H w') (hf : ∀ p ∈ st'.facts, p.den ρ' = true) (hr : ∀ l, st'.rnd = some l → l < st'.n) : SimD base w0 Ds ρ' κ' st' a w' := by
  have hz := hk.size
  have hle : base.Le (base.plus Ds w.heap.size h.sz fun D hD => (h.db D hD).1) := Bk.Le.plus ..
  have hdb : ∀ D ∈ Ds, D < w'.heap.size ∧ base.b ≤ D ∧ ¬ base.keep D ∧ w'.heap[D]? = some (.deferred (some [])) := fun D hD => by
    obtain ⟨k1, k2, k3, k4⟩ := h.db D hD
    exact ⟨Nat.lt_of_lt_of_le k1 hz, k2, k3, by rw [hk.kp D k1 (.inr hD)]; exact k4⟩
  exact ⟨hfr, h.df, h.dn, hdb, Nat.le_trans h.sz hz, hp.up rfl rfl fun k _ hk => hk, h.bl.trans (hk.le hle), hf, hr⟩
end
end Go.SX
