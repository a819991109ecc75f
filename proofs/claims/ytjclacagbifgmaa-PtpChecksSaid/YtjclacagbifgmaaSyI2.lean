/- SyI2: the rules of the walk, in frames of functions and of rounds. -/
import Derived.Test.YtjclacagbifgmaaSyI1
import Derived.OrdersIn
import Derived.LoopNIn
import Derived.Sort.LoopGhostIn
import Derived.RangeFuncLeaves
import Derived.RangeFuncNested
set_option linter.unusedSimpArgs false
set_option linter.unusedVariables false
set_option linter.unusedSectionVars false
noncomputable section
namespace Go.SX
open Go Go.RowKit

/-- every function is let in; the frame is a round's, or none's -/
def Wd (r : Option Nat) : Fence := { fn := fun _ => True, depth := none, alive := false, round := r }
theorem Wd_room (r : Option Nat) (n : Nat) : (Wd r).room n := fun _ h => by simp [Wd] at h
theorem callsIn_wd {r : Option Nat} {n : Nat} {P : Program} {f : FuncId} {args : Array Value} {w : World} {R : Ending → World → Prop} : CallsIn (Wd r) n P f args w R ↔ Calls P f args w R :=
  callsIn_wide (n := n) (P := P) (f := f) (args := args) (w := w) (R := R)
abbrev wpC (P : Program) (r : Option Nat) (c : Code) (Q : Exit → Act → World → Prop) (a : Act) (w : World) : Prop := c.wpIn (Wd r) 0 P Q a w
abbrev wpO (P : Program) (r : Option Nat) (o : Oper) (a : Act) (w : World) (K : Act → World → Prop) (Q : Exit → Act → World → Prop) : Prop := o.wpIn (Wd r) 0 P a w K Q
section
variable {P : Program} {r : Option Nat} {o : Oper} {a : Act} {w w' : World} {K : Act → World → Prop} {Q : Exit → Act → World → Prop}
theorem wpO_of (hd : ∀ c, o.op ≠ .defer c) (h : o.uponIn (Wd r) 0 P a K Q ((execOp a.eval o).run P w)) : wpO P r o a w K Q := by
  refine ⟨fun _ _ => trivial, ?_⟩
  rw [Oper.semAt_eq _ _ _ hd]; exact h
theorem wpO_value (hd : ∀ c, o.op ≠ .defer c) {u : Value} (h : (execOp a.eval o).run P w = .ok (.value u) w') (hK : K (a.put o.dst u) w') : wpO P r o a w K Q := wpO_of hd (by rw [h]; exact hK)
theorem wpO_skip (hd : ∀ c, o.op ≠ .defer c) (h : (execOp a.eval o).run P w = .ok .skip w') (hK : K (a.put o.dst undef) w') : wpO P r o a w K Q := wpO_of hd (by rw [h]; exact hK)
theorem wpO_enter (hd : ∀ c, o.op ≠ .defer c) {f : FuncId} {args : Array Value} (h : (execOp a.eval o).run P w = .ok (.enter f args) w') (hc : Calls P f args w' fun e w'' => match e with
    | .returned v => K (a.put o.dst v) w''
    | _ => False) : wpO P r o a w K Q := wpO_of hd (by
  rw [h]
  refine ⟨fun hx => by simp [Wd] at hx, callsIn_wd.2 (hc.mono fun e w'' he => ?_)⟩
  cases e <;> first | exact he | exact he.elim)
theorem wpO_round (hd : ∀ c, o.op ≠ .defer c) {l f : Nat} {tmps : Array Value} {assign body : Code} (h : (execOp a.eval o).run P w = .ok (.round l f tmps assign body) w') (hc : RoundIn (Wd r) 0 P l f tmps assign body w' fun e w'' => match e with
    | .returned v => K (a.put o.dst v) w''
    | _ => False) : wpO P r o a w K Q := wpO_of hd (by
  rw [h]
  refine ⟨fun hx => by simp [Wd] at hx, hc.mono fun e w'' he => ?_⟩
  cases e <;> first | exact he | exact he.elim)

/-! ### a region in the order of the text -/
def wpL (P : Program) (r : Option Nat) (ops : Array Oper) (Q : Exit → Act → World → Prop) : List Oper → Act → World → Prop
  | [], a, w => Q .normal a w
  | o :: rest, a, w => if Region.wanted o (yielded ops a.tmps) then wpO P r o a w (wpL P r ops Q rest) Q else wpL P r ops Q rest (a.put o.dst undef) w
theorem wpOpsIn_of_wpL {ops : Array Oper} (l : List Oper) : ∀ k, (∀ j, l[j]? = ops[k + j]?) → ∀ a w, wpL P r ops Q l a w → wpOpsIn (Wd r) 0 P ops Q (List.range' k l.length) a w := by
  induction l with
  | nil => intro k _ a w h; simpa [wpOpsIn, wpL] using h
  | cons o l ih =>
    intro k h a w hh
    have h0 : ops[k]? = some o := by simpa using (h 0).symm
    have ih' := ih (k + 1) (fun j => by have := h (j + 1); simpa [Nat.add_assoc, Nat.add_comm 1 j] using this)
    simp only [List.length_cons, List.range'_succ, wpOpsIn, h0]
    simp only [wpL] at hh
    split
    · rename_i hw; rw [if_pos hw] at hh; exact Oper.wpIn_mono (fun a w => ih' a w) hh
    · rename_i hw; rw [if_neg hw] at hh; exact ⟨fun _ _ => trivial, ih' _ _ hh⟩
theorem wpC_region {id : Nat} {ops : Array Oper} (h : wpL P r ops Q ops.toList a w) : wpC P r (.region id ops false) Q a w := by
  refine wpIn_region ?_
  rw [List.range_eq_range', ← Array.length_toList]
  exact wpOpsIn_of_wpL ops.toList 0 (by simp) a w h
theorem wpL_step {ops : Array Oper} {rest : List Oper} (h : ∀ K : Act → World → Prop, (∀ a w, wpL P r ops Q rest a w → K a w) → if Region.wanted o (yielded ops a.tmps) then wpO P r o a w K Q else K (a.put o.dst undef) w) : wpL P r ops Q (o :: rest) a w := by
  have := h _ (fun _ _ h => h)
  unfold wpL
  exact this
theorem stepR_scope {b : Frame} {k : List Item} {cs : List Frame} {c : Code} : step P (lone (b.atR a (.code (.scope c) :: k)) cs w) = .next (lone (b.atR a (.code c :: .inScope c :: k)) cs w) :=
  step_lone_go (by simp [stepG, stepG.exec, Frame.atR])
theorem stepR_inScope {b : Frame} {k : List Item} {cs : List Frame} {c : Code} : step P (lone (b.atR a (.inScope c :: k)) cs w) = .next (lone (b.atR a k) cs w) :=
  step_lone_go (by simp [stepG, stepG.exec, Frame.atR])
theorem wpC_scope {c : Code} (h : wpC P r c (Exit.noGoto Q) a w) : wpC P r (.scope c) Q a w := by
  intro b k cs hro hb hr
  have h0 : (lone (b.atR a (.code (.scope c) :: k)) cs w).fenced P (Wd r) := fenced_calm hb hr rfl
  obtain ⟨e, a₁, w₁, hq, harr⟩ := h b (.inScope c :: k) cs hro hb hr
  cases e with
  | normal => exact ⟨.normal, a₁, w₁, hq, .head h0 stepR_scope (StepsIn.trans harr (.one (fenced_calm hb hr rfl) stepR_inScope))⟩
  | exit id =>
    refine ⟨.exit id, a₁, w₁, hq, fun k' hk => .head h0 stepR_scope (harr.1 k' (by simp [exitTo, hk])), fun hx hk => ?_⟩
    obtain ⟨k₁, h1, h2⟩ := harr.2 hx (by simp [exitTo, hk])
    exact ⟨k₁, h1, .head h0 stepR_scope h2⟩
  | goto l => exact hq.elim
  | ret => exact ⟨_, a₁, w₁, hq, .of_steps (.one h0 stepR_scope) harr⟩
  | panic ch => exact ⟨_, a₁, w₁, hq, .of_steps (.one h0 stepR_scope) harr⟩
  | outgrown => exact ⟨_, a₁, w₁, hq, .of_steps (.one h0 stepR_scope) harr⟩
end
/-- the marks of loops over functions, at a function's end -/
theorem leaves_marks {P : Program} {fn : Func} {tmps : Array Value} {R : Ending → World → Prop} : ∀ (Ds : List Nat) (w : World), Ds.Nodup → (∀ D ∈ Ds, w.heap[D]? = some (.deferred (some []))) →
    (∀ w', w'.heap.size = w.heap.size → w'.os = w.os → w'.tape = w.tape → w'.output = w.output → (∀ k, k ∉ Ds → w'.heap[k]? = w.heap[k]?) → ∃ v, (results fn tmps).run P w' = .ok v w' ∧ R (.returned v) w') → LeavesInM (Wd none) 0 P fn tmps R (Ds.map markOf) .returning w
  | [], w, _, _, h => h w rfl rfl rfl rfl fun _ _ => rfl
  | D :: Ds, w, hn, hD, h => by
    obtain ⟨hn1, hn2⟩ := List.nodup_cons.1 hn
    have h0 := hD D (List.mem_cons_self ..)
    refine ⟨by simp, .inl ⟨D, w.putObj D (.deferred none), rfl, run_takeDeferred h0, ?_⟩⟩
    refine leaves_marks Ds _ hn2 (fun D' hD' => ?_) fun w' e1 e2 e3 e4 e5 => ?_
    · rw [World.putObj_heap_other (fun e : D' = D => hn1 (e ▸ hD'))]; exact hD D' (List.mem_cons_of_mem _ hD')
    · refine h w' (by rw [e1]; simp [World.putObj]) e2 e3 e4 fun k hk => ?_
      rw [e5 k (fun hm => hk (List.mem_cons_of_mem _ hm))]
      exact World.putObj_heap_other (fun e : k = D => hk (e ▸ List.mem_cons_self ..))
theorem Den.rebase {P : Program} {B B' : Bk} {w0 w1 : World} (hl : B.Le B') (hk : Kept B w0 w1) : ∀ (t : T) (L : List LCtx) (ρ : Env) {Φ : Lf → List LCtx → Env → Prop}, Den P B w0 t L ρ Φ → Den P B' w1 t L ρ Φ
  | .leaf l, L, ρ, _, h => h
  | .ite c t e, L, ρ, _, h => ⟨fun hc => Den.rebase hl hk t L ρ (h.1 hc), fun hc => Den.rebase hl hk e L ρ (h.2 hc)⟩
  | .need ps t, L, ρ, _, h => ⟨h.1, Den.rebase hl hk t L ρ h.2⟩
  | .call f args H n vks res Hn t, L, ρ, _, h => exD_mono vks (fun l ⟨h1, h2⟩ => ⟨by
      cases Hn with
      | nil => exact fun κ w hh hb hz => h1 κ w (hh.le hl) (hk.trans (hb.le hl)) (Nat.le_trans hl.top hz)
      | cons e Hn => exact fun κ w hh hb hz => h1 κ w (hh.le hl) (hk.trans (hb.le hl)) (Nat.le_trans hl.top hz), Den.rebase hl hk t L _ h2⟩) h
  | .loop vks n init body, L, ρ, _, ⟨I, μ, h1, h2⟩ => ⟨I, μ, h1, allD_mono vks (fun l g hI => Den.rebase hl hk body _ _ (g hI)) h2⟩
  | .cont k vals, L, ρ, _, h => h
  | .arr n ct nl t, L, ρ, _, h => Den.rebase hl hk t L _ h
  | .dead, _, _, _, h => h
end Go.SX
