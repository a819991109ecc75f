/- SxU: how a walk's tree is used. -/
import Derived.Test.YthigggddccklpaaSxL
set_option linter.unusedSimpArgs false
set_option linter.unusedVariables false
set_option linter.unusedSectionVars false
namespace Go.SX
open Go Go.RowKit

instance : Inhabited Kap := ⟨kap0⟩
instance : Nonempty Kap := ⟨kap0⟩
instance : Inhabited Dat := ⟨.i 0⟩
def Dat.rows : Dat → List (List Dat)
  | .l x => x
  | _ => []
def Dat.isNil : Dat → Bool
  | .n x => x
  | _ => false
/-- the data of a call, by a list -/
def mkEnv (l : List Dat) : Env where
  i j := (l.getD j (.i 0)).int
  b j := (l.getD j (.i 0)).bool
  v j := (l.getD j (.i 0)).val
  a j := (l.getD j (.i 0)).rows
  nl j := (l.getD j (.i 0)).isNil
  one _ := Dat.val_one _
theorem heapOk_nil (ρ : Env) (κ : Kap) (base : Nat) (w : World) : HeapOk ρ κ base [] w :=
  ⟨fun _ _ _ h => (by cases h), fun _ _ _ _ _ _ h => (by cases h), fun _ _ _ _ h => (by cases h), fun _ _ _ _ _ _ _ h => (by cases h), fun _ _ _ _ h => (by cases h), fun _ _ _ _ _ _ _ _ h => (by cases h)⟩
/-- a call that returns this, in every world, and turns nothing that was there -/
def Ret (P : Program) (f : FuncId) (args : Array Value) (res : Value) : Prop := ∀ w, Calls P f args w fun e w' => e = .returned res ∧ Below w.heap.size w w'
theorem ret_of_tree {C : Cfg} {fuel : Nat} {f : FuncId} {args : List SV} {n : Nat} {t : Tree} (h : callTree C fuel f args [] n = some t) (ρ : Env) {res : Value}
    (hd : ∀ w : World, Den C.P w.heap.size w (fun v _ => v = res) t [] ρ) : Ret C.P f (args.map (SV.den ρ kap0)).toArray res := fun w =>
  (calls_of_tree h (heapOk_nil ρ kap0 _ w) (hd w)).mono fun e w' ⟨v, h1, h2, h3⟩ => ⟨by rw [h1, h2], h3⟩

def ctOf (l : List (Nat × RS)) (f : Nat) : Option RS := match l with
  | [] => none
  | (g, r) :: l => bif Nat.beq f g then some r else ctOf l f
def annOf (l : List ((Nat × Nat) × List Loc)) (f r : Nat) : Option (List Loc) := match l with
  | [] => none
  | ((g, q), x) :: l => bif Nat.beq f g && Nat.beq r q then some x else annOf l f r
def i64 (n : Nat) : SV := .a (.c (.int .i64 (.v n)))
def u8 (n : Nat) : SV := .a (.c (.int .u8 (.v n)))
def rI : RS := .one (.c (.int .i64))
def rB : RS := .one (.c .bool)

/-- what a tree says of a call whose result is one value: contracts without a heap are 'Ret' -/
def DenV (P : Program) (base : Nat) (w0 : World) (Φ : Value → Prop) : Tree → List LCtx → Env → Prop
  | .done v _, _, ρ => ∀ κ, Φ (v.den ρ κ)
  | .ite c t e, L, ρ => (c.den ρ = true → DenV P base w0 Φ t L ρ) ∧ (c.den ρ = false → DenV P base w0 Φ e L ρ)
  | .need ps t, L, ρ => allN ρ ps ∧ DenV P base w0 Φ t L ρ
  | .call f args [] n vks res [] t, L, ρ => exD vks fun l => (∀ κ, Ret P f (args.map (SV.den ρ κ)).toArray (res.den (ρ.setL n l) κ)) ∧ DenV P base w0 Φ t L (ρ.setL n l)
  | .call f args H n vks res Hn t, L, ρ => exD vks fun l => CallOk P base w0 ρ (ρ.setL n l) H f args n res Hn ∧ DenV P base w0 Φ t L (ρ.setL n l)
  | .loop vks n init body, L, ρ => ∃ (I : List Dat → Prop) (μ : List Dat → Nat), I (init.map (LV.eval ρ)) ∧ allD vks fun l => I l → DenV P base w0 Φ body (⟨I, μ, μ l⟩ :: L) (ρ.setL n l)
  | .cont k vals, L, ρ => match L[k]? with
    | some c => c.I (vals.map (LV.eval ρ)) ∧ c.μ (vals.map (LV.eval ρ)) < c.m
    | none => False
  | .arr n ct nl t, L, ρ => DenV P base w0 Φ t L ((ρ.set n (.l (ct.den ρ))).set n (.n (nl.den ρ)))
theorem allD_mono : ∀ (ks : List VK) {F G : List Dat → Prop}, (∀ l, F l → G l) → allD ks F → allD ks G
  | [], _, _, h, hf => h _ hf
  | .i :: r, _, _, h, hf => fun x => allD_mono r (fun _ => h _) (hf x)
  | .b :: r, _, _, h, hf => fun x => allD_mono r (fun _ => h _) (hf x)
  | .v :: r, _, _, h, hf => fun x => allD_mono r (fun _ => h _) (hf x)
  | .l :: r, _, _, h, hf => fun x => allD_mono r (fun _ => h _) (hf x)
  | .n :: r, _, _, h, hf => fun x => allD_mono r (fun _ => h _) (hf x)
theorem exD_mono : ∀ (ks : List VK) {F G : List Dat → Prop}, (∀ l, F l → G l) → exD ks F → exD ks G
  | [], _, _, h, hf => h _ hf
  | .i :: r, _, _, h, ⟨x, hf⟩ => ⟨x, exD_mono r (fun _ => h _) hf⟩
  | .b :: r, _, _, h, ⟨x, hf⟩ => ⟨x, exD_mono r (fun _ => h _) hf⟩
  | .v :: r, _, _, h, ⟨x, hf⟩ => ⟨x, exD_mono r (fun _ => h _) hf⟩
  | .l :: r, _, _, h, ⟨x, hf⟩ => ⟨x, exD_mono r (fun _ => h _) hf⟩
  | .n :: r, _, _, h, ⟨x, hf⟩ => ⟨x, exD_mono r (fun _ => h _) hf⟩
theorem den_of_denV {P : Program} {base : Nat} {w0 : World} {Φ : Value → Prop} : ∀ (t : Tree) (L : List LCtx) (ρ : Env), DenV P base w0 Φ t L ρ → Den P base w0 (fun v _ => Φ v) t L ρ
  | .done v _, _, ρ, h => fun κ _ _ _ => h κ
  | .ite c t e, L, ρ, h => ⟨fun hc => den_of_denV t L ρ (h.1 hc), fun hc => den_of_denV e L ρ (h.2 hc)⟩
  | .need ps t, L, ρ, h => ⟨h.1, den_of_denV t L ρ h.2⟩
  | .call f args [] n vks res [] t, L, ρ, h => exD_mono vks (fun l ⟨h1, h2⟩ => ⟨fun κ w _ _ _ => h1 κ w, den_of_denV t L _ h2⟩) h
  | .call f args (e :: H) n vks res Hn t, L, ρ, h => exD_mono vks (fun l ⟨h1, h2⟩ => ⟨h1, den_of_denV t L _ h2⟩) h
  | .call f args [] n vks res (e :: Hn) t, L, ρ, h => exD_mono vks (fun l ⟨h1, h2⟩ => ⟨h1, den_of_denV t L _ h2⟩) h
  | .loop vks n init body, L, ρ, ⟨I, μ, h1, h2⟩ => ⟨I, μ, h1, allD_mono vks (fun l h hI => den_of_denV body _ _ (h hI)) h2⟩
  | .cont k vals, L, ρ, h => h
  | .arr n ct nl t, L, ρ, h => den_of_denV t L _ h
theorem ret_of {C : Cfg} {fuel : Nat} {f : FuncId} {args : List SV} {n : Nat} {t : Tree} (h : callTree C fuel f args [] n = some t) (ρ : Env) {res : Value}
    (hd : ∀ w : World, DenV C.P w.heap.size w (fun v => v = res) t [] ρ) : Ret C.P f (args.map (SV.den ρ kap0)).toArray res := ret_of_tree h ρ fun w => den_of_denV _ _ _ (hd w)

theorem calls_of {C : Cfg} {fuel : Nat} {f : FuncId} {args : List SV} {H : Heap} {n : Nat} {t : Tree} (h : callTree C fuel f args H n = some t) {ρ : Env} {κ : Kap} {w : World} {res : Value}
    (hH : HeapOk ρ κ w.heap.size H w) (hd : DenV C.P w.heap.size w (fun v => v = res) t [] ρ) : Calls C.P f (args.map (SV.den ρ κ)).toArray w fun e w' => e = .returned res ∧ Below w.heap.size w w' :=
  (calls_of_tree h hH (den_of_denV _ _ _ hd)).mono fun e w' ⟨v, h1, h2, h3⟩ => ⟨by rw [h1, h2], h3⟩

/-! ### slices that are handed in -/
/-- a slice of these rows -/
def SliceIs (w : World) (pat : List CK) (rows : List (List Dat)) (v : Value) : Prop :=
  ∃ (nl : Bool) (b o cap : Nat), v = .slice (if nl then none else some ⟨b, o, none⟩) rows.length cap ∧ (nl = true → rows = []) ∧
    ∀ (x f : Nat) r k, rows[x]? = some r → pat[f]? = some k → w.cell? ⟨b, o + x * pat.length + f, none⟩ = some (k.den (r.getD f (.i 0)))
theorem SliceIs.below {w w' : World} {pat : List CK} {rows : List (List Dat)} {v : Value} (h : SliceIs w pat rows v) (hb : ∀ k, k < w.heap.size → w'.heap[k]? = w.heap[k]?) : SliceIs w' pat rows v := by
  obtain ⟨nl, b, o, cap, h1, h2, h3⟩ := h
  refine ⟨nl, b, o, cap, h1, h2, fun x f r k hx hk => ?_⟩
  have := h3 x f r k hx hk
  rw [World.cell?_of_block (w := w) (hb _ (World.block_lt_of_cell? w _ this))]; exact this
/-- the argument that stands for it: rows n, its name n + 1, capacity n + 2 -/
def slArg (n s : Nat) : SV := .a (.c (.slice (n + 1) s 0 (.lit 0) (.alen n) (.e (.v (n + 2)))))
def kap1 (b o : Nat) : Kap := ⟨fun _ => 0, fun _ => b, fun _ => o, fun _ => 0⟩
theorem heapOk_slice {ρ : Env} {w : World} {base : Nat} {pat : List CK} {n b o : Nat} (h1 : ρ.nl (n + 1) = true → ρ.a n = [])
    (h2 : ∀ (x f : Nat) r k, (ρ.a n)[x]? = some r → pat[f]? = some k → w.cell? ⟨b, o + x * pat.length + f, none⟩ = some (k.den (r.getD f (.i 0)))) : HeapOk ρ (kap1 b o) base [.arr (n + 1) n pat none] w := by
  have key : ∀ j c p o', Heap.arr? [.arr (n + 1) n pat none] j = some (c, p, o') → j = n + 1 ∧ c = n ∧ p = pat ∧ o' = none := by
    intro j c p o' h
    rw [arr?_cons] at h
    split at h
    · rename_i e; simp at h; exact ⟨e, h.1.symm, h.2.1.symm, h.2.2.symm⟩
    · cases h
  refine ⟨fun _ _ _ h => (by cases h), fun _ _ _ _ _ _ h => (by cases h), fun j c p o' h => ?_, fun _ _ _ _ _ _ _ _ h => (by cases h), fun j c p E h => ?_, fun j c p E j' c' p' o' h => ?_⟩
  · obtain ⟨rfl, rfl, rfl, rfl⟩ := key _ _ _ _ h; exact ⟨h2, h1⟩
  · obtain ⟨_, _, _, h⟩ := key _ _ _ _ h; cases h
  · obtain ⟨_, _, _, h⟩ := key _ _ _ _ h; cases h
theorem slArg_den {ρ : Env} {n s b o cap : Nat} {nl : Bool} {rows : List (List Dat)} (h1 : ρ.a n = rows) (h2 : ρ.nl (n + 1) = nl) (h3 : ρ.i (n + 2) = (cap : Int)) :
    (slArg n s).den ρ (kap1 b o) = .slice (if nl then none else some ⟨b, o, none⟩) rows.length cap := by
  subst h1; subst h2
  simp [slArg, SV.den, SA.den, SC.den, slAddr, kap1, IE.den, CE.den, h3]
theorem SliceIs.of_arr {ρ : Env} {κ : Kap} {base : Nat} {H : Heap} {w : World} (h : HeapOk ρ κ base H w) {j c : Nat} {pat : List CK} {o : Option TypeId} (ha : H.arr? j = some (c, pat, o)) (cap : CE) :
    SliceIs w pat (ρ.a c) (.slice (if ρ.nl j then none else some ⟨κ.ab j, κ.ao j, none⟩) (ρ.a c).length (cap.den ρ κ)) :=
  ⟨ρ.nl j, κ.ab j, κ.ao j, _, rfl, (h.arr j c pat o ha).2, (h.arr j c pat o ha).1⟩
theorem SliceIs.of_own {ρ : Env} {κ : Kap} {base : Nat} {H : Heap} {w : World} (h : HeapOk ρ κ base H w) {id m cap : Nat} {cs : List SC} {ty : TypeId} (ho : H.own? id = some (cs, ty)) {pat : List CK} {rs : List (List LV)} (hr : rowsLV pat m cs = some rs) :
    SliceIs w pat (LV.evalLL ρ rs) (.slice (some ⟨κ.o id, 0, none⟩) m cap) := by
  obtain ⟨r1, r2⟩ := rowsLV_den (ρ := ρ) (κ := κ) hr
  refine ⟨false, κ.o id, 0, cap, by simp [evalLL_length, r2], fun h => (by cases h), fun x f r k hx hk => ?_⟩
  have := arrCells_get pat _ x f r k hx hk
  rw [r1] at this
  rw [cell_of_row w _ _ _ _ _ (h.own id cs ty ho).1]
  simpa using this

section
variable (l : List Dat) (j n : Nat) (ρ : Env)
@[simp] theorem mkEnv_i : (mkEnv l).i j = (l.getD j (.i 0)).int := rfl
@[simp] theorem mkEnv_b : (mkEnv l).b j = (l.getD j (.i 0)).bool := rfl
@[simp] theorem mkEnv_v : (mkEnv l).v j = (l.getD j (.i 0)).val := rfl
@[simp] theorem mkEnv_a : (mkEnv l).a j = (l.getD j (.i 0)).rows := rfl
@[simp] theorem mkEnv_nl : (mkEnv l).nl j = (l.getD j (.i 0)).isNil := rfl
variable (x : Int) (b : Bool) (v : { v : Value // v.oneCell' = true }) (r : List (List Dat))
@[simp] theorem set_i_i : (ρ.set n (.i x)).i j = if j = n then x else ρ.i j := rfl
@[simp] theorem set_i_b : (ρ.set n (.i x)).b j = ρ.b j := rfl
@[simp] theorem set_i_v : (ρ.set n (.i x)).v j = ρ.v j := rfl
@[simp] theorem set_i_a : (ρ.set n (.i x)).a j = ρ.a j := rfl
@[simp] theorem set_i_nl : (ρ.set n (.i x)).nl j = ρ.nl j := rfl
@[simp] theorem set_b_i : (ρ.set n (.b b)).i j = ρ.i j := rfl
@[simp] theorem set_b_b : (ρ.set n (.b b)).b j = if j = n then b else ρ.b j := rfl
@[simp] theorem set_b_v : (ρ.set n (.b b)).v j = ρ.v j := rfl
@[simp] theorem set_b_a : (ρ.set n (.b b)).a j = ρ.a j := rfl
@[simp] theorem set_b_nl : (ρ.set n (.b b)).nl j = ρ.nl j := rfl
@[simp] theorem set_v_i : (ρ.set n (.v v)).i j = ρ.i j := rfl
@[simp] theorem set_v_b : (ρ.set n (.v v)).b j = ρ.b j := rfl
@[simp] theorem set_v_v : (ρ.set n (.v v)).v j = if j = n then v.1 else ρ.v j := rfl
@[simp] theorem set_v_a : (ρ.set n (.v v)).a j = ρ.a j := rfl
@[simp] theorem set_v_nl : (ρ.set n (.v v)).nl j = ρ.nl j := rfl
@[simp] theorem set_l_i : (ρ.set n (.l r)).i j = ρ.i j := rfl
@[simp] theorem set_l_b : (ρ.set n (.l r)).b j = ρ.b j := rfl
@[simp] theorem set_l_v : (ρ.set n (.l r)).v j = ρ.v j := rfl
@[simp] theorem set_l_a : (ρ.set n (.l r)).a j = if j = n then r else ρ.a j := rfl
@[simp] theorem set_l_nl : (ρ.set n (.l r)).nl j = ρ.nl j := rfl
@[simp] theorem set_n_i : (ρ.set n (.n b)).i j = ρ.i j := rfl
@[simp] theorem set_n_b : (ρ.set n (.n b)).b j = ρ.b j := rfl
@[simp] theorem set_n_v : (ρ.set n (.n b)).v j = ρ.v j := rfl
@[simp] theorem set_n_a : (ρ.set n (.n b)).a j = ρ.a j := rfl
@[simp] theorem set_n_nl : (ρ.set n (.n b)).nl j = if j = n then b else ρ.nl j := rfl
end
@[simp] theorem Dat.int_i (x : Int) : (Dat.i x).int = x := rfl
@[simp] theorem Dat.bool_b (x : Bool) : (Dat.b x).bool = x := rfl
@[simp] theorem Dat.val_v (x : { v : Value // v.oneCell' = true }) : (Dat.v x).val = x.1 := rfl
@[simp] theorem Dat.rows_l (x : List (List Dat)) : (Dat.l x).rows = x := rfl
@[simp] theorem Dat.isNil_n (x : Bool) : (Dat.n x).isNil = x := rfl
attribute [simp] slAddr Den DenV allN exD allD CallOk SV.den SA.den SC.den SC.denL IE.den BE.den CE.den AE.den LV.eval LV.evalL LV.evalLL bi bc Env.setL Env.at
theorem wrap64 {x : Int} (h1 : -9223372036854775808 ≤ x) (h2 : x < 9223372036854775808) : IntKind.i64.wrap x = x := by
  simp only [IntKind.wrap, IntKind.bits, IntKind.signed]; simp; omega
theorem wrap8 {x : Int} (h1 : 0 ≤ x) (h2 : x < 256) : IntKind.u8.wrap x = x := by
  simp only [IntKind.wrap, IntKind.bits, IntKind.signed]; simp; omega
end Go.SX
