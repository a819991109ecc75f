/- A part of the proof: see the text that states the theorem. -/
import Derived.Test.YtkkfmhkmkakolaaSyM4
import Derived.OpenShut
/- SyU: how a walk's tree is used. -/
set_option linter.unusedSimpArgs false
set_option linter.unusedVariables false
set_option linter.unusedSectionVars false
noncomputable section
namespace Go.SX
open Go Go.RowKit

/-- the end of a call -/
abbrev done (v : SV) (H : Heap) : T := .leaf ⟨.normal, v, ⟨.nil, H, 0, [], 0, 0, none⟩⟩
/-- THE CALL of a function: the walk's tree, and what it says. -/
def callTree (C : Cfg) (fuel : Nat) (f : FuncId) (args : List SV) (H : Heap) (n : Nat) : Option T :=
  thenT (X { C with ct := fun g => bif Nat.beq g f then none else C.ct g } fuel (.call f args ⟨.nil, H, n, [], 0, 0, none⟩)) fun l =>
    some (.leaf ⟨.normal, l.v, ⟨.nil, l.st.H.only (reach l.st.H 60 [] l.v.ids), 0, [], 0, 0, none⟩⟩)
theorem calls_of_tree {C : Cfg} {fuel : Nat} {f : FuncId} {args : List SV} {H : Heap} {n : Nat} {t : T} (h : callTree C fuel f args H n = some t) {ρ : Env} {κ : Kap} {w : World} {Φ : Lf → List LCtx → Env → Prop}
    (hH : HeapOk ρ κ (Bk.at C.P w.heap.size) H w) (hd : Den C.P (Bk.at C.P w.heap.size) w t [] ρ Φ) :
    Calls C.P f (args.map (SV.den ρ κ)).toArray w fun e w' => ∃ l L' ρ' κ', e = .returned (l.v.den ρ' κ') ∧ Φ l L' ρ' ∧ Agree n ρ ρ' κ κ' ∧ HeapOk ρ' κ' (Bk.at C.P w.heap.size) l.st.H w' ∧ Below w.heap.size w w' := by
  unfold callTree at h
  obtain ⟨t', ht', hdd⟩ := thenT_spec (P := C.P) (base := Bk.at C.P w.heap.size) (w0 := w) h
  have hs := (sound (C := { C with ct := fun g => bif Nat.beq g f then none else C.ct g }) fuel).2.2.2.2.2.1
  have hsim : Sim (Bk.at C.P w.heap.size) w ρ κ ⟨.nil, H, n, [], 0, 0, none⟩ { tmps := #[], defers := [] } w := by
    refine ⟨[], ⟨⟨fun t s hs => (by have hs : slot .nil t = some s := hs; rw [slot_nil] at hs; cases hs), fun t s hs => (by have hs : slot .nil t = some s := hs; rw [slot_nil] at hs; cases hs)⟩, rfl, List.nodup_nil, fun D hD => (by cases hD), Nat.le_refl _, ?_, Kept.refl _ _, fun p hp => (by cases hp), fun l hl => (by cases hl)⟩⟩
    exact hH.up rfl rfl fun k _ hk hk' => hk'.elim hk fun h => (by cases h)
  have := hs f args _ t' ht' (Bk.at C.P w.heap.size) w ρ κ { tmps := #[], defers := [] } w [] _ (fun v w' => ∃ l L' ρ' κ', v = l.v.den ρ' κ' ∧ Φ l L' ρ' ∧ Agree n ρ ρ' κ κ' ∧ HeapOk ρ' κ' (Bk.at C.P w.heap.size) l.st.H w' ∧ Below w.heap.size w w') rfl rfl hsim (hdd [] ρ Φ hd) ?_
  · exact this.mono fun e w' ⟨v, he, l, L', ρ', κ', hv, hr⟩ => ⟨l, L', ρ', κ', by rw [he, hv], hr⟩
  · intro l L' ρ' κ' w' hl hA hsl hs'
    obtain ⟨u, hu, hdu⟩ := hl
    cases hu
    obtain ⟨Ds, hsd⟩ := hs'
    exact ⟨⟨.normal, l.v, ⟨.nil, l.st.H.only (reach l.st.H 60 [] l.v.ids), 0, [], 0, 0, none⟩⟩, L', ρ', κ', rfl, hdu, hA.A, (hsd.hp.le (Bk.Le.plus ..)).sub (fun _ _ g => sift_sub_obj g) (fun _ _ g => sift_sub_arr g), hsd.bl.bl⟩

/-- .. with facts to begin with -/
def callTreeF (C : Cfg) (fuel : Nat) (F : List BE) (f : FuncId) (args : List SV) (H : Heap) (n : Nat) : Option T :=
  thenT (X { C with ct := fun g => bif Nat.beq g f then none else C.ct g } fuel (.call f args ⟨.nil, H, n, F, 0, 0, none⟩)) fun l =>
    some (.leaf ⟨.normal, l.v, ⟨.nil, l.st.H.only (reach l.st.H 60 [] l.v.ids), 0, [], 0, 0, none⟩⟩)
theorem calls_of_treeF {C : Cfg} {fuel : Nat} {F : List BE} {f : FuncId} {args : List SV} {H : Heap} {n : Nat} {t : T} (h : callTreeF C fuel F f args H n = some t) {ρ : Env} {κ : Kap} {w : World} {Φ : Lf → List LCtx → Env → Prop}
    (hF : ∀ p ∈ F, p.den ρ = true) (hH : HeapOk ρ κ (Bk.at C.P w.heap.size) H w) (hd : Den C.P (Bk.at C.P w.heap.size) w t [] ρ Φ) :
    Calls C.P f (args.map (SV.den ρ κ)).toArray w fun e w' => ∃ l L' ρ' κ', e = .returned (l.v.den ρ' κ') ∧ Φ l L' ρ' ∧ Agree n ρ ρ' κ κ' ∧ HeapOk ρ' κ' (Bk.at C.P w.heap.size) l.st.H w' ∧ Below w.heap.size w w' := by
  unfold callTreeF at h
  obtain ⟨t', ht', hdd⟩ := thenT_spec (P := C.P) (base := Bk.at C.P w.heap.size) (w0 := w) h
  have hs := (sound (C := { C with ct := fun g => bif Nat.beq g f then none else C.ct g }) fuel).2.2.2.2.2.1
  have hsim : Sim (Bk.at C.P w.heap.size) w ρ κ ⟨.nil, H, n, F, 0, 0, none⟩ { tmps := #[], defers := [] } w := by
    refine ⟨[], ⟨⟨fun t s hs => (by have hs : slot .nil t = some s := hs; rw [slot_nil] at hs; cases hs), fun t s hs => (by have hs : slot .nil t = some s := hs; rw [slot_nil] at hs; cases hs)⟩, rfl, List.nodup_nil, fun D hD => (by cases hD), Nat.le_refl _, ?_, Kept.refl _ _, hF, fun l hl => (by cases hl)⟩⟩
    exact hH.up rfl rfl fun k _ hk hk' => hk'.elim hk fun h => (by cases h)
  have := hs f args _ t' ht' (Bk.at C.P w.heap.size) w ρ κ { tmps := #[], defers := [] } w [] _ (fun v w' => ∃ l L' ρ' κ', v = l.v.den ρ' κ' ∧ Φ l L' ρ' ∧ Agree n ρ ρ' κ κ' ∧ HeapOk ρ' κ' (Bk.at C.P w.heap.size) l.st.H w' ∧ Below w.heap.size w w') rfl rfl hsim (hdd [] ρ Φ hd) ?_
  · exact this.mono fun e w' ⟨v, he, l, L', ρ', κ', hv, hr⟩ => ⟨l, L', ρ', κ', by rw [he, hv], hr⟩
  · intro l L' ρ' κ' w' hl hA hsl hs'
    obtain ⟨u, hu, hdu⟩ := hl
    cases hu
    obtain ⟨Ds, hsd⟩ := hs'
    exact ⟨⟨.normal, l.v, ⟨.nil, l.st.H.only (reach l.st.H 60 [] l.v.ids), 0, [], 0, 0, none⟩⟩, L', ρ', κ', rfl, hdu, hA.A, (hsd.hp.le (Bk.Le.plus ..)).sub (fun _ _ g => sift_sub_obj g) (fun _ _ g => sift_sub_arr g), hsd.bl.bl⟩

instance : Inhabited Kap := ⟨kap0⟩
instance : Nonempty Kap := ⟨kap0⟩
instance : Inhabited Dat := ⟨.i 0⟩
def Dat.rows : Dat → List (List Dat)
  | .l x => x
  | _ => []
def Dat.isNil : Dat → Bool
  | .n x => x
  | _ => false
/-- the data of a call, by a list -/
def mkEnv (l : List Dat) : Env where
  i j := (l.getD j (.i 0)).int
  b j := (l.getD j (.i 0)).bool
  v j := (l.getD j (.i 0)).val
  a j := (l.getD j (.i 0)).rows
  nl j := (l.getD j (.i 0)).isNil
  one _ := Dat.val_one _
theorem heapOk_nil (ρ : Env) (κ : Kap) (base : Bk) (w : World) : HeapOk ρ κ base [] w :=
  ⟨fun _ _ h => (by cases h), fun _ _ _ _ h => (by cases h), fun _ _ _ _ h => (by cases h), fun _ _ _ _ _ _ h => (by cases h), fun _ _ _ _ h => (by cases h), fun _ _ _ _ _ _ _ _ h => (by cases h)⟩
/-- a call that returns this, in every world, and turns nothing that was there -/
def Ret (P : Program) (f : FuncId) (args : Array Value) (res : Value) : Prop := ∀ w, Calls P f args w fun e w' => e = .returned res ∧ Below w.heap.size w w'
def ctOf (l : List (Nat × RS)) (f : Nat) : Option RS := match l with
  | [] => none
  | (g, r) :: l => bif Nat.beq f g then some r else ctOf l f
def annOf (l : List ((Nat × Nat × Nat) × List Loc)) (f r n : Nat) : Option (List Loc) := match l with
  | [] => none
  | ((g, q, m), x) :: l => bif Nat.beq f g && (Nat.beq r q && Nat.beq n m) then some x else annOf l f r n
/-- annotations by function and region, whatever the names -/
def annF (l : List ((Nat × Nat) × List Loc)) (f r : Nat) : Nat → Option (List Loc) := fun n => match l with
  | [] => none
  | ((g, q), x) :: l => bif Nat.beq f g && Nat.beq r q then some x else annF l f r n
def i64 (n : Nat) : SV := .a (.c (.int .i64 (.v n)))
def u8 (n : Nat) : SV := .a (.c (.int .u8 (.v n)))
def rI : RS := .one (.c (.int .i64))
def rB : RS := .one (.c .bool)

/-! ### slices that are handed in -/
/-- a slice of these rows -/
def SliceIs (w : World) (pat : List CK) (rows : List (List Dat)) (v : Value) : Prop :=
  ∃ (nl : Bool) (b o cap : Nat), v = .slice (if nl then none else some ⟨b, o, none⟩) rows.length cap ∧ (nl = true → rows = []) ∧
    ∀ (x f : Nat) r k, rows[x]? = some r → pat[f]? = some k → w.cell? ⟨b, o + x * pat.length + f, none⟩ = some (k.den (r.getD f (.i 0)))
/-! ### what a call sees of the heap, without the data environment -/
/-- rows that lie at a place (own: a row of the call's own) -/
structure ArrAt (w : World) (pat : List CK) (rows : List (List Dat)) (nl : Bool) (b o cap : Nat) (own : Bool) : Prop where
  cells : ∀ (x f : Nat) r k, rows[x]? = some r → pat[f]? = some k → w.cell? ⟨b, o + x * pat.length + f, none⟩ = some (k.den (r.getD f (.i 0)))
  nil : nl = true → rows = []
  own : own = true → o = 0 ∧ rows.length ≤ cap
def HE.id : HE → Nat
  | .obj i _ => i
  | .arr j _ _ _ => j
def ViewE (ρ : Env) (κ : Kap) (w : World) : HE → Prop
  | .arr j c pat o => ArrAt w pat (ρ.a c) (ρ.nl j) (κ.ab j) (κ.ao j) (κ.cap j) o.isSome
  | .obj id (.cells cs ty none) => w.heap[κ.o id]? = some (.cells (cs.map (SC.den ρ κ)).toArray ty (0, 0))
  | .obj id (.cells cs ty (some z)) => ∃ sp : List Value, w.heap[κ.o id]? = some (.cells (cs.map (SC.den ρ κ) ++ sp).toArray ty (0, 0)) ∧ cs.length + sp.length = κ.cap id * z
  | _ => True
def idIn (i : Nat) : Heap → Bool
  | [] => false
  | e :: H => Nat.beq i e.id || idIn i H
def ViewH (ρ : Env) (κ : Kap) (w : World) : Heap → Prop
  | [] => True
  | e :: H => ViewE ρ κ w e ∧ (idIn e.id H = true ∨ ViewH ρ κ w H)
theorem idIn_obj {i : Nat} : ∀ {H : Heap} {o : SObj}, H.obj? i = some o → idIn i H = true
  | .obj j x :: H, o, h => by
    rw [obj?_cons] at h
    simp only [idIn, HE.id, Bool.or_eq_true, Nat.beq_eq]
    split at h
    · rename_i e; exact .inl e
    · exact .inr (idIn_obj h)
  | .arr .. :: H, o, h => by
    simp only [idIn, Bool.or_eq_true]
    exact .inr (idIn_obj (H := H) h)
theorem idIn_arr {i : Nat} : ∀ {H : Heap} {y : Nat × List CK × Option TypeId}, H.arr? i = some y → idIn i H = true
  | .arr j c p o :: H, y, h => by
    rw [arr?_cons] at h
    simp only [idIn, HE.id, Bool.or_eq_true, Nat.beq_eq]
    split at h
    · rename_i e; exact .inl e
    · exact .inr (idIn_arr h)
  | .obj .. :: H, y, h => by
    simp only [idIn, Bool.or_eq_true]
    exact .inr (idIn_arr (H := H) h)
theorem HeapOk.tail {ρ : Env} {κ : Kap} {base : Bk} {e : HE} {H : Heap} {w : World} (h : HeapOk ρ κ base (e :: H) w) (hi : idIn e.id H = false) : HeapOk ρ κ base H w := by
  refine h.sub (fun x y g => ?_) (fun x y g => ?_)
  · cases e with
    | obj i o =>
      rw [obj?_cons, if_neg fun e => ?_]
      · exact g
      · subst e
        have hi : idIn x H = false := hi
        rw [idIn_obj g] at hi; cases hi
    | arr j c p o => exact g
  · cases e with
    | obj i o => exact g
    | arr j c p o =>
      rw [arr?_cons, if_neg fun e => ?_]
      · exact g
      · subst e
        have hi : idIn x H = false := hi
        rw [idIn_arr g] at hi; cases hi
theorem HeapOk.view {ρ : Env} {κ : Kap} {base : Bk} {w : World} : ∀ {H : Heap}, HeapOk ρ κ base H w → ViewH ρ κ w H
  | [], _ => trivial
  | e :: H, h => by
    refine ⟨?_, ?_⟩
    · cases e with
      | arr j c pat o =>
        have ha : Heap.arr? (.arr j c pat o :: H) j = some (c, pat, o) := by rw [arr?_cons, if_pos rfl]
        refine ⟨(h.arr j c pat o ha).1, (h.arr j c pat o ha).2, fun ho => ?_⟩
        cases o with
        | none => cases ho
        | some E => exact ⟨(h.row j c pat E ha).1, row_cap h ha⟩
      | obj id o =>
        have ho : Heap.obj? (.obj id o :: H) id = some o := by rw [obj?_cons, if_pos rfl]
        obtain ⟨⟨b, h1, h2⟩, _⟩ := h.obj id o ho
        cases o with
        | cells cs ty g =>
          cases g with
          | none => simp only [SObj.Is] at h2; simp only [ViewE]; rw [h1, h2]
          | some z => obtain ⟨sp, e1, e2, _⟩ := h2; exact ⟨sp, by rw [h1, e1], e2⟩
        | loop r => trivial
        | map k es => trivial
    · cases hi : idIn e.id H
      · exact .inr (h.tail hi).view
      · exact .inl rfl
theorem ArrAt.slice {w : World} {pat : List CK} {rows : List (List Dat)} {nl : Bool} {b o cap : Nat} {own : Bool} (h : ArrAt w pat rows nl b o cap own) {n : Nat} (hn : rows.length = n) (c : Nat) :
    SliceIs w pat rows (.slice (if nl = true then none else some ⟨b, o, none⟩) n c) := by
  subst hn; exact ⟨nl, b, o, c, rfl, h.nil, h.cells⟩
/-- a contract at a call, told by what is seen of the heap -/
def CallV (P : Program) (base : Bk) (w0 : World) (ρ ρ' : Env) (H : Heap) (f : FuncId) (args : List SV) (res : SV) : Prop :=
  ∀ κ w, ViewH ρ κ w H → Kept base w0 w → base.top ≤ w.heap.size → Calls P f (args.map (SV.den ρ κ)).toArray w fun e w' => e = .returned (res.den ρ' κ) ∧ Below w.heap.size w w'
/-- what a tree says of a call whose result is one value: contracts without a heap are 'Ret' -/
def DenV (P : Program) (base : Bk) (w0 : World) (Φ : Value → Prop) : T → List LCtx → Env → Prop
  | .leaf l, _, ρ => ∀ κ, Φ (l.v.den ρ κ)
  | .ite c t e, L, ρ => (c.den ρ = true → DenV P base w0 Φ t L ρ) ∧ (c.den ρ = false → DenV P base w0 Φ e L ρ)
  | .need ps t, L, ρ => allN ρ ps ∧ DenV P base w0 Φ t L ρ
  | .call f args [] n vks res [] t, L, ρ => exD vks fun l => (∀ κ, Ret P f (args.map (SV.den ρ κ)).toArray (res.den (ρ.setL n l) κ)) ∧ DenV P base w0 Φ t L (ρ.setL n l)
  | .call f args (e :: H) n vks res [] t, L, ρ => exD vks fun l => CallV P base w0 ρ (ρ.setL n l) (e :: H) f args res ∧ DenV P base w0 Φ t L (ρ.setL n l)
  | .call f args H n vks res Hn t, L, ρ => exD vks fun l => CallOk P base w0 ρ (ρ.setL n l) H f args n res Hn ∧ DenV P base w0 Φ t L (ρ.setL n l)
  | .loop vks n init body, L, ρ => ∃ (I : List Dat → Prop) (μ : List Dat → Nat), I (init.map (LV.eval ρ)) ∧ allD vks fun l => I l → DenV P base w0 Φ body (⟨I, μ, μ l⟩ :: L) (ρ.setL n l)
  | .cont k vals, L, ρ => match L[k]? with
    | some c => c.I (vals.map (LV.eval ρ)) ∧ c.μ (vals.map (LV.eval ρ)) < c.m
    | none => False
  | .arr n ct nl t, L, ρ => DenV P base w0 Φ t L ((ρ.set n (.l (ct.den ρ))).set n (.n (nl.den ρ)))
  | .dead, _, _ => False
theorem den_of_denV {P : Program} {base : Bk} {w0 : World} {Φ : Value → Prop} : ∀ (t : T) (L : List LCtx) (ρ : Env), DenV P base w0 Φ t L ρ → Den P base w0 t L ρ fun l _ ρ => ∀ κ, Φ (l.v.den ρ κ)
  | .leaf l, _, ρ, h => h
  | .ite c t e, L, ρ, h => ⟨fun hc => den_of_denV t L ρ (h.1 hc), fun hc => den_of_denV e L ρ (h.2 hc)⟩
  | .need ps t, L, ρ, h => ⟨h.1, den_of_denV t L ρ h.2⟩
  | .call f args [] n vks res [] t, L, ρ, h => exD_mono vks (fun l ⟨h1, h2⟩ => ⟨fun κ w _ _ _ => h1 κ w, den_of_denV t L _ h2⟩) h
  | .call f args (e :: H) n vks res [] t, L, ρ, h => exD_mono vks (fun l ⟨h1, h2⟩ => ⟨fun κ w hh hk hz => h1 κ w hh.view hk hz, den_of_denV t L _ h2⟩) h
  | .call f args (e :: H) n vks res (_ :: _) t, L, ρ, h => exD_mono vks (fun l ⟨h1, h2⟩ => ⟨h1, den_of_denV t L _ h2⟩) h
  | .call f args [] n vks res (e :: Hn) t, L, ρ, h => exD_mono vks (fun l ⟨h1, h2⟩ => ⟨h1, den_of_denV t L _ h2⟩) h
  | .loop vks n init body, L, ρ, ⟨I, μ, h1, h2⟩ => ⟨I, μ, h1, allD_mono vks (fun l h hI => den_of_denV body _ _ (h hI)) h2⟩
  | .cont k vals, L, ρ, h => h
  | .arr n ct nl t, L, ρ, h => den_of_denV t L _ h
  | .dead, _, _, h => h
theorem calls_of {C : Cfg} {fuel : Nat} {f : FuncId} {args : List SV} {H : Heap} {n : Nat} {t : T} (h : callTree C fuel f args H n = some t) {ρ : Env} {κ : Kap} {w : World} {res : Value}
    (hH : HeapOk ρ κ (Bk.at C.P w.heap.size) H w) (hd : DenV C.P (Bk.at C.P w.heap.size) w (fun v => v = res) t [] ρ) : Calls C.P f (args.map (SV.den ρ κ)).toArray w fun e w' => e = .returned res ∧ Below w.heap.size w w' :=
  (calls_of_tree h hH (den_of_denV _ _ _ hd)).mono fun e w' ⟨l, _, _, κ', h1, h2, _, _, h3⟩ => ⟨by rw [h1, h2 κ'], h3⟩
theorem ret_of {C : Cfg} {fuel : Nat} {f : FuncId} {args : List SV} {n : Nat} {t : T} (h : callTree C fuel f args [] n = some t) (ρ : Env) {res : Value}
    (hd : ∀ w : World, DenV C.P (Bk.at C.P w.heap.size) w (fun v => v = res) t [] ρ) : Ret C.P f (args.map (SV.den ρ kap0)).toArray res := fun w => calls_of h (heapOk_nil ρ kap0 _ w) (hd w)

theorem SliceIs.below {w w' : World} {pat : List CK} {rows : List (List Dat)} {v : Value} (h : SliceIs w pat rows v) (hb : ∀ k, k < w.heap.size → w'.heap[k]? = w.heap[k]?) : SliceIs w' pat rows v := by
  obtain ⟨nl, b, o, cap, h1, h2, h3⟩ := h
  refine ⟨nl, b, o, cap, h1, h2, fun x f r k hx hk => ?_⟩
  have := h3 x f r k hx hk
  rw [World.cell?_of_block (w := w) (hb _ (World.block_lt_of_cell? w _ this))]; exact this
/-- the argument that stands for it: rows n, its name n + 1, capacity n + 2 -/
def slArg (n s : Nat) : SV := .a (.c (.slice (n + 1) s 0 (.lit 0) (.alen n) (.e (.v (n + 2)))))
def kap1 (b o : Nat) : Kap := ⟨fun _ => 0, fun _ => b, fun _ => o, fun _ => 0⟩
theorem heapOk_slice {ρ : Env} {w : World} {base : Bk} {pat : List CK} {n b o : Nat} (h1 : ρ.nl (n + 1) = true → ρ.a n = [])
    (h2 : ∀ (x f : Nat) r k, (ρ.a n)[x]? = some r → pat[f]? = some k → w.cell? ⟨b, o + x * pat.length + f, none⟩ = some (k.den (r.getD f (.i 0)))) : HeapOk ρ (kap1 b o) base [.arr (n + 1) n pat none] w := by
  have key : ∀ j c p o', Heap.arr? [.arr (n + 1) n pat none] j = some (c, p, o') → j = n + 1 ∧ c = n ∧ p = pat ∧ o' = none := by
    intro j c p o' h
    rw [arr?_cons] at h
    split at h
    · rename_i e; simp at h; exact ⟨e, h.1.symm, h.2.1.symm, h.2.2.symm⟩
    · cases h
  refine ⟨fun _ _ h => (by cases h), fun _ _ _ _ h => (by cases h), fun j c p o' h => ?_, fun _ _ _ _ _ _ _ h => (by cases h), fun j c p E h => ?_, fun j c p E j' c' p' o' h => ?_⟩
  · obtain ⟨rfl, rfl, rfl, rfl⟩ := key _ _ _ _ h; exact ⟨h2, h1⟩
  · obtain ⟨_, _, _, h⟩ := key _ _ _ _ h; cases h
  · obtain ⟨_, _, _, h⟩ := key _ _ _ _ h; cases h
theorem slArg_den {ρ : Env} {n s b o cap : Nat} {nl : Bool} {rows : List (List Dat)} (h1 : ρ.a n = rows) (h2 : ρ.nl (n + 1) = nl) (h3 : ρ.i (n + 2) = (cap : Int)) :
    (slArg n s).den ρ (kap1 b o) = .slice (if nl then none else some ⟨b, o, none⟩) rows.length cap := by
  subst h1; subst h2
  simp [slArg, SV.den, SA.den, SC.den, slAddr, kap1, IE.den, CE.den, h3]
theorem SliceIs.of_arr {ρ : Env} {κ : Kap} {base : Bk} {H : Heap} {w : World} (h : HeapOk ρ κ base H w) {j c : Nat} {pat : List CK} {o : Option TypeId} (ha : H.arr? j = some (c, pat, o)) (cap : CE) :
    SliceIs w pat (ρ.a c) (.slice (if ρ.nl j then none else some ⟨κ.ab j, κ.ao j, none⟩) (ρ.a c).length (cap.den ρ κ)) :=
  ⟨ρ.nl j, κ.ab j, κ.ao j, _, rfl, (h.arr j c pat o ha).2, (h.arr j c pat o ha).1⟩
section
variable (l : List Dat) (j n : Nat) (ρ : Env)
@[simp] theorem mkEnv_i : (mkEnv l).i j = (l.getD j (.i 0)).int := rfl
@[simp] theorem mkEnv_b : (mkEnv l).b j = (l.getD j (.i 0)).bool := rfl
@[simp] theorem mkEnv_v : (mkEnv l).v j = (l.getD j (.i 0)).val := rfl
@[simp] theorem mkEnv_a : (mkEnv l).a j = (l.getD j (.i 0)).rows := rfl
@[simp] theorem mkEnv_nl : (mkEnv l).nl j = (l.getD j (.i 0)).isNil := rfl
variable (x : Int) (b : Bool) (v : { v : Value // v.oneCell' = true }) (r : List (List Dat))
@[simp] theorem set_i_i : (ρ.set n (.i x)).i j = if j = n then x else ρ.i j := rfl
@[simp] theorem set_i_b : (ρ.set n (.i x)).b j = ρ.b j := rfl
@[simp] theorem set_i_v : (ρ.set n (.i x)).v j = ρ.v j := rfl
@[simp] theorem set_i_a : (ρ.set n (.i x)).a j = ρ.a j := rfl
@[simp] theorem set_i_nl : (ρ.set n (.i x)).nl j = ρ.nl j := rfl
@[simp] theorem set_b_i : (ρ.set n (.b b)).i j = ρ.i j := rfl
@[simp] theorem set_b_b : (ρ.set n (.b b)).b j = if j = n then b else ρ.b j := rfl
@[simp] theorem set_b_v : (ρ.set n (.b b)).v j = ρ.v j := rfl
@[simp] theorem set_b_a : (ρ.set n (.b b)).a j = ρ.a j := rfl
@[simp] theorem set_b_nl : (ρ.set n (.b b)).nl j = ρ.nl j := rfl
@[simp] theorem set_v_i : (ρ.set n (.v v)).i j = ρ.i j := rfl
@[simp] theorem set_v_b : (ρ.set n (.v v)).b j = ρ.b j := rfl
@[simp] theorem set_v_v : (ρ.set n (.v v)).v j = if j = n then v.1 else ρ.v j := rfl
@[simp] theorem set_v_a : (ρ.set n (.v v)).a j = ρ.a j := rfl
@[simp] theorem set_v_nl : (ρ.set n (.v v)).nl j = ρ.nl j := rfl
@[simp] theorem set_l_i : (ρ.set n (.l r)).i j = ρ.i j := rfl
@[simp] theorem set_l_b : (ρ.set n (.l r)).b j = ρ.b j := rfl
@[simp] theorem set_l_v : (ρ.set n (.l r)).v j = ρ.v j := rfl
@[simp] theorem set_l_a : (ρ.set n (.l r)).a j = if j = n then r else ρ.a j := rfl
@[simp] theorem set_l_nl : (ρ.set n (.l r)).nl j = ρ.nl j := rfl
@[simp] theorem set_n_i : (ρ.set n (.n b)).i j = ρ.i j := rfl
@[simp] theorem set_n_b : (ρ.set n (.n b)).b j = ρ.b j := rfl
@[simp] theorem set_n_v : (ρ.set n (.n b)).v j = ρ.v j := rfl
@[simp] theorem set_n_a : (ρ.set n (.n b)).a j = ρ.a j := rfl
@[simp] theorem set_n_nl : (ρ.set n (.n b)).nl j = if j = n then b else ρ.nl j := rfl
end
@[simp] theorem Dat.int_i (x : Int) : (Dat.i x).int = x := rfl
@[simp] theorem Dat.bool_b (x : Bool) : (Dat.b x).bool = x := rfl
@[simp] theorem Dat.val_v (x : { v : Value // v.oneCell' = true }) : (Dat.v x).val = x.1 := rfl
@[simp] theorem Dat.rows_l (x : List (List Dat)) : (Dat.l x).rows = x := rfl
@[simp] theorem Dat.isNil_n (x : Bool) : (Dat.n x).isNil = x := rfl
@[simp] theorem denV_done {P : Program} {base : Bk} {w0 : World} {Φ : Value → Prop} {v : SV} {H : Heap} {L : List LCtx} {ρ : Env} : DenV P base w0 Φ (done v H) L ρ = ∀ κ, Φ (v.den ρ κ) := rfl
@[simp] theorem callOk_nil {P : Program} {base : Bk} {w0 : World} {ρ ρ' : Env} {H : Heap} {f : FuncId} {args : List SV} {n : Nat} {res : SV} : CallOk P base w0 ρ ρ' H f args n res [] = ∀ κ w, HeapOk ρ κ base H w → Kept base w0 w → base.top ≤ w.heap.size → Calls P f (args.map (SV.den ρ κ)).toArray w fun e w' => e = .returned (res.den ρ' κ) ∧ Below w.heap.size w w' := rfl
attribute [simp] CallV ViewH ViewE idIn HE.id slAddr Den DenV allN exD allD SV.den SA.den SC.den SC.denL IE.den BE.den CE.den AE.den LV.eval LV.evalL LV.evalLL bi bc Env.setL Env.at
theorem wrap64 {x : Int} (h1 : -9223372036854775808 ≤ x) (h2 : x < 9223372036854775808) : IntKind.i64.wrap x = x := by
  simp only [IntKind.wrap, IntKind.bits, IntKind.signed]; simp; omega
theorem wrap8 {x : Int} (h1 : 0 ≤ x) (h2 : x < 256) : IntKind.u8.wrap x = x := by
  simp only [IntKind.wrap, IntKind.bits, IntKind.signed]; simp; omega

/-! ### contracts whose result holds a new row -/
/-- the whole row, as a slice -/
abbrev rowS (j c s : Nat) : SC := .slice j s 0 (.lit (.ofNat 0)) (.alen c) (.k j)
theorem rowS_den {ρ : Env} {κ : Kap} {j c s : Nat} (h : κ.ao j = 0) : (rowS j c s).den ρ κ = rowVal ρ κ j (ρ.a c).length := by
  simp only [SC.den, slAddr, rowVal, CE.den, IE.den, h]; simp
/-- a slice of the call's own: these rows, in a block that is new; nil if nl -/
def OwnRow (w w' : World) (E : TypeId) (pat : List CK) (rows : List (List Dat)) (nl : Bool) (v : Value) : Prop :=
  w'.ownsRow w.heap.size E pat.length v rows.length (arrCells pat rows) ∧ (v = .slice none 0 0 ↔ nl = true)
theorem OwnRow.of_heap {P : Program} {ρ : Env} {κ : Kap} {w w' : World} {H : Heap} {j c : Nat} {pat : List CK} {E : TypeId} (h : HeapOk ρ κ (Bk.at P w.heap.size) H w') (ha : H.arr? j = some (c, pat, some E)) :
    OwnRow w w' E pat (ρ.a c) (ρ.nl j) ((rowS j c pat.length).den ρ κ) := by
  obtain ⟨h1, h2, _⟩ := h.row j c pat E ha
  rw [rowS_den h1]
  refine ⟨h2, ?_⟩
  constructor
  · intro e
    cases hn : ρ.nl j
    · rw [rowVal, hn] at e; simp at e
    · rfl
  · intro hn
    have h3 := h2.2
    simp only [rowVal, hn, if_true] at h3 ⊢
    rcases h3 with ⟨e1, _⟩ | ⟨g, cap, cur, e, _⟩
    · exact e1
    · simp at e
theorem heapOk_row {P : Program} {ρ : Env} {κ : Kap} {w w' : World} {j c : Nat} {pat : List CK} {E : TypeId} {v : Value} (hpat : pat ≠ []) (h : OwnRow w w' E pat (ρ.a c) (ρ.nl j) v) :
    ∃ κ', KBut (one j) κ κ' ∧ (rowS j c pat.length).den ρ κ' = v ∧ HeapOk ρ κ' (Bk.at P w.heap.size) [.arr j c pat (some E)] w' := by
  obtain ⟨hown, hnl⟩ := h
  obtain ⟨b, cap, hv⟩ : ∃ b cap, v = .slice (if ρ.nl j then none else some ⟨b, 0, none⟩) (ρ.a c).length cap := by
    rcases hown.2 with ⟨e1, e2⟩ | ⟨g, cap, cur, e, _⟩
    · exact ⟨0, 0, by rw [e1, hnl.1 e1, e2]; rfl⟩
    · refine ⟨g, cap, ?_⟩
      have : ρ.nl j = false := by
        cases hn : ρ.nl j
        · rfl
        · have := hnl.2 hn; rw [e] at this; simp at this
      rw [this]; exact e
  have K := KBut.setA j b cap κ
  have hb : (κ.setA j b cap).ab j = b := by simp [Kap.setA]
  have ho : (κ.setA j b cap).ao j = 0 := by simp [Kap.setA]
  have hc : (κ.setA j b cap).cap j = cap := by simp [Kap.setA]
  have hval : v = rowVal ρ (κ.setA j b cap) j (ρ.a c).length := by rw [hv, rowVal, hb, hc]
  have key : ∀ x c' p o, Heap.arr? [.arr j c pat (some E)] x = some (c', p, o) → x = j ∧ c' = c ∧ p = pat ∧ o = some E := by
    intro x c' p o hx
    rw [arr?_cons] at hx
    split at hx
    · rename_i e; cases hx; exact ⟨e, rfl, rfl, rfl⟩
    · cases hx
  have hnil : ρ.nl j = true → ρ.a c = [] := fun hn => by
    have := hnl.2 hn
    rw [this] at hown
    rcases hown.2 with ⟨_, e2⟩ | ⟨g, cap, cur, e, _⟩
    · exact List.eq_nil_of_length_eq_zero e2
    · simp at e
  refine ⟨κ.setA j b cap, K, by rw [rowS_den ho]; exact hval.symm, fun _ _ h => (by cases h), fun _ _ _ _ h => (by cases h), fun x c' p o hx => ?_, fun _ _ _ _ _ _ _ h => (by cases h), fun x c' p E' hx => ?_, fun x c' p E' x' c'' p' o' hx hx' hne => ?_⟩
  · obtain ⟨rfl, rfl, rfl, rfl⟩ := key x c' p o hx
    refine ⟨fun y f r k hy hk => ?_, hnil⟩
    have hne : ρ.nl x = false := by
      cases hn : ρ.nl x
      · rfl
      · rw [hnil hn] at hy; simp at hy
    have hcell := hown.cells (g := b) (by rw [hv, hne]; rfl) (y * p.length + f) _ (arrCells_get p (ρ.a c') y f r k hy hk)
    rw [hb, ho, Nat.zero_add]
    rw [Addr.add_mid, Nat.zero_add] at hcell
    exact hcell
  · obtain ⟨rfl, rfl, rfl, he⟩ := key x c' p _ hx
    cases he
    exact ⟨ho, by rw [← hval]; exact hown, fun _ h => h⟩
  · obtain ⟨rfl, _⟩ := key x c' p _ hx
    obtain ⟨rfl, _⟩ := key x' c'' p' _ hx'
    exact absurd rfl hne
/-- THE CONTRACT at a call, for a result that holds one new row j (its rows c) -/
theorem callOk_row {P : Program} {base : Bk} {w0 : World} {ρ ρ' : Env} {H : Heap} {f : FuncId} {args : List SV} {n j c : Nat} {pat : List CK} {E : TypeId} {res : SV} (hpat : pat ≠ []) (hj : n ≤ j)
    (h : ∀ κ w, HeapOk ρ κ base H w → Kept base w0 w → base.top ≤ w.heap.size → Calls P f (args.map (SV.den ρ κ)).toArray w fun e w' => ∃ v, OwnRow w w' E pat (ρ'.a c) (ρ'.nl j) v ∧ (∀ κ', (rowS j c pat.length).den ρ' κ' = v → e = .returned (res.den ρ' κ')) ∧ Below w.heap.size w w') :
    CallOk P base w0 ρ ρ' H f args n res [.arr j c pat (some E)] := by
  intro κ w h1 h2 h3
  refine (h κ w h1 h2 h3).mono fun e w' ⟨v, g1, g2, g3⟩ => ?_
  obtain ⟨κ', k1, k2, k3⟩ := heapOk_row (P := P) (κ := κ) hpat g1
  exact ⟨κ', k1.agree (fun i hi => one_false.2 (by omega)) ρ, g2 κ' k2, g3, k3⟩
theorem OwnRow.slice {w w' : World} {E : TypeId} {pat : List CK} {rows : List (List Dat)} {nl : Bool} {v : Value} (hpat : pat ≠ []) (h : OwnRow w w' E pat rows nl v) : SliceIs w' pat rows v := by
  obtain ⟨κ', _, k2, k3⟩ := heapOk_row (P := default) (κ := kap0) (ρ := mkEnv [.l rows, .n nl]) (j := 1) (c := 0) hpat h
  have := SliceIs.of_arr (j := 1) (c := 0) k3 rfl (.k 1)
  rw [← k2]
  simpa [SC.den, slAddr, IE.den, CE.den, (k3.row 1 0 pat E rfl).1] using this
end Go.SX

/- SyV: what an argument is, from what it reads as. -/
set_option linter.unusedSimpArgs false
set_option linter.unusedVariables false
set_option linter.unusedSectionVars false
noncomputable section
namespace Go.SX
open Go Go.RowKit Go.ChangeShapes

def flatT (P : Program) : Nat → TypeId → Option (List CK)
  | 0, _ => none
  | d + 1, t => match P.underlying t with
    | some (.int k) => some [.int k]
    | some .bool => some [.bool]
    | some (.struct fs) => match flatFs P d 0 fs.toList with
      | some p => bif Nat.beq p.length (P.cellsOf t) then some p else none
      | none => none
    | some (.array n e) => match flatT P d e with
      | some p => bif Nat.beq p.length (P.cellsOf e) && Nat.beq (n * p.length) (P.cellsOf t) then some (List.replicate n p).flatten else none
      | none => none
    | _ => none
where
  flatFs (P : Program) : Nat → Nat → List Field → Option (List CK)
  | 0, _, _ => none
  | _ + 1, _, [] => some []
  | d + 1, off, f :: fs => match flatT P d f.type, flatFs P d (off + P.cellsOf f.type) fs with
    | some a, some b => bif Nat.beq f.offset off && Nat.beq a.length (P.cellsOf f.type) then some (a ++ b) else none
    | _, _ => none
/-- data of a pattern -/
def FitsP : List CK → List Dat → Prop
  | [], [] => True
  | .int k :: p, .i n :: r => (Lit.int k n).wf = true ∧ FitsP p r
  | .bool :: p, .b _ :: r => FitsP p r
  | _, _ => False
theorem FitsP.append : ∀ {p q : List CK} {r s : List Dat}, FitsP p r → FitsP q s → FitsP (p ++ q) (r ++ s)
  | [], _, [], _, _, h => h
  | [], _, _ :: _, _, h, _ => h.elim
  | .int k :: p, _, .i n :: r, _, ⟨h1, h2⟩, h => ⟨h1, h2.append h⟩
  | .bool :: p, _, .b _ :: r, _, h1, h => FitsP.append (p := p) (r := r) h1 h
  | .int _ :: _, _, [], _, h, _ => h.elim
  | .int _ :: _, _, .b _ :: _, _, h, _ => h.elim
  | .int _ :: _, _, .v _ :: _, _, h, _ => h.elim
  | .int _ :: _, _, .l _ :: _, _, h, _ => h.elim
  | .int _ :: _, _, .n _ :: _, _, h, _ => h.elim
  | .bool :: _, _, [], _, h, _ => h.elim
  | .bool :: _, _, .i _ :: _, _, h, _ => h.elim
  | .bool :: _, _, .v _ :: _, _, h, _ => h.elim
  | .bool :: _, _, .l _ :: _, _, h, _ => h.elim
  | .bool :: _, _, .n _ :: _, _, h, _ => h.elim
  | .val :: _, _, r, _, h, _ => by cases r <;> exact h.elim
theorem FitsP.length : ∀ {p : List CK} {r : List Dat}, FitsP p r → r.length = p.length
  | [], [], _ => rfl
  | [], _ :: _, h => h.elim
  | .int k :: p, .i n :: r, ⟨_, h2⟩ => by simp [h2.length]
  | .bool :: p, .b _ :: r, h => by simp [FitsP.length (p := p) (r := r) h]
  | .int _ :: _, [], h => h.elim
  | .int _ :: _, .b _ :: _, h => h.elim
  | .int _ :: _, .v _ :: _, h => h.elim
  | .int _ :: _, .l _ :: _, h => h.elim
  | .int _ :: _, .n _ :: _, h => h.elim
  | .bool :: _, [], h => h.elim
  | .bool :: _, .i _ :: _, h => h.elim
  | .bool :: _, .v _ :: _, h => h.elim
  | .bool :: _, .l _ :: _, h => h.elim
  | .bool :: _, .n _ :: _, h => h.elim
  | .val :: _, r, h => by cases r <;> exact h.elim
theorem rowCells_append : ∀ {p q : List CK} {r s : List Dat}, r.length = p.length → rowCells (p ++ q) (r ++ s) = rowCells p r ++ rowCells q s
  | [], _, [], _, _ => rfl
  | [], _, _ :: _, _, h => by simp at h
  | _ :: _, _, [], _, h => by simp at h
  | k :: p, q, d :: r, s, h => by
    simp only [List.cons_append, rowCells, List.headD_cons, List.tail_cons]
    rw [rowCells_append (by simpa using h)]
section
variable {H : Type} {enc : TypeId × Value → H} {P : Program} {w : World} {base : Nat} {spare : Nat → Bool} {held : Bool}
theorem trod_flat : ∀ (d : Nat), (∀ (t : TypeId) (p : List CK) (fuel : Nat) (cs : List Value) (x : DataW H × List MemPlace), flatT P d t = some p → DataW.trod enc P w base spare held fuel t cs = some x → ∃ r, FitsP p r ∧ cs = rowCells p r) ∧
    (∀ (fs : List Field) (off : Nat) (p : List CK) (m : Nat) (cs : List Value), flatT.flatFs P d off fs = some p → (∀ f ∈ fs, ∃ x, DataW.trod enc P w base spare held m f.type ((cs.drop f.offset).take (P.cellsOf f.type)) = some x) → ∃ r, FitsP p r ∧ (cs.drop off).take p.length = rowCells p r) := by
  intro d
  induction d with
  | zero => exact ⟨fun t p fuel cs x h => by simp [flatT] at h, fun fs off p m cs h => by simp [flatT.flatFs] at h⟩
  | succ d ih =>
    obtain ⟨ih1, ih2⟩ := ih
    refine ⟨fun t p fuel cs x h hx => ?_, fun fs off p m cs h hx => ?_⟩
    · unfold flatT at h
      split at h
      · rename_i k hu
        cases h
        obtain ⟨n, rfl, _, hw⟩ := DataW.trod_int hu hx
        exact ⟨[.i n], ⟨hw, trivial⟩, rfl⟩
      · rename_i hu
        cases h
        cases fuel with
        | zero => simp [DataW.trod] at hx
        | succ m =>
          unfold DataW.trod at hx
          rw [hu] at hx
          split at hx <;> simp_all
          exact ⟨[.b _], trivial, rfl⟩
      · rename_i fs hu
        split at h
        · rename_i p' hp
          cases hq : Nat.beq p'.length (P.cellsOf t)
          · rw [hq] at h; cases h
          · rw [hq] at h; simp only [cond_true] at h; cases h
            rw [Nat.beq_eq] at hq
            obtain ⟨xs, m, _, _, hlen, hxl, hel⟩ := DataW.trod_struct hu hx
            have hall : ∀ f ∈ fs.toList, ∃ x, DataW.trod enc P w base spare held m f.type ((cs.drop f.offset).take (P.cellsOf f.type)) = some x := by
              intro f hf
              obtain ⟨i, hi, hfi⟩ := List.getElem_of_mem hf
              have hi' : i < fs.size := by simpa using hi
              have := hel i f (by rw [Array.getElem?_eq_getElem hi']; simp at hfi; rw [hfi])
              exact ⟨xs[i]'(by omega), by rw [this, List.getElem?_eq_getElem (by omega)]⟩
            obtain ⟨r, h1, h2⟩ := ih2 _ _ _ m cs hp hall
            refine ⟨r, h1, ?_⟩
            rw [← h2, List.drop_zero, List.take_of_length_le (by omega)]
        · cases h
      · rename_i n e hu
        split at h
        · rename_i q hq
          cases hc : (Nat.beq q.length (P.cellsOf e) && Nat.beq (n * q.length) (P.cellsOf t))
          · rw [hc] at h; cases h
          · rw [hc] at h; simp only [cond_true] at h; cases h
            simp only [Bool.and_eq_true, Nat.beq_eq] at hc
            obtain ⟨xs, m, _, _, hlen, hxl, hel⟩ := DataW.trod_array hu hx
            have key : ∀ k, k ≤ n → ∃ r, FitsP (List.replicate k q).flatten r ∧ cs.take (k * q.length) = rowCells (List.replicate k q).flatten r := by
              intro k
              induction k with
              | zero => exact fun _ => ⟨[], trivial, by simp [rowCells]⟩
              | succ k ihk =>
                intro hk
                obtain ⟨r, h1, h2⟩ := ihk (by omega)
                have he := hel k (by omega)
                obtain ⟨y, hy⟩ : ∃ y, xs[k]? = some y := ⟨_, List.getElem?_eq_getElem (by omega)⟩
                rw [hy] at he
                obtain ⟨s, h3, h4⟩ := ih1 _ _ _ _ _ hq he
                refine ⟨r ++ s, ?_, ?_⟩
                · rw [List.replicate_succ', List.flatten_append, List.flatten_singleton]; exact h1.append h3
                · rw [List.replicate_succ', List.flatten_append, List.flatten_singleton, rowCells_append h1.length, ← h2, ← h4, Nat.add_mul, Nat.one_mul, List.take_add, hc.1]
            obtain ⟨r, h1, h2⟩ := key n (Nat.le_refl _)
            exact ⟨r, h1, by rw [← h2, List.take_of_length_le (by omega)]⟩
        · cases h
      · cases h
    · cases fs with
      | nil => simp only [flatT.flatFs] at h; cases h; exact ⟨[], trivial, by simp [rowCells]⟩
      | cons f fs =>
        simp only [flatT.flatFs] at h
        split at h
        · rename_i a b ha hb
          rw [Bool.cond_eq_ite] at h
          split at h
          · rename_i hc
            cases h
            simp only [Bool.and_eq_true, Nat.beq_eq] at hc
            obtain ⟨hoff, hal⟩ := hc
            obtain ⟨x, hx1⟩ := hx _ (List.mem_cons_self ..)
            obtain ⟨r, h1, h2⟩ := ih1 _ _ _ _ _ ha hx1
            obtain ⟨s, h3, h4⟩ := ih2 _ _ _ m cs hb (fun g hg => hx g (List.mem_cons_of_mem _ hg))
            refine ⟨r ++ s, h1.append h3, ?_⟩
            rw [rowCells_append h1.length, ← h2, ← h4, List.length_append, List.take_add, hal, List.drop_drop, hoff]
          · cases h
        · cases h
theorem okWide_agg {r : Reach} {b0 : Nat} {t : TypeId} {v : Value} (hr : rowP P t = some true) (hv : Value.okWide P w r b0 t v) : ∃ cs, v = .agg cs := by
  unfold rowP at hr
  simp only [Value.okWide] at hv
  split at hr
  · rename_i hu; rw [hu] at hv; obtain ⟨cs, h, _⟩ := hv; exact ⟨cs, h⟩
  · rename_i hu; rw [hu] at hv; obtain ⟨cs, h, _⟩ := hv; exact ⟨cs, h⟩
  · cases hr
  · cases hr
/-- AN ARGUMENT OF INTEGERS AND BOOLS, IN STRUCTS AND ARRAYS. -/
theorem open_flat {r : Reach} {b0 : Nat} {t : TypeId} {v : Value} {d : DataW H} {ps : List MemPlace} {pat : List CK} (hr : rowP P t = some true) (hp : flatT P 20 t = some pat) (hv : Value.okWide P w r b0 t v) (hd : DataW.Trod enc P w base spare held t v d ps) :
    ∃ r, FitsP pat r ∧ v = .agg (rowCells pat r).toArray := by
  obtain ⟨cs, rfl⟩ := okWide_agg hr hv
  obtain ⟨fuel, hf⟩ := hd
  obtain ⟨s, h1, h2⟩ := (trod_flat 20).1 t pat fuel _ _ hp hf
  refine ⟨s, h1, ?_⟩
  simp only [Value.cells] at h2
  rw [← h2]
/-- AN ARGUMENT THAT IS A SLICE OF SUCH ROWS. -/
theorem open_slice {b0 : Nat} {t e : TypeId} {v : Value} {d : DataW H} {ps : List MemPlace} {pat : List CK} (ht : P.underlying t = some (.slice e)) (hp : flatT P 20 e = some pat) (hl : pat.length = P.cellsOf e) (hv : Value.okWide P w .any b0 t v) (hd : DataW.Trod enc P w base spare held t v d ps) :
    ∃ (rows : List (List Dat)) (nl : Bool) (b o cap : Nat), (∀ r ∈ rows, FitsP pat r) ∧ v = .slice (if nl then none else some ⟨b, o, none⟩) rows.length cap ∧ (nl = true → rows = []) ∧ rows.length ≤ cap ∧ cap ≤ maxLen ∧
      ∀ (x f : Nat) r k, rows[x]? = some r → pat[f]? = some k → w.cell? ⟨b, o + x * pat.length + f, none⟩ = some (k.den (r.getD f (.i 0))) := by
  obtain ⟨fuel, hf⟩ := hd
  have hc : Cell.ok P w .any b0 t v := by
    simp only [Value.okWide, ht] at hv
    unfold Cell.okWide at hv
    rw [ht] at hv
    split at hv <;> first | (rename_i heq; cases heq; done) | exact hv
  unfold Cell.ok at hc
  rw [ht] at hc
  split at hc <;> (try (rename_i heq; cases heq; done)) <;> (try exact hc.elim)
  · exact ⟨[], true, 0, 0, 0, fun r hr => (by cases hr), rfl, fun _ => rfl, Nat.le_refl _, Nat.zero_le _, fun x f r k hx => by simp at hx⟩
  · rename_i e' a len cap heq
    cases heq
    obtain ⟨_, _, _, hspot, _⟩ := hc
    have hf' : DataW.trod enc P w base spare held fuel t [.slice (some a) len cap] = some (d, ps) := hf
    rcases DataW.trod_slice ht hf' with ⟨h0, _⟩ | ⟨a', len', cap', elems, rest, n, _, h0, _, hb, hlc, hm, hlen, hel, _, _⟩
    · cases h0
    · cases h0
      obtain ⟨ab, ao, asp⟩ := a
      simp only at hspot
      subst hspot
      have key : ∀ k, k ≤ len → ∃ rows : List (List Dat), rows.length = k ∧ (∀ r ∈ rows, FitsP pat r) ∧ ∀ (x f : Nat) r kk, rows[x]? = some r → pat[f]? = some kk → w.cell? ⟨ab, ao + x * pat.length + f, none⟩ = some (kk.den (r.getD f (.i 0))) := by
        intro k
        induction k with
        | zero => exact fun _ => ⟨[], rfl, fun r hr => (by cases hr), fun x f r k hx => by simp at hx⟩
        | succ k ih =>
          intro hk
          obtain ⟨rows, g1, g2, g3⟩ := ih (by omega)
          have he := hel k (by omega)
          obtain ⟨y, hy⟩ : ∃ y, elems[k]? = some y := ⟨_, List.getElem?_eq_getElem (by omega)⟩
          rw [hy, Option.bind_eq_some_iff] at he
          obtain ⟨cs, hcs, hty⟩ := he
          obtain ⟨r, h1, h2⟩ := (trod_flat 20).1 e pat _ _ _ hp hty
          refine ⟨rows ++ [r], by simp [g1], fun r' hr' => ?_, fun x f r' kk hx hkk => ?_⟩
          · rcases List.mem_append.1 hr' with hr' | hr'
            · exact g2 r' hr'
            · simp at hr'; subst hr'; exact h1
          · rw [List.getElem?_append] at hx
            split at hx
            · exact g3 x f r' kk hx hkk
            · rename_i hlt
              have hxe : x = rows.length := by
                have := (List.getElem?_eq_some_iff.1 hx).1
                simp at this; omega
              subst hxe
              simp at hx; subst hx
              have hfl : f < pat.length := (List.getElem?_eq_some_iff.1 hkk).1
              have hcell := (World.cells?_some hcs).2.2 f (by omega)
              have hrow := rowCells_get pat r f kk hkk
              rw [← h2] at hrow
              rw [hrow] at hcell
              simp only [Addr.add_mid] at hcell
              rw [g1, hl]
              exact hcell
      obtain ⟨rows, g1, g2, g3⟩ := key len (Nat.le_refl _)
      exact ⟨rows, false, ab, ao, cap, g2, by rw [g1]; rfl, fun h => (by cases h), by omega, hm, g3⟩
end
end Go.SX
