/- SxH: loops: the state at a round's head, and when another state fits it; results; the walk itself. -/
import Derived.Test.YtjclacagbifgmaaSyG
set_option linter.unusedSimpArgs false
set_option linter.unusedVariables false
set_option linter.unusedSectionVars false
noncomputable section
namespace Go.SX
open Go Go.RowKit

/-! ### the state at a loop's head -/
def freshC (n : Nat) : SC → Option (VK × SC)
  | .int k _ => some (.i, .int k (.v n))
  | .bool _ => some (.b, .bool (.v n))
  | s => bif s.free then some (.v, .vx n) else none
def freshL (n : Nat) : List SC → Option (List VK × List SC)
  | [] => some ([], [])
  | s :: l => match freshC n s, freshL (n + 1) l with
    | some (k, c), some (ks, cs) => some (k :: ks, c :: cs)
    | _, _ => none
def dropRow (H : Heap) : SC → Heap
  | .slice j _ _ _ _ _ => H.delA j
  | _ => H
/-- forget what stands at the places of a list -/
def hav (P : Program) (sl : Sl) (H : Heap) (n : Nat) : List Loc → Option (Sl × Heap × List VK)
  | [] => some (sl, H, [])
  | .slot t :: r => match slot sl t with
    | some (.a (.c s)) => match freshC n s with
      | some (k, c) => match hav P (setSlot sl t (.c c)) H (n + 1) r with
        | some (sl, H, ks) => some (sl, H, k :: ks)
        | none => none
      | none => none
    | some (.a (.agg l)) => match freshL n l with
      | some (k, c) => match hav P (setSlot sl t (.agg c)) H (n + k.length) r with
        | some (sl, H, ks) => some (sl, H, k ++ ks)
        | none => none
      | none => none
    | _ => none
  | .cell id off :: r => match H.own? id with
    | some (cs, _) => match cs[off]? with
      | some s => match freshC n s with
        | some (k, c) => match hav P sl (H.setOwn id (cs.set off c)) (n + 1) r with
          | some (sl, H, ks) => some (sl, H, k :: ks)
          | none => none
        | none => none
      | none => none
    | none => none
  | .row t E :: r => match slot sl t, patOf P 60 E with
    | some (.a (.c c)), some pat => match hav P (setSlot sl t (.c (rowSC n pat.length))) (.arr (n + 1) n pat (some E) :: dropRow H c) (n + 2) r with
      | some (sl, H, ks) => some (sl, H, .l :: .n :: ks)
      | none => none
    | _, _ => none
  | .rowc id off E :: r => match H.own? id, patOf P 60 E with
    | some (cs, _), some pat => match cs[off]? with
      | some c => match hav P sl (.arr (n + 1) n pat (some E) :: dropRow (H.setOwn id (cs.set off (rowSC n pat.length))) c) (n + 2) r with
        | some (sl, H, ks) => some (sl, H, .l :: .n :: ks)
        | none => none
      | none => none
    | _, _ => none
  | .cont j :: r => match H.arr? j with
    | some _ => match hav P sl (H.turnA j n) (n + 1) r with
      | some (sl, H, ks) => some (sl, H, .l :: ks)
      | none => none
    | none => none
def Code.dsts : Code → List Nat
  | .region _ ops _ => ops.toList.filterMap (·.dst)
  | .seq a b => Code.dsts a ++ Code.dsts b
  | .cond _ a b => Code.dsts a ++ Code.dsts b
  | .block _ b | .loop b | .scope b => Code.dsts b
  | .rangeFunc _ ps _ _ => ps.toList
  | _ => []
def firstRegion : Code → Option Nat
  | .region id _ _ => some id
  | .seq a b => match firstRegion a with
    | some i => some i
    | none => firstRegion b
  | .cond _ a b => match firstRegion a with
    | some i => some i
    | none => firstRegion b
  | .block _ b | .loop b | .scope b => firstRegion b
  | _ => none
def Loc.isSlot (t : Nat) : Loc → Bool
  | .slot u => Nat.beq t u
  | .row u _ => Nat.beq t u
  | _ => false
def anys (sl : Sl) (locs : List Loc) : List Nat → Sl
  | [] => sl
  | t :: l => anys (bif locs.any (Loc.isSlot t) then sl else setSlot sl t .any) locs l
/-! ### when a state fits a head -/
def collC (n : Nat) : SC → SC → List (Nat × LV)
  | .int _ (.v i), .int _ e => bif Nat.ble n i then [(i, .i e)] else []
  | .bool (.v i), .bool e => bif Nat.ble n i then [(i, .b e)] else []
  | .vx i, c => bif Nat.ble n i then [(i, .v c)] else []
  | .slice j _ _ _ (.alen c) _, .slice j' _ _ _ (.alen c') _ => bif Nat.ble n j then [(c, .l (.arr c')), (j, .n (.nl j'))] else []
  | _, _ => []
def collL (n : Nat) : List SC → List SC → List (Nat × LV)
  | h :: l, c :: r => collC n h c ++ collL n l r
  | _, _ => []
def collS (n : Nat) : SV → SV → List (Nat × LV)
  | .a h, .a c => collL n h.cells c.cells
  | _, _ => []
def collSs (n : Nat) : Sl → Sl → List (Nat × LV)
  | .node h l r, .node c l' r' => collS n h c ++ (collSs n l l' ++ collSs n r r')
  | _, _ => []
def collH (n : Nat) (H' : Heap) : Heap → List (Nat × LV)
  | [] => []
  | .obj id (.cells cs _ _) :: H => (match H'.own? id with
    | some (cs', _) => collL n cs cs'
    | none => []) ++ collH n H' H
  | .arr j c _ _ :: H => (bif Nat.blt j n && Nat.ble n c then match H'.arr? j with
    | some (c', _, _) => [(c, .l (.arr c'))]
    | none => [] else []) ++ collH n H' H
  | _ :: H => collH n H' H
def look (i : Nat) : List (Nat × LV) → Option LV
  | [] => none
  | (j, v) :: l => bif Nat.beq i j then some v else look i l
def valsOf (as : List (Nat × LV)) (n : Nat) : List VK → Option (List LV)
  | [] => some []
  | k :: ks => match look n as, valsOf as (n + 1) ks with
    | some v, some r => match k, v with
      | .i, .i e => some (.i e :: r)
      | .b, .b e => some (.b e :: r)
      | .v, .v e => bif e.free then some (.v e :: r) else none
      | .l, .l e => some (.l e :: r)
      | .n, .n e => some (.n e :: r)
      | _, _ => none
    | _, _ => none
def lvq : Option LV → LV → Bool
  | some a, b => a.eqb b
  | _, _ => false
/-- which row a row of the head is -/
def rnOf (as : List (Nat × LV)) (n j : Nat) : Nat := bif Nat.ble n j then (match look j as with
  | some (.n (.nl j')) => j'
  | _ => j) else j
def ieq0 : IE → Bool
  | .lit (.ofNat 0) => true
  | _ => false
def mtR (n : Nat) (f : Nat → Nat) (vals : List LV) (j s c0 : Nat) (x len : IE) (cap : CE) : SC → Bool
  | .slice j' s' c0' x' (.alen c') (.k k') => match len, cap with
    | .alen c, .k k => (Nat.beq k j && Nat.beq k' j') && ((Nat.beq s s' && Nat.beq c0 c0') && ((ieq0 x && ieq0 x') && ((Nat.ble n c && Nat.beq (f j) j') && (lvq vals[c - n]? (.l (.arr c')) && lvq vals[j - n]? (.n (.nl j'))))))
    | _, _ => false
  | _ => false
def mtC (n : Nat) (f : Nat → Nat) (vals : List LV) (h c : SC) : Bool :=
  match h, c with
  | .int k (.v i), .int k' e => bif Nat.ble n i then Nat.beq (kn k) (kn k') && lvq vals[i - n]? (.i e) else h.eqb c && h.bnd n
  | .bool (.v i), .bool e => bif Nat.ble n i then lvq vals[i - n]? (.b e) else h.eqb c && h.bnd n
  | .vx i, c => bif Nat.ble n i then lvq vals[i - n]? (.v c) && c.free else h.eqb c && h.bnd n
  | .slice j s c0 x len cap, c => bif Nat.ble n j then mtR n f vals j s c0 x len cap c else h.eqb c && h.bnd n
  | h, c => h.eqb c && h.bnd n
def mtL (n : Nat) (f : Nat → Nat) (vals : List LV) : List SC → List SC → Bool
  | [], [] => true
  | h :: l, c :: r => mtC n f vals h c && mtL n f vals l r
  | _, _ => false
def mtA (n : Nat) (f : Nat → Nat) (vals : List LV) : SA → SA → Bool
  | .c h, .c c => mtC n f vals h c
  | .agg l, .agg r => mtL n f vals l r
  | _, _ => false
def mtAs (n : Nat) (f : Nat → Nat) (vals : List LV) : List SA → List SA → Bool
  | [], [] => true
  | h :: l, c :: r => mtA n f vals h c && mtAs n f vals l r
  | _, _ => false
def mtS (n : Nat) (f : Nat → Nat) (vals : List LV) : SV → SV → Bool
  | .any, _ => true
  | .a h, .a c => mtA n f vals h c
  | .tup l, .tup r => mtAs n f vals l r
  | _, _ => false
def mtSs (n : Nat) (f : Nat → Nat) (vals : List LV) : Sl → Sl → Bool
  | .nil, .nil => true
  | .node h l r, .node c l' r' => mtS n f vals h c && (mtSs n f vals l l' && mtSs n f vals r r')
  | _, _ => false
def oq : Option TypeId → Option TypeId → Bool
  | none, none => true
  | some a, some b => Nat.beq a b
  | _, _ => false
theorem oq_eq {a b : Option TypeId} (h : oq a b = true) : a = b := by
  cases a <;> cases b <;> simp [oq] at h <;> first | rfl | rw [h]
def lseq : LoopState → LoopState → Bool
  | .ready, .ready => true
  | .busy, .busy => true
  | .done, .done => true
  | .exhausted, .exhausted => true
  | _, _ => false
theorem lseq_eq {a b : LoopState} (h : lseq a b = true) : a = b := by cases a <;> cases b <;> simp [lseq] at h <;> rfl
def pathq : List Bool → List Bool → Bool
  | [], [] => true
  | a :: l, b :: r => bq a b && pathq l r
  | _, _ => false
theorem pathq_eq : ∀ {a b : List Bool}, pathq a b = true → a = b
  | [], [], _ => rfl
  | [], _ :: _, h => by cases h
  | _ :: _, [], h => by cases h
  | x :: l, y :: r, h => by simp only [pathq, Bool.and_eq_true] at h; rw [bq_eq h.1, pathq_eq h.2]
def esq : List (IE × SA) → List (IE × SA) → Bool
  | [], [] => true
  | a :: l, b :: r => (a.1.eqb b.1 && a.2.eqb b.2) && esq l r
  | _, _ => false
theorem esq_eq : ∀ {a b : List (IE × SA)}, esq a b = true → a = b
  | [], [], _ => rfl
  | [], _ :: _, h => by simp [esq] at h
  | _ :: _, [], h => by simp [esq] at h
  | (x, s) :: l, (y, u) :: r, h => by simp only [esq, Bool.and_eq_true] at h; rw [IE.eqb_eq h.1.1, SA.eqb_eq h.1.2, esq_eq h.2]
def mtO (n : Nat) (f : Nat → Nat) (vals : List LV) : SObj → SObj → Bool
  | .cells cs ty g, .cells cs' ty' g' => (Nat.beq ty ty' && oq g g') && mtL n f vals cs cs'
  | .loop r, .loop r' => (lseq r.state r'.state && (r.pending.isNone && r'.pending.isNone)) && (Nat.beq r.fn r'.fn && (pathq r.path r'.path && (r.sl.eqb r'.sl && r.sl.all (SV.bnd n))))
  | .map k es, .map k' es' => Nat.beq (kn k) (kn k') && (esq es es' && esBnd n es)
  | _, _ => false
def mtH (n : Nat) (f : Nat → Nat) (vals : List LV) (H' : Heap) : Heap → Bool
  | [] => true
  | .obj id o :: H => (match H'.obj? id with
    | some o' => Nat.blt id n && mtO n f vals o o'
    | none => false) && mtH n f vals H' H
  | .arr j c p o :: H => (match H'.arr? (f j) with
    | some (c', p', o') => (patq p p' && oq o o') && (bif Nat.ble n j then Nat.ble n c && (lvq vals[c - n]? (.l (.arr c')) && lvq vals[j - n]? (.n (.nl (f j)))) else bif Nat.ble n c then lvq vals[c - n]? (.l (.arr c')) else Nat.beq c c' && Nat.blt c n)
    | none => false) && mtH n f vals H' H
def arrIds : Heap → List Nat
  | [] => []
  | .obj .. :: H => arrIds H
  | .arr j _ _ _ :: H => j :: arrIds H
def injA (f : Nat → Nat) (j : Nat) : List Nat → Bool
  | [] => true
  | i :: l => (Nat.beq j i || !(Nat.beq (f j) (f i))) && injA f j l
def injL (f : Nat → Nat) : List Nat → Bool
  | [] => true
  | j :: l => injA f j l && injL f l
def lcheck (n : Nat) (ks : List VK) (head st : St) : Option (List LV) :=
  let as := collSs n head.sl st.sl ++ collH n st.H head.H
  match valsOf as n ks with
  | some vals => bif (mtSs n (rnOf as n) vals head.sl st.sl && mtH n (rnOf as n) vals st.H head.H) && injL (rnOf as n) (arrIds head.H) then some vals else none
  | none => none
theorem injA_spec {f : Nat → Nat} {j : Nat} : ∀ {l : List Nat}, injA f j l = true → ∀ i ∈ l, j ≠ i → f j ≠ f i
  | [], _, i, hi => by cases hi
  | x :: l, h, i, hi => by
    simp only [injA, Bool.and_eq_true, Bool.or_eq_true, Bool.not_eq_true', Nat.beq_eq] at h
    rcases List.mem_cons.1 hi with rfl | hi
    · intro hne
      rcases h.1 with h1 | h1
      · exact absurd h1 hne
      · exact beq_false h1
    · exact injA_spec h.2 i hi
theorem injL_spec {f : Nat → Nat} : ∀ {l : List Nat}, injL f l = true → ∀ j ∈ l, ∀ i ∈ l, j ≠ i → f j ≠ f i
  | [], _, j, hj => by cases hj
  | x :: l, h, j, hj => by
    simp only [injL, Bool.and_eq_true] at h
    intro i hi hne
    rcases List.mem_cons.1 hj with ej | hj2 <;> rcases List.mem_cons.1 hi with ei | hi2
    · exact absurd (ej.trans ei.symm) hne
    · subst ej; exact injA_spec h.1 i hi2 hne
    · subst ei; exact (injA_spec h.1 j hj2 hne.symm).symm
    · exact injL_spec h.2 j hj2 i hi2 hne
theorem mem_arrIds {H : Heap} {j : Nat} {y : Nat × List CK × Option TypeId} (h : H.arr? j = some y) : j ∈ arrIds H := by
  induction H with
  | nil => cases h
  | cons e H ih =>
    cases e with
    | obj i o => exact ih h
    | arr i c p o =>
      unfold Heap.arr? at h
      cases hq : Nat.beq i j
      · rw [hq] at h; exact List.mem_cons_of_mem _ (ih h)
      · rw [Nat.beq_eq] at hq; subst hq; exact List.mem_cons_self ..
theorem rnOf_lt {as : List (Nat × LV)} {n j : Nat} (h : j < n) : rnOf as n j = j := by
  unfold rnOf
  have : Nat.ble n j = false := by rw [Bool.eq_false_iff]; simp; omega
  rw [this]; rfl
/-- the places under other names -/
def Kap.ren (κ : Kap) (f : Nat → Nat) : Kap := ⟨κ.o, fun j => κ.ab (f j), fun j => κ.ao (f j), fun j => κ.cap (f j)⟩
section
variable {n : Nat} {ρ ρ' : Env} {κ κ' : Kap} {ks : List VK} {vals : List LV}
theorem fits_vals (ρ : Env) {as : List (Nat × LV)} : ∀ {ks : List VK} {n : Nat} {vals : List LV}, valsOf as n ks = some vals → fitsL ks (vals.map (LV.eval ρ)) = true ∧ ∀ (i : Nat) c, vals[i]? = some (.v c) → c.free = true := by
  intro ks
  induction ks with
  | nil => intro n vals h; cases h; exact ⟨rfl, fun i c hc => by simp at hc⟩
  | cons k ks ih =>
    intro n vals h
    unfold valsOf at h
    split at h
    · rename_i v r hv hr
      obtain ⟨h1, h2⟩ := ih hr
      split at h
      · cases h; refine ⟨by simp [fitsL, Dat.fits, LV.eval, h1], fun i c hc => ?_⟩
        cases i with
        | zero => simp at hc
        | succ i => exact h2 i c (by simpa using hc)
      · cases h; refine ⟨by simp [fitsL, Dat.fits, LV.eval, h1], fun i c hc => ?_⟩
        cases i with
        | zero => simp at hc
        | succ i => exact h2 i c (by simpa using hc)
      · rename_i e
        cases hf : e.free
        · rw [hf] at h; cases h
        · rw [hf] at h; simp only [cond_true] at h; cases h
          refine ⟨by simp [fitsL, Dat.fits, LV.eval, h1], fun i c hc => ?_⟩
          cases i with
          | zero => simp at hc; subst hc; exact hf
          | succ i => exact h2 i c (by simpa using hc)
      · cases h; refine ⟨by simp [fitsL, Dat.fits, LV.eval, h1], fun i c hc => ?_⟩
        cases i with
        | zero => simp at hc
        | succ i => exact h2 i c (by simpa using hc)
      · cases h; refine ⟨by simp [fitsL, Dat.fits, LV.eval, h1], fun i c hc => ?_⟩
        cases i with
        | zero => simp at hc
        | succ i => exact h2 i c (by simpa using hc)
      · cases h
    · cases h
theorem setL_get : ∀ (l : List Dat) (n : Nat) (ρ : Env) (i : Nat) (d : Dat), l[i]? = some d →
    match d with
    | .i x => (ρ.setL n l).i (n + i) = x
    | .b x => (ρ.setL n l).b (n + i) = x
    | .v x => (ρ.setL n l).v (n + i) = x.1
    | .l x => (ρ.setL n l).a (n + i) = x
    | .n x => (ρ.setL n l).nl (n + i) = x
  | [], _, _, _, _, h => by simp at h
  | d :: l, n, ρ, 0, e, h => by
    simp at h; subst h
    have A := Agree.setL kap0 l (n + 1) (ρ.set n d)
    cases d <;> simp only [Env.setL, Nat.add_zero]
    · rw [A.i n (by omega)]; simp [Env.set]
    · rw [A.b n (by omega)]; simp [Env.set]
    · rw [A.v n (by omega)]; simp [Env.set]
    · rw [A.a n (by omega)]; simp [Env.set]
    · rw [A.nl n (by omega)]; simp [Env.set]
  | d :: l, n, ρ, i + 1, e, h => by
    have := setL_get l (n + 1) (ρ.set n d) i e (by simpa using h)
    rw [show n + 1 + i = n + (i + 1) by omega] at this
    exact this
variable {f : Nat → Nat} (A : Agree n ρ ρ' κ κ') (hf : ∀ j, j < n → f j = j)
include A hf
theorem Agree.headK (l : List Dat) : Agree n ρ (ρ.setL n l) κ (κ'.ren f) := by
  have A1 := Agree.setL κ l n ρ
  exact ⟨A1.i, A1.b, A1.v, A1.a, A1.nl, A.o, fun j hj => by simp only [Kap.ren, hf j hj]; exact A.kb j hj, fun j hj => by simp only [Kap.ren, hf j hj]; exact A.ko j hj, fun j hj => by simp only [Kap.ren, hf j hj]; exact A.kc j hj⟩
theorem eqb_den {h c : SC} (hc : (h.eqb c && h.bnd n) = true) (l : List Dat) : h.den (ρ.setL n l) (κ'.ren f) = c.den ρ' κ' := by
  simp only [Bool.and_eq_true] at hc
  rw [← SC.eqb_eq hc.1]
  rw [SC.agree (Agree.headK A hf l) h hc.2, SC.agree A h hc.2]
omit A hf in
theorem vals_get {i : Nat} {lv : LV} (hi : n ≤ i) (hq : lvq vals[i - n]? lv = true) : (vals.map (LV.eval ρ'))[i - n]? = some (lv.eval ρ') ∧ n + (i - n) = i := by
  unfold lvq at hq
  split at hq
  · rename_i a ha; exact ⟨by simp [ha, LV.eqb_eq hq], by omega⟩
  · cases hq
theorem mtC_den {h c : SC} (hm : mtC n f vals h c = true) : h.den (ρ.setL n (vals.map (LV.eval ρ'))) (κ'.ren f) = c.den ρ' κ' := by
  unfold mtC at hm
  split at hm
  · rename_i k i k' e
    cases hi : Nat.ble n i
    · rw [hi] at hm; exact eqb_den A hf hm _
    · rw [hi] at hm; simp only [cond_true, Bool.and_eq_true] at hm
      rw [Nat.ble_eq] at hi
      obtain ⟨g1, g2⟩ := vals_get (ρ' := ρ') hi hm.2
      have := setL_get _ n ρ _ _ g1
      simp only [LV.eval, g2] at this
      simp only [SC.den, IE.den, this, kn_eq hm.1]
  · rename_i i e
    cases hi : Nat.ble n i
    · rw [hi] at hm; exact eqb_den A hf hm _
    · rw [hi] at hm; simp only [cond_true] at hm
      rw [Nat.ble_eq] at hi
      obtain ⟨g1, g2⟩ := vals_get (ρ' := ρ') hi hm
      have := setL_get _ n ρ _ _ g1
      simp only [LV.eval, g2] at this
      simp only [SC.den, BE.den, this]
  · rename_i i
    cases hi : Nat.ble n i
    · rw [hi] at hm; exact eqb_den A hf hm _
    · rw [hi] at hm; simp only [cond_true, Bool.and_eq_true] at hm
      rw [Nat.ble_eq] at hi
      obtain ⟨g1, g2⟩ := vals_get (ρ' := ρ') hi hm.1
      have := setL_get _ n ρ _ _ g1
      simp only [LV.eval, g2] at this
      rw [SC.free_den hm.2 ρ' κ' kap0]
      simp only [SC.den, this]
  · rename_i j s c0 x len cap
    cases hi : Nat.ble n j
    · rw [hi] at hm; exact eqb_den A hf hm _
    · rw [hi] at hm; simp only [cond_true] at hm
      rw [Nat.ble_eq] at hi
      unfold mtR at hm
      split at hm
      · rename_i j' s' c0' x' c' k'
        split at hm
        · rename_i c k
          simp only [Bool.and_eq_true, Nat.beq_eq, Nat.ble_eq] at hm
          obtain ⟨⟨rfl, rfl⟩, ⟨rfl, rfl⟩, ⟨hx, hx'⟩, ⟨hc, hfj⟩, m1, m2⟩ := hm
          have e0 : ∀ {x : IE}, ieq0 x = true → x = .lit (.ofNat 0) := fun {x} h => by unfold ieq0 at h; split at h <;> simp_all
          rw [e0 hx, e0 hx']
          obtain ⟨g1, g2⟩ := vals_get (ρ' := ρ') hc m1
          have q1 := setL_get _ n ρ _ _ g1
          simp only [LV.eval, AE.den, g2] at q1
          obtain ⟨g1, g2⟩ := vals_get (ρ' := ρ') hi m2
          have q2 := setL_get _ n ρ _ _ g1
          simp only [LV.eval, BE.den, g2] at q2
          simp only [SC.den, slAddr, IE.den, CE.den, q1, q2, Kap.ren, hfj]
        · cases hm
      · cases hm
  · exact eqb_den A hf hm _
theorem mtL_den : ∀ {h c : List SC}, mtL n f vals h c = true → h.map (SC.den (ρ.setL n (vals.map (LV.eval ρ'))) (κ'.ren f)) = c.map (SC.den ρ' κ')
  | [], [], _ => rfl
  | [], _ :: _, hm => by cases hm
  | _ :: _, [], hm => by cases hm
  | h :: l, c :: r, hm => by
    simp only [mtL, Bool.and_eq_true] at hm
    simp only [List.map_cons, mtC_den A hf hm.1, mtL_den hm.2]
theorem mtA_den {h c : SA} (hm : mtA n f vals h c = true) : h.den (ρ.setL n (vals.map (LV.eval ρ'))) (κ'.ren f) = c.den ρ' κ' := by
  unfold mtA at hm
  split at hm
  · exact mtC_den A hf hm
  · simp only [SA.den, mtL_den A hf hm]
  · cases hm
theorem mtAs_den : ∀ {h c : List SA}, mtAs n f vals h c = true → h.map (SA.den (ρ.setL n (vals.map (LV.eval ρ'))) (κ'.ren f)) = c.map (SA.den ρ' κ')
  | [], [], _ => rfl
  | [], _ :: _, hm => by cases hm
  | _ :: _, [], hm => by cases hm
  | h :: l, c :: r, hm => by
    simp only [mtAs, Bool.and_eq_true] at hm
    simp only [List.map_cons, mtA_den A hf hm.1, mtAs_den hm.2]
theorem mtS_den {h c : SV} (hm : mtS n f vals h c = true) (ha : h.isAny = false) : h.den (ρ.setL n (vals.map (LV.eval ρ'))) (κ'.ren f) = c.den ρ' κ' ∧ c.isAny = false := by
  unfold mtS at hm
  split at hm
  · cases ha
  · exact ⟨mtA_den A hf hm, rfl⟩
  · exact ⟨by simp only [SV.den, mtAs_den A hf hm], rfl⟩
  · cases hm
theorem mtSs_den : ∀ {h c : Sl}, mtSs n f vals h c = true → ∀ (t : Nat) s, slot h t = some s → ∃ s', slot c t = some s' ∧ (s.isAny = false → s'.isAny = false ∧ s.den (ρ.setL n (vals.map (LV.eval ρ'))) (κ'.ren f) = s'.den ρ' κ')
  | .nil, .nil, _, t, s, hs => by rw [slot_nil] at hs; cases hs
  | .nil, .node .., hm, _, _, _ => by cases hm
  | .node .., .nil, hm, _, _, _ => by cases hm
  | .node h l r, .node c l' r', hm, t, s, hs => by
    simp only [mtSs, Bool.and_eq_true] at hm
    cases t with
    | zero => rw [slot_zero] at hs; cases hs; exact ⟨c, slot_zero .., fun ha => ⟨(mtS_den A hf hm.1 ha).2, (mtS_den A hf hm.1 ha).1⟩⟩
    | succ t =>
      rw [slot_succ] at hs ⊢
      split at hs
      · rename_i e; rw [if_pos e]; exact mtSs_den hm.2.1 _ s hs
      · rename_i e; rw [if_neg e]; exact mtSs_den hm.2.2 _ s hs
theorem mtO_is {P : Program} {id : Nat} (hid : id < n) {o o' : SObj} (hm : mtO n f vals o o' = true) {b : Obj} (hb : o'.Is P ρ' κ' id b) : o.Is P (ρ.setL n (vals.map (LV.eval ρ'))) (κ'.ren f) id b := by
  have A' := Agree.headK A hf (vals.map (LV.eval ρ'))
  unfold mtO at hm
  split at hm
  · rename_i cs ty g cs' ty' g'
    simp only [Bool.and_eq_true, Nat.beq_eq] at hm
    obtain ⟨⟨rfl, hg⟩, hm⟩ := hm
    have hg := oq_eq hg; subst hg
    cases g with
    | none => simp only [SObj.Is] at hb ⊢; rw [mtL_den A hf hm]; exact hb
    | some z =>
      obtain ⟨sp, e1, e2, e3⟩ := hb
      have hl : cs.length = cs'.length := by have := congrArg List.length (mtL_den A hf hm); simpa using this
      refine ⟨sp, by rw [mtL_den A hf hm]; exact e1, ?_, ?_⟩
      · simp only [Kap.ren, hf id hid, hl]; exact e2
      · simp only [Kap.ren, hf id hid]; exact e3
  · rename_i r r'
    simp only [Bool.and_eq_true, Nat.beq_eq, Option.isNone_iff_eq_none] at hm
    obtain ⟨⟨h1, h2, h2'⟩, h3, h4, h5, h6⟩ := hm
    obtain ⟨tm, g, ps, as, bo, D, fn, k0, k1, k2⟩ := hb
    have h1 := lseq_eq h1
    have h4 := pathq_eq h4
    have h5 := Sl.eqb_eq h5
    refine ⟨tm, g, ps, as, bo, D, fn, by rw [h3, h4]; exact k0, ?_, by rw [h1, h2]; rw [h2'] at k2; exact k2⟩
    have k1' : SlotsOk ρ' κ' r.sl tm := by rw [h5]; exact k1
    refine ⟨k1'.1, fun t s ht ha => ?_⟩
    have hs := Sl.all_get (f := SV.bnd n) h6 ht
    rw [k1'.2 t s ht ha, SV.agree A hs, SV.agree A' hs]
  · rename_i k es k' es'
    simp only [Bool.and_eq_true] at hm
    have h1 := kn_eq hm.1
    have h2 := esq_eq hm.2.1
    subst h1; subst h2
    obtain ⟨l, clock, k1, k2⟩ := hb
    refine ⟨l, clock, k1, ?_⟩
    rw [k2, es_agree A hm.2.2 k, es_agree A' hm.2.2 k]
  · cases hm
theorem mtH_obj {P : Program} {H' : Heap} : ∀ {H : Heap}, mtH n f vals H' H = true → ∀ id o, H.obj? id = some o →
    id < n ∧ ∃ o', H'.obj? id = some o' ∧ ∀ b, o'.Is P ρ' κ' id b → o.Is P (ρ.setL n (vals.map (LV.eval ρ'))) (κ'.ren f) id b
  | [], _, _, _, ho => by cases ho
  | .obj i c :: H, hm, id, o, ho => by
    simp only [mtH, Bool.and_eq_true] at hm
    unfold Heap.obj? at ho
    cases hq : Nat.beq i id
    · rw [hq] at ho; exact mtH_obj hm.2 id o ho
    · rw [hq] at ho; cases ho
      rw [Nat.beq_eq] at hq; subst hq
      have h1 := hm.1
      split at h1
      · rename_i o' ho'
        simp only [Bool.and_eq_true, Nat.blt_eq] at h1
        exact ⟨h1.1, o', ho', fun b hb => mtO_is A hf h1.1 h1.2 hb⟩
      · cases h1
  | .arr _ _ _ _ :: H, hm, id, o, ho => by
    simp only [mtH, Bool.and_eq_true] at hm
    exact mtH_obj hm.2 id o ho
theorem mtH_arr {H' : Heap} : ∀ {H : Heap}, mtH n f vals H' H = true → ∀ j c p o, H.arr? j = some (c, p, o) → ∃ c', H'.arr? (f j) = some (c', p, o) ∧ (ρ.setL n (vals.map (LV.eval ρ'))).a c = ρ'.a c' ∧ (ρ.setL n (vals.map (LV.eval ρ'))).nl j = ρ'.nl (f j)
  | [], _, _, _, _, _, ho => by cases ho
  | .arr i c0 t o0 :: H, hm, j, c, p, o, ho => by
    simp only [mtH, Bool.and_eq_true] at hm
    unfold Heap.arr? at ho
    cases hq : Nat.beq i j
    · rw [hq] at ho; exact mtH_arr hm.2 j c p o ho
    · rw [hq] at ho; cases ho
      rw [Nat.beq_eq] at hq; subst hq
      have h1 := hm.1
      split at h1
      · rename_i c2 p2 o2 ho'
        simp only [Bool.and_eq_true] at h1
        obtain ⟨⟨e1, e2⟩, h1⟩ := h1
        have e1 := patq_eq e1
        have e2 := oq_eq e2
        subst e1; subst e2
        refine ⟨c2, ho', ?_⟩
        cases hi : Nat.ble n i
        · rw [hi] at h1; simp only [cond_false] at h1
          have hi : i < n := by rw [Bool.eq_false_iff] at hi; simp at hi; omega
          have A1 := Agree.setL κ (vals.map (LV.eval ρ')) n ρ
          cases hc0 : Nat.ble n c0
          · rw [hc0] at h1; simp only [cond_false, Bool.and_eq_true, Nat.beq_eq, Nat.blt_eq] at h1
            obtain ⟨rfl, hc⟩ := h1
            exact ⟨(A1.a _ hc).trans (A.a _ hc).symm, by rw [hf i hi]; exact (A1.nl i hi).trans (A.nl i hi).symm⟩
          · rw [hc0] at h1; simp only [cond_true] at h1
            rw [Nat.ble_eq] at hc0
            obtain ⟨g1, g2⟩ := vals_get (ρ' := ρ') hc0 h1
            have q1 := setL_get _ n ρ _ _ g1
            simp only [LV.eval, AE.den, g2] at q1
            exact ⟨q1, by rw [hf i hi]; exact (A1.nl i hi).trans (A.nl i hi).symm⟩
        · rw [hi] at h1; simp only [cond_true, Bool.and_eq_true, Nat.ble_eq] at h1
          rw [Nat.ble_eq] at hi
          obtain ⟨hc, m1, m2⟩ := h1
          obtain ⟨g1, g2⟩ := vals_get (ρ' := ρ') hc m1
          have q1 := setL_get _ n ρ _ _ g1
          simp only [LV.eval, AE.den, g2] at q1
          obtain ⟨g1, g2⟩ := vals_get (ρ' := ρ') hi m2
          have q2 := setL_get _ n ρ _ _ g1
          simp only [LV.eval, BE.den, g2] at q2
          exact ⟨q1, q2⟩
      · cases h1
  | .obj _ _ :: H, hm, j, c, p, o, ho => by
    simp only [mtH, Bool.and_eq_true] at hm
    exact mtH_arr hm.2 j c p o ho
omit hf in
theorem lcheck_sim {base : Bk} {w0 : World} {head st : St} {a : Act} {w : World} (hl : lcheck n ks head st = some vals) (h : Sim base w0 ρ' κ' st a w) (hb : BE.bndL n head.facts = true) (hfc : ∀ p ∈ head.facts, p.den ρ = true) (hrb : ∀ l, head.rnd = some l → l < head.n) :
    fitsL ks (vals.map (LV.eval ρ')) = true ∧ ∃ κ2, Agree n ρ (ρ.setL n (vals.map (LV.eval ρ'))) κ κ2 ∧ Sim base w0 (ρ.setL n (vals.map (LV.eval ρ'))) κ2 head a w := by
  obtain ⟨Ds, h⟩ := h
  unfold lcheck at hl
  dsimp only at hl
  split at hl
  · rename_i vals' hv
    generalize collSs n head.sl st.sl ++ collH n st.H head.H = as at hl hv
    have hf : ∀ j, j < n → rnOf as n j = j := fun j hj => rnOf_lt hj
    generalize rnOf as n = f at hl hf
    cases hm : ((mtSs n f vals' head.sl st.sl && mtH n f vals' st.H head.H) && injL f (arrIds head.H))
    · rw [hm] at hl; cases hl
    · rw [hm] at hl; simp only [cond_true] at hl; cases hl
      simp only [Bool.and_eq_true] at hm
      obtain ⟨⟨hm1, hm2⟩, hinj⟩ := hm
      have s2 := mtSs_den A hf hm1
      refine ⟨(fits_vals ρ' hv).1, κ'.ren f, Agree.headK A hf _, Ds, ⟨fun t s hs => ?_, fun t s hs ha => ?_⟩, h.df, h.dn, h.db, h.sz, ?_, h.bl, ?_, hrb⟩
      · obtain ⟨s', e1, _⟩ := s2 t s hs; exact h.fr.1 t s' e1
      · obtain ⟨s', e1, e2⟩ := s2 t s hs
        rw [(e2 ha).2]; exact h.fr.2 t s' e1 (e2 ha).1
      · have hrow : ∀ j k, (ρ.setL n (vals.map (LV.eval ρ'))).nl j = ρ'.nl (f j) → rowVal (ρ.setL n (vals.map (LV.eval ρ'))) (κ'.ren f) j k = rowVal ρ' κ' (f j) k := fun j k e => by simp only [rowVal, e, Kap.ren]
        constructor
        · intro id o ho
          obtain ⟨_, o', o1, o2⟩ := mtH_obj A hf hm2 id o ho
          obtain ⟨⟨b, b1, b2⟩, b3⟩ := h.hp.obj id o' o1
          exact ⟨⟨b, b1, o2 b b2⟩, b3⟩
        · intro id o id' o' ho ho' he
          obtain ⟨_, c1, o1, _⟩ := mtH_obj (P := base.P) A hf hm2 id o ho
          obtain ⟨_, c2, o2, _⟩ := mtH_obj (P := base.P) A hf hm2 id' o' ho'
          exact h.hp.inj _ _ _ _ o1 o2 he
        · intro j c pat o ha
          obtain ⟨c', j1, j2, j3⟩ := mtH_arr A hf hm2 j c pat o ha
          rw [j2, j3]; exact h.hp.arr _ _ _ _ j1
        · intro j c pat o id ob ha ho hex
          obtain ⟨c', j1, j2, j3⟩ := mtH_arr A hf hm2 j c pat o ha
          obtain ⟨_, c1, o1, _⟩ := mtH_obj (P := base.P) A hf hm2 id ob ho
          rw [j2, j3] at hex
          exact h.hp.sep _ _ _ _ _ _ j1 o1 hex
        · intro j c pat E ha
          obtain ⟨c', j1, j2, j3⟩ := mtH_arr A hf hm2 j c pat _ ha
          rw [hrow j _ j3, j2, j3]; exact h.hp.row _ _ _ _ j1
        · intro j c pat E j' c' pat' o' ha ha' hne hn hex
          obtain ⟨d, j1, j2, j3⟩ := mtH_arr A hf hm2 j c pat _ ha
          obtain ⟨d', i1, i2, i3⟩ := mtH_arr A hf hm2 j' c' pat' o' ha'
          rw [j3] at hn; rw [i2, i3] at hex
          exact h.hp.rsep _ _ _ _ _ _ _ _ j1 i1 (injL_spec hinj j (mem_arrIds ha) j' (mem_arrIds ha') hne) hn hex
      · exact facts_agree (Agree.setL κ _ n ρ) hb hfc
  · cases hl
end

/-! ### results -/
def xresult (P : Program) (st : St) : ResultVar → Option SV
  | .tmp t => match slot st.sl t with
    | some s => bif s.isAny then none else some s
    | none => none
  | .cell a t => match opv st.sl (.tmp a) with
    | some p => match xload P st.H t p with
      | some ([], v) => some v
      | _ => none
    | none => none
def xresultL (P : Program) (st : St) : List ResultVar → Option (List SV)
  | [] => some []
  | r :: l => match xresult P st r, xresultL P st l with
    | some v, some vs => some (v :: vs)
    | _, _ => none
def toSA : List SV → Option (List SA)
  | [] => some []
  | .a s :: l => (toSA l).map (s :: ·)
  | _ => none
def xresults (P : Program) (fn : Func) (st : St) : Option SV :=
  match xresultL P st fn.results.toList with
  | some [v] => some v
  | some vs => (toSA vs).map .tup
  | none => none
theorem toSA_den {ρ : Env} {κ : Kap} : ∀ {l : List SV} {r : List SA}, toSA l = some r → l.map (SV.den ρ κ) = r.map (SA.den ρ κ) := by
  intro l
  induction l with
  | nil => intro r h; cases h; rfl
  | cons s l ih =>
    intro r h
    unfold toSA at h
    split at h
    · rename_i heq; cases heq
    · rename_i s' l' heq
      cases heq
      obtain ⟨q, hq, rfl⟩ := Option.map_eq_some_iff.1 h
      simp only [List.map_cons, ih hq, SV.den]
    · cases h
def resOne (a : Act) : ResultVar → Sem Value
  | .tmp t => pure (a.tmps.getD t undef)
  | .cell p t => do loadVar t (← asAddr (a.tmps.getD p undef))
theorem run_resultL {P : Program} {base : Bk} {ρ : Env} {κ : Kap} {st : St} {a : Act} {w : World} (hfr : FrameOk ρ κ st.sl a) (hhp : HeapOk ρ κ base st.H w) : ∀ {l : List ResultVar} {vs : List SV}, xresultL P st l = some vs →
    (l.mapM (resOne a)).run P w = .ok (vs.map (SV.den ρ κ)) w := by
  intro l
  induction l with
  | nil => intro vs hv; cases hv; rfl
  | cons r l ih =>
    intro vs hv
    unfold xresultL at hv
    split at hv
    · rename_i v vs' h1 h2
      cases hv
      have e : (resOne a r).run P w = .ok (v.den ρ κ) w := by
        cases r with
        | tmp t =>
          simp only [xresult] at h1
          split at h1
          · rename_i s hs
            cases ha : s.isAny
            · rw [ha] at h1; cases h1
              simp [resOne, hfr.2 t _ hs ha]
            · rw [ha] at h1; cases h1
          · cases h1
        | cell p t =>
          simp only [xresult] at h1
          split at h1
          · rename_i q hq
            split at h1
            · rename_i v' hl
              cases h1
              obtain ⟨ad, e1, e2⟩ := run_loadVar_x hhp hl (fun p hp => by cases hp)
              have hev := opv_den hfr hq
              simp only [Act.eval] at hev
              simp only [resOne, hev, e1, asAddr, Sem.run_bind, Sem.run_pure, Result.andThen_ok, e2]
            · cases h1
          · cases h1
      simp only [List.mapM_cons, Sem.run_bind, e, Result.andThen_ok, ih h2, Sem.run_pure, List.map_cons]
    · cases hv
theorem run_results_x {P : Program} {base : Bk} {ρ : Env} {κ : Kap} {st : St} {a : Act} {w : World} (hfr : FrameOk ρ κ st.sl a) (hhp : HeapOk ρ κ base st.H w) {fn : Func} {v : SV} (hv : xresults P fn st = some v) :
    (results fn a.tmps).run P w = .ok (v.den ρ κ) w := by
  have key : ∀ vs, xresultL P st fn.results.toList = some vs → (results fn a.tmps).run P w = .ok (if h : (vs.map (SV.den ρ κ)).toArray.size = 1 then (vs.map (SV.den ρ κ)).toArray[0] else .tuple (vs.map (SV.den ρ κ)).toArray) w := by
    intro vs hvs
    have hm := run_resultL hfr hhp hvs
    unfold results
    rw [Array.mapM_eq_mapM_toList]
    have hr : ∀ f : ResultVar → Sem Value, (∀ x, f x = resOne a x) → (fn.results.toList.mapM f).run P w = .ok (vs.map (SV.den ρ κ)) w := fun f hf => by
      rw [show f = resOne a from funext hf]; exact hm
    simp only [Sem.run_bind, Sem.run_map]
    rw [hr _ (fun x => by cases x <;> rfl)]
    simp only [Result.andThen_ok, Sem.run_pure]
  unfold xresults at hv
  split at hv
  · rename_i v' hvs
    cases hv
    rw [key _ hvs]; simp
  · rename_i vs hne hvs
    obtain ⟨q, hq, rfl⟩ := Option.map_eq_some_iff.1 hv
    rw [key _ hvs]
    have : ¬ (vs.map (SV.den ρ κ)).toArray.size = 1 := by
      intro e
      simp at e
      obtain ⟨x, rfl⟩ := List.length_eq_one_iff.1 e
      exact hne x rfl
    rw [dif_neg this, toSA_den hq]; rfl
  · cases hv
end Go.SX
