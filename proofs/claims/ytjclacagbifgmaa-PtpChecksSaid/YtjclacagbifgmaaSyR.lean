/- SxR: rows of the call's own: append, make, a store into a row. -/
import Derived.Test.YtjclacagbifgmaaSyE
import Derived.Laws.OwnMore
set_option linter.unusedSimpArgs false
set_option linter.unusedVariables false
set_option linter.unusedSectionVars false
noncomputable section
namespace Go.SX
open Go Go.RowKit

/-! ### append onto a row -/
theorem run_append_x {P : Program} (w : World) (base : Nat) (t ty e : TypeId) (i : TypeInfo) (z : Value) (size bytes : Nat) (ht : P.underlying t = some (.slice e)) (hi : P.info? e = some i) (hz : i.zero = some z)
    (hsize : i.size = size) (hby : i.bytes = bytes) (hzs : z.cells.size = size) (hsz : 0 < size)
    (v : Value) (n : Nat) (xs : List Value) (hown : w.ownsRow base e size v n xs)
    (oa : Option Addr) (m c : Nat) (news : List Value) (hl : news.length = m * size) (hx : match oa with
      | some a => ∀ j u, news[j]? = some u → w.cell? (a.add j) = some u
      | none => m = 0) (h1 : ∀ u ∈ news, u.oneCell' = true)
    (h63 : n + m ≤ maxLen) (hbytes : (n + m) * bytes ≤ 140737488355328) (hbase : base ≤ w.heap.size) :
    ∃ v' w', (Builtin.append_ #[t, t] ty #[v, .slice oa m c]).run P w = .ok v' w' ∧ w'.ownsRow base e size v' (n + m) (xs ++ news) ∧ w.grownBy w' v.ownBlock ∧
      (v' = .slice none 0 0 ↔ v = .slice none 0 0 ∧ m = 0) ∧ (v'.ownBlock = v.ownBlock ∨ v'.ownBlock = some w.heap.size) := by
  subst hsize
  subst hby
  cases oa with
  | none =>
    simp only at hx
    subst hx
    have hn : news = [] := List.eq_nil_of_length_eq_zero (by simpa using hl)
    subst hn
    refine ⟨v, w, ?_, by simpa using hown, ⟨rfl, rfl, rfl, Nat.le_refl _, fun _ _ _ => rfl⟩, by simp, .inl rfl⟩
    rcases hown.2 with ⟨rfl, rfl⟩ | ⟨g, cap, cur, rfl, hbg, hg, hnc, hcm, hcs, htake⟩
    · simp [Builtin.append_, run_underlying ht, sizeOf, typeInfo, hi, Builtin.lenOf, Builtin.firstCells]
    · simp [Builtin.append_, run_underlying ht, sizeOf, typeInfo, hi, Builtin.lenOf, Builtin.firstCells, hnc, storeCells]
  | some a =>
    simp only at hx
    have hsmall : n + m ≤ 9223372036854775807 := by simp only [maxLen] at h63; omega
    have hlen : (xs ++ news).length = (n + m) * i.size := by rw [List.length_append, hown.1, hl, Nat.add_mul]
    have grown : ∀ (old : Nat), old < n + m → ∀ (row : Option Nat),
        (w.drew.alloc (.cells (xs.toArray ++ news.toArray ++ Builtin.zeroCells z.cells (grownCap w (n + m) old e - (n + m))) e)).ownsRow base e i.size
          (.slice (some ⟨w.heap.size, 0, none⟩) (n + m) (grownCap w (n + m) old e)) (n + m) (xs ++ news) ∧
        w.grownBy (w.drew.alloc (.cells (xs.toArray ++ news.toArray ++ Builtin.zeroCells z.cells (grownCap w (n + m) old e - (n + m))) e)) row := by
      intro old ho row
      have hge := grownCap_ge w (n + m) old e
      have hcm : grownCap w (n + m) old e ≤ maxLen := grownCap_le_maxLen w (n + m) old e h63
      refine ⟨⟨hlen, .inr ⟨w.heap.size, _, _, rfl, hbase, heap_alloc_new w.drew _, hge, hcm, ?_, ?_⟩⟩, ⟨rfl, rfl, rfl, by simp, fun k hk _ => (by exact Below.heap_alloc w.drew _ k hk)⟩⟩
      · simp only [Array.size_append, List.size_toArray, size_zeroCells, hzs, hown.1, hl, ← Nat.add_mul]
        congr 1
        omega
      · simp only [Array.toList_append, List.append_assoc]
        rw [← List.append_assoc, ← hlen]
        exact List.take_left
    rcases hown.2 with ⟨rfl, rfl⟩ | ⟨g, cap, cur, rfl, hbg, hg, hnc, hcm, hcs, htake⟩
    · have hxs : xs = [] := List.eq_nil_of_length_eq_zero (by simpa using hown.1)
      subst hxs
      by_cases hm : m = 0
      · subst hm
        have hn : news = [] := List.eq_nil_of_length_eq_zero (by simpa using hl)
        subst hn
        refine ⟨.slice none 0 0, w, ?_, World.ownsRow_nil w base e i.size, ⟨rfl, rfl, rfl, Nat.le_refl _, fun _ _ _ => rfl⟩, by simp, .inl rfl⟩
        simp [Builtin.append_, run_underlying ht, sizeOf, typeInfo, hi, Builtin.lenOf, Builtin.firstCells, loadCells, loadCellsFrom]
      · have hr := run_append_nil (P := P) w t ty e i z ht hi hz a m c news hl hx (by omega) (by omega) (by have hb := hbytes; simp only [Nat.zero_add] at hb; omega)
        have hgr := grown 0 (by omega) (Value.ownBlock (.slice none 0 0))
        simp only [Nat.zero_add, List.nil_append, Array.empty_append] at hgr ⊢
        exact ⟨_, _, hr, hgr.1, hgr.2, by simp [hm], .inr rfl⟩
    · by_cases hroom : n + m ≤ cap
      · have hfit : n * i.size + news.length ≤ cur.size := by rw [hl, hcs, ← Nat.add_mul]; exact Nat.mul_le_mul_right _ hroom
        have hr := run_append_room (P := P) w t ty e i ht hi g n cap cur hg a m c news hl hx h1 hroom hfit
        refine ⟨_, _, hr, ⟨hlen, .inr ⟨g, cap, _, rfl, hbg, setRow_heap w g cur _ e _ hg, hroom, hcm, ?_, ?_⟩⟩, ⟨rfl, rfl, rfl, by simp, fun k _ hk => setRow_other w g k _ (fun e => hk (by simp [Value.ownBlock, e]))⟩, by simp, .inl rfl⟩
        · simp only [List.size_toArray, List.length_append, List.length_take, List.length_drop, Array.length_toList]
          omega
        · rw [htake, ← hlen]
          exact List.take_left
      · have holds : ∀ j u, xs[j]? = some u → w.cell? ((⟨g, 0, none⟩ : Addr).add j) = some u := hown.cells (g := g) rfl
        have hr := run_append_grow (P := P) w t ty e i z ht hi hz ⟨g, 0, none⟩ n cap xs hown.1 holds a m c news hl hx (by omega) (by omega) (growslice_fits (by omega) hbytes)
        have hgr := grown cap (by omega) (Value.ownBlock (.slice (some ⟨g, 0, none⟩) n cap))
        exact ⟨_, _, hr, hgr.1, hgr.2, by simp, .inr rfl⟩

/-! ### rows as data -/
def patOf (P : Program) : Nat → TypeId → Option (List CK)
  | 0, _ => none
  | d + 1, t => match P.underlying t with
    | some (.int k) => some [.int k]
    | some .bool => some [.bool]
    | some (.struct fs) => patFs P d fs.toList
    | some (.array n e) => (patOf P d e).map fun p => (List.replicate n p).flatten
    | some _ => some [.val]
    | none => none
where
  patFs (P : Program) : Nat → List Field → Option (List CK)
  | 0, _ => none
  | _ + 1, [] => some []
  | d + 1, f :: fs => match patOf P d f.type, patFs P d fs with
    | some a, some b => some (a ++ b)
    | _, _ => none
def ckq : CK → CK → Bool
  | .int k, .int k' => Nat.beq (kn k) (kn k')
  | .bool, .bool => true
  | .val, .val => true
  | _, _ => false
theorem ckq_eq {a b : CK} (h : ckq a b = true) : a = b := by
  cases a <;> cases b <;> simp only [ckq, Bool.false_eq_true] at h <;> first | rfl | rw [kn_eq h]
def patq : List CK → List CK → Bool
  | [], [] => true
  | a :: l, b :: r => ckq a b && patq l r
  | _, _ => false
theorem patq_eq : ∀ {a b : List CK}, patq a b = true → a = b
  | [], [], _ => rfl
  | [], _ :: _, h => by cases h
  | _ :: _, [], h => by cases h
  | a :: l, b :: r, h => by simp only [patq, Bool.and_eq_true] at h; rw [ckq_eq h.1, patq_eq h.2]
def cellLV : CK → SC → Option LV
  | .int k, .int k' e => bif Nat.beq (kn k) (kn k') then some (.i e) else none
  | .bool, .bool b => some (.b b)
  | .val, s => bif s.free then some (.v s) else none
  | _, _ => none
theorem cellLV_den {ρ : Env} {κ : Kap} {k : CK} {s : SC} {v : LV} (h : cellLV k s = some v) : k.den (v.eval ρ) = s.den ρ κ := by
  unfold cellLV at h
  split at h
  · rename_i k k' e
    cases hq : Nat.beq (kn k) (kn k')
    · rw [hq] at h; cases h
    · rw [hq] at h; cases h; rw [kn_eq hq]; simp only [LV.eval, CK.den, Dat.int, SC.den]
  · cases h; simp only [LV.eval, CK.den, Dat.bool, SC.den]
  · cases hq : s.free
    · rw [hq] at h; cases h
    · rw [hq] at h; cases h; simp only [LV.eval, CK.den, Dat.val, SC.free_den hq ρ κ kap0]
  · cases h
def rowLV : List CK → List SC → Option (List LV)
  | [], [] => some []
  | k :: p, s :: l => match cellLV k s, rowLV p l with
    | some v, some r => some (v :: r)
    | _, _ => none
  | _, _ => none
theorem rowLV_den {ρ : Env} {κ : Kap} : ∀ {p : List CK} {l : List SC} {r : List LV}, rowLV p l = some r → rowCells p (LV.evalL ρ r) = l.map (SC.den ρ κ)
  | [], [], _, h => by cases h; rfl
  | [], _ :: _, _, h => by cases h
  | _ :: _, [], _, h => by cases h
  | k :: p, s :: l, r, h => by
    unfold rowLV at h
    split at h
    · rename_i v r' h1 h2
      cases h
      simp only [LV.evalL, rowCells, List.headD_cons, List.tail_cons, List.map_cons, cellLV_den (κ := κ) h1, rowLV_den (κ := κ) h2]
    · cases h
def rowsLV (p : List CK) : Nat → List SC → Option (List (List LV))
  | 0, [] => some []
  | 0, _ :: _ => none
  | m + 1, l => match rowLV p (l.take p.length), rowsLV p m (l.drop p.length) with
    | some r, some rs => some (r :: rs)
    | _, _ => none
theorem rowsLV_den {ρ : Env} {κ : Kap} {p : List CK} : ∀ {m : Nat} {l : List SC} {rs : List (List LV)}, rowsLV p m l = some rs → arrCells p (LV.evalLL ρ rs) = l.map (SC.den ρ κ) ∧ rs.length = m
  | 0, [], _, h => by cases h; exact ⟨rfl, rfl⟩
  | 0, _ :: _, _, h => by cases h
  | m + 1, l, rs, h => by
    unfold rowsLV at h
    split at h
    · rename_i r rs' h1 h2
      cases h
      obtain ⟨e1, e2⟩ := rowsLV_den (ρ := ρ) (κ := κ) h2
      refine ⟨?_, by simp [e2]⟩
      simp only [LV.evalLL, arrCells, List.flatMap_cons]
      rw [rowLV_den (κ := κ) h1]
      simp only [arrCells] at e1
      rw [e1, ← List.map_append, List.take_append_drop]
    · cases h
theorem evalLL_length (ρ : Env) (l : List (List LV)) : (LV.evalLL ρ l).length = l.length := by rw [LV.evalLL_eq]; simp
theorem arrCells_append (p : List CK) (a b : List (List Dat)) : arrCells p (a ++ b) = arrCells p a ++ arrCells p b := by simp [arrCells]
theorem arrCells_one (p : List CK) (l : List (List Dat)) : ∀ v ∈ arrCells p l, v.oneCell' = true := by
  intro v hv
  obtain ⟨r, _, hr⟩ := List.mem_flatMap.1 hv
  exact rowCells_one p r v hr

/-! ### the heap behind an append, a make -/
inductive Src where
  | nil
  | row (j : Nat)
  | own (id : Nat)
def Heap.delA (H : Heap) (j : Nat) : Heap := match H with
  | [] => []
  | .obj i o :: H => .obj i o :: Heap.delA H j
  | .arr i c p o :: H => bif Nat.beq i j then Heap.delA H j else .arr i c p o :: Heap.delA H j
def Heap.del (H : Heap) : Src → Heap
  | .nil => H
  | .row j => H.delA j
  | .own id => H.delO id
theorem Heap.delA_obj (H : Heap) (j x : Nat) : (H.delA j).obj? x = H.obj? x := by
  induction H with
  | nil => rfl
  | cons e H ih =>
    cases e with
    | obj i o => simp only [Heap.delA, Heap.obj?, ih]
    | arr i c p o => simp only [Heap.delA]; cases Nat.beq i j <;> simp only [cond_true, cond_false, Heap.obj?, ih]
theorem Heap.delA_arr (H : Heap) (j x : Nat) : (H.delA j).arr? x = if x = j then none else H.arr? x := by
  induction H with
  | nil => simp [Heap.delA, Heap.arr?]
  | cons e H ih =>
    cases e with
    | obj i o => simp only [Heap.delA, Heap.arr?, ih]
    | arr i c p o =>
      simp only [Heap.delA]
      cases hq : Nat.beq i j
      · simp only [cond_false, Heap.arr?]
        cases hx : Nat.beq i x
        · simp only [cond_false]; exact ih
        · rw [Nat.beq_eq] at hx; subst hx
          rw [if_neg (beq_false hq)]; rfl
      · rw [Nat.beq_eq] at hq; subst hq
        simp only [cond_true, Heap.arr?, ih]
        cases hx : Nat.beq i x
        · rfl
        · rw [Nat.beq_eq] at hx; subst hx; simp
theorem Heap.del_obj {H : Heap} {s : Src} {x : Nat} {y : SObj} (h : (H.del s).obj? x = some y) : H.obj? x = some y ∧ ∀ id, s = .own id → x ≠ id := by
  cases s with
  | nil => exact ⟨h, fun _ e => by cases e⟩
  | row j => simp only [Heap.del, Heap.delA_obj] at h; exact ⟨h, fun _ e => by cases e⟩
  | own id =>
    simp only [Heap.del, Heap.delO_obj] at h
    split at h
    · cases h
    · rename_i hne; exact ⟨h, fun _ e => by cases e; exact hne⟩
theorem Heap.del_arr {H : Heap} {s : Src} {x : Nat} {y : Nat × List CK × Option TypeId} (h : (H.del s).arr? x = some y) : H.arr? x = some y ∧ ∀ j, s = .row j → x ≠ j := by
  cases s with
  | nil => exact ⟨h, fun _ e => by cases e⟩
  | own id => simp only [Heap.del, Heap.delO_arr] at h; exact ⟨h, fun _ e => by cases e⟩
  | row j =>
    simp only [Heap.del, Heap.delA_arr] at h
    split at h
    · cases h
    · rename_i hne; exact ⟨h, fun _ e => by cases e; exact hne⟩
def Kap.setA (κ : Kap) (n b cap : Nat) : Kap := { κ with ab := fun j => if j = n then b else κ.ab j, ao := fun j => if j = n then 0 else κ.ao j, cap := fun j => if j = n then cap else κ.cap j }
theorem KBut.setA (n b cap : Nat) (κ : Kap) : KBut (one n) κ (κ.setA n b cap) := ⟨fun _ _ => rfl, fun j hj => by simp [Kap.setA, one_false.1 hj], fun j hj => by simp [Kap.setA, one_false.1 hj], fun j hj => by simp [Kap.setA, one_false.1 hj]⟩
/-- the whole new row, as a slice -/
def rowSV (n : Nat) (pat : List CK) : SV := .c (.slice n pat.length 0 (.lit 0) (.alen n) (.k n))
theorem rowSV_den {ρ : Env} {κ : Kap} {n : Nat} {pat : List CK} (h : κ.ao n = 0) : (rowSV n pat).den ρ κ = rowVal ρ κ n (ρ.a n).length := by
  simp only [rowSV, SV.den, SA.den, SC.den, slAddr, rowVal, CE.den, IE.den, h]
  simp
/-- A NEW OR TURNED ROW: the block that it lies in is its source's, or new. -/
theorem HeapOk.newRow {ρ : Env} {κ : Kap} {base : Bk} {H : Heap} {w w' : World} (h : HeapOk ρ κ base H w) (hz : base.top ≤ w.heap.size) {s : Src} {n : Nat} (hf : H.Free (one n)) {v v' : Value} {pat : List CK} {E : TypeId}
    (hsrc : match s with
      | .nil => v.ownBlock = none
      | .row j => ∃ c pat E, H.arr? j = some (c, pat, some E) ∧ (v.ownBlock = none ∨ (ρ.nl j = false ∧ v.ownBlock = some (κ.ab j)))
      | .own id => ∃ o, H.obj? id = some o ∧ v.ownBlock = some (κ.o id))
    (hown : w'.ownsRow base.b E pat.length v' (ρ.a n).length (arrCells pat (ρ.a n))) (hg : w.grownBy w' v.ownBlock) (hnl : v' = .slice none 0 0 ↔ ρ.nl n = true) (hfr : v'.ownBlock = v.ownBlock ∨ v'.ownBlock = some w.heap.size) (hpat : pat ≠ []) :
    Kept base w w' ∧ ∃ κ', KBut (one n) κ κ' ∧ v' = (rowSV n pat).den ρ κ' ∧ HeapOk ρ κ' base (.arr n n pat (some E) :: H.del s) w' := by
  -- where it lies
  have hshape : (v' = .slice none 0 0 ∧ (ρ.a n).length = 0) ∨ ∃ g cap, v' = .slice (some ⟨g, 0, none⟩) (ρ.a n).length cap := by
    rcases hown.2 with ⟨e1, e2⟩ | ⟨g, cap, cur, e, _⟩
    · exact .inl ⟨e1, e2⟩
    · exact .inr ⟨g, cap, e⟩
  obtain ⟨b, cap, hv'⟩ : ∃ b cap, v' = .slice (if ρ.nl n then none else some ⟨b, 0, none⟩) (ρ.a n).length cap := by
    rcases hshape with ⟨e1, e2⟩ | ⟨g, cap, e⟩
    · exact ⟨0, 0, by rw [e1, hnl.1 e1, e2]; rfl⟩
    · refine ⟨g, cap, ?_⟩
      have : ρ.nl n = false := by
        cases hn : ρ.nl n
        · rfl
        · have := hnl.2 hn; rw [e] at this; simp at this
      rw [this]; exact e
  have K := KBut.setA n b cap κ
  have hb : (κ.setA n b cap).ab n = b := by simp [Kap.setA]
  have ho : (κ.setA n b cap).ao n = 0 := by simp [Kap.setA]
  have hc : (κ.setA n b cap).cap n = cap := by simp [Kap.setA]
  have hval : v' = rowVal ρ (κ.setA n b cap) n (ρ.a n).length := by rw [hv', rowVal, hb, hc]
  -- the source's block may turn
  have hsk : ∀ k, v.ownBlock = some k → base.b ≤ k ∧ ¬ base.keep k ∧ k < w.heap.size := by
    intro k hk
    cases s with
    | nil => rw [hsrc] at hk; cases hk
    | row j =>
      obtain ⟨c, pat, E, ha, hv⟩ := hsrc
      rcases hv with hv | ⟨hnlj, hv⟩
      · rw [hv] at hk; cases hk
      · rw [hv] at hk; cases hk
        obtain ⟨_, hr, hkp⟩ := h.row j c pat E ha
        have := hr.lt (κ.ab j) (by simp [rowVal, hnlj, Value.ownBlock])
        exact ⟨this.1, hkp hnlj, this.2⟩
    | own id =>
      obtain ⟨o, ho', hv⟩ := hsrc
      rw [hv] at hk; cases hk
      exact ⟨(h.obj _ _ ho').2.1, (h.obj _ _ ho').2.2, h.lt ho'⟩
  -- a block that is not the source's stands
  have stands : ∀ k, k < w.heap.size → v.ownBlock ≠ some k → w'.heap[k]? = w.heap[k]? := fun k hk hne => hg.block k hk (fun e => hne e.symm)
  have hkept : Kept base w w' := by
    refine ⟨⟨hg.os, hg.tape, hg.output, hg.size, fun k hk => stands k (Nat.lt_of_lt_of_le hk (Nat.le_trans base.le hz)) fun e => ?_⟩, fun k hk hp => stands k hk fun e => (hsk k e).2.1 hp⟩
    have := (hsk k e).1; omega
  -- the blocks of what is left are not the source's
  have ownNe : ∀ id o, (H.del s).obj? id = some o → v.ownBlock ≠ some (κ.o id) := by
    intro id o hi0 hcon
    obtain ⟨hi, hne⟩ := Heap.del_obj hi0
    clear hi0
    cases s with
    | nil => rw [hsrc] at hcon; cases hcon
    | row j =>
      obtain ⟨c, pat, E, ha, hv⟩ := hsrc
      rcases hv with hv | ⟨hnlj, hv⟩
      · rw [hv] at hcon; cases hcon
      · rw [hv] at hcon; simp at hcon
        exact h.sep j c pat _ id o ha hi (.inr ⟨rfl, hnlj⟩) hcon
    | own id' =>
      obtain ⟨o', ho', hv⟩ := hsrc
      rw [hv] at hcon; simp at hcon
      exact hne id' rfl (h.inj _ _ _ _ hi ho' hcon.symm)
  have arrNe : ∀ j c pat o, (H.del s).arr? j = some (c, pat, o) → (ρ.a c ≠ [] ∧ pat ≠ []) ∨ (o.isSome = true ∧ ρ.nl j = false) → v.ownBlock ≠ some (κ.ab j) := by
    intro j c pat o ha0 hex hcon
    obtain ⟨ha, hne⟩ := Heap.del_arr ha0
    clear ha0
    cases s with
    | nil => rw [hsrc] at hcon; cases hcon
    | row i =>
      obtain ⟨c', pat', E', ha', hv⟩ := hsrc
      rcases hv with hv | ⟨hnlj, hv⟩
      · rw [hv] at hcon; cases hcon
      · rw [hv] at hcon; simp at hcon
        exact h.rsep i c' pat' E' j c pat o ha' ha (fun e => hne i rfl e.symm) hnlj hex hcon
    | own id' =>
      obtain ⟨o', ho', hv⟩ := hsrc
      rw [hv] at hcon; simp at hcon
      exact h.sep j c pat o id' o' ha ho' hex hcon.symm
  -- the heap that is left, in the new world
  have hF : (H.del s).Free (one n) := ⟨fun id o hi => hf.obj id o (Heap.del_obj hi).1, fun j c pat o ha => hf.arr j c pat o (Heap.del_arr ha).1⟩
  have hleft : HeapOk ρ κ base (H.del s) w' := (h.sub (fun x y g => (Heap.del_obj g).1) (fun x y g => (Heap.del_arr g).1)).stands
    (fun id o hi => stands _ (h.lt (Heap.del_obj hi).1) (ownNe id o hi)) (fun j c pat o ha hex => stands _ (h.arrlt (Heap.del_arr ha).1 hex) (arrNe j c pat o ha hex))
  have hleft' := hleft.kbut hF K
  -- the new row's block parts from all others
  have newNe : ∀ k, k < w.heap.size → v.ownBlock ≠ some k → ρ.nl n = false → b ≠ k := by
    intro k hk hne hn e
    subst e
    have hvb : v'.ownBlock = some b := by rw [hv', hn]; rfl
    rcases hfr with hfr | hfr
    · rw [hvb] at hfr; exact hne hfr.symm
    · rw [hvb] at hfr; simp at hfr; omega
  have key : ∀ j c p o, Heap.arr? (.arr n n pat (some E) :: H.del s) j = some (c, p, o) → (j = n ∧ c = n ∧ p = pat ∧ o = some E) ∨ (j ≠ n ∧ (H.del s).arr? j = some (c, p, o)) := by
    intro j c p o ha
    rw [arr?_cons] at ha
    split at ha
    · rename_i e; cases ha; exact .inl ⟨e, rfl, rfl, rfl⟩
    · rename_i e; exact .inr ⟨e, ha⟩
  have keyo : ∀ id, Heap.obj? (.arr n n pat (some E) :: H.del s) id = (H.del s).obj? id := fun id => rfl
  refine ⟨hkept, κ.setA n b cap, K, by rw [rowSV_den ho]; exact hval, ?_⟩
  -- the new row's part of sep and rsep: what is there is not empty, so it is not nil
  have nn : (ρ.a n ≠ [] ∧ pat ≠ []) ∨ ((some E : Option TypeId).isSome = true ∧ ρ.nl n = false) → ρ.nl n = false := by
    intro hx
    rcases hx with ⟨hx, _⟩ | ⟨_, hx⟩
    · cases hn : ρ.nl n
      · rfl
      · have := hnl.2 hn
        rw [this] at hown
        rcases hown.2 with ⟨_, e2⟩ | ⟨g, cap, cur, e, _⟩
        · exact absurd (List.eq_nil_of_length_eq_zero e2) hx
        · simp at e
    · exact hx
  have lt_of_arr : ∀ j c p o, (H.del s).arr? j = some (c, p, o) → (ρ.a c ≠ [] ∧ p ≠ []) ∨ (o.isSome = true ∧ ρ.nl j = false) → κ.ab j < w.heap.size := fun j c p o ha hex => h.arrlt (Heap.del_arr ha).1 hex
  constructor
  · intro id o hi; rw [keyo] at hi; exact hleft'.obj id o hi
  · intro id o id' o' hi hi'; rw [keyo] at hi hi'; exact hleft'.inj id o id' o' hi hi'
  · intro j c p o ha0
    rcases key j c p o ha0 with ⟨e1, e2, e3, e4⟩ | ⟨hj, ha⟩
    · subst e1 e2 e3 e4
      refine ⟨fun x f r k hx hk => ?_, fun hn => ?_⟩
      · have hne : ρ.nl c = false := nn (.inl ⟨fun e => by rw [e] at hx; simp at hx, hpat⟩)
        have hcell := hown.cells (g := b) (by rw [hv', hne]; rfl) (x * p.length + f) _ (arrCells_get p (ρ.a c) x f r k hx hk)
        rw [hb, ho, Nat.zero_add]
        rw [Addr.add_mid, Nat.zero_add] at hcell
        exact hcell
      · have := hnl.2 hn
        rw [this] at hown
        rcases hown.2 with ⟨_, e2⟩ | ⟨g, cap, cur, e, _⟩
        · exact List.eq_nil_of_length_eq_zero e2
        · simp at e
    · exact hleft'.arr j c p o ha
  · intro j c p o id ob ha0 hi hex
    rw [keyo] at hi
    have hid := (hf.obj id ob (Heap.del_obj hi).1).1
    rcases key j c p o ha0 with ⟨e1, e2, e3, e4⟩ | ⟨hj, ha⟩
    · subst e1 e2 e3 e4
      rw [hb, K.o id hid]
      exact newNe _ (h.lt (Heap.del_obj hi).1) (ownNe id ob hi) (nn hex)
    · exact hleft'.sep j c p o id ob ha hi hex
  · intro j c p E' ha0
    rcases key j c p _ ha0 with ⟨e1, e2, e3, he⟩ | ⟨hj, ha⟩
    · subst e1 e2 e3; cases he
      refine ⟨ho, ?_, fun hn => ?_⟩
      · rw [← hval]; exact hown
      · rw [hb]
        have hvb : v'.ownBlock = some b := by rw [hv', hn]; rfl
        rcases hfr with hfr | hfr
        · rw [hvb] at hfr; exact (hsk b hfr.symm).2.1
        · rw [hvb] at hfr; simp at hfr; rw [hfr]; exact (base.new hz).2
    · exact hleft'.row j c p E' ha
  · intro j c p E' j' c' p' o' ha0 ha0' hne hn hex
    rcases key j c p _ ha0 with ⟨e1, e2, e3, he⟩ | ⟨hj, ha⟩ <;> rcases key j' c' p' o' ha0' with ⟨g1, g2, g3, g4⟩ | ⟨hj', ha'⟩
    · exact absurd (e1.trans g1.symm) hne
    · subst e1
      rw [hb, K.ab j' (hF.arr _ _ _ _ ha')]
      exact newNe _ (lt_of_arr _ _ _ _ ha' hex) (arrNe j' c' p' o' ha' hex) hn
    · subst g1 g2 g3 g4
      rw [hb, K.ab j (hF.arr _ _ _ _ ha)]
      exact (newNe _ (lt_of_arr _ _ _ _ ha (.inr ⟨rfl, hn⟩)) (arrNe j c p _ ha (.inr ⟨rfl, hn⟩)) (nn hex)).symm
    · exact hleft'.rsep j c p E' j' c' p' o' ha ha' hne hn hex

/-! ### a row that turns where it lies -/
def Heap.turnA (H : Heap) (j n : Nat) : Heap := match H with
  | [] => []
  | .arr i c p o :: H => bif Nat.beq i j then .arr i n p o :: Heap.turnA H j n else .arr i c p o :: Heap.turnA H j n
  | .obj i o :: H => .obj i o :: Heap.turnA H j n
theorem Heap.turnA_obj (H : Heap) (j n x : Nat) : (H.turnA j n).obj? x = H.obj? x := by
  induction H with
  | nil => rfl
  | cons e H ih =>
    cases e with
    | obj i o => simp only [Heap.turnA, Heap.obj?, ih]
    | arr i c p o => simp only [Heap.turnA]; cases Nat.beq i j <;> simp only [cond_true, cond_false, Heap.obj?, ih]
theorem Heap.turnA_arr (H : Heap) (j n x : Nat) : (H.turnA j n).arr? x = if x = j then (H.arr? x).map fun y => (n, y.2) else H.arr? x := by
  induction H with
  | nil => simp [Heap.turnA, Heap.arr?]
  | cons e H ih =>
    cases e with
    | obj i o => simp only [Heap.turnA, Heap.arr?, ih]
    | arr i c p o =>
      simp only [Heap.turnA]
      cases hq : Nat.beq i j
      · simp only [cond_false, Heap.arr?]
        cases hx : Nat.beq i x
        · simp only [cond_false]; exact ih
        · rw [Nat.beq_eq] at hx; subst hx
          rw [if_neg (beq_false hq)]; rfl
      · rw [Nat.beq_eq] at hq; subst hq
        simp only [cond_true, Heap.arr?, ih]
        cases hx : Nat.beq i x
        · rfl
        · rw [Nat.beq_eq] at hx; subst hx; simp
theorem foldset_eq (off : Nat) : ∀ (us : List Value) (i : Nat) (C : List Value), off + i + us.length ≤ C.length →
    (us.zipIdx i).foldl (fun (a : Array Value) (x : Value × Nat) => a.setIfInBounds (off + x.2) x.1) C.toArray = (C.take (off + i) ++ us ++ C.drop (off + i + us.length)).toArray
  | [], i, C, _ => by simp
  | u :: us, i, C, h => by
    simp only [List.length_cons] at h
    simp only [List.zipIdx_cons, List.foldl_cons]
    have e : C.toArray.setIfInBounds (off + i) u = (C.set (off + i) u).toArray := by simp
    rw [e, foldset_eq off us (i + 1) (C.set (off + i) u) (by simp; omega)]
    congr 1
    apply List.ext_getElem?
    intro p
    simp only [List.getElem?_append, List.length_append, List.length_take, List.getElem?_take, List.getElem?_drop, List.length_set, List.getElem?_set, List.length_cons, List.getElem?_cons]
    have m1 : min (off + (i + 1)) C.length = off + i + 1 := by omega
    have m2 : min (off + i) C.length = off + i := by omega
    rw [m1, m2]
    by_cases h1 : p < off + i
    · simp only [show p < off + i + 1 + us.length by omega, show p < off + i + 1 by omega, show p < off + (i + 1) by omega, show ¬ off + i = p by omega, h1, show p < off + i + (us.length + 1) by omega, if_true, if_false]
    · by_cases h2 : p = off + i
      · subst h2
        simp only [show off + i < off + i + 1 + us.length by omega, show off + i < off + i + 1 by omega, show off + i < off + (i + 1) by omega, Nat.lt_irrefl, show off + i < off + i + (us.length + 1) by omega, Nat.sub_self, if_true, if_false, show off + i < C.length by omega]
      · by_cases h3 : p < off + i + 1 + us.length
        · simp only [h3, show ¬ p < off + i + 1 by omega, h1, show p < off + i + (us.length + 1) by omega, show ¬ p - (off + i) = 0 by omega, if_true, if_false]
          congr 1 <;> omega
        · simp only [h3, show ¬ p < off + i + (us.length + 1) by omega, if_false]
          rw [if_neg (by omega)]
          congr 1; omega
/-- A ROW THAT TURNS: cells are written within its length; its name and place stay. -/
theorem HeapOk.turnRow {ρ : Env} {κ : Kap} {base : Bk} {H : Heap} {w : World} (h : HeapOk ρ κ base H w) {j c : Nat} {pat : List CK} {E : TypeId} (ha : H.arr? j = some (c, pat, some E)) {n o : Nat} {vs : List Value}
    (hle : o + vs.length ≤ (arrCells pat (ρ.a c)).length) (hn : arrCells pat (ρ.a n) = (arrCells pat (ρ.a c)).take o ++ vs ++ (arrCells pat (ρ.a c)).drop (o + vs.length)) (hl : (ρ.a n).length = (ρ.a c).length) :
    HeapOk ρ κ base (H.turnA j n) (w.setCells (κ.ab j) o vs) ∧ Kept base w (w.setCells (κ.ab j) o vs) := by
  obtain ⟨r1, r2, r3⟩ := h.row j c pat E ha
  have hnl := (h.arr j c pat _ ha).2
  have key : ∀ x c' p q, (H.turnA j n).arr? x = some (c', p, q) → (x = j ∧ c' = n ∧ p = pat ∧ q = some E) ∨ (x ≠ j ∧ H.arr? x = some (c', p, q)) := by
    intro x c' p q hx
    rw [Heap.turnA_arr] at hx
    split at hx
    · rename_i e; subst e; rw [ha] at hx; cases hx; exact .inl ⟨rfl, rfl, rfl, rfl⟩
    · rename_i e; exact .inr ⟨e, hx⟩
  have exj : ∀ p' : List CK, ((ρ.a n ≠ [] ∧ p' ≠ []) ∨ ((some E : Option TypeId).isSome = true ∧ ρ.nl j = false)) → ((ρ.a c ≠ [] ∧ p' ≠ []) ∨ ((some E : Option TypeId).isSome = true ∧ ρ.nl j = false)) := fun p' hx => by
    rcases hx with ⟨h1, h2⟩ | h1
    · refine .inl ⟨fun e => h1 ?_, h2⟩
      rw [e] at hl; exact List.eq_nil_of_length_eq_zero hl
    · exact .inr h1
  -- the parts that are the same whichever way it turned
  have main : ∀ w' : World, (∀ k : Nat, k ≠ κ.ab j → w'.heap[k]? = w.heap[k]?) → (∀ k : Nat, ρ.nl j = true → w'.heap[k]? = w.heap[k]?) → w'.ownsRow base.b E pat.length (rowVal ρ κ j (ρ.a n).length) (ρ.a n).length (arrCells pat (ρ.a n)) → HeapOk ρ κ base (H.turnA j n) w' := by
    intro w' hst hst0 hown
    have stands : ∀ k : Nat, (ρ.nl j = false → k ≠ κ.ab j) → w'.heap[k]? = w.heap[k]? := fun k hk => by
      cases hq : ρ.nl j
      · exact hst k (hk hq)
      · exact hst0 k hq
    have so : ∀ id o, H.obj? id = some o → w'.heap[κ.o id]? = w.heap[κ.o id]? := fun id o ho => stands _ fun hq => (h.sep j c pat _ id o ha ho (.inr ⟨rfl, hq⟩)).symm
    have sa : ∀ x c' p q, x ≠ j → H.arr? x = some (c', p, q) → (ρ.a c' ≠ [] ∧ p ≠ []) ∨ (q.isSome = true ∧ ρ.nl x = false) → w'.heap[κ.ab x]? = w.heap[κ.ab x]? :=
      fun x c' p q hx hxa hex => stands _ fun hq => (h.rsep j c pat E x c' p q ha hxa hx.symm hq hex).symm
    -- without the row that turned
    have hrest : HeapOk ρ κ base (H.delA j) w' := (h.sub (fun x y g => by rw [Heap.delA_obj] at g; exact g) (fun x y g => by
        rw [Heap.delA_arr] at g
        split at g
        · cases g
        · exact g)).stands (fun id o ho => by rw [Heap.delA_obj] at ho; exact so id o ho) (fun x c' p q hx hex => by
        rw [Heap.delA_arr] at hx
        split at hx
        · cases hx
        · rename_i hne; exact sa x c' p q hne hx hex)
    have other : ∀ x c' p q, x ≠ j → H.arr? x = some (c', p, q) → (H.delA j).arr? x = some (c', p, q) := fun x c' p q hx hxa => by rw [Heap.delA_arr, if_neg hx]; exact hxa
    constructor
    · intro id o ho; rw [Heap.turnA_obj] at ho; exact hrest.obj id o (by rw [Heap.delA_obj]; exact ho)
    · intro id o id' o' ho ho'; rw [Heap.turnA_obj] at ho ho'; exact h.inj id o id' o' ho ho'
    · intro x c' p q hx
      rcases key x c' p q hx with ⟨rfl, rfl, rfl, rfl⟩ | ⟨hne, hxa⟩
      · refine ⟨fun y f r k hy hk => ?_, fun hq => ?_⟩
        · have hq : ρ.nl x = false := by
            cases hq : ρ.nl x
            · rfl
            · have : ρ.a c' = [] := List.eq_nil_of_length_eq_zero (by rw [hl, hnl hq]; rfl)
              rw [this] at hy; simp at hy
          have hcell := hown.cells (g := κ.ab x) (by simp [rowVal, hq, Value.ownBlock]) (y * p.length + f) _ (arrCells_get p (ρ.a c') y f r k hy hk)
          rw [Addr.add_mid, Nat.zero_add] at hcell
          rw [r1, Nat.zero_add]; exact hcell
        · exact List.eq_nil_of_length_eq_zero (by rw [hl, hnl hq]; rfl)
      · exact hrest.arr x c' p q (other x c' p q hne hxa)
    · intro x c' p q id ob hx ho hex
      rw [Heap.turnA_obj] at ho
      rcases key x c' p q hx with ⟨rfl, rfl, rfl, rfl⟩ | ⟨hne, hxa⟩
      · exact h.sep x c p _ id ob ha ho (exj _ hex)
      · exact h.sep x c' p q id ob hxa ho hex
    · intro x c' p E' hx
      rcases key x c' p _ hx with ⟨rfl, rfl, rfl, he⟩ | ⟨hne, hxa⟩
      · cases he; exact ⟨r1, hown, r3⟩
      · exact hrest.row x c' p E' (other x c' p _ hne hxa)
    · intro x c' p E' x' c'' p' q' hx hx' hne hq hex
      rcases key x c' p _ hx with ⟨rfl, rfl, rfl, he⟩ | ⟨hn1, hxa⟩ <;> rcases key x' c'' p' q' hx' with ⟨rfl, rfl, rfl, rfl⟩ | ⟨hn2, hxa'⟩
      · exact absurd rfl hne
      · cases he; exact h.rsep _ _ _ _ _ _ _ _ ha hxa' hne hq hex
      · exact h.rsep _ _ _ _ _ _ _ _ hxa ha hne hq (exj _ hex)
      · exact h.rsep _ _ _ _ _ _ _ _ hxa hxa' hne hq hex
  cases hq : ρ.nl j
  · -- it lies in a block of the call's own
    have hown := r2
    rcases r2.2 with ⟨e1, _⟩ | ⟨g, cap, cur, hv, hbg, hg, hnc, hcm, hcs, htake⟩
    · simp [rowVal, hq] at e1
    · have hgb : κ.ab j = g ∧ cap = κ.cap j := by simp [rowVal, hq] at hv; exact ⟨hv.1, hv.2.symm⟩
      obtain ⟨hgb, hcap⟩ := hgb
      have hg' : w.heap[κ.ab j]? = some (.cells cur E (0, 0)) := by rw [hgb]; exact hg
      obtain ⟨k1, k2, k3, k4, k5, k6⟩ := setCells_heap (κ.ab j) vs o w cur E hg'
      have hlen : (arrCells pat (ρ.a c)).length = (ρ.a c).length * pat.length := arrCells_length _ _
      have hcur : cur.toList.length = cap * pat.length := by simpa using hcs
      have hroom : (ρ.a c).length * pat.length ≤ cap * pat.length := Nat.mul_le_mul_right _ hnc
      have hfold := foldset_eq o vs 0 cur.toList (by omega)
      simp only [Array.toArray_toList] at hfold
      rw [hfold] at k1
      simp only [Nat.add_zero] at k1
      refine ⟨main _ k3 (fun k hh => by rw [hq] at hh; cases hh) ⟨by rw [arrCells_length], .inr ⟨κ.ab j, κ.cap j, _, by simp [rowVal, hq], by rw [hgb]; exact hbg, k1, by rw [hl, ← hcap]; exact hnc, by rw [← hcap]; exact hcm, ?_, ?_⟩⟩, ?_⟩
      · simp only [List.size_toArray, List.length_append, List.length_take, List.length_drop, ← hcap]; omega
      · simp only [hl, hn]
        rw [← htake]
        apply List.ext_getElem?
        intro p
        simp only [List.getElem?_take, List.getElem?_append, List.length_append, List.length_take, List.getElem?_drop, List.length_drop]
        have m0 : min o cur.toList.length = o := by omega
        have m1 : min ((ρ.a c).length * pat.length) cur.toList.length = (ρ.a c).length * pat.length := by omega
        have m2 : min o ((ρ.a c).length * pat.length) = o := by omega
        rw [m0, m1, m2]
        by_cases h1 : p < o
        · simp only [h1, show p < o + vs.length by omega, show p < (ρ.a c).length * pat.length by omega, if_true]
        · by_cases h2 : p < o + vs.length
          · simp only [h1, h2, show p < (ρ.a c).length * pat.length by omega, if_true, if_false]
          · simp only [h2, if_false]
            by_cases h3 : p < (ρ.a c).length * pat.length
            · rw [if_pos h3, if_pos (by omega)]
            · rw [if_neg h3, if_neg (by omega)]
      · have hge : base.b ≤ κ.ab j := by rw [hgb]; exact hbg
        exact ⟨⟨k4, k5, k6, by rw [k2]; exact Nat.le_refl _, fun k hk => k3 k (by omega)⟩, fun k hk hp => k3 k (fun e => r3 hq (e ▸ hp))⟩
  · -- nothing is there
    have hc := hnl hq
    have hvs : vs = [] := by
      rw [hc] at hle; simp [arrCells] at hle; exact hle.2
    subst hvs
    have hn0 : ρ.a n = [] := List.eq_nil_of_length_eq_zero (by rw [hl, hc]; rfl)
    refine ⟨main _ (fun _ _ => rfl) (fun _ _ => rfl) ?_, Kept.refl _ _⟩
    rw [hn0]; rw [hc] at r2; exact r2
end Go.SX
