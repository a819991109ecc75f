/- SyX4: calls, and rounds of loops over functions. -/
import Derived.Test.YtjclacagbifgmaaSyX3
set_option linter.unusedSimpArgs false
set_option linter.unusedVariables false
set_option linter.unusedSectionVars false
noncomputable section
namespace Go.SX
open Go Go.RowKit

section
variable {base : Bk} {w0 : World} {ρ ρ' : Env} {κ κ' : Kap} {st : St} {a : Act} {w w' : World} {Ds : List Nat}
/-- the base of a frame within a frame -/
abbrev SimD.B1 (h : SimD base w0 Ds ρ κ st a w) : Bk := base.plus Ds w.heap.size h.sz fun D hD => (h.db D hD).1
theorem SimD.callee (h : SimD base w0 Ds ρ κ st a w) {st' : St} {a' : Act} (hd : a'.defers = []) (hfr : FrameOk ρ κ st'.sl a') (hH : HeapOk ρ κ h.B1 st'.H w) (hf : ∀ p ∈ st'.facts, p.den ρ = true) (hr : ∀ l, st'.rnd = some l → l < st'.n) :
    Sim h.B1 w ρ κ st' a' w := by
  refine ⟨[], ⟨hfr, hd, List.nodup_nil, fun D hD => (by cases hD), Nat.le_refl _, ?_, Kept.refl _ _, hf, hr⟩⟩
  exact hH.up rfl rfl fun k _ hk hk' => hk'.elim hk fun h => (by cases h)
theorem SimD.back (h : SimD base w0 Ds ρ κ st a w) {s : St} {a' : Act} {Ds' : List Nat} {w3 : World} (h' : SimD h.B1 w Ds' ρ' κ' s a' w')
    (hw : w3.heap.size = w'.heap.size ∧ w3.os = w'.os ∧ w3.tape = w'.tape ∧ w3.output = w'.output ∧ ∀ k, k ∉ Ds' → w3.heap[k]? = w'.heap[k]?) :
    HeapOk ρ' κ' h.B1 s.H w3 ∧ ∀ {st' : St}, FrameOk ρ' κ' st'.sl a → (∀ x y, st'.H.obj? x = some y → s.H.obj? x = some y) → (∀ x y, st'.H.arr? x = some y → s.H.arr? x = some y) → (∀ p ∈ st'.facts, p.den ρ' = true) → (∀ l, st'.rnd = some l → l < st'.n) → Sim base w0 ρ' κ' st' a w3 := by
  obtain ⟨hw1, hw2, hw3, hw4, hw5⟩ := hw
  have hH : HeapOk ρ' κ' h.B1 s.H w3 := by
    refine HeapOk.le (HeapOk.stands h'.hp (fun id o ho => hw5 _ fun hD => (h'.hp.obj id o ho).2.2 (.inr hD)) fun j c p o ha hex => hw5 _ fun hD => ?_) (Bk.Le.plus ..)
    obtain ⟨_, k2, k3, k4⟩ := h'.db _ hD
    -- an array's block is no deferred block
    rcases hex with ⟨h1, h2⟩ | ⟨h1, h2⟩
    · cases p with
      | nil => exact absurd rfl h2
      | cons kk p =>
        cases hl : ρ'.a c with
        | nil => exact absurd hl h1
        | cons r l =>
          have := (h'.hp.arr j c _ o ha).1 0 0 r kk (by rw [hl]; rfl) rfl
          simp [World.cell?, k4] at this
    · obtain ⟨E, rfl⟩ := Option.isSome_iff_exists.1 h1
      exact (h'.hp.row j c p E ha).2.2 h2 (.inr hD)
  have hk : Kept h.B1 w w3 := by
    refine ⟨⟨by rw [hw2]; exact h'.bl.bl.os, by rw [hw3]; exact h'.bl.bl.tape, by rw [hw4]; exact h'.bl.bl.output, by rw [hw1]; exact h'.bl.bl.size, fun k hk => ?_⟩, fun k hk hp => ?_⟩
    · rw [hw5 k fun hD => by have := (h'.db k hD).2.1; omega]; exact h'.bl.bl.block k hk
    · rw [hw5 k fun hD => (h'.db k hD).2.2.1 hp]; exact h'.bl.kp k hk hp
  exact ⟨hH, fun hfr ho ha hf hr => ⟨Ds, h.step hfr hk (hH.sub ho ha) hf hr⟩⟩
/-- a block of the call's own is turned -/
theorem SimD.turn (h : SimD base w0 Ds ρ κ st a w) {id : Nat} {o0 o : SObj} (ho : st.H.obj? id = some o0) {b : Obj} (hi : o.Is base.P ρ κ id b) : SimD base w0 Ds ρ κ { st with H := st.H.setObj id o } a (w.putObj (κ.o id) b) := by
  obtain ⟨⟨b0, k1, _⟩, k2, k3⟩ := h.hp.obj id o0 ho
  have hlt := h.hp.lt ho
  have hhere : (w.putObj (κ.o id) b).heap[κ.o id]? = some b := by simp [World.putObj, hlt]
  have hoth : ∀ k, k ≠ κ.o id → (w.putObj (κ.o id) b).heap[k]? = w.heap[k]? := fun k hk => World.putObj_heap_other hk
  have hsz : (w.putObj (κ.o id) b).heap.size = w.heap.size := by simp [World.putObj]
  refine h.step h.fr ⟨⟨rfl, rfl, rfl, by rw [hsz]; exact Nat.le_refl _, fun k hk => hoth k fun e => ?_⟩, fun k _ hp => hoth k fun e => k3 (e ▸ hp)⟩ (h.hp.setObj ho hhere hi hoth) h.fc h.rb
  subst e; exact absurd hk (Nat.not_lt.2 k2)
end
theorem SlotsOk.setEq {ρ : Env} {κ : Kap} {sl : Sl} {tm : Array Value} (h : SlotsOk ρ κ sl tm) {d : Nat} {v : SV} (hd : tm[d]? = some (v.den ρ κ)) : SlotsOk ρ κ (setSlot sl d v) tm := by
  refine ⟨fun t s hs => ?_, fun t s hs ha => ?_⟩
  · rw [slot_setSlot] at hs
    split at hs
    · rename_i e; subst e
      obtain ⟨x, hx, _⟩ := Option.map_eq_some_iff.1 hs
      exact h.1 t x hx
    · exact h.1 t s hs
  · rw [slot_setSlot] at hs
    split at hs
    · rename_i e; subst e
      obtain ⟨x, _, rfl⟩ := Option.map_eq_some_iff.1 hs
      exact hd
    · exact h.2 t s hs ha
theorem setArgs_ok {ρ : Env} {κ : Kap} {tm : Array Value} : ∀ (args : List SV) (i : Nat) (sl : Sl), SlotsOk ρ κ sl tm → (∀ (k : Nat) a, args[k]? = some a → tm[i + k]? = some (a.den ρ κ)) → SlotsOk ρ κ (setArgs sl i args) tm
  | [], _, _, h, _ => h
  | a :: l, i, sl, h, ha => setArgs_ok l (i + 1) _ (h.setEq (by have := ha 0 a rfl; rwa [Nat.add_zero] at this)) fun k b hb => by
      have := ha (k + 1) b (by simpa using hb)
      rw [show i + 1 + k = i + (k + 1) by omega]; exact this
theorem frame0_ok {ρ : Env} {κ : Kap} {fn : Func} {args : List SV} : FrameOk ρ κ (frame0 fn args) { tmps := (args.map (SV.den ρ κ)).toArray ++ Array.replicate (fn.ntmps - (args.map (SV.den ρ κ)).toArray.size) undef, defers := [] } := by
  unfold frame0
  cases hq : Nat.ble args.length fn.ntmps
  · exact ⟨fun t s hs => (by have hs : slot .nil t = some s := hs; rw [slot_nil] at hs; cases hs), fun t s hs => (by have hs : slot .nil t = some s := hs; rw [slot_nil] at hs; cases hs)⟩
  · rw [Nat.ble_eq] at hq
    -- first all slots are undefined, then the arguments are set
    have hsz : ((args.map (SV.den ρ κ)).toArray ++ Array.replicate (fn.ntmps - (args.map (SV.den ρ κ)).toArray.size) undef).size = fn.ntmps := by simp; omega
    have hget : ∀ (k : Nat) a, args[k]? = some a → ((args.map (SV.den ρ κ)).toArray ++ Array.replicate (fn.ntmps - (args.map (SV.den ρ κ)).toArray.size) undef)[k]? = some (a.den ρ κ) := fun k a hk => by
      have := (List.getElem?_eq_some_iff.1 hk).1
      simp only [Array.getElem?_append]
      rw [if_pos (by simpa using this)]
      simp [hk]
    show SlotsOk ρ κ (setArgs (Sl.fill sundef 40 fn.ntmps) 0 args) _
    -- what is set last counts
    have key : ∀ (l : List SV) (i : Nat) (sl : Sl) (tm : Array Value), (∀ t s, slot sl t = some s → t < tm.size) → (∀ t s, slot sl t = some s → s.isAny = false → (i ≤ t ∧ t < i + l.length) ∨ tm[t]? = some (s.den ρ κ)) → (∀ (k : Nat) a, l[k]? = some a → tm[i + k]? = some (a.den ρ κ)) → SlotsOk ρ κ (setArgs sl i l) tm := by
      intro l
      induction l with
      | nil => intro i sl tm h1 h2 _; exact ⟨h1, fun t s hs ha => (h2 t s hs ha).elim (fun h => by simp at h; omega) id⟩
      | cons a l ih =>
        intro i sl tm h1 h2 h3
        refine ih (i + 1) _ tm (fun t s hs => ?_) (fun t s hs ha => ?_) fun k b hb => by
          have := h3 (k + 1) b (by simpa using hb)
          rw [show i + 1 + k = i + (k + 1) by omega]; exact this
        · rw [slot_setSlot] at hs
          split at hs
          · rename_i e; subst e
            obtain ⟨x, hx, _⟩ := Option.map_eq_some_iff.1 hs
            exact h1 t x hx
          · exact h1 t s hs
        · rw [slot_setSlot] at hs
          split at hs
          · rename_i e; subst e
            obtain ⟨x, _, rfl⟩ := Option.map_eq_some_iff.1 hs
            exact .inr (by have := h3 0 a rfl; rwa [Nat.add_zero] at this)
          · rename_i hne
            rcases h2 t s hs ha with h | h
            · exact .inl ⟨by omega, by simp only [List.length_cons] at h; omega⟩
            · exact .inr h
    refine key args 0 _ _ (fun t s hs => ?_) (fun t s hs ha => ?_) fun k a hk => by rw [Nat.zero_add]; exact hget k a hk
    · rw [hsz]; exact (fill_get _ _ _ _ _ hs).1
    · obtain ⟨h1, rfl⟩ := fill_get _ _ _ _ _ hs
      by_cases hlt : t < args.length
      · exact .inl ⟨Nat.zero_le _, by omega⟩
      · refine .inr ?_
        rw [sundef_den]
        simp only [Array.getElem?_append]
        rw [if_neg (by simpa using hlt), Array.getElem?_replicate, if_pos (by simp; omega)]
theorem sift_sub_obj {f : Nat → Bool} {H : Heap} {x : Nat} {y : SObj} (h : (H.sift f).obj? x = some y) : H.obj? x = some y := by
  rw [Heap.sift_obj] at h
  cases hq : f x <;> rw [hq] at h <;> first | exact h | cases h
theorem sift_sub_arr {f : Nat → Bool} {H : Heap} {x : Nat} {y : Nat × List CK × Option TypeId} (h : (H.sift f).arr? x = some y) : H.arr? x = some y := by
  rw [Heap.sift_arr] at h
  cases hq : f x <;> rw [hq] at h <;> first | exact h | cases h
theorem gc_obj {H : Heap} {n : Nat} {l : List Nat} {x : Nat} {y : SObj} (h : (H.gc n l).obj? x = some y) : H.obj? x = some y := sift_sub_obj h
theorem gc_arr {H : Heap} {n : Nat} {l : List Nat} {x : Nat} {y : Nat × List CK × Option TypeId} (h : (H.gc n l).arr? x = some y) : H.arr? x = some y := sift_sub_arr h
section
variable {C : Cfg}
theorem soundCall {n : Nat} (hCd : SoundCode C n) : SoundCall C (n + 1) := by
  intro f args st t h base w0 ρ κ a w L Φ R hP hL hs hd hk
  simp only [X_succ, stepT, force_eq, s_code, s_loopU, s_ops, s_run, s_op, s_fork, s_call, s_yld, s_draw, xoneF_eq, xvalF_eq, forceL_eq, St.bndQ_eq] at h
  obtain ⟨Ds, hsd⟩ := hs
  split at h
  · rename_i rs hct
    generalize RS.mk st.n rs = m at h
    obtain ⟨ks, res, hn⟩ := m
    cases hbn : ((st.bnd && SV.bndL st.n args) && newRows st.n hn)
    · rw [hbn] at h; cases h
    · rw [hbn] at h; simp only [cond_true] at h; cases h
      simp only [Bool.and_eq_true, St.bnd] at hbn
      obtain ⟨hbn, hnew⟩ := hbn
      obtain ⟨l, hfit, hcall, hd'⟩ := exD_spec _ _ hd
      have A := Agree.setL κ l st.n ρ
      have hH : HeapOk ρ κ base (st.H.only (reach st.H 60 [] (args.flatMap SV.ids))) w := (hsd.hp.le (Bk.Le.plus ..)).sub (fun _ _ g => sift_sub_obj g) (fun _ _ g => sift_sub_arr g)
      have hkept : ∀ {w' : World}, Below w.heap.size w w' → Kept hsd.B1 w w' := fun hb => Kept.of_below hb (Nat.le_trans base.le hsd.sz)
      cases hn with
      | cons h0 hn =>
        refine Calls.mono (hcall κ w hH hsd.bl hsd.sz) fun e w' he => ?_
        obtain ⟨κ', hA, rfl, hbl, hh'⟩ := he
        have A2 : Agree st.n ρ (ρ.setL st.n l) κ κ' := ⟨A.i, A.b, A.v, A.a, A.nl, hA.o, hA.kb, hA.ko, hA.kc⟩
        refine ⟨_, rfl, hk _ L _ κ' w' hd' ⟨hL, List.suffix_refl _, Nat.le_add_right _ _, rfl, rfl, A2⟩ rfl ⟨Ds, hsd.step (hsd.fr.agree A2 hbn.1.1.1) (hkept hbl) ?_ (facts_agree A2 hbn.1.1.2.2 hsd.fc) fun l' hl' => Nat.lt_of_lt_of_le (hsd.rb l' hl') (Nat.le_add_right _ _)⟩⟩
        have hh2 : HeapOk (ρ.setL st.n l) κ' (Bk.at hsd.B1.P w.heap.size) (h0 :: hn) w' := by
          have : hsd.B1.P = C.P := hP
          rw [this]; exact hh'
        exact HeapOk.join (P := hsd.B1.P) hsd.hp (Nat.le_refl _) hbl A2 hbn.1.1.2.1 hnew hh2
      | nil =>
        refine Calls.mono (hcall κ w hH hsd.bl hsd.sz) fun e w' he => ?_
        obtain ⟨rfl, hbl⟩ := he
        exact ⟨_, rfl, hk _ L _ κ w' hd' ⟨hL, List.suffix_refl _, Nat.le_add_right _ _, rfl, rfl, A⟩ rfl ⟨Ds, hsd.step (hsd.fr.agree A hbn.1.1.1) (hkept hbl) ((hsd.hp.below fun k hk => hbl.block k hk).agree A hbn.1.1.2.1) (facts_agree A hbn.1.1.2.2 hsd.fc) fun l' hl' => Nat.lt_of_lt_of_le (hsd.rb l' hl') (Nat.le_add_right _ _)⟩⟩
  · split at h
    · rename_i fn hfn
      split at h
      · rename_i c hc
        cases hb : st.bnd
        · rw [hb] at h; cases h
        · rw [hb] at h; simp only [cond_true] at h
          simp only [St.bnd, Bool.and_eq_true] at hb
          have hdB := Den.rebase (P := C.P) (Bk.Le.plus base Ds w.heap.size hsd.sz fun D hD => (hsd.db D hD).1) hsd.bl t L ρ hd
          obtain ⟨t', ht', hdd⟩ := thenT_spec (P := C.P) (base := hsd.B1) (w0 := w) h
          have hpl : placeOf C.P f [] = some c := by simp only [placeOf, hfn, hc, List.reverse_nil, codeAt_nil]
          refine callsIn_wd.1 (callsIn_of_wp_marks (F := Wd none) (n := 0) hfn hc trivial ?_)
          have hsim : Sim hsd.B1 w ρ κ { st with sl := frame0 fn args, fn := f, rnd := none } { tmps := (args.map (SV.den ρ κ)).toArray ++ Array.replicate (fn.ntmps - (args.map (SV.den ρ κ)).toArray.size) undef, defers := [] } w :=
            hsd.callee rfl frame0_ok hsd.hp hsd.fc fun l hl => by cases hl
          refine hCd c [] _ t' ht' hpl hsd.B1 w ρ κ _ w L _ _ hP hL hsim (hdd L ρ Φ hdB) ?_
          intro l L' ρ' κ' a' w' hl hA hs'
          obtain ⟨u, hu, hdu⟩ := hl
          have fin : ∀ v, xresults C.P fn l.st = some v → u = .leaf ⟨.normal, v, { l.st with sl := st.sl, H := l.st.H.gc st.n v.ids, fn := st.fn, rnd := st.rnd }⟩ →
              LeavesInM (Wd none) 0 C.P fn a'.tmps (fun e w' => ∃ v, e = .returned v ∧ R v w') a'.defers .returning w' := by
            intro v hv hu2
            subst hu2
            obtain ⟨Ds', hsd'⟩ := hs'
            rw [hsd'.df]
            refine leaves_marks Ds' w' hsd'.dn (fun D hD => (hsd'.db D hD).2.2.2) fun w3 g1 g2 g3 g4 g5 => ?_
            obtain ⟨hH3, hb3⟩ := hsd.back hsd' ⟨g1, g2, g3, g4, g5⟩
            refine ⟨_, run_results_x (P := C.P) hsd'.fr hH3 hv, _, rfl, ?_⟩
            refine hk _ L' ρ' κ' w3 hdu ⟨hA.len, hA.suf, hA.n, rfl, rfl, hA.A⟩ rfl ?_
            exact hb3 (hsd.fr.agree hA.A hb.1.1) (fun _ _ g => gc_obj g) (fun _ _ g => gc_arr g) hsd'.fc fun l' hl' => Nat.lt_of_lt_of_le (hsd.rb l' hl') hA.n
          obtain ⟨le, lv, lst⟩ := l
          cases le with
          | normal =>
            simp only at hu
            split at hu
            · rename_i v hv; simp only [leafT] at hu; cases hu; exact fin v hv rfl
            · cases hu
          | ret =>
            simp only at hu
            split at hu
            · rename_i v hv; simp only [leafT] at hu; cases hu; exact fin v hv rfl
            · cases hu
          | _ => cases hu
      · cases h
    · cases h
theorem loop?_spec {H : Heap} {l : Nat} {r : SLoop} (h : loop? H l = some r) : H.obj? l = some (.loop r) := by
  unfold loop? at h
  split at h
  · cases h; assumption
  · cases h
theorem setPs_ok {ρ : Env} {κ : Kap} : ∀ (ps : List (Nat × SV)) (sl : Sl) (tm : Array Value), SlotsOk ρ κ sl tm → SlotsOk ρ κ (setPs sl ps) ((ps.map fun x => (x.1, x.2.den ρ κ)).foldl (fun tmps (x : Nat × Value) => tmps.setIfInBounds x.1 x.2) tm)
  | [], sl, tm, h => h
  | (t, v) :: ps, sl, tm, h => setPs_ok ps (setSlot sl t v) (tm.setIfInBounds t (v.den ρ κ)) (h.put t fun _ => rfl)
theorem zip_den {ρ : Env} {κ : Kap} (ps : Array Nat) (args : List SV) (tm : Array Value) :
    (ps.zip (args.map (SV.den ρ κ)).toArray).foldl (fun tmps (t, a) => tmps.setIfInBounds t a) tm = ((ps.toList.zip args).map fun x => (x.1, x.2.den ρ κ)).foldl (fun tmps (x : Nat × Value) => tmps.setIfInBounds x.1 x.2) tm := by
  rw [← Array.foldl_toList, Array.toList_zip, List.zip_map_right]
  rfl
theorem soundYld {n : Nat} (hCd : SoundCode C n) : SoundYld C (n + 1) := by
  intro l args st t h base w0 ρ κ a w L Φ R hP hL hs hd hk b hb
  simp only [X_succ, stepT, force_eq, s_code, s_loopU, s_ops, s_run, s_op, s_fork, s_call, s_yld, s_draw, xoneF_eq, xvalF_eq, forceL_eq, St.bndQ_eq] at h
  obtain ⟨Ds, hsd⟩ := hs
  split at h
  · rename_i r hr
    have hr := loop?_spec hr
    obtain ⟨⟨b0, e1, e2⟩, _⟩ := hsd.hp.obj l _ hr
    obtain ⟨tm, g, ps, as, bo, D, fn, k0, k1, rfl⟩ := e2
    have hP' : hsd.B1.P = C.P := hP
    rw [hP'] at k0
    rw [hb] at e1; cases e1
    split at h
    · rename_i f' ps' as' bo' hst hpl
      rw [k0] at hpl; cases hpl
      cases hbn : (Nat.beq args.length ps.size && (st.bnd && Nat.blt l st.n))
      · rw [hbn] at h; cases h
      · rw [hbn] at h; simp only [cond_true] at h
        simp only [Bool.and_eq_true, Nat.beq_eq, Nat.blt_eq] at hbn
        obtain ⟨hlen, hbnd, hl⟩ := hbn
        simp only [St.bnd, Bool.and_eq_true] at hbnd
        refine ⟨hlen, roundIn_of_wpIn trivial ?_⟩
        have hdB := Den.rebase (P := C.P) (Bk.Le.plus base Ds w.heap.size hsd.sz fun D hD => (hsd.db D hD).1) hsd.bl t L ρ hd
        obtain ⟨t', ht', hdd⟩ := thenT_spec (P := C.P) (base := hsd.B1) (w0 := w) h
        have hpa : placeOf C.P r.fn (false :: r.path) = some as := placeOf_cons k0 (codeAt_nil as)
        have hpb : placeOf C.P r.fn (true :: r.path) = some bo := placeOf_cons k0 (codeAt_nil bo)
        have hsim : Sim hsd.B1 w ρ κ { st with sl := setPs r.sl (ps.toList.zip args), fn := r.fn, rnd := some l } { tmps := (ps.zip (args.map (SV.den ρ κ)).toArray).foldl (fun tmps (t, a) => tmps.setIfInBounds t a) tm, defers := [] } w :=
          hsd.callee rfl (by show SlotsOk _ _ _ _; rw [zip_den]; exact setPs_ok _ _ _ k1) hsd.hp hsd.fc fun l' hl' => by cases hl'; exact hl
        refine hCd as _ _ t' ht' hpa hsd.B1 w ρ κ _ w L _ _ hP hL hsim (hdd L ρ Φ hdB) ?_
        intro l1 L1 ρ1 κ1 a1 w1 hl1 hA1 hs1
        obtain ⟨u, hu, hdu⟩ := hl1
        obtain ⟨le, lv, lst⟩ := l1
        cases le with
        | normal =>
          simp only at hu
          split at hu
          · rename_i r1 _ hr1
            have hr1 := loop?_spec hr1
            split at hu
            · rename_i hst1
              obtain ⟨Ds1, hsd1⟩ := hs1
              obtain ⟨⟨b1, q1, q2⟩, _⟩ := hsd1.hp.obj l _ hr1
              obtain ⟨tm1, g1, ps1, as1, bo1, D1, fn1, j0, j1, rfl⟩ := q2
              have hkl : κ1.o l = κ.o l := hA1.A.o l hl
              rw [hkl] at q1
              refine ⟨_, run_beginRound q1 hst1, ?_⟩
              have hturn := hsd1.turn hr1 (o := .loop { r1 with state := .busy }) (b := .loop { state := .busy, pending := r1.pending, fn := fn1, tmps := tm1, params := ps1, assign := as1, body := bo1, defers := D1 })
                ⟨tm1, g1, ps1, as1, bo1, D1, fn1, j0, j1, rfl⟩
              rw [hkl] at hturn
              obtain ⟨t2, ht2, hdd2⟩ := thenT_spec (P := C.P) (base := hsd.B1) (w0 := w) hu
              have hfn1 : lst.fn = r.fn := hA1.fn
              have hrd1 : lst.rnd = some l := hA1.rnd
              have := hCd bo _ { lst with H := lst.H.setObj l (.loop { r1 with state := .busy }) } t2 ht2 (by simp only [hfn1]; exact hpb) hsd.B1 w ρ1 κ1 a1 _ L1 _ (roundPost C.P (κ.o l) fun e w' => ∃ v, e = .returned v ∧ R v w') hP hA1.len ⟨Ds1, hturn⟩ (hdd2 L1 ρ1 Φ hdu) ?_
              · have hro : ({ lst with H := lst.H.setObj l (.loop { r1 with state := .busy }) } : St).rnd.map κ1.o = some (κ.o l) := by simp only [hrd1, Option.map_some, hkl]
                rw [hro] at this
                exact this
              · intro l2 L2 ρ2 κ2 a2 w2 hl2 hA2 hs2
                obtain ⟨u2, hu2, hdu2⟩ := hl2
                split at hu2
                · rename_i j r2 hj hr2
                  have hr2 := loop?_spec hr2
                  simp only [leafT] at hu2; cases hu2
                  obtain ⟨Ds2, hsd2⟩ := hs2
                  obtain ⟨⟨b2, q1, q2⟩, _⟩ := hsd2.hp.obj l _ hr2
                  obtain ⟨tm2, g2, ps2, as2, bo2, D2, fn2, i0, i1, rfl⟩ := q2
                  have hA12 := hA1.A.trans hA2.A hA1.n
                  have hkl2 : κ2.o l = κ.o l := hA12.o l hl
                  rw [hkl2] at q1
                  have hturn2 := hsd2.turn hr2 (o := .loop { r2 with state := if j.isNone then .ready else .done, pending := j }) (b := .loop { state := if j.isNone then .ready else .done, pending := j, fn := fn2, tmps := tm2, params := ps2, assign := as2, body := bo2, defers := D2 })
                    ⟨tm2, g2, ps2, as2, bo2, D2, fn2, i0, i1, rfl⟩
                  rw [hkl2] at hturn2
                  obtain ⟨_, hback⟩ := hsd.back hturn2 (w3 := _) ⟨rfl, rfl, rfl, rfl, fun _ _ => rfl⟩
                  have hnn : st.n ≤ l2.st.n := Nat.le_trans hA1.n hA2.n
                  have fin := hk _ L2 ρ2 κ2 _ hdu2 ⟨hA2.len, hA1.suf.trans hA2.suf, hnn, rfl, rfl, hA12⟩ rfl (hback (hsd.fr.agree hA12 hbnd.1.1) (fun _ _ g => g) (fun _ _ g => g) hsd2.fc fun l' hl' => Nat.lt_of_lt_of_le (hsd.rb l' hl') hnn)
                  have hrun := run_endRound (P := C.P) j q1
                  have fin' : ∃ v w', (Instr.endRound (κ.o l) j).run C.P w2 = .ok v w' ∧ ∃ v', Ending.returned v = .returned v' ∧ R v' w' := ⟨_, _, hrun, _, rfl, fin⟩
                  obtain ⟨le2, lv2, lst2⟩ := l2
                  cases le2 <;> simp only [jumpOf, Option.some.injEq, reduceCtorEq] at hj <;> subst hj <;> exact fin'
                · cases hu2
            · cases hu
          · cases hu
        | _ => simp only [reduceCtorEq] at hu
    · cases h
  · cases h
end
end Go.SX
