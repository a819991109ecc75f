/- SyX5: regions that draw their order; rows at a loop's head. -/
import Derived.Test.YtjclacagbifgmaaSyX4
set_option linter.unusedSimpArgs false
set_option linter.unusedVariables false
set_option linter.unusedSectionVars false
noncomputable section
namespace Go.SX
open Go Go.RowKit

/-- one way through a tree -/
theorem path_of {P : Program} {base : Bk} {w0 : World} {L : Lc} {n : Nat} {k : Lf → List BE → Option T} {Φ : Lf → Lc → Env → Prop} : ∀ (t : T) (F : List BE) (ρ : Env) (u : T), t.bndF F k = some u → Den P base w0 u L ρ Φ → (∀ p ∈ F, p.den ρ = true) → t.plain n = true →
    ∃ l F' ρ' u', k l F' = some u' ∧ Den P base w0 u' L ρ' Φ ∧ (∀ p ∈ F', p.den ρ' = true) ∧ Agree n ρ ρ' kap0 kap0 ∧ Den P base w0 t L ρ fun l' L' ρ'' => l' = l ∧ L' = L ∧ ρ'' = ρ'
  | .leaf l, F, ρ, u, h, hd, hF, _ => ⟨l, F, ρ, u, h, hd, hF, Agree.refl _ _ _, rfl, rfl, rfl⟩
  | .ite c t e, F, ρ, u, h, hd, hF, hp => by
    simp only [T.plain, Bool.and_eq_true] at hp
    simp only [T.bndF] at h
    split at h
    · rename_i t1 e1 h1 h2
      cases h
      cases hc : c.den ρ
      · obtain ⟨l, F', ρ', u', g1, g2, g3, g4, g5⟩ := path_of e _ ρ e1 h2 (hd.2 hc) (learn_den c F false hF hc) hp.2
        exact ⟨l, F', ρ', u', g1, g2, g3, g4, fun h => (by rw [hc] at h; cases h), fun _ => g5⟩
      · obtain ⟨l, F', ρ', u', g1, g2, g3, g4, g5⟩ := path_of t _ ρ t1 h1 (hd.1 hc) (learn_den c F true hF hc) hp.1
        exact ⟨l, F', ρ', u', g1, g2, g3, g4, fun _ => g5, fun h => (by rw [hc] at h; cases h)⟩
    · cases h
  | .need ps t, F, ρ, u, h, hd, hF, hp => by
    simp only [T.bndF] at h
    split at h
    · rename_i t1 h1
      cases h
      obtain ⟨l, F', ρ', u', g1, g2, g3, g4, g5⟩ := path_of t _ ρ t1 h1 hd.2 (learns_den ps F hF (allN_spec hd.1)) hp
      exact ⟨l, F', ρ', u', g1, g2, g3, g4, hd.1, g5⟩
    · cases h
  | .call f args H m vks res Hn t, F, ρ, u, h, hd, hF, hp => by
    simp only [T.plain, Bool.and_eq_true, Nat.ble_eq] at hp
    simp only [T.bndF] at h
    cases hb : BE.bndL m F
    · rw [hb] at h; cases h
    · rw [hb] at h; simp only [cond_true] at h
      split at h
      · rename_i t1 h1
        cases h
        have key : ∀ (ks : List VK) (F : List Dat → Prop), exD ks F → ∃ l, F l ∧ ∀ G : List Dat → Prop, G l → exD ks G := by
          intro ks
          induction ks with
          | nil => intro F h; exact ⟨[], h, fun G g => g⟩
          | cons k r ih =>
            intro F h
            cases k <;> (obtain ⟨x, h⟩ := h; obtain ⟨l, h1, h2⟩ := ih _ h; exact ⟨_, h1, fun G g => ⟨x, h2 _ g⟩⟩)
        obtain ⟨l0, ⟨q1, q2⟩, q3⟩ := key vks _ hd
        obtain ⟨l, F', ρ', u', g1, g2, g3, g4, g5⟩ := path_of t F _ t1 h1 q2 (facts_agree (Agree.setL kap0 l0 m ρ) hb hF) hp.2
        exact ⟨l, F', ρ', u', g1, g2, g3, ((Agree.setL kap0 l0 m ρ).weak hp.1).trans g4 (Nat.le_refl _), q3 _ ⟨q1, g5⟩⟩
      · cases h
  | .loop .., _, _, _, _, _, _, hp => by cases hp
  | .dead, _, _, _, h, hd, _, _ => by simp only [T.bndF] at h; cases h; exact False.elim hd
  | .cont .., _, _, _, _, _, _, hp => by cases hp
  | .arr m ct nl t, F, ρ, u, h, hd, hF, hp => by
    simp only [T.plain, Bool.and_eq_true, Nat.ble_eq] at hp
    simp only [T.bndF] at h
    cases hb : BE.bndL m F
    · rw [hb] at h; cases h
    · rw [hb] at h; simp only [cond_true] at h
      split at h
      · rename_i t1 h1
        cases h
        have A : Agree m ρ ((ρ.set m (.l (ct.den ρ))).set m (.n (nl.den ρ))) kap0 kap0 := (Agree.set ρ kap0 m _).trans (Agree.set _ kap0 m _) (Nat.le_refl _)
        have hF1 := facts_agree A hb hF
        have hF2 : ∀ p ∈ lenFacts F m ct ++ F, p.den ((ρ.set m (.l (ct.den ρ))).set m (.n (nl.den ρ))) = true := fun p hp => by
          rcases List.mem_append.1 hp with hp | hp
          · refine lenFacts_den (l := ct.den ρ) hF1 ?_ ?_ (by simp [Env.set]) p hp
            · intro c x vs e hc; subst e; rw [A.a c hc]; simp [AE.den]
            · intro c x a e hc; subst e; rw [A.a c hc]; simp [AE.den, putRows_length]
          · exact hF1 p hp
        obtain ⟨l, F', ρ', u', g1, g2, g3, g4, g5⟩ := path_of t _ _ t1 h1 hd hF2 hp.2
        exact ⟨l, F', ρ', u', g1, g2, g3, (A.weak hp.1).trans g4 (Nat.le_refl _), g5⟩
      · cases h
/-- places of two kinds of names -/
def Kap.mix (κ κ' : Kap) (n : Nat) : Kap := ⟨fun j => if j < n then κ'.o j else κ.o j, fun j => if j < n then κ'.ab j else κ.ab j, fun j => if j < n then κ'.ao j else κ.ao j, fun j => if j < n then κ'.cap j else κ.cap j⟩
theorem SObj.eqb_is {o o' : SObj} (h : o.eqb o' = true) : o = o' := by
  unfold SObj.eqb at h
  split at h
  · simp only [Bool.and_eq_true, Nat.beq_eq] at h
    rw [h.1.1, oq_eq h.1.2, SC.eqbL_eq h.2]
  · rename_i r r'
    simp only [Bool.and_eq_true, Nat.beq_eq, Option.isNone_iff_eq_none] at h
    obtain ⟨⟨h1, h2, h2'⟩, h3, h4, h5⟩ := h
    cases r; cases r'
    simp only at h1 h2 h2' h3 h4 h5
    rw [lseq_eq h1, h2, h2', h3, pathq_eq h4, Sl.eqb_eq h5]
  · simp only [Bool.and_eq_true] at h
    rw [kn_eq h.1, esq_eq h.2]
  · cases h
theorem oObjq_is {a b : Option SObj} (h : oObjq a b = true) : a = b := by
  unfold oObjq at h
  split at h
  · rfl
  · rw [SObj.eqb_is h]
  · cases h
theorem oArrq_is {a b : Option (Nat × List CK × Option TypeId)} (h : oArrq a b = true) : a = b := by
  unfold oArrq at h
  split at h
  · rfl
  · simp only [Bool.and_eq_true, Nat.beq_eq] at h
    rw [h.1, patq_eq h.2.1, oq_eq h.2.2]
  · cases h
theorem diffs_spec {H H' : Heap} : ∀ {l : List Nat} {x : Nat}, x ∈ l → x ∉ diffs H H' l → H.obj? x = H'.obj? x ∧ H.arr? x = H'.arr? x
  | y :: l, x, hx, hn => by
    unfold diffs at hn
    cases hq : (oObjq (H.obj? y) (H'.obj? y) && oArrq (H.arr? y) (H'.arr? y))
    · rw [hq] at hn; simp only [cond_false, List.mem_cons, not_or] at hn
      rcases List.mem_cons.1 hx with e | hx
      · exact absurd e hn.1
      · exact diffs_spec hx hn.2
    · rw [hq] at hn; simp only [cond_true] at hn
      rcases List.mem_cons.1 hx with e | hx
      · subst e
        simp only [Bool.and_eq_true] at hq
        exact ⟨oObjq_is hq.1, oArrq_is hq.2⟩
      · exact diffs_spec hx hn
theorem fresh_mem : ∀ {l acc : List Nat} {x : Nat}, x ∈ l → x ∈ acc ∨ x ∈ fresh acc l
  | y :: l, acc, x, hx => by
    unfold fresh
    cases hq : nmem acc y
    · simp only [cond_false]
      rcases List.mem_cons.1 hx with e | hx
      · subst e; exact .inr (List.mem_cons_self ..)
      · rcases fresh_mem (acc := y :: acc) hx with h | h
        · rcases List.mem_cons.1 h with e | h
          · subst e; exact .inr (List.mem_cons_self ..)
          · exact .inl h
        · exact .inr (List.mem_cons_of_mem _ h)
    · simp only [cond_true]
      rcases List.mem_cons.1 hx with e | hx
      · subst e; exact .inl (mem_of_nmem hq)
      · exact fresh_mem hx
theorem ids_obj {x : Nat} {y : SObj} : ∀ {H : Heap}, H.obj? x = some y → x ∈ H.ids
  | .obj i o :: H, h => by
    rw [obj?_cons] at h
    simp only [Heap.ids]
    split at h
    · rename_i e; rw [e]; exact List.mem_cons_self ..
    · exact List.mem_cons_of_mem _ (ids_obj h)
  | .arr .. :: H, h => List.mem_cons_of_mem _ (ids_obj (H := H) h)
theorem ids_arr {x : Nat} {y : Nat × List CK × Option TypeId} : ∀ {H : Heap}, H.arr? x = some y → x ∈ H.ids
  | .arr i c p o :: H, h => by
    rw [arr?_cons] at h
    simp only [Heap.ids]
    split at h
    · rename_i e; rw [e]; exact List.mem_cons_self ..
    · exact List.mem_cons_of_mem _ (ids_arr h)
  | .obj .. :: H, h => List.mem_cons_of_mem _ (ids_arr (H := H) h)
theorem diffs_all {H H' : Heap} {x : Nat} (h : nmem (diffs H H' (fresh [] (H.ids ++ H'.ids))) x = false) : H'.obj? x = H.obj? x ∧ H'.arr? x = H.arr? x := by
  have hn := nmem_mem h
  by_cases hx : x ∈ H.ids ++ H'.ids
  · rcases fresh_mem (acc := []) hx with hx | hx
    · cases hx
    · obtain ⟨h1, h2⟩ := diffs_spec hx hn
      exact ⟨h1.symm, h2.symm⟩
  · have none_ : ∀ {H : Heap}, x ∉ H.ids → H.obj? x = none ∧ H.arr? x = none := fun {H} hx => by
      constructor
      · cases ho : H.obj? x
        · rfl
        · exact absurd (ids_obj ho) hx
      · cases ho : H.arr? x
        · rfl
        · exact absurd (ids_arr ho) hx
    simp only [List.mem_append, not_or] at hx
    rw [(none_ hx.1).1, (none_ hx.1).2, (none_ hx.2).1, (none_ hx.2).2]
    exact ⟨rfl, rfl⟩
theorem rowsOnly_spec {H : Heap} : ∀ {l : List Nat}, rowsOnly H l = true → ∀ j c p o, nmem l j = true → H.arr? j = some (c, p, o) → o.isSome = true
  | [], _, j, c, p, o, hj, _ => by cases hj
  | x :: l, h, j, c, p, o, hj, ha => by
    simp only [rowsOnly, Bool.and_eq_true] at h
    simp only [nmem_nil, nmem_cons, Bool.or_eq_true, Nat.beq_eq] at hj
    rcases hj with rfl | hj
    · have h1 := h.1
      rw [ha] at h1
      cases o
      · simp at h1
      · rfl
    · exact rowsOnly_spec h.2 j c p o hj ha
section
variable {C : Cfg}
def SoundDraw (C : Cfg) (n : Nat) : Prop := ∀ (ops : Array Oper) rest st acc t, X C n (.draw rest ops.toList st acc) = some t → ∀ (base : Bk) (w0 : World) (ρ : Env) (L : Lc) (Φ : Lf → Lc → Env → Prop), base.P = C.P → L.length = st.d → Den C.P base w0 t L ρ Φ → (∀ p ∈ st.facts, p.den ρ = true) →
  ∃ dis l ρ', Φ l L ρ' ∧ l.e = .normal ∧ Agree st.n ρ ρ' kap0 kap0 ∧ st.n ≤ l.st.n ∧ l.st.d = st.d ∧ l.st.fn = st.fn ∧ l.st.rnd = st.rnd ∧ (∀ p ∈ l.st.facts, p.den ρ' = true) ∧ (⟨l.st.sl, l.st.H⟩ : DS) = runD dis ⟨st.sl, st.H⟩ ∧ dis.length = rest.length ∧
    allOk (masks ops.toList []) 0 (acc ++ dis) = true ∧ ∀ (q : Nat) o di, rest[q]? = some o → dis[q]? = some di → DOk st (runD (dis.take q) ⟨st.sl, st.H⟩) o di ρ' ∧ VOp C.P base w0 ρ' ops o di
theorem soundDraw {n : Nat} (hR : SoundRun C n) (hD : SoundDraw C n) : SoundDraw C (n + 1) := by
  intro ops rest st acc t h base w0 ρ L Φ hP hL hd hF
  cases rest with
  | nil =>
    simp only [X_succ, stepT, force_eq, s_code, s_loopU, s_ops, s_run, s_op, s_fork, s_call, s_yld, s_draw, xoneF_eq, xvalF_eq, forceL_eq, St.bndQ_eq] at h
    cases hall : allOk (masks ops.toList []) 0 acc
    · rw [hall] at h; cases h
    · rw [hall] at h; simp only [cond_true, leafE] at h; cases h
      exact ⟨[], ⟨.normal, sundef, st⟩, ρ, hd, rfl, Agree.refl _ _ _, Nat.le_refl _, rfl, rfl, rfl, hF, rfl, rfl, by rw [List.append_nil]; exact hall, fun q o di ho => by simp at ho⟩
  | cons o rest =>
    simp only [X_succ, stepT, force_eq, s_code, s_loopU, s_ops, s_run, s_op, s_fork, s_call, s_yld, s_draw, xoneF_eq, xvalF_eq, forceL_eq, St.bndQ_eq] at h
    split at h
    · rename_i t1 ht1
      cases hb : (t1.plain st.n && ({ st with sl := maskS (looksOf ops.toList o) st.sl, H := st.H.only (rdOf st.H st.sl o.op) } : St).bnd)
      · rw [hb] at h; cases h
      · rw [hb] at h; simp only [cond_true] at h
        simp only [Bool.and_eq_true] at hb
        obtain ⟨hpl, hb0⟩ := hb
        obtain ⟨l1, F1, ρ1, u, hu, hdu, hF1, A1, hpath⟩ := path_of t1 _ ρ t h hd hF hpl
        cases hb1 : ((Nat.ble st.n l1.st.n && (l1.st.bnd && l1.v.bnd l1.st.n)) && rowsOnly l1.st.H (diffs (st.H.only (rdOf st.H st.sl o.op)) l1.st.H (fresh [] (Heap.ids (st.H.only (rdOf st.H st.sl o.op)) ++ l1.st.H.ids))))
        · rw [hb1] at hu; cases hu
        · rw [hb1] at hu; simp only [cond_true] at hu
          simp only [Bool.and_eq_true, Nat.ble_eq] at hb1
          obtain ⟨⟨hn1, hb2, hb3⟩, hrows⟩ := hb1
          have hfb : BE.bndL st.n st.facts = true := by
            have := hb0
            simp only [St.bnd, Bool.and_eq_true] at this
            exact this.1.2.2
          obtain ⟨dis, l, ρ', k1, k2, k3, k4, k5, k6, k7, k8, k9, k10, k11, k12⟩ := hD ops rest _ _ u hu base w0 ρ1 L Φ hP hL hdu hF1
          have A2 : Agree st.n ρ ρ' kap0 kap0 := A1.trans k3 hn1
          let di : DI := ⟨o.dst, l1.v, looksOf ops.toList o, rdOf st.H st.sl o.op, diffs (st.H.only (rdOf st.H st.sl o.op)) l1.st.H (fresh [] (Heap.ids (st.H.only (rdOf st.H st.sl o.op)) ++ l1.st.H.ids)), { st with sl := maskS (looksOf ops.toList o) st.sl, H := st.H.only (rdOf st.H st.sl o.op) }, l1.st⟩
          refine ⟨di :: dis, l, ρ', k1, k2, A2, Nat.le_trans hn1 k4, k5, k6, k7, k8, k9, by simp [k10], by simpa using k11, fun q o' d ho hdq => ?_⟩
          cases q with
          | succ q =>
            obtain ⟨g1, g2⟩ := k12 q o' d (by simpa using ho) (by simpa using hdq)
            exact ⟨⟨g1.d, g1.sl, g1.H, g1.fc, g1.rnd, Nat.le_trans hn1 g1.n, g1.wr, g1.rows⟩, g2⟩
          | zero =>
            simp at ho hdq; subst ho; subst hdq
            refine ⟨⟨rfl, rfl, rfl, facts_agree A2 hfb hF, rfl, Nat.le_refl _, fun x hx => diffs_all hx, rowsOnly_spec hrows⟩, ?_⟩
            intro κ a w B hle hk hsim K Q hKQ
            -- the sandbox, at the data of the text's order
            have hs0 : Sim B w ρ κ di.st0 a w := hsim.agree (A2.symm.kap κ) hb0
            have hdB := Den.rebase (P := C.P) hle hk t1 L ρ hpath
            have hPB : B.P = C.P := hle.P.trans hP
            refine hR ops o di.st0 t1 ht1 B w ρ κ a w L _ K Q hPB hL hs0 hdB ?_
            intro l2 L2 ρ2 κ2 w2 hl2 hA hsl hs2
            obtain ⟨rfl, rfl, rfl⟩ := hl2
            have A3 : Agree l2.st.n ρ2 ρ' κ2 (κ.mix κ2 l2.st.n) := by
              have := k3
              exact ⟨this.i, this.b, this.v, this.a, this.nl, fun j hj => by simp only [Kap.mix, if_pos hj], fun j hj => by simp only [Kap.mix, if_pos hj], fun j hj => by simp only [Kap.mix, if_pos hj], fun j hj => by simp only [Kap.mix, if_pos hj]⟩
            rw [← SV.agree A3 hb3]
            refine hKQ (κ.mix κ2 l2.st.n) w2 ?_ (hs2.agree A3 hb2)
            have key : ∀ j, di.rng j = false → j < l2.st.n → j < st.n := by
              intro j hr hj
              simp only [DI.rng] at hr
              have : Nat.blt j l2.st.n = true := by rw [Nat.blt_eq]; exact hj
              rw [show di.st1.n = l2.st.n from rfl, this, Bool.and_true] at hr
              rw [Bool.eq_false_iff] at hr
              simp only [ne_eq, Nat.ble_eq] at hr
              exact Nat.lt_of_not_le hr
            refine ⟨fun j hj => ?_, fun j hj => ?_, fun j hj => ?_, fun j hj => ?_⟩ <;> simp only [Kap.mix] <;> split
            · rename_i hlt; exact hA.A.o j (key j hj hlt)
            · rfl
            · rename_i hlt; exact hA.A.kb j (key j hj hlt)
            · rfl
            · rename_i hlt; exact hA.A.ko j (key j hj hlt)
            · rfl
            · rename_i hlt; exact hA.A.kc j (key j hj hlt)
            · rfl
    · cases h
/-! ### rows at a loop's head -/
theorem HeapOk.setEq {ρ : Env} {κ : Kap} {base : Bk} {H : Heap} {w : World} (h : HeapOk ρ κ base H w) {id : Nat} {cs' : List SC} (he : ∀ cs ty g, H.obj? id = some (.cells cs ty g) → cs'.map (SC.den ρ κ) = cs.map (SC.den ρ κ)) : HeapOk ρ κ base (H.setOwn id cs') w := by
  unfold Heap.setOwn
  split
  · rename_i cs ty g ho
    have e := he cs ty g ho
    obtain ⟨⟨b, k1, k2⟩, _⟩ := h.obj id _ ho
    refine h.setObj ho k1 ?_ fun _ _ => rfl
    cases g with
    | none => simp only [SObj.Is] at k2 ⊢; rw [e]; exact k2
    | some z =>
      obtain ⟨sp, j1, j2, j3⟩ := k2
      have hl : cs'.length = cs.length := by have := congrArg List.length e; simpa using this
      exact ⟨sp, by rw [e]; exact j1, by rw [hl]; exact j2, j3⟩
  · exact h
theorem norm_row {base : Bk} {w0 : World} {ρ : Env} {κ : Kap} {st : St} {a : Act} {w : World} {Ds : List Nat} (h : SimD base w0 Ds ρ κ st a w) (hb : st.bnd = true) {E : TypeId} {sz : Nat} {c : SC} (hc : c.bnd st.n = true) {b : RowBase} (hx : xbase C.P st.H E sz c = some b) (hsz : 0 < sz) (h1 : b.old.bnd st.n = true) (h2 : b.nl.bnd st.n = true) :
    ∃ κ1, KBut (one st.n) κ κ1 ∧ Agree st.n ρ ((ρ.set st.n (.l (b.old.den ρ))).set st.n (.n (b.nl.den ρ))) κ κ1 ∧ c.den ρ κ = (SC.slice st.n b.pat.length 0 (.lit 0) (.alen st.n) (.k st.n)).den ((ρ.set st.n (.l (b.old.den ρ))).set st.n (.n (b.nl.den ρ))) κ1 ∧
      HeapOk ((ρ.set st.n (.l (b.old.den ρ))).set st.n (.n (b.nl.den ρ))) κ1 h.B1 (.arr st.n st.n b.pat (some E) :: st.H.del b.src) w := by
  have A0 : Agree st.n ρ ((ρ.set st.n (.l (b.old.den ρ))).set st.n (.n (b.nl.den ρ))) κ κ := (Agree.set ρ κ st.n _).trans (Agree.set _ κ st.n _) (Nat.le_refl _)
  have e1 : ((ρ.set st.n (.l (b.old.den ρ))).set st.n (.n (b.nl.den ρ))).a st.n = b.old.den ρ := by simp [Env.set]
  have e2 : ((ρ.set st.n (.l (b.old.den ρ))).set st.n (.n (b.nl.den ρ))).nl st.n = b.nl.den ρ := by simp [Env.set]
  generalize ((ρ.set st.n (.l (b.old.den ρ))).set st.n (.n (b.nl.den ρ))) = ρ1 at A0 e1 e2
  have hbb := hb
  simp only [St.bnd, Bool.and_eq_true] at hbb
  have hs1 := h.hp.agree A0 hbb.1.2.1
  obtain ⟨b1, _, b3, b4, b5⟩ := xbase_spec hs1 hx
  rw [← AE.agree (A0.kap kap0) b.old h1] at e1
  rw [← BE.agree A0 h2] at e2
  rw [← SC.agree A0 c hc]
  obtain ⟨_, κ1, k1, k2, k3⟩ := hs1.newRow (Nat.le_refl _) (w' := w) (v := c.den ρ1 κ) (v' := c.den ρ1 κ) (s := b.src) (n := st.n) (pat := b.pat) (E := E) (Heap.free_of_bnd (one_lt (Nat.le_refl _)) hbb.1.2.1) b5 (by rw [e1, b1]; exact b3) ⟨rfl, rfl, rfl, Nat.le_refl _, fun _ _ _ => rfl⟩ (by rw [e2]; exact b4) (.inl rfl) (fun e => by rw [e] at b1; simp at b1; omega)
  exact ⟨κ1, k1, A0.trans (k1.agree (one_lt (Nat.le_refl st.n)) ρ1) (Nat.le_refl _), k2, k3⟩
theorem SC.bndL_mem {n : Nat} {l : List SC} (h : SC.bndL n l = true) {i : Nat} {c : SC} (hi : l[i]? = some c) : c.bnd n = true := by
  induction l generalizing i with
  | nil => simp at hi
  | cons x l ih =>
    simp only [SC.bndL, Bool.and_eq_true] at h
    cases i with
    | zero => simp at hi; subst hi; exact h.1
    | succ i => exact ih h.2 (by simpa using hi)
theorem normT_sound {base : Bk} {w0 : World} {Φ : Lf → Lc → Env → Prop} : ∀ (locs : List Loc) (st : St) (K : St → Option T) (t : T) (ρ : Env) (κ : Kap) (a : Act) (w : World) (L : Lc), normT C.P locs st K = some t → Sim base w0 ρ κ st a w → Den C.P base w0 t L ρ Φ →
    ∃ st1 t1 ρ1 κ1, K st1 = some t1 ∧ Agree st.n ρ ρ1 κ κ1 ∧ Sim base w0 ρ1 κ1 st1 a w ∧ Den C.P base w0 t1 L ρ1 Φ ∧ st.n ≤ st1.n ∧ st1.d = st.d ∧ st1.fn = st.fn ∧ st1.rnd = st.rnd
  | [], st, K, t, ρ, κ, a, w, L, h, hs, hd => ⟨st, t, ρ, κ, h, Agree.refl _ _ _, hs, hd, Nat.le_refl _, rfl, rfl, rfl⟩
  | l :: r, st, K, t, ρ, κ, a, w, L, h, hs, hd => by
    unfold normT at h
    split at h
    · cases h
    · rename_i st1 hst
      have : st1 = st := by
        unfold normLoc at hst
        repeat' split at hst
        all_goals first | (cases hst; rfl) | cases hst | skip
        all_goals (rename_i b _ ; first | (cases hq : Nat.blt 0 _ <;> rw [hq] at hst <;> cases hst))
      subst this
      exact normT_sound r st1 K t ρ κ a w L h hs hd
    · rename_i ct nl st1 hst
      rw [St.bndQ_eq] at h
      cases hb : (st.bnd && (ct.bnd st.n && nl.bnd st.n))
      · rw [hb] at h; cases h
      · rw [hb] at h; simp only [cond_true] at h
        simp only [Bool.and_eq_true] at hb
        obtain ⟨hb1, hb2, hb3⟩ := hb
        unfold arrT at h
        split at h
        · rename_i t1 ht1
          cases h
          simp only [Den] at hd
          have hbb := hb1
          simp only [St.bnd, Bool.and_eq_true] at hbb
          obtain ⟨Ds, hs⟩ := hs
          have hrb : ∀ l, st.rnd = some l → l < st.n + 1 := fun l hl => Nat.lt_succ_of_lt (hs.rb l hl)
          have key : ∃ κ1, Agree st.n ρ ((ρ.set st.n (.l (ct.den ρ))).set st.n (.n (nl.den ρ))) κ κ1 ∧ Sim base w0 ((ρ.set st.n (.l (ct.den ρ))).set st.n (.n (nl.den ρ))) κ1 st1 a w ∧ st1.n = st.n + 1 ∧ st1.d = st.d ∧ st1.fn = st.fn ∧ st1.rnd = st.rnd := by
            unfold normLoc at hst
            split at hst
            · rename_i t' E
              split at hst
              · cases hst
              · rename_i c _ hslot
                split at hst
                · rename_i sz hsz
                  split at hst
                  · rename_i b hx
                    cases hq : Nat.blt 0 sz
                    · rw [hq] at hst; cases hst
                    · rw [hq] at hst; cases hst
                      have hcb0 : c.bnd st.n = true := Sl.all_get (f := SV.bnd st.n) hbb.1.1 hslot
                      obtain ⟨κ1, k1, k2, k3, k4⟩ := norm_row (C := C) hs hb1 (c := c) hcb0 hx (by simpa [Nat.blt_eq] using hq) hb2 hb3
                      refine ⟨κ1, k2, ⟨Ds, hs.step (SlotsOk.setEq (hs.fr.agree k2 hbb.1.1) ?_) (Kept.refl _ _) k4 (facts_agree k2 hbb.1.2.2 hs.fc) hrb⟩, rfl, rfl, rfl, rfl⟩
                      rw [hs.fr.2 _ _ hslot rfl]
                      exact congrArg some k3
                  · cases hst
                · cases hst
              · cases hst
            · rename_i id off E
              split at hst
              · rename_i cs ty ho
                split at hst
                · cases hst
                · rename_i c sz _ hc hsz
                  split at hst
                  · rename_i b hx
                    cases hq : Nat.blt 0 sz
                    · rw [hq] at hst; cases hst
                    · rw [hq] at hst; cases hst
                      obtain ⟨g0, hg0⟩ := own?_obj ho
                      have hob := (Heap.bnd_obj hbb.1.2.1 hg0).2
                      have hcb := SC.bndL_mem (n := st.n) (l := cs) (by simpa [SObj.bnd] using hob) hc
                      obtain ⟨κ1, k1, k2, k3, k4⟩ := norm_row (C := C) hs hb1 hcb hx (by simpa [Nat.blt_eq] using hq) hb2 hb3
                      refine ⟨κ1, k2, ⟨Ds, hs.step (hs.fr.agree k2 hbb.1.1) (Kept.refl _ _) (k4.setEq ?_) (facts_agree k2 hbb.1.2.2 hs.fc) hrb⟩, rfl, rfl, rfl, rfl⟩
                      intro cs0 ty0 g1 ho0
                      have ho1 : (st.H.del b.src).obj? id = some (.cells cs0 ty0 g1) := ho0
                      have ho2 := (Heap.del_obj ho1).1
                      rw [hg0] at ho2; cases ho2
                      rw [← SC.agree k2 c hcb] at k3
                      apply List.ext_getElem?
                      intro i
                      simp only [List.getElem?_map, List.getElem?_set]
                      split
                      · rename_i e; subst e
                        rw [hc]
                        have : off < cs.length := (List.getElem?_eq_some_iff.1 hc).1
                        simp [this, k3]
                      · rfl
                  · cases hst
                · cases hst
              · cases hst
            · cases hst
          obtain ⟨κ1, A1, S1, n1, d1, f1, r1⟩ := key
          obtain ⟨st2, t2, ρ2, κ2, g1, g2, g3, g4, g5, g6, g7, g8⟩ := normT_sound r st1 K t1 _ κ1 a w L ht1 S1 hd
          exact ⟨st2, t2, ρ2, κ2, g1, A1.trans g2 (by omega), g3, g4, by omega, by rw [g6, d1], by rw [g7, f1], by rw [g8, r1]⟩
        · cases h
end
end Go.SX
