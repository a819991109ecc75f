/- SyX3: operations. -/
import Derived.Test.YtjclacagbifgmaaSyX2
set_option linter.unusedSimpArgs false
set_option linter.unusedVariables false
set_option linter.unusedSectionVars false
noncomputable section
namespace Go.SX
open Go Go.RowKit

section
variable {C : Cfg}
theorem soundOps {n : Nat} (hO : SoundOps C n) (hR : SoundRun C n) : SoundOps C (n + 1) := by
  intro ops rest st t h base w0 ρ κ a w L Φ Q hP hL hs hd hk
  cases rest with
  | nil =>
    simp only [X_succ, stepT, force_eq, s_code, s_loopU, s_ops, s_run, s_op, s_fork, s_call, s_yld, s_draw, xoneF_eq, xvalF_eq, forceL_eq, leafE] at h; cases h
    exact hk _ L ρ κ a w hd (Aft.refl hL) hs
  | cons o rest =>
    simp only [X_succ, stepT, force_eq, s_code, s_loopU, s_ops, s_run, s_op, s_fork, s_call, s_yld, s_draw, xoneF_eq, xvalF_eq, forceL_eq, St.bndQ_eq] at h
    obtain ⟨t', ht', hdd⟩ := thenT_spec (P := C.P) (base := base) (w0 := w0) h
    refine wpL_step fun K hK => ?_
    refine hR ops o st t' ht' base w0 ρ κ a w L _ K Q hP hL hs (hdd L ρ Φ hd) ?_
    intro l L' ρ' κ' w' hl hA hsl hs'
    obtain ⟨u, hu, hdu⟩ := hl
    refine hK _ _ ?_
    have := hO ops rest _ u hu base w0 ρ' κ' (a.put o.dst (l.v.den ρ' κ')) w' L' Φ Q hP (by rw [St.put_d]; exact hA.len) (hs'.put o.dst fun _ => rfl) hdu ?_
    · rw [St.put_rnd, hA.round hs.rb] at this; exact this
    · intro l2 L2 ρ2 κ2 a2 w2 h2 hA2 hs2
      exact hk l2 L2 ρ2 κ2 a2 w2 h2 (hA.trans (hA2.of (by rw [St.put_n]) (by rw [St.put_fn]) (by rw [St.put_rnd]))) hs2
theorem xone_ndefer {P : Program} {H : Heap} {ev : Operand → Option SV} {o : Op} {x : List BE × ORes} (h : xone P H ev o = some x) : ∀ c, o ≠ .defer c := by
  intro c e
  subst e
  simp [xone, xval] at h
theorem xval_ndefer {P : Program} {H : Heap} {ev : Operand → Option SV} {o : Op} {x : List BE × SV} (h : xval P H ev o = some x) : ∀ c, o ≠ .defer c := by
  intro c e
  subst e
  simp [xval] at h
theorem Sim.hp {base : Bk} {w0 : World} {ρ : Env} {κ : Kap} {st : St} {a : Act} {w : World} (h : Sim base w0 ρ κ st a w) : HeapOk ρ κ base st.H w := by
  obtain ⟨Ds, h⟩ := h
  exact h.hp.le (Bk.Le.plus ..)
theorem Sim.sz {base : Bk} {w0 : World} {ρ : Env} {κ : Kap} {st : St} {a : Act} {w : World} (h : Sim base w0 ρ κ st a w) : base.top ≤ w.heap.size := by obtain ⟨_, h⟩ := h; exact h.sz
theorem soundRun {n : Nat} (hp : SoundOp C n) : SoundRun C (n + 1) := by
  intro ops o st t h base w0 ρ κ a w L Φ K Q hP hL hs hd hk
  simp only [X_succ, stepT, force_eq, s_code, s_loopU, s_ops, s_run, s_op, s_fork, s_call, s_yld, s_draw, xoneF_eq, xvalF_eq, forceL_eq, St.bndQ_eq] at h
  split at h
  · cases h
  · rename_i g hg
    have hw := guardOf_spec hs.fr hg
    have hsimp := bsimpG_den hs.fc g
    rw [hw]
    generalize bsimpG st.facts g = c at h hsimp
    split at h
    · simp only [BE.den] at hsimp
      rw [← hsimp]; simp only [Bool.false_eq_true, if_false]
      simp only [leafT] at h; cases h
      have := hk _ L ρ κ w hd (Aft.refl hL) rfl hs
      rw [sundef_den] at this; exact this
    · simp only [BE.den] at hsimp
      rw [← hsimp]; simp only [if_true]
      exact hp o st t h base w0 ρ κ a w L Φ K Q hP hL hs hd hk
    · split at h
      · rename_i ns v hx
        split at h
        · rename_i q hq
          obtain ⟨t', ht', hdd⟩ := needT_spec (P := C.P) (base := base) (w0 := w0) h
          obtain ⟨hqd, hd'⟩ := hdd L ρ Φ hd
          simp only [leafT] at ht'; cases ht'
          have hneed := openNeeds_den hs.fc hq hqd
          have fin : ∀ u, u = (SV.guard c v).den ρ κ → K (a.put o.dst u) w := by
            intro u hu; subst hu
            exact hk _ L ρ κ w hd' ((Aft.refl hL).to rfl (Nat.le_refl _) rfl rfl) rfl (hs.learns hqd)
          cases hcv : c.den ρ
          · rw [← hsimp, hcv]; simp only [Bool.false_eq_true, if_false]
            exact fin _ (by rw [SV.guard_den, hcv]; rfl)
          · rw [← hsimp, hcv]; simp only [if_true]
            have hn : ∀ p ∈ ns, p.den ρ = true := fun p hp => by
              have := hneed _ (List.mem_map_of_mem hp)
              rw [mkOr_den, mkNot_den, hcv] at this
              simpa using this
            have hrun := xval_sound (P := C.P) hs.hp (evO_den hs.fr (learn_den c st.facts true hs.fc hcv)) hx hn
            exact wpO_value (xval_ndefer hx) hrun (fin _ (by rw [SV.guard_den, hcv]; rfl))
        · cases h
      · obtain ⟨t1, t2, h1, h2, rfl⟩ := iteT_spec h
        cases hcv : c.den ρ
        · rw [← hsimp, hcv]; simp only [Bool.false_eq_true, if_false]
          simp only [leafT] at h2; cases h2
          have := hk _ L ρ κ w (hd.2 hcv) ((Aft.refl hL).to rfl (Nat.le_refl _) rfl rfl) rfl (hs.learn hcv)
          rw [sundef_den] at this; exact this
        · rw [← hsimp, hcv]; simp only [if_true]
          refine hp o (st.learn c true) t1 h1 base w0 ρ κ a w L Φ K Q hP hL (hs.learn hcv) (hd.1 hcv) ?_
          intro l L' ρ' κ' w' hl hA hsl hs'
          exact hk l L' ρ' κ' w' hl (hA.of rfl rfl rfl) hsl hs'
theorem altT_sound {base : Bk} {w0 : World} {ρ : Env} {κ : Kap} {a : Act} {w : World} {L : Lc} {Φ : Lf → Lc → Env → Prop} {R : Value → World → Prop} : ∀ (l : List (BE × SV)) (v : SV) (st : St) (t : T), altT st l v = some t → L.length = st.d → Sim base w0 ρ κ st a w →
    Den C.P base w0 t L ρ Φ → PostV base w0 st ρ κ L a Φ R → R (altDen ρ κ l v) w
  | [], v, st, t, h, hL, hs, hd, hk => by
    simp only [altT, leafT] at h; cases h
    exact hk _ L ρ κ w hd (Aft.refl hL) rfl hs
  | (b, x) :: l, v, st, t, h, hL, hs, hd, hk => by
    unfold altT at h
    have e := bsimp_den hs.fc b
    split at h
    · rename_i hb
      rw [hb] at e; simp only [BE.den] at e
      simp only [leafT] at h; cases h
      simp only [altDen, ← e, if_true]
      exact hk _ L ρ κ w hd (Aft.refl hL) rfl hs
    · rename_i hb
      rw [hb] at e; simp only [BE.den] at e
      simp only [altDen, ← e, Bool.false_eq_true, if_false]
      exact altT_sound l v st t h hL hs hd hk
    · generalize bsimp st.facts b = c at h e
      obtain ⟨t1, t2, h1, h2, rfl⟩ := iteT_spec h
      cases hc : c.den ρ
      · rw [hc] at e
        simp only [altDen, ← e, Bool.false_eq_true, if_false]
        exact altT_sound l v (st.learn c false) t2 h2 hL (hs.learn hc) (hd.2 hc) fun l' L' ρ' κ' w' hl hA hsl hs' => hk l' L' ρ' κ' w' hl (hA.of rfl rfl rfl) hsl hs'
      · rw [hc] at e
        simp only [altDen, ← e, if_true]
        simp only [leafT] at h1; cases h1
        exact hk _ L ρ κ w (hd.1 hc) ((Aft.refl hL).to rfl (Nat.le_refl _) rfl rfl) rfl (hs.learn hc)
theorem soundFork {n : Nat} (hO : SoundOp C n) (hF : SoundFork C n) : SoundFork C (n + 1) := by
  intro o st e k m t h base w0 ρ κ a w L Φ K Q hP hL hs hd hk
  simp only [X_succ, stepT, force_eq, s_code, s_loopU, s_ops, s_run, s_op, s_fork, s_call, s_yld, s_draw, xoneF_eq, xvalF_eq, forceL_eq, St.bndQ_eq] at h
  generalize mkCmp .eql e (.lit (.ofNat k)) = c at h
  cases hb : Nat.blt (k + 1) m
  · rw [hb] at h; simp only [cond_false] at h
    obtain ⟨t', ht', hdd⟩ := needT_spec (P := C.P) (base := base) (w0 := w0) h
    obtain ⟨hqd, hd'⟩ := hdd L ρ Φ hd
    exact hO o (st.learns [c]) t' ht' base w0 ρ κ a w L Φ K Q hP hL (hs.learns hqd) hd' fun l L' ρ' κ' w' hl hA hsl hs2 => hk l L' ρ' κ' w' hl (hA.of rfl rfl rfl) hsl hs2
  · rw [hb] at h; simp only [cond_true] at h
    obtain ⟨t1, t2, h1, h2, rfl⟩ := iteT_spec h
    cases hc : c.den ρ
    · exact hF o (st.learn c false) e (k + 1) m t2 h2 base w0 ρ κ a w L Φ K Q hP hL (hs.learn hc) (hd.2 hc) fun l L' ρ' κ' w' hl hA hsl hs2 => hk l L' ρ' κ' w' hl (hA.of rfl rfl rfl) hsl hs2
    · exact hO o (st.learn c true) t1 h1 base w0 ρ κ a w L Φ K Q hP hL (hs.learn hc) (hd.1 hc) fun l L' ρ' κ' w' hl hA hsl hs2 => hk l L' ρ' κ' w' hl (hA.of rfl rfl rfl) hsl hs2
theorem soundOp {n : Nat} (hC : SoundCall C n) (hY : SoundYld C n) (hFk : SoundFork C n) : SoundOp C (n + 1) := by
  intro o st t h base w0 ρ κ a w L Φ K Q hP hL hs hd hk
  simp only [X_succ, stepT, force_eq, s_code, s_loopU, s_ops, s_run, s_op, s_fork, s_call, s_yld, s_draw, xoneF_eq, xvalF_eq, forceL_eq, St.bndQ_eq] at h
  split at h
  · split at h
    · split at h
      · cases h; exact hd.elim
      · exact hFk o st _ _ _ t h base w0 ρ κ a w L Φ K Q hP hL hs hd hk
    · cases h; exact hd.elim
  · rename_i ns r hx
    have hnd := xone_ndefer hx
    split at h
    · cases h
    · rename_i q hq
      obtain ⟨t', ht', hdd⟩ := needT_spec (P := C.P) (base := base) (w0 := w0) h
      obtain ⟨hqd, hd'⟩ := hdd L ρ Φ hd
      have hneed := openNeeds_den hs.fc hq hqd
      have hs' := hs.learns hqd
      obtain ⟨Ds, hsd⟩ := hs
      have hB : (base.plus Ds w.heap.size hsd.sz fun D hD => (hsd.db D hD).1).top ≤ w.heap.size := Nat.le_refl _
      obtain ⟨hdoes, hcal, hyl⟩ := xone_sound (P := C.P) hsd.hp hB (evO_den hsd.fr hsd.fc) hx hneed
      have hrb : ∀ l, (st.learns q).rnd = some l → l < st.n := hsd.rb
      cases r with
      | val v =>
        simp only [leafT] at ht'; cases ht'
        exact wpO_value hnd hdoes (hk _ L ρ κ w hd' ((Aft.refl hL).to rfl (Nat.le_refl _) rfl rfl) rfl hs')
      | new ob np src =>
        simp only at ht'
        cases hb : ((st.learns q).bnd && ob.bnd st.n)
        · rw [hb] at ht'; cases ht'
        · rw [hb] at ht'; simp only [cond_true, leafT] at ht'; cases ht'
          simp only [Bool.and_eq_true] at hb
          have hb' := hb.1
          simp only [St.bnd, Bool.and_eq_true] at hb'
          obtain ⟨κ1, w1, k1, k2, k3, k4⟩ := hdoes st.n (Heap.free_of_bnd (one_lt (Nat.le_refl _)) hb'.1.2.1) (SObj.bnd_has (one_lt (Nat.le_refl _)) hb.2)
          have A := k1.agree (one_lt (Nat.le_refl st.n)) ρ
          refine wpO_value hnd k2 (hk _ L ρ κ1 w1 hd' ⟨hL, List.suffix_refl _, Nat.le_succ _, rfl, rfl, A⟩ rfl ⟨Ds, ?_⟩)
          exact hsd.step (hsd.fr.agree A hb'.1.1) k4 k3 (facts_agree A hb'.1.2.2 hs'.fc) fun l hl => Nat.lt_succ_of_lt (hrb l hl)
      | upd H v =>
        simp only [leafT] at ht'; cases ht'
        obtain ⟨w1, k1, k2, k3⟩ := hdoes
        have hs2 : Sim base w0 ρ κ { st.learns q with H := H } a w1 := ⟨Ds, hsd.step hsd.fr k3 k2 hs'.fc hsd.rb⟩
        have fin := hk ⟨.normal, v, { st.learns q with H := H }⟩ L ρ κ w1 hd' ((Aft.refl hL).to rfl (Nat.le_refl _) rfl rfl) rfl hs2
        rcases k1 with k1 | ⟨k1, k1'⟩
        · exact wpO_value hnd k1 fin
        · refine wpO_skip hnd k1 ?_
          simp only at fin; rw [k1'] at fin; exact fin
      | call f args =>
        simp only at ht'
        refine wpO_enter hnd hdoes ?_
        have := hC f args _ t' ht' base w0 ρ κ a w L Φ (fun v w' => K (a.put o.dst v) w') hP hL hs' hd' fun l L' ρ' κ' w' hl hA hsl hs2 => hk l L' ρ' κ' w' hl (hA.of rfl rfl rfl) hsl hs2
        exact this.mono fun e w'' ⟨v, he, hr⟩ => by subst he; exact hr
      | yld l args =>
        simp only at ht'
        obtain ⟨rc, h1, h2⟩ := hdoes
        obtain ⟨⟨b, b1, b2⟩, _⟩ := hsd.hp.obj l _ h1
        obtain ⟨tm, f, ps, as, bo, D, fn, _, _, rfl⟩ := b2
        have := hY l args _ t' ht' base w0 ρ κ a w L Φ (fun v w' => K (a.put o.dst v) w') hP hL hs' hd' (fun l L' ρ' κ' w' hl hA hsl hs2 => hk l L' ρ' κ' w' hl (hA.of rfl rfl rfl) hsl hs2) _ b1
        refine wpO_round hnd (h2 _ b1 this.1) (this.2.mono fun e w'' ⟨v, he, hr⟩ => by subst he; exact hr)
      | row r =>
        simp only at ht'
        cases hb : ((st.bnd && BE.bndL st.n ns) && (r.ct.bnd st.n && r.nl.bnd st.n))
        · rw [hb] at ht'; cases ht'
        · rw [hb] at ht'; simp only [cond_true] at ht'
          simp only [Bool.and_eq_true] at hb
          obtain ⟨⟨hb1, hb2⟩, hb4, hb5⟩ := hb
          simp only [arrT, leafT] at ht'; cases ht'
          simp only [Den] at hd'
          have A0 : Agree st.n ρ ((ρ.set st.n (.l (r.ct.den ρ))).set st.n (.n (r.nl.den ρ))) κ κ := (Agree.set ρ κ st.n _).trans (Agree.set _ κ st.n _) (Nat.le_refl _)
          have e1 : ((ρ.set st.n (.l (r.ct.den ρ))).set st.n (.n (r.nl.den ρ))).a st.n = r.ct.den ρ := by simp [Env.set]
          have e2 : ((ρ.set st.n (.l (r.ct.den ρ))).set st.n (.n (r.nl.den ρ))).nl st.n = r.nl.den ρ := by simp [Env.set]
          generalize ((ρ.set st.n (.l (r.ct.den ρ))).set st.n (.n (r.nl.den ρ))) = ρ1 at hd' A0 e1 e2
          have hb1' := hb1
          simp only [St.bnd, Bool.and_eq_true] at hb1'
          have hfr1 := hsd.fr.agree A0 hb1'.1.1
          have hfc1 := facts_agree A0 hb1'.1.2.2 hsd.fc
          have hneed1 := facts_agree A0 hb2 hneed
          obtain ⟨hdoes1, _, _⟩ := xone_sound (P := C.P) (hsd.hp.agree A0 hb1'.1.2.1) hB (evO_den hfr1 hfc1) hx hneed1
          obtain ⟨κ1, w1, k1, k2, k3, k4⟩ := hdoes1 st.n (Heap.free_of_bnd (one_lt (Nat.le_refl _)) hb1'.1.2.1) (by rw [e1]; exact (AE.agree (A0.kap kap0) r.ct hb4).symm) (by rw [e2]; exact (BE.agree A0 hb5).symm)
          have A1 : Agree st.n ρ ρ1 κ κ1 := A0.trans (k1.agree (one_lt (Nat.le_refl st.n)) ρ1) (Nat.le_refl _)
          have hq1 : ∀ p ∈ q, p.den ρ1 = true := openNeeds_keep hfc1 hq hneed1
          refine wpO_value hnd k2 (hk _ L ρ1 κ1 w1 hd' ⟨hL, List.suffix_refl _, Nat.le_succ _, rfl, rfl, A1⟩ rfl ⟨Ds, ?_⟩)
          exact hsd.step (hsd.fr.agree A1 hb1'.1.1) k4 k3 (learns_den q _ hfc1 hq1) fun l hl => Nat.lt_succ_of_lt (hrb l hl)
      | turn j ct v =>
        simp only at ht'
        cases hb : ((st.bnd && BE.bndL st.n ns) && (ct.bnd st.n && v.bnd st.n))
        · rw [hb] at ht'; cases ht'
        · rw [hb] at ht'; simp only [cond_true] at ht'
          simp only [Bool.and_eq_true] at hb
          obtain ⟨⟨hb1, hb2⟩, hb4, hb5⟩ := hb
          simp only [arrT, leafT] at ht'; cases ht'
          simp only [Den] at hd'
          have A0 : Agree st.n ρ ((ρ.set st.n (.l (ct.den ρ))).set st.n (.n ((BE.lit false).den ρ))) κ κ := (Agree.set ρ κ st.n _).trans (Agree.set _ κ st.n _) (Nat.le_refl _)
          have e1 : ((ρ.set st.n (.l (ct.den ρ))).set st.n (.n ((BE.lit false).den ρ))).a st.n = ct.den ρ := by simp [Env.set]
          generalize ((ρ.set st.n (.l (ct.den ρ))).set st.n (.n ((BE.lit false).den ρ))) = ρ1 at hd' A0 e1
          have hb1' := hb1
          simp only [St.bnd, Bool.and_eq_true] at hb1'
          have hfr1 := hsd.fr.agree A0 hb1'.1.1
          have hfc1 := facts_agree A0 hb1'.1.2.2 hsd.fc
          have hneed1 := facts_agree A0 hb2 hneed
          obtain ⟨hdoes1, _, _⟩ := xone_sound (P := C.P) (hsd.hp.agree A0 hb1'.1.2.1) hB (evO_den hfr1 hfc1) hx hneed1
          obtain ⟨c, pat, E, q1, w1, k2, q3⟩ := hdoes1
          obtain ⟨k3, k4⟩ := q3 st.n (by rw [e1]; exact (AE.agree (A0.kap kap0) ct hb4).symm)
          have hq1 : ∀ p ∈ q, p.den ρ1 = true := openNeeds_keep hfc1 hq hneed1
          have hfl : ∀ p ∈ (st.learns q).facts, p.den ρ1 = true := learns_den q _ hfc1 hq1
          have hfl2 : ∀ p ∈ lenFacts (st.learns q).facts st.n ct ++ (st.learns q).facts, p.den ρ1 = true := fun p hp => by
            rcases List.mem_append.1 hp with hp | hp
            · refine lenFacts_den (l := ct.den ρ) hfl ?_ ?_ e1 p hp
              · intro c x vs e hc; subst e; rw [A0.a c hc]; simp [AE.den]
              · intro c x a e hc; subst e; rw [A0.a c hc]; simp [AE.den, putRows_length]
            · exact hfl p hp
          have fin := hk _ L ρ1 κ w1 hd' ⟨hL, List.suffix_refl _, Nat.le_succ _, rfl, rfl, A0⟩ rfl ⟨Ds, hsd.step (hsd.fr.agree A0 hb1'.1.1) k4 k3 hfl2 fun l hl => Nat.lt_succ_of_lt (hrb l hl)⟩
          rcases k2 with k2 | ⟨k2, k2'⟩
          · exact wpO_value hnd k2 fin
          · refine wpO_skip hnd k2 ?_
            simp only at fin; rw [k2'] at fin; exact fin
      | alts l v =>
        simp only at ht'
        refine wpO_value hnd hdoes (altT_sound (R := fun v w' => K (a.put o.dst v) w') l v _ t' ht' hL hs' hd' fun l L' ρ' κ' w' hl hA hsl hs2 => hk l L' ρ' κ' w' hl (hA.of rfl rfl rfl) hsl hs2)
end
end Go.SX
