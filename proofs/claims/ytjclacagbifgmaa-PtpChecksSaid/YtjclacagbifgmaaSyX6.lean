/- SyX6: the walk is right. -/
import Derived.Test.YtjclacagbifgmaaSyX5
set_option linter.unusedSimpArgs false
set_option linter.unusedVariables false
set_option linter.unusedSectionVars false
noncomputable section
namespace Go.SX
open Go Go.RowKit

section
variable {C : Cfg}
theorem soundLoop {n : Nat} (hL : SoundLoop C n) (hCd : SoundCode C n) : SoundLoop C (n + 1) := by
  intro c p st t h hpl base w0 ρ κ a w L Φ Q hP hLn hs hd hk
  simp only [X_succ, stepT, force_eq, s_code, s_loopU, s_ops, s_run, s_op, s_fork, s_call, s_yld, s_draw, xoneF_eq, xvalF_eq, forceL_eq, St.bndQ_eq] at h
  obtain ⟨t', ht', hdd⟩ := thenT_spec (P := C.P) (base := base) (w0 := w0) h
  rw [roundsIn_succ]
  refine hCd c p st t' ht' hpl base w0 ρ κ a w L _ _ hP hLn hs (hdd L ρ Φ hd) ?_
  intro l L' ρ' κ' a' w' hl hA hs'
  obtain ⟨u, hu, hdu⟩ := hl
  obtain ⟨le, lv, lst⟩ := l
  cases le with
  | normal =>
    have hpl' : placeOf C.P lst.fn p = some c := by rw [hA.fn]; exact hpl
    have := hL c p lst u hu hpl' base w0 ρ' κ' a' w' L' Φ Q hP hA.len hs' hdu fun l2 L2 ρ2 κ2 a2 w2 h2 hA2 hs2 => hk l2 L2 ρ2 κ2 a2 w2 h2 (hA.trans hA2) hs2
    rw [hA.round hs.rb] at this
    exact this
  | _ => simp only [leafE] at hu; cases hu; exact hk ⟨_, sundef, lst⟩ L' ρ' κ' a' w' hdu hA hs'
theorem callee?_spec {P : Program} {s : Option SV} {g : FuncId} {first cap : List SC} (h : callee? P s = some (g, first, cap)) : s = some (.a (.c (.fn (.func g) first cap))) ∧ callable P g = true := by
  unfold callee? at h
  split at h
  · rename_i g' f' c'
    cases hb : callable P g'
    · rw [hb] at h; cases h
    · rw [hb] at h; simp only [cond_true] at h; cases h; exact ⟨rfl, hb⟩
  · cases h
/-- a new loop's record -/
theorem SimD.enter {base : Bk} {w0 : World} {ρ : Env} {κ : Kap} {st : St} {a : Act} {w : World} {Ds : List Nat} (h : SimD base w0 Ds ρ κ st a w) (hb : st.bnd = true) {p : List Bool} {f : Operand} {ps : Array Nat} {as bo : Code} (hpl : placeOf base.P st.fn p = some (.rangeFunc f ps as bo)) (fn D : Nat) :
    SimD base w0 Ds ρ (κ.setO st.n w.heap.size 0) { st with H := .obj st.n (.loop ⟨.ready, none, st.fn, p, st.sl⟩) :: st.H, n := st.n + 1 } a (w.alloc (.loop { state := .ready, pending := none, fn, tmps := a.tmps, params := ps, assign := as, body := bo, defers := D })) := by
  simp only [St.bnd, Bool.and_eq_true] at hb
  have A := Agree.setO st.n w.heap.size 0 ρ κ
  refine h.step (h.fr.agree A hb.1.1) (Kept.of_below ((Below.refl _ w).alloc (Nat.le_refl _) _) (Nat.le_trans base.le h.sz)) ?_ h.fc fun l hl => Nat.lt_succ_of_lt (h.rb l hl)
  refine h.hp.alloc (Heap.free_of_bnd (one_lt (Nat.le_refl _)) hb.1.2.1) (Nat.le_refl _) 0 _ _ ?_
  exact ⟨a.tmps, f, ps, as, bo, D, fn, hpl, h.fr.agree A hb.1.1, rfl⟩
/-- a block for the deferred calls of a loop's rounds -/
theorem SimD.mark {base : Bk} {w0 : World} {ρ : Env} {κ : Kap} {st : St} {a : Act} {w : World} {Ds : List Nat} (h : SimD base w0 Ds ρ κ st a w) :
    SimD base w0 (w.heap.size :: Ds) ρ κ st { a with defers := { target := .collected w.heap.size, args := #[] } :: a.defers } (w.alloc (.deferred (some []))) := by
  have hbl : Below w.heap.size w (w.alloc (.deferred (some []))) := (Below.refl _ w).alloc (Nat.le_refl _) _
  have hdb : ∀ D ∈ w.heap.size :: Ds, D < (w.alloc (.deferred (some []))).heap.size ∧ base.b ≤ D ∧ ¬ base.keep D ∧ (w.alloc (.deferred (some []))).heap[D]? = some (.deferred (some [])) := by
    intro D hD
    rcases List.mem_cons.1 hD with rfl | hD
    · have := base.new h.sz
      exact ⟨by rw [World.size_alloc]; exact Nat.lt_succ_self _, this.1, this.2, World.alloc_heap_new w _⟩
    · obtain ⟨k1, k2, k3, k4⟩ := h.db D hD
      exact ⟨by rw [World.size_alloc]; omega, k2, k3, by rw [Below.heap_alloc w _ _ k1]; exact k4⟩
  have hsz : base.top ≤ (w.alloc (.deferred (some []))).heap.size := by rw [World.size_alloc]; have := h.sz; omega
  refine ⟨h.fr, ?_, ?_, hdb, hsz, ?_, h.bl.trans (Kept.of_below hbl (Nat.le_trans base.le h.sz)), h.fc, h.rb⟩
  · simp only [List.map_cons, h.df]; rfl
  · exact List.nodup_cons.2 ⟨fun hm => by have := (h.db _ hm).1; omega, h.dn⟩
  · refine (h.hp.below fun k hk => hbl.block k hk).up rfl rfl fun k hO hk hk' => ?_
    rcases hk' with hk' | hk'
    · exact hk (.inl hk')
    · rcases List.mem_cons.1 hk' with rfl | hk'
      · rcases hO with ⟨id, o, g1, g2⟩ | ⟨j, c, q, E, g1, g2, g3⟩
        · have := h.hp.lt g1; omega
        · have := h.hp.arrlt g1 (.inr ⟨rfl, g2⟩); omega
      · exact hk (.inr hk')
theorem soundCode {n : Nat} (hCd : SoundCode C n) (hO : SoundOps C n) (hLp : SoundLoop C n) (hD : SoundDraw C n) (hC : SoundCall C n) : SoundCode C (n + 1) := by
  intro c p st t h hpl base w0 ρ κ a w L Φ Q hP hL hs hd hk
  have self : ∀ e, leafE e st = some t → Q e a w := fun e he => by
    simp only [leafE] at he; cases he
    exact hk ⟨e, sundef, st⟩ L ρ κ a w hd (Aft.refl hL) hs
  cases c with
  | skip => simp only [X_succ, stepT, force_eq, s_code, s_loopU, s_ops, s_run, s_op, s_fork, s_call, s_yld, s_draw, xoneF_eq, xvalF_eq, forceL_eq, St.bndQ_eq] at h; exact wpIn_skip (self _ h)
  | label l => simp only [X_succ, stepT, force_eq, s_code, s_loopU, s_ops, s_run, s_op, s_fork, s_call, s_yld, s_draw, xoneF_eq, xvalF_eq, forceL_eq, St.bndQ_eq] at h; exact wpIn_label (self _ h)
  | exit id => simp only [X_succ, stepT, force_eq, s_code, s_loopU, s_ops, s_run, s_op, s_fork, s_call, s_yld, s_draw, xoneF_eq, xvalF_eq, forceL_eq, St.bndQ_eq] at h; exact wpIn_exit (self _ h)
  | goto l => simp only [X_succ, stepT, force_eq, s_code, s_loopU, s_ops, s_run, s_op, s_fork, s_call, s_yld, s_draw, xoneF_eq, xvalF_eq, forceL_eq, St.bndQ_eq] at h; exact wpIn_goto (self _ h)
  | ret => simp only [X_succ, stepT, force_eq, s_code, s_loopU, s_ops, s_run, s_op, s_fork, s_call, s_yld, s_draw, xoneF_eq, xvalF_eq, forceL_eq, St.bndQ_eq] at h; exact wpIn_ret (self _ h)
  | region id ops draw =>
    cases draw with
    | false =>
      simp only [X_succ, stepT, force_eq, s_code, s_loopU, s_ops, s_run, s_op, s_fork, s_call, s_yld, s_draw, xoneF_eq, xvalF_eq, forceL_eq, St.bndQ_eq] at h
      exact wpC_region (hO ops _ st t h base w0 ρ κ a w L Φ Q hP hL hs hd hk)
    | true =>
      simp only [X_succ, stepT, force_eq, s_code, s_loopU, s_ops, s_run, s_op, s_fork, s_call, s_yld, s_draw, xoneF_eq, xvalF_eq, forceL_eq, St.bndQ_eq] at h
      cases hb : (st.bnd && (C.P.follows .mixedOrders && predsOk 0 ops.toList))
      · rw [hb] at h; cases h
      · rw [hb] at h; simp only [cond_true] at h
        simp only [Bool.and_eq_true] at hb
        obtain ⟨hbnd, hmix, hpo⟩ := hb
        obtain ⟨dis, l, ρ', k1, k2, k3, k4, k5, k6, k7, k8, k9, k10, k11, k12⟩ := hD ops ops.toList st [] t h base w0 ρ L Φ hP hL hd hs.fc
        simp only [List.nil_append] at k11
        refine draw_sound (st' := l.st) hbnd hmix hpo k11 (by rw [k10]; simp) (hs.agree (k3.kap κ) hbnd) k12 k9 k8 k7 k4 ?_
        intro κ' a' w' hA hs'
        rw [← k2]
        exact hk l L ρ' κ' a' w' k1 ⟨by rw [k5]; exact hL, List.suffix_refl _, k4, k6, k7, (k3.kap κ).trans hA (Nat.le_refl _)⟩ hs'
  | seq x y =>
    simp only [X_succ, stepT, force_eq, s_code, s_loopU, s_ops, s_run, s_op, s_fork, s_call, s_yld, s_draw, xoneF_eq, xvalF_eq, forceL_eq, St.bndQ_eq] at h
    obtain ⟨t', ht', hdd⟩ := thenT_spec (P := C.P) (base := base) (w0 := w0) h
    refine wpIn_seq (hCd x _ st t' ht' (placeOf_cons hpl (codeAt_nil x)) base w0 ρ κ a w L _ _ hP hL hs (hdd L ρ Φ hd) ?_)
    intro l L' ρ' κ' a' w' hl hA hs'
    obtain ⟨u, hu, hdu⟩ := hl
    obtain ⟨le, lv, lst⟩ := l
    cases le with
    | normal =>
      have hpl' : placeOf C.P lst.fn (true :: p) = some y := by rw [hA.fn]; exact placeOf_cons hpl (codeAt_nil y)
      have := hCd y _ lst u hu hpl' base w0 ρ' κ' a' w' L' Φ Q hP hA.len hs' hdu fun l2 L2 ρ2 κ2 a2 w2 h2 hA2 hs2 => hk l2 L2 ρ2 κ2 a2 w2 h2 (hA.trans hA2) hs2
      rw [hA.round hs.rb] at this
      exact this
    | _ => simp only [leafE] at hu; cases hu; exact hk ⟨_, sundef, lst⟩ L' ρ' κ' a' w' hdu hA hs'
  | cond c x y =>
    simp only [X_succ, stepT, force_eq, s_code, s_loopU, s_ops, s_run, s_op, s_fork, s_call, s_yld, s_draw, xoneF_eq, xvalF_eq, forceL_eq, St.bndQ_eq] at h
    split at h
    · rename_i b hb
      have hev := opv_den hs.fr hb
      simp only [SV.den, SA.den, SC.den] at hev
      have hsimp := bsimp_den hs.fc b
      rw [← hsimp] at hev
      generalize bsimp st.facts b = q at h hev
      refine wpIn_cond hev ?_
      have hx := placeOf_cons (d := x) (b := false) hpl (codeAt_nil x)
      have hy := placeOf_cons (d := y) (b := true) hpl (codeAt_nil y)
      split at h
      · exact hCd x _ st t h hx base w0 ρ κ a w L Φ Q hP hL hs hd hk
      · exact hCd y _ st t h hy base w0 ρ κ a w L Φ Q hP hL hs hd hk
      · obtain ⟨t1, t2, h1, h2, rfl⟩ := iteT_spec h
        cases hp : q.den ρ
        · simp only [Bool.false_eq_true, if_false]
          exact hCd y _ (st.learn q false) t2 h2 hy base w0 ρ κ a w L Φ Q hP hL (hs.learn hp) (hd.2 hp) fun l L' ρ' κ' a' w' hl hA hs' => hk l L' ρ' κ' a' w' hl (hA.of rfl rfl rfl) hs'
        · simp only [if_true]
          exact hCd x _ (st.learn q true) t1 h1 hx base w0 ρ κ a w L Φ Q hP hL (hs.learn hp) (hd.1 hp) fun l L' ρ' κ' a' w' hl hA hs' => hk l L' ρ' κ' a' w' hl (hA.of rfl rfl rfl) hs'
    · cases h
  | block id b =>
    simp only [X_succ, stepT, force_eq, s_code, s_loopU, s_ops, s_run, s_op, s_fork, s_call, s_yld, s_draw, xoneF_eq, xvalF_eq, forceL_eq, St.bndQ_eq] at h
    obtain ⟨t', ht', hdd⟩ := thenT_spec (P := C.P) (base := base) (w0 := w0) h
    refine wpIn_block (hCd b _ st t' ht' (placeOf_cons hpl (codeAt_nil b)) base w0 ρ κ a w L _ _ hP hL hs (hdd L ρ Φ hd) ?_)
    intro l L' ρ' κ' a' w' hl hA hs'
    obtain ⟨u, hu, hdu⟩ := hl
    obtain ⟨le, lv, lst⟩ := l
    cases le with
    | exit i =>
      simp only [leafE] at hu; cases hu
      have := hk ⟨_, sundef, lst⟩ L' ρ' κ' a' w' hdu hA hs'
      simp only [Exit.inBlock]
      simp only at this
      cases hq : Nat.beq i id
      · rw [hq] at this
        have hne : ¬ i = id := beq_false hq
        rw [if_neg hne]; exact this
      · rw [hq] at this
        rw [Nat.beq_eq] at hq
        rw [if_pos hq]; exact this
    | _ => simp only [leafE] at hu; cases hu; exact hk ⟨_, sundef, lst⟩ L' ρ' κ' a' w' hdu hA hs'
  | scope b =>
    simp only [X_succ, stepT, force_eq, s_code, s_loopU, s_ops, s_run, s_op, s_fork, s_call, s_yld, s_draw, xoneF_eq, xvalF_eq, forceL_eq, St.bndQ_eq] at h
    obtain ⟨t', ht', hdd⟩ := thenT_spec (P := C.P) (base := base) (w0 := w0) h
    refine wpC_scope (hCd b _ st t' ht' (placeOf_cons hpl (codeAt_nil b)) base w0 ρ κ a w L _ _ hP hL hs (hdd L ρ Φ hd) ?_)
    intro l L' ρ' κ' a' w' hl hA hs'
    obtain ⟨u, hu, hdu⟩ := hl
    obtain ⟨le, lv, lst⟩ := l
    cases le with
    | goto t => cases hu
    | _ => simp only [leafE] at hu; cases hu; exact hk ⟨_, sundef, lst⟩ L' ρ' κ' a' w' hdu hA hs'
  | loop b =>
    simp only [X_succ, stepT, force_eq, s_code, s_loopU, s_ops, s_run, s_op, s_fork, s_call, s_yld, s_draw, xoneF_eq, xvalF_eq, forceL_eq, St.bndQ_eq] at h
    have hpb := placeOf_cons (d := b) (b := false) hpl (codeAt_nil b)
    split at h
    · exact wpIn_loop_rounds n (hLp b _ st t h hpb base w0 ρ κ a w L Φ Q hP hL hs hd hk)
    · rename_i locs _
      obtain ⟨st1, t1, ρ1, κ1, h, A1, hs1, hd1, n1, d1, f1, r1⟩ := normT_sound (C := C) locs st _ t ρ κ a w L h hs hd
      have hround : st1.rnd.map κ1.o = st.rnd.map κ.o := by
        rw [r1]
        cases hl : st.rnd with
        | none => rfl
        | some l => simp only [Option.map_some, A1.o l (hs.rb l hl)]
      have hk1 : ∀ l L' ρ' κ' a' w', Φ l L' ρ' → Aft st1 ρ1 κ1 L l.st ρ' κ' L' → Sim base w0 ρ' κ' l.st a' w' → Q l.e a' w' := fun l L' ρ' κ' a' w' hl hA hs' =>
        hk l L' ρ' κ' a' w' hl ⟨hA.len, hA.suf, Nat.le_trans n1 hA.n, hA.fn.trans f1, hA.rnd.trans r1, A1.trans hA.A n1⟩ hs'
      have hL1 : L.length = st1.d := by rw [d1]; exact hL
      have hpb1 : placeOf C.P st1.fn (false :: p) = some b := by rw [f1]; exact hpb
      rw [← hround]
      clear hk self hs hd hL hround hpb hpl
      revert h hs1 hd1 hk1 hL1 hpb1
      generalize st1 = st, t1 = t, ρ1 = ρ, κ1 = κ
      intro h hs hd hk hL hpb
      split at h
      · rename_i head ks hhead
        have hheadn : head.n = st.n + ks.length ∧ head.facts = st.facts ∧ head.d = st.d + 1 ∧ head.fn = st.fn ∧ head.rnd = st.rnd := by
          unfold headOf at hhead
          split at hhead
          · cases hhead; exact ⟨rfl, rfl, rfl, rfl, rfl⟩
          · cases hhead
        obtain ⟨e1, e2, e3, e4, e5⟩ := hheadn
        have hrb : ∀ l, head.rnd = some l → l < head.n := fun l hl => by
          rw [e5] at hl; have := hs.rb l hl; omega
        split at h
        · rename_i init body hinit hbody
          cases h
          cases hbf : BE.bndL st.n st.facts
          · rw [hbf] at hbody; cases hbody
          · rw [hbf] at hbody; simp only [cond_true] at hbody
            obtain ⟨I, μ, hI, hall⟩ := hd
            have hbf' : BE.bndL st.n head.facts = true := by rw [e2]; exact hbf
            have hf' : ∀ p ∈ head.facts, p.den ρ = true := by rw [e2]; exact hs.fc
            obtain ⟨f0, κ0, A0, s0⟩ := lcheck_sim (Agree.refl st.n ρ κ) hinit hs hbf' hf' hrb
            have hpbh : placeOf C.P head.fn (false :: p) = some b := by rw [e4]; exact hpb
            refine wpIn_loop_ghost (fun m a w => ∃ l κ', fitsL ks l = true ∧ I l ∧ μ l = m ∧ Agree st.n ρ (ρ.setL st.n l) κ κ' ∧ Sim base w0 (ρ.setL st.n l) κ' head a w) (μ (init.map (LV.eval ρ)))
              ⟨_, κ0, f0, hI, rfl, A0, s0⟩ ?_
            intro m a1 w1 ⟨l, κ1, hfit, hIl, hml, hA1, hs1⟩
            have hdb := allD_spec ks _ hall l hfit hIl
            have hro : head.rnd.map κ1.o = st.rnd.map κ.o := by
              rw [e5]
              cases hl : st.rnd with
              | none => rfl
              | some l => simp only [Option.map_some, hA1.o l (hs.rb l hl)]
            rw [← hro]
            obtain ⟨tb, htb, hddb⟩ := thenT_spec (P := C.P) (base := base) (w0 := w0) hbody
            refine hCd b _ head tb htb hpbh base w0 (ρ.setL st.n l) κ1 a1 w1 (⟨I, μ, μ l⟩ :: L) _ _ hP (by rw [e3, List.length_cons, hL]) hs1 (hddb _ _ Φ hdb) ?_
            intro l' L' ρ' κ' a' w' hl' hA' hs'
            obtain ⟨u, hu, hdu⟩ := hl'
            have hA2 : Agree st.n ρ ρ' κ κ' := hA1.trans hA'.A (by omega)
            have hn' : st.n ≤ l'.st.n := by have := hA'.n; omega
            obtain ⟨le, lv, lst⟩ := l'
            have other : ∀ e, leafE e lst = some u → Q e a' w' := fun e he => by
              simp only [leafE] at he; cases he
              exact hk ⟨_, sundef, lst⟩ L' ρ' κ' a' w' hdu ⟨hA'.len, (List.suffix_cons _ _).trans hA'.suf, hn', by rw [← e4]; exact hA'.fn, by rw [← e5]; exact hA'.rnd, hA2⟩ hs'
            cases le with
            | normal =>
              simp only at hu
              obtain ⟨st2, t2, ρ2, κ2, ht2, A2, hs2, hd2, n2, d2, f2, r2⟩ := normT_sound (C := C) locs lst _ u ρ' κ' a' w' L' hu hs' hdu
              split at ht2
              · rename_i vals hvals
                cases ht2
                have hA3 : Agree st.n ρ ρ2 κ κ2 := hA2.trans A2 hn'
                obtain ⟨f3, κ3, A3, s3⟩ := lcheck_sim hA3 hvals hs2 hbf' hf' hrb
                obtain ⟨pre, hpre⟩ := hA'.suf
                have hidx : L'[st2.d - head.d]? = some ⟨I, μ, μ l⟩ := by
                  have hlen : pre.length = st2.d - head.d := by
                    rw [d2, ← hA'.len, ← hpre, e3, ← hL]; simp
                  rw [← hpre, ← hlen]; simp
                simp only [Den, hidx] at hd2
                exact ⟨_, by rw [← hml]; exact hd2.2, _, κ3, f3, hd2.1, rfl, A3, s3⟩
              · cases ht2
            | exit id => exact other _ hu
            | goto l => exact other _ hu
            | ret => exact other _ hu
            | panic ch => exact other _ hu
            | outgrown => exact other _ hu
        · cases h
      · cases h
  | rangeFunc f ps as bo =>
    simp only [X_succ, stepT, force_eq, s_code, s_loopU, s_ops, s_run, s_op, s_fork, s_call, s_yld, s_draw, xoneF_eq, xvalF_eq, forceL_eq, St.bndQ_eq] at h
    split at h
    · rename_i g first cap hcal
      obtain ⟨hev, hcb⟩ := callee?_spec hcal
      have hev := evF_den hs.fr hs.fc (c := .lit true) rfl _ _ hev
      cases hb : (st.bnd && (rndOk st && SC.bndL st.n (first ++ cap)))
      · rw [hb] at h; cases h
      · rw [hb] at h; simp only [cond_true] at h
        simp only [Bool.and_eq_true] at hb
        obtain ⟨hbnd, hro, hfc⟩ := hb
        obtain ⟨t', ht', hdd⟩ := thenT_spec (P := C.P) (base := base) (w0 := w0) h
        have hd' := hdd L ρ Φ hd
        obtain ⟨Ds, hsd⟩ := hs
        have hplB : placeOf base.P st.fn p = some (.rangeFunc f ps as bo) := by rw [hP]; exact hpl
        refine wpIn_rangeFunc fun fn _ => ?_
        -- whichever way the record was laid
        have main : ∀ (Ds1 : List Nat) (mark : List Deferred) (wa : World) (D : Nat), SimD base w0 Ds1 ρ κ st { a with defers := mark ++ a.defers } wa →
            (Instr.enterLoop fn a.tmps ps as bo (st.rnd.map κ.o)).run C.P w = .ok (wa.heap.size, mark) (wa.alloc (.loop { state := .ready, pending := none, fn, tmps := a.tmps, params := ps, assign := as, body := bo, defers := D })) →
            ∃ (l : Nat) (mark : List Deferred) (w₁ : World) (d : Deferred) (w₁' : World) (f' : FuncId) (args : Array Value) (w₂ : World),
              (Instr.enterLoop fn a.tmps ps as bo (Wd (st.rnd.map κ.o)).round).run C.P w = .ok (l, mark) w₁ ∧ (resolve a.eval (rangeCall f l) 0).run C.P w₁ = .ok d w₁' ∧ (∀ f', Target.leads C.P w₁' d.target d.args = some f' → (Wd (st.rnd.map κ.o)).fn f') ∧
              (invoke d.target d.args).run C.P w₁' = .ok (.enter f' args) w₂ ∧ ((Wd (st.rnd.map κ.o)).depth.isSome = true → 1 ≤ 0) ∧
              CallsIn (Wd (st.rnd.map κ.o)) (0 - 1) C.P f' args w₂ (rangePost (Wd (st.rnd.map κ.o)) 0 C.P l Q { a with defers := mark ++ a.defers }) := by
          intro Ds1 mark wa D hsa hent
          have hse := hsa.enter hbnd hplB fn D
          dsimp only at hse
          generalize hW : wa.alloc (.loop { state := .ready, pending := none, fn, tmps := a.tmps, params := ps, assign := as, body := bo, defers := D }) = W at hent hse
          have hval : a.eval f = .func (.func g) (first.map (SC.den ρ κ)).toArray (cap.map (SC.den ρ κ)).toArray := by
            rw [hev]; simp only [SV.den, SA.den, SC.den, SC.denL_eq]
          refine ⟨wa.heap.size, mark, W, { target := .fn (.func g) (cap.map (SC.den ρ κ)).toArray, args := (first.map (SC.den ρ κ)).toArray ++ #[.func (.yield wa.heap.size) #[] #[]] }, W, g,
            ((first.map (SC.den ρ κ)).toArray ++ #[.func (.yield wa.heap.size) #[] #[]]) ++ (cap.map (SC.den ρ κ)).toArray, W, hent, ?_, fun _ _ => trivial, ?_, fun hx => by simp [Wd] at hx, ?_⟩
          · simp only [resolve, hval, Deferred.ofValue]
            simp [Act.eval]
          · simp only [invoke]
            exact run_callFunc hcb _ _
          · refine callsIn_wd.2 ?_
            have A0 := Agree.setO st.n wa.heap.size 0 ρ κ
            have hargs : ((first.map SV.c ++ ([SV.c (.yld st.n)] ++ cap.map SV.c)).map (SV.den ρ (κ.setO st.n wa.heap.size 0))).toArray = ((first.map (SC.den ρ κ)).toArray ++ #[.func (.yield wa.heap.size) #[] #[]]) ++ (cap.map (SC.den ρ κ)).toArray := by
              have hsplit : SC.bndL st.n first = true ∧ SC.bndL st.n cap = true := by
                have : ∀ (l r : List SC), SC.bndL st.n (l ++ r) = true → SC.bndL st.n l = true ∧ SC.bndL st.n r = true := by
                  intro l
                  induction l with
                  | nil => intro r h; exact ⟨rfl, h⟩
                  | cons x l ih =>
                    intro r h
                    simp only [List.cons_append, SC.bndL, Bool.and_eq_true] at h ⊢
                    exact ⟨⟨h.1, (ih r h.2).1⟩, (ih r h.2).2⟩
                exact this _ _ hfc
              have e3 : ∀ (l : List SC), SC.bndL st.n l = true → (l.map SV.c).map (SV.den ρ (κ.setO st.n wa.heap.size 0)) = l.map (SC.den ρ κ) := fun l hl => by
                rw [List.map_map, ← SC.agreeM A0 hl]; rfl
              rw [List.map_append, List.map_append, e3 _ hsplit.1, e3 _ hsplit.2]
              simp [SV.den, SA.den, SC.den, Kap.setO]
            rw [← hargs]
            have := hC g _ _ t' ht' base w0 ρ _ _ _ L _ (fun _ w3 => rangePost (Wd (st.rnd.map κ.o)) 0 C.P wa.heap.size Q { a with defers := mark ++ a.defers } (.returned undef) w3) hP hL ⟨Ds1, hse⟩ hd' ?_
            · exact this.mono fun e w3 ⟨v, he, hr⟩ => by subst he; exact hr
            · intro l L' ρ' κ' w3 hl hA hsl hs3
              obtain ⟨u, hu, hdu⟩ := hl
              split at hu
              · rename_i r hr
                have hr := loop?_spec hr
                have hnb : r.state ≠ .busy ∧ ∃ e, exitOf r.pending = some e ∧ leafE e { l.st with H := l.st.H.delO st.n } = some u := by
                  split at hu
                  · cases hu
                  · rename_i e hst he
                    exact ⟨he, e, by assumption, hu⟩
                  · cases hu
                obtain ⟨hnb, e, he, hu⟩ := hnb
                obtain ⟨Ds3, hsd3⟩ := hs3
                obtain ⟨⟨b3, q1, q2⟩, _⟩ := hsd3.hp.obj st.n _ hr
                obtain ⟨tm3, g3, ps3, as3, bo3, D3, fn3, j0, j1, rfl⟩ := q2
                have hkl : κ'.o st.n = wa.heap.size := by
                  rw [hA.A.o st.n (Nat.lt_succ_self _)]; simp [Kap.setO]
                rw [hkl] at q1
                have hrun := run_endLoop (P := C.P) q1 hnb
                have hturn := hsd3.turn hr (o := .loop { r with state := .exhausted }) (b := .loop { state := .exhausted, pending := r.pending, fn := fn3, tmps := tm3, params := ps3, assign := as3, body := bo3, defers := D3 })
                  ⟨tm3, g3, ps3, as3, bo3, D3, fn3, j0, j1, rfl⟩
                rw [hkl] at hturn
                have hfin : Sim base w0 ρ' κ' { l.st with H := l.st.H.delO st.n } { a with defers := mark ++ a.defers } (w3.putObj wa.heap.size (.loop { state := .exhausted, pending := r.pending, fn := fn3, tmps := tm3, params := ps3, assign := as3, body := bo3, defers := D3 })) := by
                  refine ⟨Ds3, hturn.step hturn.fr (Kept.refl _ _) (hturn.hp.sub (fun x y g => ?_) (fun x y g => ?_)) hturn.fc hturn.rb⟩
                  · rw [Heap.delO_obj] at g
                    split at g
                    · cases g
                    · rename_i hne
                      show (l.st.H.setObj st.n _).obj? x = some y
                      rw [Heap.obj?_setObj, if_neg hne]; exact g
                  · rw [Heap.delO_arr] at g
                    show (l.st.H.setObj st.n _).arr? x = some y
                    rw [Heap.arr?_setObj]; exact g
                have hQ : Q e { a with defers := mark ++ a.defers } (w3.putObj wa.heap.size (.loop { state := .exhausted, pending := r.pending, fn := fn3, tmps := tm3, params := ps3, assign := as3, body := bo3, defers := D3 })) := by
                  simp only [leafE] at hu; cases hu
                  refine hk ⟨e, sundef, { l.st with H := l.st.H.delO st.n }⟩ L' ρ' κ' _ _ hdu ⟨hA.len, hA.suf, by have := hA.n; simp only at this ⊢; omega, hA.fn, hA.rnd, ?_⟩ hfin
                  exact A0.trans hA.A (Nat.le_succ _)
                refine ⟨_, _, hrun, ?_⟩
                simp only
                cases hp : r.pending with
                | none => rw [hp] at he hQ; simp only [exitOf, Option.some.injEq] at he; subst he; exact hQ
                | some c =>
                  rw [hp] at he hQ
                  cases c <;> simp only [exitOf, Option.some.injEq, reduceCtorEq] at he <;> subst he <;> simp only <;> first | exact wpIn_ret hQ | exact wpIn_exit hQ | exact wpIn_goto hQ
              · cases hu
        cases hr : st.rnd with
        | none =>
          have hm := hsd.mark
          rw [hr] at main
          refine main (w.heap.size :: Ds) [{ target := .collected w.heap.size, args := #[] }] (w.alloc (.deferred (some []))) w.heap.size hm ?_
          simp only [Option.map_none]
          rw [run_enterLoop_outer, World.size_alloc]
        | some l0 =>
          simp only [rndOk, hr] at hro
          obtain ⟨r0, hr0⟩ := Option.isSome_iff_exists.1 hro
          have hr0 := loop?_spec hr0
          obtain ⟨⟨b0, q1, q2⟩, _⟩ := hsd.hp.obj l0 _ hr0
          obtain ⟨tm0, g0, ps0, as0, bo0, D0, fn0, _, _, rfl⟩ := q2
          rw [hr] at main
          refine main Ds [] w D0 ?_ ?_
          · exact hsd
          · simp only [Option.map_some]
            exact run_enterLoop_inner q1 _ _ _ _ _
    · cases h
  | _ => simp only [X_succ, stepT, force_eq, s_code, s_loopU, s_ops, s_run, s_op, s_fork, s_call, s_yld, s_draw, xoneF_eq, xvalF_eq, forceL_eq, St.bndQ_eq] at h; cases h
theorem sound (n : Nat) : SoundCode C n ∧ SoundLoop C n ∧ SoundOps C n ∧ SoundRun C n ∧ SoundOp C n ∧ SoundCall C n ∧ SoundYld C n ∧ SoundDraw C n ∧ SoundFork C n := by
  induction n with
  | zero => exact ⟨fun _ _ _ _ h => (by cases h), fun _ _ _ _ h => (by cases h), fun _ _ _ _ h => (by cases h), fun _ _ _ _ h => (by cases h), fun _ _ _ h => (by cases h), fun _ _ _ _ h => (by cases h), fun _ _ _ _ h => (by cases h), fun _ _ _ _ _ h => (by cases h), fun _ _ _ _ _ _ h => (by cases h)⟩
  | succ n ih =>
    obtain ⟨h1, h2, h3, h4, h5, h6, h7, h8, h9⟩ := ih
    exact ⟨soundCode h1 h3 h2 h8 h6, soundLoop h2 h1, soundOps h3 h4, soundRun h5, soundOp h6 h7 h9, soundCall h1, soundYld h1, soundDraw h4 h8, soundFork h5 h9⟩
end
end Go.SX
