/- SyF2: append and copy where the lengths are known. -/
import Derived.Test.YtjclacagbifgmaaSyF1
set_option linter.unusedSimpArgs false
set_option linter.unusedVariables false
set_option linter.unusedSectionVars false
noncomputable section
namespace Go.SX
open Go Go.RowKit

inductive ORes where
  | val (v : SV)
  | new (o : SObj) (np : NP) (src : Option Nat)
  | upd (H : Heap) (v : SV)
  | call (f : FuncId) (args : List SV)
  | yld (l : Nat) (args : List SV)
  | row (q : RowRes)
  | alts (l : List (BE × SV)) (v : SV)
  | turn (j : Nat) (ct : AE) (v : SV)
/-- the cells of a slice whose length is known -/
def knownSl (H : Heap) (sz : Nat) : SC → Option (List SC × Nat)
  | .lit (.slice none 0 0) => some ([], 0)
  | .oslice id off m _ | .gslice id off m _ => match H.own? id with
    | some (cs, _) => bif Nat.beq ((cs.drop off).take (m * sz)).length (m * sz) then some ((cs.drop off).take (m * sz), m) else none
    | none => none
  | _ => none
theorem knownSl_spec {P : Program} {ρ : Env} {κ : Kap} {base : Bk} {H : Heap} {w : World} (hH : HeapOk ρ κ base H w) {sz : Nat} {s : SC} {l : List SC} {m : Nat} (h : knownSl H sz s = some (l, m)) {u e' : TypeId} (hk : P.underlying u = some (.slice e')) :
    l.length = m * sz ∧ _root_.Go.Src P sz u (s.den ρ κ) m (l.map (SC.den ρ κ)) w ∧ (Builtin.lenOf (s.den ρ κ) = pure m) ∧ (∃ a c, s.den ρ κ = .slice a m c ∧ (Builtin.firstCells sz m (s.den ρ κ)).run P w.drew = .ok (l.map (SC.den ρ κ)).toArray w.drew) := by
  have own : ∀ (id off m' c : Nat) (cs : List SC) (ty : TypeId), H.own? id = some (cs, ty) → (bif Nat.beq ((cs.drop off).take (m' * sz)).length (m' * sz) then some ((cs.drop off).take (m' * sz), m') else none) = some (l, m) → s.den ρ κ = .slice (some ⟨κ.o id, off, none⟩) m' c →
      l.length = m * sz ∧ _root_.Go.Src P sz u (s.den ρ κ) m (l.map (SC.den ρ κ)) w ∧ (Builtin.lenOf (s.den ρ κ) = pure m) ∧ (∃ a c, s.den ρ κ = .slice a m c ∧ (Builtin.firstCells sz m (s.den ρ κ)).run P w.drew = .ok (l.map (SC.den ρ κ)).toArray w.drew) := by
    intro id off m' c cs ty ho h hs
    cases hq : Nat.beq ((cs.drop off).take (m' * sz)).length (m' * sz)
    · rw [hq] at h; cases h
    · rw [hq] at h; simp only [cond_true] at h; cases h
      rw [Nat.beq_eq] at hq
      have hr := hH.range ho hq
      have hsrc := _root_.Go.Src.ofSlice (P := P) (size := sz) w hk ⟨κ.o id, off, none⟩ m c (((cs.drop off).take (m * sz)).map (SC.den ρ κ)) (by simpa using hq) (fun j v hv => by rw [Addr.add_mid]; exact hr j v hv)
        (fun v hv => by obtain ⟨x, _, rfl⟩ := List.mem_map.1 hv; exact SC.den_one ρ κ x)
      rw [hs]
      exact ⟨hq, hsrc, rfl, _, _, rfl, hsrc.cellsD⟩
  unfold knownSl at h
  split at h
  · cases h
    have hs : SC.den ρ κ (.lit (.slice none 0 0)) = .slice none 0 0 := by simp [SC.den, bigCell, Value.oneCell']
    have hsrc := _root_.Go.Src.ofNil (P := P) (size := sz) w hk 0
    rw [hs]
    exact ⟨by simp, hsrc, rfl, _, _, rfl, hsrc.cellsD⟩
  · rename_i id off m' cap
    split at h
    · rename_i cs ty ho
      exact own id off m' cap cs ty ho h (by simp only [SC.den])
    · cases h
  · rename_i id off m' k
    split at h
    · rename_i cs ty ho
      exact own id off m' (κ.cap id - k) cs ty ho h (by simp only [SC.den])
    · cases h
  · cases h
def xappK (P : Program) (H : Heap) (t u : TypeId) (s x : SV) : Option ORes :=
  match s, x, P.underlying t, P.underlying u with
  | .a (.c s), .a (.c x), some (.slice E), some (.slice _) => match P.info? E, zeroP P E with
    | some i, some z => match knownSl H i.size s, knownSl H i.size x with
      | some (old, n), some (news, m) => bif (Nat.blt 0 i.size && Nat.blt 0 i.bytes) && (Nat.beq z.cells.length i.size && Nat.ble ((n + m) * i.bytes) 140737488355328) then
          match s with
          | .lit (.slice none 0 0) => bif Nat.beq m 0 then some (.val (.c s)) else some (.new (.cells news E (some i.size)) (.gs m) none)
          | .oslice id off _ cap => bif Nat.ble (n + m) cap then
              bif Nat.beq m 0 then some (.val (.c (.oslice id off n cap))) else
              match H.own? id with
              | some (cs, _) => bif Nat.ble (off + n * i.size + news.length) cs.length then some (.upd (H.setOwn id (setMany cs (off + n * i.size) news)) (.c (.oslice id off (n + m) cap))) else none
              | none => none
            else some (.new (.cells (old ++ news) E (some i.size)) (.gs (n + m)) none)
          | .gslice id off _ k => match H.obj? id with
            | some (.cells cs ty (some z')) => bif Nat.beq z' i.size && Nat.beq ty E then
                bif Nat.ble ((k + n + m) * i.size) cs.length && Nat.ble (off + n * i.size + news.length) cs.length then some (.upd (H.setOwn id (setMany cs (off + n * i.size) news)) (.c (.gslice id off (n + m) k)))
                else bif Nat.beq off 0 && Nat.beq k 0 then some (.new (.cells (old ++ news) E (some i.size)) (.gs (n + m)) (some id)) else none
              else none
            | _ => none
          | _ => none
        else none
      | _, _ => none
    | _, _ => none
  | _, _, _, _ => none
/-- what such an operation does -/
def Does (ρ : Env) (κ : Kap) (base : Bk) (H : Heap) (w : World) (r : Result Next) : ORes → Prop
  | .val v => r = .ok (.value (v.den ρ κ)) w
  | .new o np src => DoesNew ρ κ base H w r o np src
  | .upd H' v => DoesUpd ρ κ base w r H' v
  | .call f args => r = .ok (.enter f (args.map (SV.den ρ κ)).toArray) w
  | .yld l args => ∃ rc, H.obj? l = some (.loop rc) ∧ ∀ b, w.heap[κ.o l]? = some (.loop b) → args.length = b.params.size → r = .ok (.round (κ.o l) b.fn ((b.params.zip (args.map (SV.den ρ κ)).toArray).foldl (fun tmps (t, a) => tmps.setIfInBounds t a) b.tmps) b.assign b.body) w
  | .row q => DoesRow ρ κ base H w r q
  | .alts l v => r = .ok (.value (altDen ρ κ l v)) w
  | .turn j ct v => DoesTurn ρ κ base H w r j ct v
theorem HeapOk.ownsNew {w' : World} {b : Nat} {E : TypeId} {sz : Nat} {v' : Value} {n : Nat} {xs : List Value} (h : w'.ownsRow b E sz v' n xs) (hv : v' ≠ .slice none 0 0) :
    ∃ g cap sp, v' = .slice (some ⟨g, 0, none⟩) n cap ∧ w'.heap[g]? = some (.cells (xs ++ sp).toArray E (0, 0)) ∧ xs.length + sp.length = cap * sz ∧ cap ≤ maxLen := by
  rcases h.2 with ⟨e1, _⟩ | ⟨g, cap, cur, hv', hbg, hg, hnc, hcm, hcs, htake⟩
  · exact absurd e1 hv
  · have hlen := h.1
    refine ⟨g, cap, cur.toList.drop (n * sz), hv', ?_, ?_, hcm⟩
    · rw [← htake, List.take_append_drop]; simpa using hg
    · rw [← htake, List.length_take, List.length_drop, Array.length_toList, hcs]
      have : n * sz ≤ cap * sz := Nat.mul_le_mul_right _ hnc
      omega
theorem xappK_sound {P : Program} {ρ : Env} {κ : Kap} {base : Bk} {H : Heap} {w : World} (hH : HeapOk ρ κ base H w) (hz : base.top ≤ w.heap.size) {t u ty : TypeId} {s x : SV} {q : ORes} (h : xappK P H t u s x = some q) :
    Does ρ κ base H w (((Builtin.append_ #[t, u] ty #[s.den ρ κ, x.den ρ κ]).run P w).andThen fun v w' => .ok (.value v) w') q := by
  unfold xappK at h
  split at h
  · rename_i s x E e' hu hu'
    split at h
    · rename_i i z hi hzp
      split at h
      · rename_i old n news m hs hx
        cases hq : ((Nat.blt 0 i.size && Nat.blt 0 i.bytes) && (Nat.beq z.cells.length i.size && Nat.ble ((n + m) * i.bytes) 140737488355328))
        · rw [hq] at h; cases h
        · rw [hq] at h; simp only [cond_true] at h
          simp only [Bool.and_eq_true, Nat.beq_eq, Nat.blt_eq, Nat.ble_eq] at hq
          obtain ⟨⟨hsz, hby⟩, hzl, hbb⟩ := hq
          obtain ⟨zi, zv, hzi, hzv, hzd⟩ := zeroP_spec hzp
          rw [hi] at hzi; cases hzi
          have hzc : zv.cells.size = i.size := by rw [hzd ρ κ, SA.den_cells]; simp [hzl]
          obtain ⟨s1, s2, s3, sa, scap, s4, s5⟩ := knownSl_spec (P := P) (ρ := ρ) (κ := κ) hH hs hu
          obtain ⟨x1, x2, x3, xa, xcap, x4, x5⟩ := knownSl_spec (P := P) (ρ := ρ) (κ := κ) hH hx hu'
          have h63 : n + m ≤ 9223372036854775807 := by
            have := Nat.le_trans (Nat.le_mul_of_pos_right (n + m) hby) hbb; omega
          have hml : n + m ≤ maxLen := by
            have := Nat.le_trans (Nat.le_mul_of_pos_right (n + m) hby) hbb; simp only [maxLen]; omega
          -- a new row, the old one stands
          have grow : ∀ (sCap : Nat), s.den ρ κ = .slice sa n sCap → sCap < n + m → DoesNew ρ κ base H w (((Builtin.append_ #[t, u] ty #[(SV.a (.c s)).den ρ κ, (SV.a (.c x)).den ρ κ]).run P w).andThen fun v w' => .ok (.value v) w') (.cells (old ++ news) E (some i.size)) (.gs (n + m)) none := by
            intro sCap hsv hlt nn hf hfo
            rw [hsv] at s5
            have hrun := run_append_grow_src (P := P) w t u ty E i zv hu hi hzv sa n sCap (old.map (SC.den ρ κ)) s5 (x.den ρ κ) m (news.map (SC.den ρ κ)) x2 hlt (by omega) (growslice_fits (by omega) hbb)
            have hge := grownCap_ge w (n + m) sCap E
            have hcm : grownCap w (n + m) sCap E ≤ maxLen := grownCap_le_maxLen w (n + m) sCap E hml
            have K := KBut.setO nn w.heap.size (grownCap w (n + m) sCap E) κ
            refine ⟨κ.setO nn w.heap.size (grownCap w (n + m) sCap E), w.drew.alloc (.cells ((old.map (SC.den ρ κ) ++ news.map (SC.den ρ κ)).toArray ++ Builtin.zeroCells zv.cells (grownCap w (n + m) sCap E - (n + m))) E), K, ?_, ?_, ?_⟩
            · simp only [SV.den, SA.den, hsv, hrun, Result.andThen_ok, newPtr, SC.den]
              simp [Kap.setO]
            · have h0 : HeapOk ρ κ base H w.drew := hH.below fun k _ => rfl
              have hf0 : (w.drew).heap.size = w.heap.size := rfl
              have := h0.alloc hf (by rw [hf0]; exact hz) (grownCap w (n + m) sCap E) (.cells (old ++ news) E (some i.size))
                (.cells ((old.map (SC.den ρ κ) ++ news.map (SC.den ρ κ)).toArray ++ Builtin.zeroCells zv.cells (grownCap w (n + m) sCap E - (n + m))) E (0, 0)) (by
                  refine ⟨(Builtin.zeroCells zv.cells (grownCap w (n + m) sCap E - (n + m))).toList, ?_, ?_, ?_⟩
                  · congr 1
                    apply Array.toList_inj.1
                    simp only [Array.toList_append, List.toList_toArray]
                    rw [SC.hasM_den (show KBut (one nn) κ (κ.setO nn w.drew.heap.size (grownCap w (n + m) sCap E)) from K) (show SC.hasL (one nn) (old ++ news) = false from hfo), List.map_append]
                  · simp only [Array.length_toList, size_zeroCells, hzc, List.length_append, s1, x1, Kap.setO, if_true]
                    rw [← Nat.add_mul, ← Nat.add_mul]; congr 1; omega
                  · simp only [Kap.setO, if_true]; exact hcm)
              exact this
            · refine Kept.of_below (w := w) ?_ (Nat.le_trans base.le hz)
              exact ((Below.refl _ w).drew).alloc (Nat.le_refl _) _
          split at h
          · -- nil
            simp only [knownSl] at hs; cases hs
            have hsv : SC.den ρ κ (.lit (.slice none 0 0)) = .slice none 0 0 := by simp [SC.den, bigCell, Value.oneCell']
            cases hm : Nat.beq m 0
            · rw [hm] at h; simp only [cond_false] at h; cases h
              have hm0 := beq_false hm
              rw [hsv] at s4; cases s4
              have := grow 0 hsv (by omega)
              simpa [Does] using this
            · rw [hm] at h; simp only [cond_true] at h; cases h
              rw [Nat.beq_eq] at hm; subst hm
              have hnil : news = [] := List.eq_nil_of_length_eq_zero (by simpa using x1)
              simp only [Does, SV.den, SA.den, hsv]
              subst hnil
              have hk0 := x2.cells
              have hl0 := x2.len w
              simp only [List.map_nil] at hk0
              generalize x.den ρ κ = X at hk0 hl0
              have hls : (Builtin.lenOf (.slice none 0 0)).run P w = .ok 0 w := rfl
              simp [Builtin.append_, run_underlying hu, run_underlying hu', sizeOf, typeInfo, hi, hl0, hk0]
          · rename_i id off len cap
            have hsv : SC.den ρ κ (.oslice id off len cap) = .slice (some ⟨κ.o id, off, none⟩) len cap := by simp only [SC.den]
            rw [hsv] at s4
            obtain ⟨rfl, rfl, rfl⟩ : some ⟨κ.o id, off, none⟩ = sa ∧ len = n ∧ cap = scap := by simpa using s4
            cases hle : Nat.ble (len + m) cap
            · rw [hle] at h; simp only [cond_false] at h; cases h
              exact grow cap hsv (by rw [Bool.eq_false_iff] at hle; simp at hle; omega)
            · rw [hle] at h; simp only [cond_true] at h
              rw [Nat.ble_eq] at hle
              cases hm : Nat.beq m 0
              · rw [hm] at h; simp only [cond_false] at h
                split at h
                · rename_i cs cty ho
                  cases hfit : Nat.ble (off + len * i.size + news.length) cs.length
                  · rw [hfit] at h; cases h
                  · rw [hfit] at h; simp only [cond_true] at h; cases h
                    rw [Nat.ble_eq] at hfit
                    obtain ⟨sp, hw⟩ := hH.own ho
                    have hrun := run_append_room_src (P := P) w t u ty E i hu hi (κ.o id) off len cap (x.den ρ κ) m (news.map (SC.den ρ κ)) x2 hle
                      (fun j hj => by simp at hj; rw [cell_of_row w _ _ _ _ _ hw]; simp; omega) (fun j _ => by simp [World.frozen?, hw])
                    obtain ⟨f1, f2⟩ := hH.store ho (off + len * i.size) news hfit
                    refine ⟨_, .inl ?_, f1, f2⟩
                    simp only [SV.den, SA.den, hsv, hrun, Result.andThen_ok]
                    simp only [SC.den]
                · cases h
              · rw [hm] at h; simp only [cond_true] at h; cases h
                rw [Nat.beq_eq] at hm; subst hm
                have hrun := run_append_room_src (P := P) w t u ty E i hu hi (κ.o id) off len cap (x.den ρ κ) 0 (news.map (SC.den ρ κ)) x2 hle
                  (fun j hj => by simp [x1] at hj) (fun j hj => by simp [x1] at hj)
                have hnil : news = [] := List.eq_nil_of_length_eq_zero (by simpa using x1)
                subst hnil
                simp only [Does, SV.den, SA.den, hsv, hrun, Result.andThen_ok]
                simp [World.setCells]
          · rename_i id off len k
            have hsv : SC.den ρ κ (.gslice id off len k) = .slice (some ⟨κ.o id, off, none⟩) len (κ.cap id - k) := by simp only [SC.den]
            rw [hsv] at s4; cases s4
            split at h
            · rename_i cs cty z' ho
              cases hq2 : (Nat.beq z' i.size && Nat.beq cty E)
              · rw [hq2] at h; cases h
              · rw [hq2] at h; simp only [cond_true] at h
                simp only [Bool.and_eq_true, Nat.beq_eq] at hq2
                obtain ⟨rfl, rfl⟩ := hq2
                have hown : H.own? id = some (cs, cty) := by simp [Heap.own?, ho]
                cases hq3 : (Nat.ble ((k + n + m) * i.size) cs.length && Nat.ble (off + n * i.size + news.length) cs.length)
                · rw [hq3] at h; simp only [cond_false] at h
                  cases hq4 : (Nat.beq off 0 && Nat.beq k 0)
                  · rw [hq4] at h; cases h
                  · rw [hq4] at h; simp only [cond_true] at h; cases h
                    simp only [Bool.and_eq_true, Nat.beq_eq] at hq4
                    obtain ⟨rfl, rfl⟩ := hq4
                    intro nn hf hfo
                    obtain ⟨⟨b, o1, sp, o3, o4, o5⟩, o2, okp⟩ := hH.obj id _ ho
                    subst o3
                    -- the row that is there
                    have hlen0 : n * i.size ≤ cs.length := by
                      simp only [knownSl, hown] at hs
                      cases hqq : Nat.beq ((cs.drop 0).take (n * i.size)).length (n * i.size)
                      · rw [hqq] at hs; cases hs
                      · rw [Nat.beq_eq] at hqq; simp at hqq; omega
                    have holds : old = cs.take (n * i.size) := by
                      simp only [knownSl, hown] at hs
                      cases hqq : Nat.beq ((cs.drop 0).take (n * i.size)).length (n * i.size)
                      · rw [hqq] at hs; cases hs
                      · rw [hqq] at hs; simp at hs; exact hs.symm
                    have hncap : n ≤ κ.cap id := Nat.le_of_mul_le_mul_right (Nat.le_trans hlen0 (by omega)) hsz
                    have howns : w.ownsRow base.b cty i.size (.slice (some ⟨κ.o id, 0, none⟩) n (κ.cap id)) n (old.map (SC.den ρ κ)) := by
                      refine ⟨by simp [s1], .inr ⟨κ.o id, κ.cap id, _, rfl, o2, o1, hncap, o5, by simp [o4], ?_⟩⟩
                      rw [holds]; simp only [List.toList_toArray, List.map_take]
                      rw [List.take_append_of_le_length (by simpa using hlen0)]
                    -- what is appended, in its own words
                    have hxa : ∃ oa c', x.den ρ κ = .slice oa m c' ∧ (match oa with
                        | some a => ∀ j v, (news.map (SC.den ρ κ))[j]? = some v → w.cell? (a.add j) = some v
                        | none => m = 0) := by
                      unfold knownSl at hx
                      split at hx
                      · cases hx; exact ⟨none, 0, by simp [SC.den, bigCell, Value.oneCell'], rfl⟩
                      · rename_i id2 off2 m2 cap2
                        split at hx
                        · rename_i cs2 ty2 ho2
                          cases hqq : Nat.beq ((cs2.drop off2).take (m2 * i.size)).length (m2 * i.size)
                          · rw [hqq] at hx; cases hx
                          · rw [hqq] at hx; simp only [cond_true] at hx; cases hx
                            rw [Nat.beq_eq] at hqq
                            exact ⟨some ⟨κ.o id2, off2, none⟩, cap2, by simp only [SC.den], fun j v hv => by rw [Addr.add_mid]; exact hH.range ho2 hqq j v hv⟩
                        · cases hx
                      · rename_i id2 off2 m2 cap2
                        split at hx
                        · rename_i cs2 ty2 ho2
                          cases hqq : Nat.beq ((cs2.drop off2).take (m2 * i.size)).length (m2 * i.size)
                          · rw [hqq] at hx; cases hx
                          · rw [hqq] at hx; simp only [cond_true] at hx; cases hx
                            rw [Nat.beq_eq] at hqq
                            exact ⟨some ⟨κ.o id2, off2, none⟩, (κ.cap id2 - cap2), by simp only [SC.den], fun j v hv => by rw [Addr.add_mid]; exact hH.range ho2 hqq j v hv⟩
                        · cases hx
                      · cases hx
                    obtain ⟨oa, c', hxv, hxc⟩ := hxa
                    have happ : ∃ v' w', (Builtin.append_ #[t, u] ty #[.slice (some ⟨κ.o id, 0, none⟩) n (κ.cap id), .slice oa m c']).run P w = .ok v' w' ∧ w'.ownsRow base.b cty i.size v' (n + m) (old.map (SC.den ρ κ) ++ news.map (SC.den ρ κ)) ∧ w.grownBy w' (some (κ.o id)) ∧
                        v' ≠ .slice none 0 0 ∧ (v'.ownBlock = some (κ.o id) ∨ v'.ownBlock = some w.heap.size) := by
                      have hkind : ∀ r : Result Value, (Builtin.append_ #[t, t] ty #[.slice (some ⟨κ.o id, 0, none⟩) n (κ.cap id), .slice oa m c']).run P w = r → (Builtin.append_ #[t, u] ty #[.slice (some ⟨κ.o id, 0, none⟩) n (κ.cap id), .slice oa m c']).run P w = r := by
                        intro r hr
                        rw [← hr]
                        simp [Builtin.append_, run_underlying hu, run_underlying hu']
                      obtain ⟨v', w', e1, e2, e3, e4, e5⟩ := run_append_x (P := P) w base.b t ty cty i zv i.size i.bytes hu hi hzv rfl rfl hzc hsz (.slice (some ⟨κ.o id, 0, none⟩) n (κ.cap id)) n _ howns oa m c' (news.map (SC.den ρ κ)) (by simp [x1]) hxc
                        (fun v hv => by obtain ⟨y, _, rfl⟩ := List.mem_map.1 hv; exact SC.den_one ρ κ y) hml hbb (Nat.le_trans base.le hz)
                      exact ⟨v', w', hkind _ e1, e2, e3, fun e => by have := (e4.1 e).1; simp at this, e5⟩
                    obtain ⟨v', w', e1, e2, e3, e4, e5⟩ := happ
                    obtain ⟨g, cap, sp', g1, g2, g3, g4⟩ := HeapOk.ownsNew e2 e4
                    subst g1
                    simp only [Value.ownBlock] at e5
                    have K := KBut.setO nn g cap κ
                    have hne : ∀ k, k < w.heap.size → k ≠ κ.o id → w'.heap[k]? = w.heap[k]? := fun k hk hkn => e3.block k hk (fun e => hkn (Option.some.inj e))
                    refine ⟨κ.setO nn g cap, w', K, ?_, ?_, ?_⟩
                    · simp only [SV.den, SA.den, hsv, Nat.sub_zero, hxv, e1, Result.andThen_ok, newPtr]
                      simp [SC.den, Kap.setO]
                    · refine hH.newObj hz hf K (s := some id) (fun id' e => by cases e; exact ⟨_, ho⟩) (b := .cells (old.map (SC.den ρ κ) ++ news.map (SC.den ρ κ) ++ sp').toArray cty (0, 0)) ?_ ?_ ?_ ?_
                      · simpa [Kap.setO] using g2
                      · refine ⟨sp', ?_, ?_, ?_⟩
                        · rw [SC.hasM_den K (show SC.hasL (one nn) (old ++ news) = false from hfo), List.map_append]
                        · simp only [List.length_map, List.length_append, Kap.setO, if_true] at g3 ⊢; exact g3
                        · simpa [Kap.setO] using g4
                      · simp only [Kap.setO, if_true]
                        rcases e5 with e5 | e5
                        · simp at e5; exact .inr ⟨id, rfl, e5⟩
                        · simp at e5; exact .inl e5
                      · intro k hk hkn; exact hne k hk (hkn id rfl)
                    · exact ⟨⟨e3.os, e3.tape, e3.output, e3.size, fun k hk => hne k (by have := Nat.le_trans base.le hz; omega) (by omega)⟩, fun k hk hp => hne k hk (fun e => okp (e ▸ hp))⟩
                · rw [hq3] at h; simp only [cond_true] at h; cases h
                  simp only [Bool.and_eq_true, Nat.ble_eq] at hq3
                  have hcap := hH.capge ho
                  have hroom : n + m ≤ κ.cap id - k := by
                    have : k + n + m ≤ κ.cap id := Nat.le_of_mul_le_mul_right (Nat.le_trans hq3.1 hcap) hsz
                    omega
                  obtain ⟨sp, hw⟩ := hH.own hown
                  have hrun := run_append_room_src (P := P) w t u ty cty i hu hi (κ.o id) off n (κ.cap id - k) (x.den ρ κ) m (news.map (SC.den ρ κ)) x2 hroom
                    (fun j hj => by simp at hj; rw [cell_of_row w _ _ _ _ _ hw]; simp; omega) (fun j _ => by simp [World.frozen?, hw])
                  obtain ⟨f1, f2⟩ := hH.store hown (off + n * i.size) news hq3.2
                  refine ⟨_, .inl ?_, f1, f2⟩
                  simp only [SV.den, SA.den, hsv, hrun, Result.andThen_ok]
                  simp only [SC.den]
            · cases h
          · cases h
      · cases h
    · cases h
  · cases h
end Go.SX
