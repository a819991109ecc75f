/- SxS: append, make and a store into a row, as operations. -/
import Derived.Test.YtjclacagbifgmaaSyR
import Derived.Deep.AppendSrc
set_option linter.unusedSimpArgs false
set_option linter.unusedVariables false
set_option linter.unusedSectionVars false
noncomputable section
namespace Go.SX
open Go Go.RowKit

structure RowBase where
  src : Src
  pat : List CK
  old : AE
  len : IE
  nl : BE
/-- what is appended to -/
def xbase (P : Program) (H : Heap) (E : TypeId) (sz : Nat) : SC → Option RowBase
  | .lit (.slice none 0 0) => match patOf P 60 E with
    | some pat => bif Nat.beq pat.length sz then some ⟨.nil, pat, .nil, .lit 0, .lit true⟩ else none
    | none => none
  | .slice j _ 0 (.lit (.ofNat 0)) len (.k j') => match H.arr? j with
    | some (c, pat, some E') => bif (Nat.beq j j' && Nat.beq E' E) && (len.eqb (.alen c) && Nat.beq pat.length sz) then some ⟨.row j, pat, .arr c, .alen c, .nl j⟩ else none
    | _ => none
  | .oslice id 0 len cap => match H.obj? id, patOf P 60 E with
    | some (.cells cs ty none), some pat => bif (Nat.beq ty E && Nat.beq cs.length (cap * sz)) && (Nat.ble len cap && (Nat.ble cap 1000000 && Nat.beq pat.length sz)) then match rowsLV pat len (cs.take (len * sz)) with
        | some rs => some ⟨.own id, pat, .rows rs, .lit (.ofNat len), .lit false⟩
        | none => none
      else none
    | _, _ => none
  | .gslice id 0 len 0 => match H.obj? id, patOf P 60 E with
    | some (.cells cs ty (some z)), some pat => bif (Nat.beq ty E && Nat.beq z sz) && (Nat.ble (len * sz) cs.length && (Nat.blt 0 sz && Nat.beq pat.length sz)) then match rowsLV pat len (cs.take (len * sz)) with
        | some rs => some ⟨.own id, pat, .rows rs, .lit (.ofNat len), .lit false⟩
        | none => none
      else none
    | _, _ => none
  | _ => none
/-- what is appended -/
def xnews (H : Heap) (sz : Nat) (pat : List CK) : SC → Option (List BE × AE × IE)
  | .oslice id off m _ => match H.own? id with
    | some (cs, _) => bif Nat.beq ((cs.drop off).take (m * sz)).length (m * sz) && Nat.beq pat.length sz then match rowsLV pat m ((cs.drop off).take (m * sz)) with
        | some rs => some ([], .rows rs, .lit (.ofNat m))
        | none => none
      else none
    | none => none
  | .gslice id off m _ => match H.own? id with
    | some (cs, _) => bif Nat.beq ((cs.drop off).take (m * sz)).length (m * sz) && Nat.beq pat.length sz then match rowsLV pat m ((cs.drop off).take (m * sz)) with
        | some rs => some ([], .rows rs, .lit (.ofNat m))
        | none => none
      else none
    | none => none
  | .slice k s 0 x len _ => match H.arr? k with
    | some (c, pat', _) => bif patq pat pat' && (Nat.beq s pat.length && Nat.beq pat.length sz) then
        match x, len.eqb (.alen c) with
        | .lit (.ofNat 0), true => some ([], .arr c, .alen c)
        | x, _ => some (needLeq (.lit 0) x ++ (needLeq (.lit 0) len ++ needLeq (mkPlus x len) (.alen c)), .sub c x len, len)
      else none
    | none => none
  | .lit (.slice none 0 0) => some ([], .nil, .lit 0)
  | _ => none
structure RowRes where
  src : Src
  pat : List CK
  E : TypeId
  ct : AE
  nl : BE
def lim (bytes : Nat) : IE := .lit (.ofNat (140737488355328 / bytes))
def xappend (P : Program) (H : Heap) (t : TypeId) (s x : SV) : Option (List BE × RowRes) :=
  match s, x, P.underlying t with
  | .a (.c s), .a (.c x), some (.slice E) => match P.info? E, zeroP P E with
    | some i, some z => bif (Nat.blt 0 i.size && Nat.blt 0 i.bytes) && Nat.beq z.cells.length i.size then match xbase P H E i.size s with
        | some b => match xnews H i.size b.pat x with
          | some (ns, ct, m) => some (ns ++ needLeq (mkPlus b.len m) (lim i.bytes), ⟨b.src, b.pat, E, .cat b.old ct, mkAnd b.nl (mkCmp .eql m (.lit 0))⟩)
          | none => none
        | none => none
      else none
    | _, _ => none
  | _, _, _ => none
/-- WHAT SUCH AN OPERATION DOES: a new row n. -/
def DoesRow (ρ : Env) (κ : Kap) (base : Bk) (H : Heap) (w : World) (r : Result Next) (q : RowRes) : Prop :=
  ∀ n, H.Free (one n) → ρ.a n = q.ct.den ρ → ρ.nl n = q.nl.den ρ → ∃ κ' w', KBut (one n) κ κ' ∧ r = .ok (.value ((rowSV n q.pat).den ρ κ')) w' ∧ HeapOk ρ κ' base (.arr n n q.pat (some q.E) :: H.del q.src) w' ∧ Kept base w w'
theorem xbase_spec {P : Program} {ρ : Env} {κ : Kap} {base : Bk} {H : Heap} {w : World} (hH : HeapOk ρ κ base H w) {E : TypeId} {sz : Nat} {s : SC} {b : RowBase} (h : xbase P H E sz s = some b) :
    b.pat.length = sz ∧ b.len.den ρ = ((b.old.den ρ).length : Int) ∧ w.ownsRow base.b E sz (s.den ρ κ) (b.old.den ρ).length (arrCells b.pat (b.old.den ρ)) ∧ (s.den ρ κ = .slice none 0 0 ↔ b.nl.den ρ = true) ∧
      (match b.src with
        | .nil => (s.den ρ κ).ownBlock = none
        | .row j => ∃ c pat E, H.arr? j = some (c, pat, some E) ∧ ((s.den ρ κ).ownBlock = none ∨ (ρ.nl j = false ∧ (s.den ρ κ).ownBlock = some (κ.ab j)))
        | .own id => ∃ o, H.obj? id = some o ∧ (s.den ρ κ).ownBlock = some (κ.o id)) := by
  unfold xbase at h
  split at h
  · split at h
    · rename_i pat hp
      cases hq : Nat.beq pat.length sz
      · rw [hq] at h; cases h
      · rw [hq] at h; simp only [cond_true] at h; cases h
        rw [Nat.beq_eq] at hq
        refine ⟨hq, rfl, ?_, ?_, ?_⟩
        · exact World.ownsRow_nil w base.b E sz
        · simp [SC.den, bigCell, Value.oneCell', BE.den]
        · simp [SC.den, bigCell, Value.oneCell', Value.ownBlock]
    · cases h
  · rename_i j s0 len j'
    split at h
    · rename_i c pat E' ha
      cases hq : ((Nat.beq j j' && Nat.beq E' E) && (len.eqb (.alen c) && Nat.beq pat.length sz))
      · rw [hq] at h; cases h
      · rw [hq] at h; simp only [cond_true] at h; cases h
        simp only [Bool.and_eq_true, Nat.beq_eq] at hq
        obtain ⟨⟨rfl, rfl⟩, hl, hsz⟩ := hq
        have hl := IE.eqb_eq hl
        subst hl
        obtain ⟨h1, h2, _⟩ := hH.row j c pat E' ha
        have hv : SC.den ρ κ (.slice j s0 0 (.lit (.ofNat 0)) (.alen c) (.k j)) = rowVal ρ κ j (ρ.a c).length := by
          simp only [SC.den, slAddr, rowVal, CE.den, IE.den, h1]; simp
        rw [hv]
        refine ⟨hsz, rfl, by rw [← hsz]; exact h2, ?_, c, pat, E', ha, ?_⟩
        · simp only [BE.den]
          constructor
          · intro e
            cases hn : ρ.nl j
            · rw [rowVal, hn] at e; simp at e
            · rfl
          · intro hn
            have hnil := (hH.arr j c pat _ ha).2 hn
            have h3 := h2.2
            simp only [rowVal, hn, if_true] at h3 ⊢
            rcases h3 with ⟨e1, _⟩ | ⟨g, cap, cur, e, _⟩
            · exact e1
            · simp at e
        · cases hn : ρ.nl j
          · exact .inr ⟨rfl, by simp [rowVal, hn, Value.ownBlock]⟩
          · exact .inl (by simp [rowVal, hn, Value.ownBlock])
    · cases h
  · rename_i id len cap
    split at h
    · rename_i cs ty pat ho hp
      cases hq : ((Nat.beq ty E && Nat.beq cs.length (cap * sz)) && (Nat.ble len cap && (Nat.ble cap 1000000 && Nat.beq pat.length sz)))
      · rw [hq] at h; cases h
      · rw [hq] at h; simp only [cond_true] at h
        simp only [Bool.and_eq_true, Nat.beq_eq, Nat.ble_eq] at hq
        obtain ⟨⟨rfl, hcs⟩, hlc, hcm, hsz⟩ := hq
        split at h
        · rename_i rs hrs
          cases h
          obtain ⟨r1, r2⟩ := rowsLV_den (ρ := ρ) (κ := κ) hrs
          have hlen : (LV.evalLL ρ rs).length = len := by rw [evalLL_length, r2]
          obtain ⟨⟨b, o1, o3⟩, o2, _⟩ := hH.obj id _ ho
          simp only [SObj.Is] at o3; subst o3
          refine ⟨hsz, by simp only [AE.den, IE.den, hlen]; rfl, ?_, by simp [SC.den, BE.den], _, ho, rfl⟩
          simp only [AE.den, hlen, SC.den]
          refine ⟨by rw [arrCells_length, hlen, hsz], .inr ⟨κ.o id, cap, _, rfl, o2, o1, hlc, by simp only [maxLen]; omega, by simp [hcs], ?_⟩⟩
          rw [r1]; simp [List.map_take]
        · cases h
    · cases h
  · rename_i id len
    split at h
    · rename_i cs ty z pat ho hp
      cases hq : ((Nat.beq ty E && Nat.beq z sz) && (Nat.ble (len * sz) cs.length && (Nat.blt 0 sz && Nat.beq pat.length sz)))
      · rw [hq] at h; cases h
      · rw [hq] at h; simp only [cond_true] at h
        simp only [Bool.and_eq_true, Nat.beq_eq, Nat.ble_eq, Nat.blt_eq] at hq
        obtain ⟨⟨rfl, rfl⟩, hlc, hs0, hsz⟩ := hq
        split at h
        · rename_i rs hrs
          cases h
          obtain ⟨r1, r2⟩ := rowsLV_den (ρ := ρ) (κ := κ) hrs
          have hlen : (LV.evalLL ρ rs).length = len := by rw [evalLL_length, r2]
          obtain ⟨⟨b, o1, sp, o3, o4, o5⟩, o2, _⟩ := hH.obj id _ ho
          subst o3
          refine ⟨hsz, by simp only [AE.den, IE.den, hlen]; rfl, ?_, by simp [SC.den, BE.den], _, ho, rfl⟩
          simp only [AE.den, hlen, SC.den, Nat.sub_zero]
          have hle : len ≤ κ.cap id := Nat.le_of_mul_le_mul_right (Nat.le_trans hlc (by omega)) hs0
          refine ⟨by rw [arrCells_length, hlen, hsz], .inr ⟨κ.o id, κ.cap id, _, rfl, o2, o1, hle, o5, by simp [o4], ?_⟩⟩
          rw [r1]; simp only [List.toList_toArray, List.map_take]
          rw [List.take_append_of_le_length (by simpa using hlc)]
        · cases h
    · cases h
  · cases h
/-- a part of a block -/
theorem HeapOk.range {ρ : Env} {κ : Kap} {base : Bk} {H : Heap} {w : World} (hH : HeapOk ρ κ base H w) {id : Nat} {cs : List SC} {ty : TypeId} (ho : H.own? id = some (cs, ty)) {off n : Nat} (hb : ((cs.drop off).take n).length = n) :
    w.rangeAt (κ.o id) off (((cs.drop off).take n).map (SC.den ρ κ)) := by
  obtain ⟨sp, hw⟩ := hH.own ho
  have hr := World.rangeAt_of_block hw off n
  have hl : n = 0 ∨ off + n ≤ cs.length := by simp at hb; omega
  have he : ((cs.map (SC.den ρ κ) ++ sp).drop off).take n = ((cs.drop off).take n).map (SC.den ρ κ) := by
    rcases hl with rfl | hl
    · simp
    · rw [List.drop_append_of_le_length (by simp; omega), List.take_append_of_le_length (by simp; omega), List.map_take, List.map_drop]
  simpa [List.extract_eq_take_drop, he] using hr
theorem xnews_spec {ρ : Env} {κ : Kap} {base : Bk} {H : Heap} {w : World} (hH : HeapOk ρ κ base H w) {sz : Nat} {pat : List CK} {x : SC} {ns : List BE} {ct : AE} {m : IE} (h : xnews H sz pat x = some (ns, ct, m)) (hn : ∀ p ∈ ns, p.den ρ = true) (_hpat : pat.length = sz) :
    m.den ρ = ((ct.den ρ).length : Int) ∧ ∃ oa c, x.den ρ κ = .slice oa (ct.den ρ).length c ∧ (match oa with
      | some a => ∀ j u, (arrCells pat (ct.den ρ))[j]? = some u → w.cell? (a.add j) = some u
      | none => (ct.den ρ).length = 0) := by
  unfold xnews at h
  split at h
  · rename_i id off k cap
    split at h
    · rename_i cs ty ho
      cases hq : (Nat.beq ((cs.drop off).take (k * sz)).length (k * sz) && Nat.beq pat.length sz)
      · rw [hq] at h; cases h
      · rw [hq] at h; simp only [cond_true] at h
        simp only [Bool.and_eq_true, Nat.beq_eq] at hq
        split at h
        · rename_i rs hrs
          cases h
          obtain ⟨r1, r2⟩ := rowsLV_den (ρ := ρ) (κ := κ) hrs
          have hlen : (LV.evalLL ρ rs).length = k := by rw [evalLL_length, r2]
          refine ⟨by simp only [AE.den, IE.den, hlen]; rfl, some ⟨κ.o id, off, none⟩, cap, by simp only [SC.den, AE.den, hlen], ?_⟩
          simp only [AE.den]
          rw [r1]
          intro j u hu
          rw [Addr.add_mid]
          exact hH.range ho hq.1 j u hu
        · cases h
    · cases h
  · rename_i id off k cap
    split at h
    · rename_i cs ty ho
      cases hq : (Nat.beq ((cs.drop off).take (k * sz)).length (k * sz) && Nat.beq pat.length sz)
      · rw [hq] at h; cases h
      · rw [hq] at h; simp only [cond_true] at h
        simp only [Bool.and_eq_true, Nat.beq_eq] at hq
        split at h
        · rename_i rs hrs
          cases h
          obtain ⟨r1, r2⟩ := rowsLV_den (ρ := ρ) (κ := κ) hrs
          have hlen : (LV.evalLL ρ rs).length = k := by rw [evalLL_length, r2]
          refine ⟨by simp only [AE.den, IE.den, hlen]; rfl, some ⟨κ.o id, off, none⟩, (κ.cap id - cap), by simp only [SC.den, AE.den, hlen], ?_⟩
          simp only [AE.den]
          rw [r1]
          intro j u hu
          rw [Addr.add_mid]
          exact hH.range ho hq.1 j u hu
        · cases h
    · cases h
  · rename_i k s x len cap
    split at h
    · rename_i c pat' o ha
      cases hq : (patq pat pat' && (Nat.beq s pat.length && Nat.beq pat.length sz))
      · rw [hq] at h; cases h
      · rw [hq] at h; simp only [cond_true] at h
        simp only [Bool.and_eq_true, Nat.beq_eq] at hq
        obtain ⟨hpp, rfl, _⟩ := hq
        have hpp := patq_eq hpp
        subst hpp
        obtain ⟨a1, a2⟩ := hH.arr k c pat o ha
        -- the cells of a part
        have part : ∀ (q n : Nat) (l : List (List Dat)), l = ((ρ.a c).drop q).take n → ∀ j u, (arrCells pat l)[j]? = some u → w.cell? ((⟨κ.ab k, κ.ao k + q * pat.length + 0, none⟩ : Addr).add j) = some u := by
          intro q n l hl j u hu
          subst hl
          have hjl : j < (arrCells pat (((ρ.a c).drop q).take n)).length := (List.getElem?_eq_some_iff.1 hu).1
          rw [arrCells_length] at hjl
          have hpos : 0 < pat.length := by
            rcases Nat.eq_zero_or_pos pat.length with h0 | h0
            · rw [h0] at hjl; simp at hjl
            · exact h0
          have hx : j / pat.length < (((ρ.a c).drop q).take n).length := (Nat.div_lt_iff_lt_mul hpos).2 hjl
          have hf : j % pat.length < pat.length := Nat.mod_lt _ hpos
          obtain ⟨r, hr⟩ : ∃ r, (((ρ.a c).drop q).take n)[j / pat.length]? = some r := ⟨_, List.getElem?_eq_getElem hx⟩
          have hk : pat[j % pat.length]? = some pat[j % pat.length] := List.getElem?_eq_getElem hf
          have e := arrCells_get pat _ _ _ r _ hr hk
          have hj : j / pat.length * pat.length + j % pat.length = j := by rw [Nat.mul_comm]; exact Nat.div_add_mod j pat.length
          rw [hj, hu] at e
          cases e
          have hr' : (ρ.a c)[q + j / pat.length]? = some r := by
            rw [List.getElem?_take] at hr
            split at hr
            · rw [List.getElem?_drop] at hr; exact hr
            · cases hr
          have := a1 _ _ r _ hr' hk
          rw [Addr.add_mid, ← this]
          congr 2
          rw [Nat.add_mul]; omega
        split at h
        · cases h
          rename_i hle
          have hle := IE.eqb_eq hle
          subst hle
          refine ⟨rfl, slAddr ρ κ k pat.length 0 0, cap.den ρ κ, by simp only [SC.den, IE.den, AE.den]; simp, ?_⟩
          simp only [slAddr, AE.den]
          cases hnl : ρ.nl k
          · simp only [Bool.false_eq_true, if_false]
            exact part 0 (ρ.a c).length (ρ.a c) (by simp)
          · simp only [if_true]
            rw [a2 hnl]; rfl
        · rename_i xx _ _ _
          cases h
          obtain ⟨n1, n2⟩ := forall_append hn
          obtain ⟨n2, n3⟩ := forall_append n2
          have m1 := needLeq_den n1
          have m2 := needLeq_den n2
          have m3 := needLeq_den n3
          simp only [IE.den, mkPlus_den] at m1 m2 m3
          have hlen : (((ρ.a c).drop (xx.den ρ).toNat).take (m.den ρ).toNat).length = (m.den ρ).toNat := by simp; omega
          refine ⟨by simp only [AE.den, hlen]; omega, slAddr ρ κ k pat.length 0 (xx.den ρ), cap.den ρ κ, by simp only [SC.den, AE.den, hlen], ?_⟩
          simp only [slAddr, AE.den]
          cases hnl : ρ.nl k
          · simp only [Bool.false_eq_true, if_false]
            exact part _ _ _ rfl
          · simp only [if_true]
            rw [a2 hnl]; simp
    · cases h
  · cases h
    refine ⟨rfl, none, 0, by simp [SC.den, bigCell, Value.oneCell', AE.den], rfl⟩
  · cases h
theorem xappend_sound {P : Program} {ρ : Env} {κ : Kap} {base : Bk} {H : Heap} {w : World} (hH : HeapOk ρ κ base H w) (hb : base.top ≤ w.heap.size) {t ty : TypeId} {s x : SV} {ns : List BE} {q : RowRes} (h : xappend P H t s x = some (ns, q)) (hn : ∀ p ∈ ns, p.den ρ = true) :
    DoesRow ρ κ base H w (((Builtin.append_ #[t, t] ty #[s.den ρ κ, x.den ρ κ]).run P w).andThen fun v w' => .ok (.value v) w') q := by
  unfold xappend at h
  split at h
  · rename_i s x E hu
    split at h
    · rename_i i z hi hz
      cases hq : ((Nat.blt 0 i.size && Nat.blt 0 i.bytes) && Nat.beq z.cells.length i.size)
      · rw [hq] at h; cases h
      · rw [hq] at h; simp only [cond_true] at h
        simp only [Bool.and_eq_true, Nat.beq_eq, Nat.blt_eq] at hq
        split at h
        · rename_i b hbs
          split at h
          · rename_i ns' ct m hnw
            cases h
            obtain ⟨n1, n2⟩ := forall_append hn
            have m2 := needLeq_den n2
            obtain ⟨b1, b2, b3, b4, b5⟩ := xbase_spec hH hbs
            obtain ⟨c1, oa, cc, c2, c3⟩ := xnews_spec hH hnw n1 b1
            obtain ⟨it, zv, hit, hzv, hzd⟩ := zeroP_spec hz
            rw [hi] at hit; cases hit
            have hzc : zv.cells.size = i.size := by rw [hzd ρ κ, SA.den_cells]; simp [hq.2]
            simp only [mkPlus_den, b2, c1, lim, IE.den] at m2
            have hbytes : ((b.old.den ρ).length + (ct.den ρ).length) * i.bytes ≤ 140737488355328 := by
              have h1 : (b.old.den ρ).length + (ct.den ρ).length ≤ 140737488355328 / i.bytes := by
                have : ((((b.old.den ρ).length + (ct.den ρ).length : Nat) : Int)) ≤ ((140737488355328 / i.bytes : Nat) : Int) := by simpa using m2
                omega
              exact Nat.le_trans (Nat.mul_le_mul_right _ h1) (Nat.div_mul_le_self _ _)
            have h63 : (b.old.den ρ).length + (ct.den ρ).length ≤ maxLen := by
              have := Nat.le_trans (Nat.le_mul_of_pos_right ((b.old.den ρ).length + (ct.den ρ).length) hq.1.2) hbytes
              simp only [maxLen]; omega
            obtain ⟨v', w', hr, ho', hg, hnil, hfr⟩ := run_append_x (P := P) w base.b t ty E i zv i.size i.bytes hu hi hzv rfl rfl hzc hq.1.1 (s.den ρ κ) _ _ b3 oa _ cc (arrCells b.pat (ct.den ρ)) (by rw [arrCells_length, b1]) c3 (arrCells_one _ _) h63 hbytes (Nat.le_trans base.le hb)
            intro n hf ha hnl
            simp only [AE.den] at ha
            have hown : w'.ownsRow base.b E b.pat.length v' (ρ.a n).length (arrCells b.pat (ρ.a n)) := by
              rw [ha, b1, List.length_append, arrCells_append]; exact ho'
            have hpat : b.pat ≠ [] := fun e => by rw [e] at b1; simp at b1; omega
            obtain ⟨k0, κ', k1, k2, k3⟩ := hH.newRow (s := b.src) hb hf b5 hown hg (by
              rw [hnil, hnl, b4, mkAnd_den, mkCmp_den, c1]
              simp only [bc, IE.den, Bool.and_eq_true]
              constructor
              · rintro ⟨h1, h2⟩; exact ⟨h1, by rw [h2]; rfl⟩
              · rintro ⟨h1, h2⟩; refine ⟨h1, ?_⟩; simpa using h2) hfr hpat
            refine ⟨κ', w', k1, ?_, k3, k0⟩
            simp only [SV.den, SA.den, c2, hr, Result.andThen_ok]; rw [k2]
          · cases h
        · cases h
    · cases h
  · cases h

/-! ### make -/
def xmake (P : Program) (t : TypeId) (len cap : SV) : Option (List BE × RowRes) :=
  match len, cap, P.underlying t with
  | .a (.c (.int _ l)), .a (.c (.int _ c)), some (.slice E) => match P.info? E, zeroP P E, patOf P 60 E with
    | some i, some z, some pat => bif (Nat.blt 0 i.size && Nat.blt 0 i.bytes) && ((Nat.beq z.cells.length i.size && Nat.beq pat.length i.size) && l.eqb c) then match rowLV pat z.cells with
        | some row => some (needLeq (.lit 0) l ++ needLeq l (lim i.bytes), ⟨.nil, pat, E, .rep l row, .lit false⟩)
        | none => none
      else none
    | _, _, _ => none
  | _, _, _ => none
theorem range_mod {α : Type} (z : List α) (d : α) (hz : 0 < z.length) : ∀ (n : Nat), (List.range (n * z.length)).map (fun i => z.getD (i % z.length) d) = (List.replicate n z).flatten
  | 0 => by simp
  | n + 1 => by
    rw [Nat.add_mul, Nat.one_mul, List.range_add, List.map_append, range_mod z d hz n, List.replicate_succ', List.flatten_append, List.flatten_singleton]
    congr 1
    rw [List.map_map]
    apply List.ext_getElem
    · simp
    · intro i h1 h2
      simp at h1
      simp [Nat.add_mod, Nat.mod_eq_of_lt h1, h2]
theorem arrCells_replicate (p : List CK) (n : Nat) (r : List Dat) : arrCells p (List.replicate n r) = (List.replicate n (rowCells p r)).flatten := by
  induction n with
  | zero => rfl
  | succ n ih => simp only [List.replicate_succ, arrCells, List.flatMap_cons, List.flatten_cons] at ih ⊢; rw [ih]
theorem xmake_sound {P : Program} {ρ : Env} {κ : Kap} {base : Bk} {H : Heap} {w : World} (hH : HeapOk ρ κ base H w) (hb : base.top ≤ w.heap.size) {t : TypeId} {len cap : SV} {ns : List BE} {q : RowRes} (h : xmake P t len cap = some (ns, q)) (hn : ∀ p ∈ ns, p.den ρ = true) :
    DoesRow ρ κ base H w (((Instr.makeSlice t (len.den ρ κ) (cap.den ρ κ)).run P w).andThen fun v w' => .ok (.value v) w') q := by
  unfold xmake at h
  split at h
  · rename_i k l k' c E hu
    split at h
    · rename_i i z pat hi hz hp
      cases hq : ((Nat.blt 0 i.size && Nat.blt 0 i.bytes) && ((Nat.beq z.cells.length i.size && Nat.beq pat.length i.size) && l.eqb c))
      · rw [hq] at h; cases h
      · rw [hq] at h; simp only [cond_true] at h
        simp only [Bool.and_eq_true, Nat.beq_eq, Nat.blt_eq] at hq
        obtain ⟨⟨hs, hby⟩, ⟨hzl, hpl⟩, hlc⟩ := hq
        have hlc := IE.eqb_eq hlc
        subst hlc
        split at h
        · rename_i row hrow
          cases h
          obtain ⟨n1, n2⟩ := forall_append hn
          have m1 := needLeq_den n1
          have m2 := needLeq_den n2
          simp only [IE.den, lim] at m1 m2
          intro n hf ha hnl
          simp only [AE.den, BE.den] at ha hnl
          obtain ⟨L, hL⟩ : ∃ L : Nat, l.den ρ = (L : Int) := ⟨(l.den ρ).toNat, by omega⟩
          rw [hL] at m1 m2
          have hLb : L * i.bytes ≤ 140737488355328 := by
            have h1 : L ≤ 140737488355328 / i.bytes := by
              have : (L : Int) ≤ ((140737488355328 / i.bytes : Nat) : Int) := by simpa using m2
              omega
            exact Nat.le_trans (Nat.mul_le_mul_right _ h1) (Nat.div_mul_le_self _ _)
          have hLs : L ≤ 140737488355328 := Nat.le_trans (Nat.le_mul_of_pos_right L hby) hLb
          have hwrap : IntKind.i64.wrap (L : Int) = (L : Int) := wrap_of_fits (by simp only [fits]; rw [Nat.blt_eq]; omega)
          obtain ⟨it, zv, hit, hzv, hzd⟩ := zeroP_spec hz
          rw [hi] at hit; cases hit
          have hzc : zv.cells = (z.cells.map (SC.den ρ κ)).toArray := by rw [hzd ρ κ, SA.den_cells]
          have hrc := rowLV_den (ρ := ρ) (κ := κ) hrow
          have hzpos : 0 < (z.cells.map (SC.den ρ κ)).length := by simp; omega
          -- the cells
          have hcells : ∀ (za : Array Value), (L * i.size = 0 ∨ za = (z.cells.map (SC.den ρ κ)).toArray) → (Array.range (L * i.size)).map (za[· % za.size]!) = (arrCells pat (ρ.a n)).toArray := by
            intro za hza
            rw [ha, hL, Int.toNat_natCast, arrCells_replicate, hrc, ← range_mod _ .nilFunc hzpos L]
            have hsz : (z.cells.map (SC.den ρ κ)).length = i.size := by simp [hzl]
            rw [hsz]
            rcases hza with h0 | rfl
            · rw [h0]; simp
            · apply Array.ext
              · simp
              · intro j j1 j2
                have : j % i.size < z.cells.length := by rw [hzl]; exact Nat.mod_lt _ hs
                simp [hzl, List.getElem?_eq_getElem this]
          have hrun : (Instr.makeSlice t (.int k (L : Int)) (.int k' (L : Int))).run P w = .ok (.slice (some ⟨w.heap.size, 0, none⟩) L L) (w.alloc (.cells (arrCells pat (ρ.a n)).toArray E)) := by
            have hinfo : ∀ w, (typeInfo E).run P w = .ok i w := fun w => by simp [typeInfo, hi]
            have t1 : decide ((i.bytes : Int) * (L : Int) > 2 ^ 48) = false := by
              have h2 : (i.bytes : Int) * (L : Int) ≤ 140737488355328 := by
                have : ((L * i.bytes : Nat) : Int) ≤ 140737488355328 := by omega
                rw [Int.natCast_mul] at this
                rw [Int.mul_comm]; exact this
              simp only [decide_eq_false_iff_not]
              omega
            have t2 : decide ((L : Int) < 0) = false := by simp
            have t3 : decide ((L : Int) > (L : Int)) = false := by simp
            simp only [Instr.makeSlice, Sem.run_bind, run_underlying hu, Result.andThen_ok, asInt, asIntOf, Sem.run_pure, hinfo, hwrap, t1, t2, t3, Bool.false_or, Bool.or_false, decide_false, Bool.false_eq_true, if_false, run_askRoom, Sem.run_ite, sizeOf, Int.toNat_natCast]
            by_cases h0 : L * i.size = 0
            · simp only [h0, if_true, Result.andThen_ok]
              have := hcells #[] (.inl h0)
              rw [h0] at this
              simp only [newRow, Sem.run_bind, run_newObj, Result.andThen_ok, Sem.run_pure]
              rw [this]; rfl
            · simp only [h0, if_false, Sem.run_bind, run_zeroP hz ρ κ, Result.andThen_ok, SA.den_cells]
              have := hcells _ (.inr rfl)
              simp only [newRow, Sem.run_bind, run_newObj, Result.andThen_ok, Sem.run_pure]
              rw [this]; rfl
          have hlen : (ρ.a n).length = L := by rw [ha, hL]; simp
          have hown : (w.alloc (.cells (arrCells pat (ρ.a n)).toArray E)).ownsRow base.b E pat.length (.slice (some ⟨w.heap.size, 0, none⟩) L L) (ρ.a n).length (arrCells pat (ρ.a n)) := by
            refine ⟨by rw [arrCells_length], .inr ⟨w.heap.size, L, _, by rw [hlen], Nat.le_trans base.le hb, heap_alloc_new w _, by omega, by simp only [maxLen]; omega, by simp [arrCells_length, hlen], ?_⟩⟩
            rw [← arrCells_length]; simp
          obtain ⟨k0, κ', k1, k2, k3⟩ := hH.newRow (s := .nil) (v := .slice none 0 0) hb hf rfl hown (World.grownBy_alloc w _ _) (by rw [hnl]; simp) (.inr rfl) (fun e => by rw [e] at hpl; simp at hpl; omega)
          refine ⟨κ', _, k1, ?_, k3, k0⟩
          simp only [SV.den, SA.den, SC.den, hL, hrun, Result.andThen_ok]
          rw [k2]
        · cases h
    · cases h
  · cases h

/-! ### a store into a row of the call's own, and a copy onto it -/
theorem rowCells_app : ∀ (p q : List CK) (R : List Dat), rowCells (p ++ q) R = rowCells p R ++ rowCells q (R.drop p.length)
  | [], q, R => by simp [rowCells]
  | k :: p, q, R => by
    simp only [List.cons_append, rowCells, rowCells_app p q R.tail, List.length_cons]
    congr 2
    cases R <;> simp
theorem rowCells_app2 : ∀ (p q : List CK) (R S : List Dat), p.length = R.length → rowCells (p ++ q) (R ++ S) = rowCells p R ++ rowCells q S
  | [], q, [], S, _ => by simp [rowCells]
  | k :: p, q, d :: R, S, h => by simp only [List.cons_append, rowCells, List.headD_cons, List.tail_cons, rowCells_app2 p q R S (by simpa using h)]
def ckLV (c q : Nat) (x : IE) : CK → LV
  | .int _ => .i (.sel c q x)
  | .bool => .b (.sel c q x)
  | .val => .v (.axs c q x)
theorem ckLV_den {ρ : Env} {c q : Nat} {x : IE} (k : CK) : k.den ((ckLV c q x k).eval ρ) = k.den (ρ.at c q (x.den ρ)) := by
  cases k <;> simp only [ckLV, LV.eval, CK.den, IE.den, BE.den, SC.den, Dat.int, Dat.bool, Dat.val]
/-- row x of array c, from place q on -/
def selLVs (c : Nat) (x : IE) : Nat → List CK → List LV
  | _, [] => []
  | q, k :: p => ckLV c q x k :: selLVs c x (q + 1) p
theorem selLVs_length (c : Nat) (x : IE) : ∀ (p : List CK) (q : Nat), (selLVs c x q p).length = p.length
  | [], _ => rfl
  | _ :: p, q => by simp [selLVs, selLVs_length c x p]
theorem selLVs_cells {ρ : Env} {c : Nat} {x : IE} : ∀ (p : List CK) (q : Nat) (R : List Dat), (∀ i, ρ.at c (q + i) (x.den ρ) = R.getD i (.i 0)) → rowCells p (LV.evalL ρ (selLVs c x q p)) = rowCells p R
  | [], _, _, _ => rfl
  | k :: p, q, R, h => by
    simp only [selLVs, LV.evalL, rowCells, List.headD_cons, List.tail_cons]
    rw [selLVs_cells p (q + 1) R.tail (fun i => by rw [show q + 1 + i = q + (i + 1) by omega, h (i + 1)]; cases R <;> simp), ckLV_den k]
    have := h 0
    rw [Nat.add_zero] at this
    rw [this]
    cases R <;> simp
theorem evalL_length (ρ : Env) (l : List LV) : (LV.evalL ρ l).length = l.length := by rw [LV.evalL_eq]; simp
theorem evalL_append (ρ : Env) (l r : List LV) : LV.evalL ρ (l ++ r) = LV.evalL ρ l ++ LV.evalL ρ r := by simp only [LV.evalL_eq, List.map_append]
theorem rowLV_length : ∀ {p : List CK} {l : List SC} {r : List LV}, rowLV p l = some r → r.length = p.length
  | [], [], r, h => by simp [rowLV] at h; subst h; rfl
  | [], _ :: _, r, h => by simp [rowLV] at h
  | _ :: _, [], r, h => by simp [rowLV] at h
  | k :: p, s :: l, r, h => by
    unfold rowLV at h
    split at h
    · rename_i v r' _ hr; cases h; simp [rowLV_length hr]
    · cases h
theorem arrCells_take (p : List CK) (l : List (List Dat)) {X : Nat} (h : X ≤ l.length) : arrCells p (l.take X) = (arrCells p l).take (X * p.length) := by
  have e : arrCells p l = arrCells p (l.take X) ++ arrCells p (l.drop X) := by rw [← arrCells_append, List.take_append_drop]
  have hl : (arrCells p (l.take X)).length = X * p.length := by rw [arrCells_length, List.length_take, Nat.min_eq_left h]
  rw [e, List.take_append_of_le_length (by omega)]; exact (List.take_of_length_le (by omega)).symm
theorem arrCells_drop (p : List CK) (l : List (List Dat)) {X : Nat} (h : X ≤ l.length) : arrCells p (l.drop X) = (arrCells p l).drop (X * p.length) := by
  have e : arrCells p l = arrCells p (l.take X) ++ arrCells p (l.drop X) := by rw [← arrCells_append, List.take_append_drop]
  have hl : (arrCells p (l.take X)).length = X * p.length := by rw [arrCells_length, List.length_take, Nat.min_eq_left h]
  rw [e, List.drop_append_of_le_length (by omega)]
  have : (arrCells p (l.take X)).drop (X * p.length) = [] := List.drop_of_length_le (by omega)
  rw [this]; rfl
theorem splice_eq {α : Type} {A1 R1 R2 R3 V A3 : List α} (hv : V.length = R2.length) :
    A1 ++ ((R1 ++ (V ++ R3)) ++ A3) = (A1 ++ ((R1 ++ (R2 ++ R3)) ++ A3)).take (A1.length + R1.length) ++ V ++ (A1 ++ ((R1 ++ (R2 ++ R3)) ++ A3)).drop (A1.length + R1.length + V.length) := by
  have e : A1 ++ ((R1 ++ (R2 ++ R3)) ++ A3) = (A1 ++ R1) ++ (R2 ++ (R3 ++ A3)) := by simp
  rw [e, List.take_left' (by simp), ← List.drop_drop, List.drop_left' (by simp), hv, List.drop_left' rfl]
  simp
/-- what such an operation does: row j turns to ct -/
def DoesTurn (ρ : Env) (κ : Kap) (base : Bk) (H : Heap) (w : World) (r : Result Next) (j : Nat) (ct : AE) (v : SV) : Prop :=
  ∃ c pat E, H.arr? j = some (c, pat, some E) ∧ ∃ w', (r = .ok (.value (v.den ρ κ)) w' ∨ (r = .ok .skip w' ∧ v.den ρ κ = undef)) ∧ ∀ n, ρ.a n = ct.den ρ → HeapOk ρ κ base (H.turnA j n) w' ∧ Kept base w w'
def xset (P : Program) (H : Heap) (t : TypeId) (p : SC) (s : SA) : Option (List BE × Nat × AE) :=
  match p with
  | .aptr j z f x => match H.arr? j, sizeP P t with
    | some (c, pat, some _), some sz => bif (Nat.beq z pat.length && Nat.beq sz s.cells.length) && Nat.ble (f + sz) pat.length then match rowLV ((pat.drop f).take sz) s.cells with
        | some vs => some (needLeq (.lit 0) x ++ needLss x (.alen c), j, .set c x (selLVs c x 0 (pat.take f) ++ (vs ++ selLVs c x (f + sz) (pat.drop (f + sz)))))
        | none => none
      else none
    | _, _ => none
  | _ => none
theorem xset_sound {P : Program} {ρ : Env} {κ : Kap} {base : Bk} {H : Heap} {w : World} (hH : HeapOk ρ κ base H w) {t : TypeId} {p : SC} {s : SA} {ns : List BE} {j : Nat} {ct : AE} (h : xset P H t p s = some (ns, j, ct)) (hn : ∀ p ∈ ns, p.den ρ = true) :
    ∃ c pat E, H.arr? j = some (c, pat, some E) ∧ ∃ w', (Instr.storeAt t (p.den ρ κ) (s.den ρ κ)).run P w = .ok () w' ∧ ∀ n, ρ.a n = ct.den ρ → HeapOk ρ κ base (H.turnA j n) w' ∧ Kept base w w' := by
  unfold xset at h
  split at h
  · rename_i j1 z f x
    split at h
    · rename_i c pat E sz ha hsz
      cases hb : ((Nat.beq z pat.length && Nat.beq sz s.cells.length) && Nat.ble (f + sz) pat.length)
      · rw [hb] at h; cases h
      · rw [hb] at h; simp only [cond_true] at h
        simp only [Bool.and_eq_true, Nat.beq_eq, Nat.ble_eq] at hb
        obtain ⟨⟨rfl, rfl⟩, hfl⟩ := hb
        split at h
        · rename_i vs hvs
          cases h
          obtain ⟨n1, n2⟩ := forall_append hn
          have m1 := needLeq_den n1
          have m2 := needLss_den n2
          simp only [IE.den] at m1 m2
          generalize hX : (x.den ρ).toNat = X
          have hXl : X < (ρ.a c).length := by omega
          obtain ⟨r1, r2, r3⟩ := hH.row _ c pat E ha
          have hnlf : ρ.nl j = false := by
            cases hq : ρ.nl j
            · rfl
            · have := (hH.arr _ c pat _ ha).2 hq; rw [this] at hXl; simp at hXl
          rcases r2.2 with ⟨e1, _⟩ | ⟨g, cap, cur, hv, hbg, hg, hnc, hcm, hcs, htake⟩
          · simp [rowVal, hnlf] at e1
          · have hgb : κ.ab j = g := by simp [rowVal, hnlf] at hv; exact hv.1
            have hw : w.heap[κ.ab j]? = some (.cells cur E (0, 0)) := by rw [hgb]; exact hg
            have hroom : (ρ.a c).length * pat.length ≤ cap * pat.length := Nat.mul_le_mul_right _ hnc
            have hXm : X * pat.length + pat.length ≤ (ρ.a c).length * pat.length := by
              rw [show X * pat.length + pat.length = (X + 1) * pat.length by rw [Nat.add_mul]; omega]; exact Nat.mul_le_mul_right _ hXl
            have hst := run_storeCells_cells (P := P) (κ.ab j) (X * pat.length + f) (s.cells.map (SC.den ρ κ)) 0 w (fun i hi => by simp at hi; rw [cell_of_row w _ _ _ _ _ hw]; simp; omega) (fun i _ => by simp [World.frozen?, hw])
              (fun v hv => by obtain ⟨y, _, rfl⟩ := List.mem_map.1 hv; exact SC.den_one ρ κ y)
            simp only [Nat.add_zero] at hst
            refine ⟨c, pat, E, ha, w.setCells (κ.ab j) (X * pat.length + f) (s.cells.map (SC.den ρ κ)), ?_, fun n hct => ?_⟩
            · simp only [SC.den, r1, Nat.zero_add, hX, Instr.storeAt, Instr.sureAddr, Sem.run_bind, Sem.run_pure, Result.andThen_ok, storeVar, run_sizeP hsz, SA.den_cells]
              simp [hst]
            · have hrow : (ρ.a c)[X]? = some ((ρ.a c)[X]) := List.getElem?_eq_getElem hXl
              have hat : ∀ q, ρ.at c q (x.den ρ) = ((ρ.a c)[X]).getD q (.i 0) := fun q => by simp [Env.at, hX, List.getD_eq_getElem?_getD, hrow]
              simp only [AE.den, hX] at hct
              have hlen : (arrCells pat (ρ.a c)).length = (ρ.a c).length * pat.length := arrCells_length _ _
              refine hH.turnRow ha (by rw [hlen]; simp; omega) ?_ (by rw [hct]; simp)
              -- the parts of the array
              have hp : pat = pat.take f ++ ((pat.drop f).take s.cells.length ++ pat.drop (f + s.cells.length)) := by
                rw [← List.drop_drop, List.take_append_drop, List.take_append_drop]
              have l1 : (pat.take f).length = f := by simp; omega
              have l2 : ((pat.drop f).take s.cells.length).length = s.cells.length := by simp; omega
              generalize pat.take f = p1 at hp l1 hct ⊢
              generalize (pat.drop f).take s.cells.length = p2 at hp l2 hvs ⊢
              generalize pat.drop (f + s.cells.length) = p3 at hp hct ⊢
              have hnew : rowCells pat (LV.evalL ρ (selLVs c x 0 p1 ++ (vs ++ selLVs c x (f + s.cells.length) p3))) = rowCells p1 ((ρ.a c)[X]) ++ (s.cells.map (SC.den ρ κ) ++ rowCells p3 (((ρ.a c)[X]).drop (f + s.cells.length))) := by
                rw [hp, evalL_append, evalL_append, rowCells_app2 _ _ _ _ (by rw [evalL_length, selLVs_length]), rowCells_app2 _ _ _ _ (by rw [evalL_length, rowLV_length hvs])]
                rw [selLVs_cells _ 0 ((ρ.a c)[X]) (fun i => by rw [hat, Nat.zero_add]), rowLV_den (ρ := ρ) (κ := κ) hvs]
                congr 2
                exact selLVs_cells _ _ _ fun i => by rw [hat]; simp
              have hold : rowCells pat ((ρ.a c)[X]) = rowCells p1 ((ρ.a c)[X]) ++ (rowCells p2 (((ρ.a c)[X]).drop f) ++ rowCells p3 (((ρ.a c)[X]).drop (f + s.cells.length))) := by
                rw [hp, rowCells_app, rowCells_app, l1, l2, List.drop_drop]
              have hset : (ρ.a c).set X (LV.evalL ρ (selLVs c x 0 p1 ++ (vs ++ selLVs c x (f + s.cells.length) p3))) = (ρ.a c).take X ++ (LV.evalL ρ (selLVs c x 0 p1 ++ (vs ++ selLVs c x (f + s.cells.length) p3)) :: (ρ.a c).drop (X + 1)) := by
                rw [List.set_eq_take_append_cons_drop, if_pos hXl]
              have hA : arrCells pat (ρ.a c) = arrCells pat ((ρ.a c).take X) ++ (rowCells pat ((ρ.a c)[X]) ++ arrCells pat ((ρ.a c).drop (X + 1))) := by
                conv => lhs; rw [show ρ.a c = (ρ.a c).take X ++ ((ρ.a c)[X] :: (ρ.a c).drop (X + 1)) by simp]
                rw [arrCells_append]; rfl
              have hA1 : (arrCells pat ((ρ.a c).take X)).length = X * pat.length := by rw [arrCells_length, List.length_take, Nat.min_eq_left (by omega)]
              rw [hct, hset, arrCells_append]
              have hcons : ∀ (r : List Dat) (l : List (List Dat)), arrCells pat (r :: l) = rowCells pat r ++ arrCells pat l := fun _ _ => rfl
              rw [hcons, hnew, hA, hold]
              generalize hA1' : arrCells pat ((ρ.a c).take X) = A1 at hA1
              generalize hR1 : rowCells p1 ((ρ.a c)[X]) = R1
              generalize hR2 : rowCells p2 (((ρ.a c)[X]).drop f) = R2
              have k1 : R1.length = f := by rw [← hR1, rowCells_length, l1]
              have k2 : R2.length = s.cells.length := by rw [← hR2, rowCells_length, l2]
              generalize hvv : s.cells.map (SC.den ρ κ) = V
              have k3 : V.length = s.cells.length := by rw [← hvv]; simp
              rw [← hA1, ← k1]
              exact splice_eq (k3.trans k2.symm)
        · cases h
    · cases h
  · cases h
def xcopyR (P : Program) (H : Heap) (t u : TypeId) (d x : SV) : Option (List BE × Nat × AE × SV) :=
  match d, x, P.underlying t, P.underlying u with
  | .a (.c (.slice j s 0 x0 len _)), .a (.c x), some (.slice E), some (.slice _) => match H.arr? j, sizeP P E with
    | some (c, pat, some _), some sz => bif (Nat.beq s pat.length && Nat.beq pat.length sz) && Nat.blt 0 sz then match xnews H sz pat x with
        | some (ns, a, m) => some (ns ++ (needLeq (.lit 0) x0 ++ (needLeq m len ++ needLeq (mkPlus x0 len) (.alen c))), j, .put c x0 a, .c (.int .i64 m))
        | none => none
      else none
    | _, _ => none
  | _, _, _, _ => none
theorem xcopyR_sound {P : Program} {ρ : Env} {κ : Kap} {base : Bk} {H : Heap} {w : World} (hH : HeapOk ρ κ base H w) {t u ty : TypeId} {d x v : SV} {ns : List BE} {j : Nat} {ct : AE} (h : xcopyR P H t u d x = some (ns, j, ct, v)) (hn : ∀ p ∈ ns, p.den ρ = true) :
    DoesTurn ρ κ base H w (((Builtin.copy_ #[t, u] ty #[d.den ρ κ, x.den ρ κ]).run P w).andThen fun v w' => .ok (.value v) w') j ct v := by
  unfold xcopyR at h
  split at h
  · rename_i j1 s x0 len capE x E e' hu hu'
    split at h
    · rename_i c pat E' sz ha hsz
      cases hb : ((Nat.beq s pat.length && Nat.beq pat.length sz) && Nat.blt 0 sz)
      · rw [hb] at h; cases h
      · rw [hb] at h; simp only [cond_true] at h
        simp only [Bool.and_eq_true, Nat.beq_eq, Nat.blt_eq] at hb
        obtain ⟨⟨rfl, rfl⟩, hs0⟩ := hb
        split at h
        · rename_i ns' a m hx
          cases h
          obtain ⟨n1, n2⟩ := forall_append hn
          obtain ⟨n2, n3⟩ := forall_append n2
          obtain ⟨n3, n4⟩ := forall_append n3
          have m2 := needLeq_den n2
          have m3 := needLeq_den n3
          have m4 := needLeq_den n4
          simp only [IE.den, mkPlus_den] at m2 m4
          obtain ⟨c1, oa, cc, c2, c3⟩ := xnews_spec hH hx n1 rfl
          generalize hX : (x0.den ρ).toNat = X
          have hlen : (a.den ρ).length ≤ (len.den ρ).toNat := by omega
          have hfit : X + (a.den ρ).length ≤ (ρ.a c).length := by omega
          obtain ⟨r1, r2, r3⟩ := hH.row _ c pat E' ha
          have hA : (arrCells pat (ρ.a c)).length = (ρ.a c).length * pat.length := arrCells_length _ _
          have hV : (arrCells pat (a.den ρ)).length = (a.den ρ).length * pat.length := arrCells_length _ _
          have hmul : X * pat.length + (a.den ρ).length * pat.length ≤ (ρ.a c).length * pat.length := by rw [← Nat.add_mul]; exact Nat.mul_le_mul_right _ hfit
          have hturn : ∀ n, ρ.a n = (AE.put c x0 a).den ρ → HeapOk ρ κ base (H.turnA j n) (w.setCells (κ.ab j) (X * pat.length) (arrCells pat (a.den ρ))) ∧ Kept base w (w.setCells (κ.ab j) (X * pat.length) (arrCells pat (a.den ρ))) := by
            intro n hct
            simp only [AE.den, hX] at hct
            refine hH.turnRow ha (by rw [hA, hV]; exact hmul) ?_ (by rw [hct, putRows_length])
            rw [hct, putRows_eq hfit, arrCells_append, arrCells_append, arrCells_take pat _ (by omega), arrCells_drop pat _ (by omega), hV, Nat.add_mul]
          have hsrc : _root_.Go.Src P pat.length u (x.den ρ κ) (a.den ρ).length (arrCells pat (a.den ρ)) w := by
            rw [c2]
            cases oa with
            | none =>
              have h0 : a.den ρ = [] := List.eq_nil_of_length_eq_zero c3
              rw [h0]; exact _root_.Go.Src.ofNil w hu' cc
            | some ad => exact _root_.Go.Src.ofSlice w hu' ad _ cc _ hV c3 (arrCells_one _ _)
          have hl := hsrc.len w
          have hc := hsrc.cells
          have hmin : Nat.min (a.den ρ).length (len.den ρ).toNat = (a.den ρ).length := Nat.min_eq_left hlen
          refine ⟨c, pat, E', ha, w.setCells (κ.ab j) (X * pat.length) (arrCells pat (a.den ρ)), .inl ?_, hturn⟩
          have hres : (SV.a (.c (.int .i64 m))).den ρ κ = goInt (a.den ρ).length := by simp [SV.den, SA.den, SC.den, goInt, c1]
          rw [hres]
          simp only [SV.den, SA.den]
          generalize x.den ρ κ = Y at hl hc
          cases hq : ρ.nl j
          · rcases r2.2 with ⟨e1, _⟩ | ⟨g, cap, cur, hv, hbg, hg, hnc, hcm, hcs, htake⟩
            · simp [rowVal, hq] at e1
            · have hgb : κ.ab j = g := by simp [rowVal, hq] at hv; exact hv.1
              have hw : w.heap[κ.ab j]? = some (.cells cur E' (0, 0)) := by rw [hgb]; exact hg
              have hroom : (ρ.a c).length * pat.length ≤ cap * pat.length := Nat.mul_le_mul_right _ hnc
              have hst := run_storeCells_cells (P := P) (κ.ab j) (X * pat.length) (arrCells pat (a.den ρ)) 0 w (fun i hi => by rw [cell_of_row w _ _ _ _ _ hw]; simp; omega) (fun i _ => by simp [World.frozen?, hw]) (arrCells_one _ _)
              simp only [Nat.add_zero] at hst
              simp [Builtin.copy_, run_underlying hu, run_sizeP hsz, hl, hmin, hc, SC.den, slAddr, hq, r1, hX, hst]
          · have h0 : ρ.a c = [] := (hH.arr _ c pat _ ha).2 hq
            have h1 : a.den ρ = [] := List.eq_nil_of_length_eq_zero (by rw [h0, List.length_nil] at hfit; omega)
            have h2 : arrCells pat (a.den ρ) = [] := by rw [h1]; rfl
            rw [h2] at hc ⊢
            rw [h1] at hl hc hmin ⊢
            simp only [List.length_nil] at hl hc
            clear hmin
            simp [Builtin.copy_, run_underlying hu, run_sizeP hsz, hl, hc, SC.den, slAddr, hq, World.setCells]
        · cases h
    · cases h
  · cases h
end Go.SX
