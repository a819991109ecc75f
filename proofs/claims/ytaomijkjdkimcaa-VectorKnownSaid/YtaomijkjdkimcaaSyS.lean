/- SxS: append, make and a store into a row, as operations. -/
import Derived.Test.YtaomijkjdkimcaaSyR
import Derived.Deep.AppendSrc
set_option linter.unusedSimpArgs false
set_option linter.unusedVariables false
set_option linter.unusedSectionVars false
namespace Go.SX
open Go Go.RowKit

structure RowBase where
  src : Src
  pat : List CK
  old : AE
  len : IE
  nl : BE
/-- what is appended to -/
def xbase (P : Program) (H : Heap) (E : TypeId) (sz : Nat) : SC → Option RowBase
  | .lit (.slice none 0 0) => match patOf P 60 E with
    | some pat => bif Nat.beq pat.length sz then some ⟨.nil, pat, .nil, .lit 0, .lit true⟩ else none
    | none => none
  | .slice j _ 0 (.lit (.ofNat 0)) len (.k j') => match H.arr? j with
    | some (c, pat, some E') => bif (Nat.beq j j' && Nat.beq E' E) && (len.eqb (.alen c) && Nat.beq pat.length sz) then some ⟨.row j, pat, .arr c, .alen c, .nl j⟩ else none
    | _ => none
  | .oslice id 0 len cap => match H.obj? id, patOf P 60 E with
    | some (.cells cs ty none), some pat => bif (Nat.beq ty E && Nat.beq cs.length (cap * sz)) && (Nat.ble len cap && (Nat.ble cap 1000000 && Nat.beq pat.length sz)) then match rowsLV pat len (cs.take (len * sz)) with
        | some rs => some ⟨.own id, pat, .rows rs, .lit (.ofNat len), .lit false⟩
        | none => none
      else none
    | _, _ => none
  | .gslice id 0 len 0 => match H.obj? id, patOf P 60 E with
    | some (.cells cs ty (some z)), some pat => bif (Nat.beq ty E && Nat.beq z sz) && (Nat.ble (len * sz) cs.length && (Nat.blt 0 sz && Nat.beq pat.length sz)) then match rowsLV pat len (cs.take (len * sz)) with
        | some rs => some ⟨.own id, pat, .rows rs, .lit (.ofNat len), .lit false⟩
        | none => none
      else none
    | _, _ => none
  | _ => none
/-- what is appended -/
def xnews (H : Heap) (sz : Nat) (pat : List CK) : SC → Option (List BE × AE × IE)
  | .oslice id off m _ => match H.own? id with
    | some (cs, _) => bif Nat.beq ((cs.drop off).take (m * sz)).length (m * sz) && Nat.beq pat.length sz then match rowsLV pat m ((cs.drop off).take (m * sz)) with
        | some rs => some ([], .rows rs, .lit (.ofNat m))
        | none => none
      else none
    | none => none
  | .gslice id off m _ => match H.own? id with
    | some (cs, _) => bif Nat.beq ((cs.drop off).take (m * sz)).length (m * sz) && Nat.beq pat.length sz then match rowsLV pat m ((cs.drop off).take (m * sz)) with
        | some rs => some ([], .rows rs, .lit (.ofNat m))
        | none => none
      else none
    | none => none
  | .slice k s 0 x len _ => match H.arr? k with
    | some (c, pat', _) => bif patq pat pat' && (Nat.beq s pat.length && Nat.beq pat.length sz) then
        match x, len.eqb (.alen c) with
        | .lit (.ofNat 0), true => some ([], .arr c, .alen c)
        | x, _ => some (needLeq (.lit 0) x ++ (needLeq (.lit 0) len ++ needLeq (mkPlus x len) (.alen c)), .sub c x len, len)
      else none
    | none => none
  | .lit (.slice none 0 0) => some ([], .nil, .lit 0)
  | _ => none
structure RowRes where
  src : Src
  pat : List CK
  E : TypeId
  ct : AE
  nl : BE
def lim (bytes : Nat) : IE := .lit (.ofNat (140737488355328 / bytes))
def xappend (P : Program) (H : Heap) (t : TypeId) (s x : SV) : Option (List BE × RowRes) :=
  match s, x, P.underlying t with
  | .a (.c s), .a (.c x), some (.slice E) => match P.info? E, zeroP P E with
    | some i, some z => bif (Nat.blt 0 i.size && Nat.blt 0 i.bytes) && Nat.beq z.cells.length i.size then match xbase P H E i.size s with
        | some b => match xnews H i.size b.pat x with
          | some (ns, ct, m) => some (ns ++ needLeq (mkPlus b.len m) (lim i.bytes), ⟨b.src, b.pat, E, .cat b.old ct, mkAnd b.nl (mkCmp .eql m (.lit 0))⟩)
          | none => none
        | none => none
      else none
    | _, _ => none
  | _, _, _ => none
/-- WHAT SUCH AN OPERATION DOES: a new row n. -/
def DoesRow (ρ : Env) (κ : Kap) (base : Bk) (H : Heap) (w : World) (r : Result Next) (q : RowRes) : Prop :=
  ∀ n, H.Free (one n) → ρ.a n = q.ct.den ρ → ρ.nl n = q.nl.den ρ → ∃ κ' w', KBut (one n) κ κ' ∧ r = .ok (.value ((rowSV n q.pat).den ρ κ')) w' ∧ HeapOk ρ κ' base (.arr n n q.pat (some q.E) :: H.del q.src) w' ∧ Kept base w w'
theorem xbase_spec {P : Program} {ρ : Env} {κ : Kap} {base : Bk} {H : Heap} {w : World} (hH : HeapOk ρ κ base H w) {E : TypeId} {sz : Nat} {s : SC} {b : RowBase} (h : xbase P H E sz s = some b) :
    b.pat.length = sz ∧ b.len.den ρ = ((b.old.den ρ).length : Int) ∧ w.ownsRow base.b E sz (s.den ρ κ) (b.old.den ρ).length (arrCells b.pat (b.old.den ρ)) ∧ (s.den ρ κ = .slice none 0 0 ↔ b.nl.den ρ = true) ∧
      (match b.src with
        | .nil => (s.den ρ κ).ownBlock = none
        | .row j => ∃ c pat E, H.arr? j = some (c, pat, some E) ∧ ((s.den ρ κ).ownBlock = none ∨ (ρ.nl j = false ∧ (s.den ρ κ).ownBlock = some (κ.ab j)))
        | .own id => ∃ o, H.obj? id = some o ∧ (s.den ρ κ).ownBlock = some (κ.o id)) := by
  unfold xbase at h
  split at h
  · split at h
    · rename_i pat hp
      cases hq : Nat.beq pat.length sz
      · rw [hq] at h; cases h
      · rw [hq] at h; simp only [cond_true] at h; cases h
        rw [Nat.beq_eq] at hq
        refine ⟨hq, rfl, ?_, ?_, ?_⟩
        · exact World.ownsRow_nil w base.b E sz
        · simp [SC.den, bigCell, Value.oneCell', BE.den]
        · simp [SC.den, bigCell, Value.oneCell', Value.ownBlock]
    · cases h
  · rename_i j s0 len j'
    split at h
    · rename_i c pat E' ha
      cases hq : ((Nat.beq j j' && Nat.beq E' E) && (len.eqb (.alen c) && Nat.beq pat.length sz))
      · rw [hq] at h; cases h
      · rw [hq] at h; simp only [cond_true] at h; cases h
        simp only [Bool.and_eq_true, Nat.beq_eq] at hq
        obtain ⟨⟨rfl, rfl⟩, hl, hsz⟩ := hq
        have hl := IE.eqb_eq hl
        subst hl
        obtain ⟨h1, h2, _⟩ := hH.row j c pat E' ha
        have hv : SC.den ρ κ (.slice j s0 0 (.lit (.ofNat 0)) (.alen c) (.k j)) = rowVal ρ κ j (ρ.a c).length := by
          simp only [SC.den, slAddr, rowVal, CE.den, IE.den, h1]; simp
        rw [hv]
        refine ⟨hsz, rfl, by rw [← hsz]; exact h2, ?_, c, pat, E', ha, ?_⟩
        · simp only [BE.den]
          constructor
          · intro e
            cases hn : ρ.nl j
            · rw [rowVal, hn] at e; simp at e
            · rfl
          · intro hn
            have hnil := (hH.arr j c pat _ ha).2 hn
            have h3 := h2.2
            simp only [rowVal, hn, if_true] at h3 ⊢
            rcases h3 with ⟨e1, _⟩ | ⟨g, cap, cur, e, _⟩
            · exact e1
            · simp at e
        · cases hn : ρ.nl j
          · exact .inr ⟨rfl, by simp [rowVal, hn, Value.ownBlock]⟩
          · exact .inl (by simp [rowVal, hn, Value.ownBlock])
    · cases h
  · rename_i id len cap
    split at h
    · rename_i cs ty pat ho hp
      cases hq : ((Nat.beq ty E && Nat.beq cs.length (cap * sz)) && (Nat.ble len cap && (Nat.ble cap 1000000 && Nat.beq pat.length sz)))
      · rw [hq] at h; cases h
      · rw [hq] at h; simp only [cond_true] at h
        simp only [Bool.and_eq_true, Nat.beq_eq, Nat.ble_eq] at hq
        obtain ⟨⟨rfl, hcs⟩, hlc, hcm, hsz⟩ := hq
        split at h
        · rename_i rs hrs
          cases h
          obtain ⟨r1, r2⟩ := rowsLV_den (ρ := ρ) (κ := κ) hrs
          have hlen : (LV.evalLL ρ rs).length = len := by rw [evalLL_length, r2]
          obtain ⟨⟨b, o1, o3⟩, o2, _⟩ := hH.obj id _ ho
          simp only [SObj.Is] at o3; subst o3
          refine ⟨hsz, by simp only [AE.den, IE.den, hlen]; rfl, ?_, by simp [SC.den, BE.den], _, ho, rfl⟩
          simp only [AE.den, hlen, SC.den]
          refine ⟨by rw [arrCells_length, hlen, hsz], .inr ⟨κ.o id, cap, _, rfl, o2, o1, hlc, by simp only [maxLen]; omega, by simp [hcs], ?_⟩⟩
          rw [r1]; simp [List.map_take]
        · cases h
    · cases h
  · rename_i id len
    split at h
    · rename_i cs ty z pat ho hp
      cases hq : ((Nat.beq ty E && Nat.beq z sz) && (Nat.ble (len * sz) cs.length && (Nat.blt 0 sz && Nat.beq pat.length sz)))
      · rw [hq] at h; cases h
      · rw [hq] at h; simp only [cond_true] at h
        simp only [Bool.and_eq_true, Nat.beq_eq, Nat.ble_eq, Nat.blt_eq] at hq
        obtain ⟨⟨rfl, rfl⟩, hlc, hs0, hsz⟩ := hq
        split at h
        · rename_i rs hrs
          cases h
          obtain ⟨r1, r2⟩ := rowsLV_den (ρ := ρ) (κ := κ) hrs
          have hlen : (LV.evalLL ρ rs).length = len := by rw [evalLL_length, r2]
          obtain ⟨⟨b, o1, sp, o3, o4, o5⟩, o2, _⟩ := hH.obj id _ ho
          subst o3
          refine ⟨hsz, by simp only [AE.den, IE.den, hlen]; rfl, ?_, by simp [SC.den, BE.den], _, ho, rfl⟩
          simp only [AE.den, hlen, SC.den, Nat.sub_zero]
          have hle : len ≤ κ.cap id := Nat.le_of_mul_le_mul_right (Nat.le_trans hlc (by omega)) hs0
          refine ⟨by rw [arrCells_length, hlen, hsz], .inr ⟨κ.o id, κ.cap id, _, rfl, o2, o1, hle, o5, by simp [o4], ?_⟩⟩
          rw [r1]; simp only [List.toList_toArray, List.map_take]
          rw [List.take_append_of_le_length (by simpa using hlc)]
        · cases h
    · cases h
  · cases h
/-- a part of a block -/
theorem HeapOk.range {ρ : Env} {κ : Kap} {base : Bk} {H : Heap} {w : World} (hH : HeapOk ρ κ base H w) {id : Nat} {cs : List SC} {ty : TypeId} (ho : H.own? id = some (cs, ty)) {off n : Nat} (hb : ((cs.drop off).take n).length = n) :
    w.rangeAt (κ.o id) off (((cs.drop off).take n).map (SC.den ρ κ)) := by
  obtain ⟨sp, hw⟩ := hH.own ho
  have hr := World.rangeAt_of_block hw off n
  have hl : n = 0 ∨ off + n ≤ cs.length := by simp at hb; omega
  have he : ((cs.map (SC.den ρ κ) ++ sp).drop off).take n = ((cs.drop off).take n).map (SC.den ρ κ) := by
    rcases hl with rfl | hl
    · simp
    · rw [List.drop_append_of_le_length (by simp; omega), List.take_append_of_le_length (by simp; omega), List.map_take, List.map_drop]
  simpa [List.extract_eq_take_drop, he] using hr
theorem xnews_spec {ρ : Env} {κ : Kap} {base : Bk} {H : Heap} {w : World} (hH : HeapOk ρ κ base H w) {sz : Nat} {pat : List CK} {x : SC} {ns : List BE} {ct : AE} {m : IE} (h : xnews H sz pat x = some (ns, ct, m)) (hn : ∀ p ∈ ns, p.den ρ = true) (_hpat : pat.length = sz) :
    m.den ρ = ((ct.den ρ).length : Int) ∧ ∃ oa c, x.den ρ κ = .slice oa (ct.den ρ).length c ∧ (match oa with
      | some a => ∀ j u, (arrCells pat (ct.den ρ))[j]? = some u → w.cell? (a.add j) = some u
      | none => (ct.den ρ).length = 0) := by
  unfold xnews at h
  split at h
  · rename_i id off k cap
    split at h
    · rename_i cs ty ho
      cases hq : (Nat.beq ((cs.drop off).take (k * sz)).length (k * sz) && Nat.beq pat.length sz)
      · rw [hq] at h; cases h
      · rw [hq] at h; simp only [cond_true] at h
        simp only [Bool.and_eq_true, Nat.beq_eq] at hq
        split at h
        · rename_i rs hrs
          cases h
          obtain ⟨r1, r2⟩ := rowsLV_den (ρ := ρ) (κ := κ) hrs
          have hlen : (LV.evalLL ρ rs).length = k := by rw [evalLL_length, r2]
          refine ⟨by simp only [AE.den, IE.den, hlen]; rfl, some ⟨κ.o id, off, none⟩, cap, by simp only [SC.den, AE.den, hlen], ?_⟩
          simp only [AE.den]
          rw [r1]
          intro j u hu
          rw [Addr.add_mid]
          exact hH.range ho hq.1 j u hu
        · cases h
    · cases h
  · rename_i id off k cap
    split at h
    · rename_i cs ty ho
      cases hq : (Nat.beq ((cs.drop off).take (k * sz)).length (k * sz) && Nat.beq pat.length sz)
      · rw [hq] at h; cases h
      · rw [hq] at h; simp only [cond_true] at h
        simp only [Bool.and_eq_true, Nat.beq_eq] at hq
        split at h
        · rename_i rs hrs
          cases h
          obtain ⟨r1, r2⟩ := rowsLV_den (ρ := ρ) (κ := κ) hrs
          have hlen : (LV.evalLL ρ rs).length = k := by rw [evalLL_length, r2]
          refine ⟨by simp only [AE.den, IE.den, hlen]; rfl, some ⟨κ.o id, off, none⟩, (κ.cap id - cap), by simp only [SC.den, AE.den, hlen], ?_⟩
          simp only [AE.den]
          rw [r1]
          intro j u hu
          rw [Addr.add_mid]
          exact hH.range ho hq.1 j u hu
        · cases h
    · cases h
  · rename_i k s x len cap
    split at h
    · rename_i c pat' o ha
      cases hq : (patq pat pat' && (Nat.beq s pat.length && Nat.beq pat.length sz))
      · rw [hq] at h; cases h
      · rw [hq] at h; simp only [cond_true] at h
        simp only [Bool.and_eq_true, Nat.beq_eq] at hq
        obtain ⟨hpp, rfl, _⟩ := hq
        have hpp := patq_eq hpp
        subst hpp
        obtain ⟨a1, a2⟩ := hH.arr k c pat o ha
        -- the cells of a part
        have part : ∀ (q n : Nat) (l : List (List Dat)), l = ((ρ.a c).drop q).take n → ∀ j u, (arrCells pat l)[j]? = some u → w.cell? ((⟨κ.ab k, κ.ao k + q * pat.length + 0, none⟩ : Addr).add j) = some u := by
          intro q n l hl j u hu
          subst hl
          have hjl : j < (arrCells pat (((ρ.a c).drop q).take n)).length := (List.getElem?_eq_some_iff.1 hu).1
          rw [arrCells_length] at hjl
          have hpos : 0 < pat.length := by
            rcases Nat.eq_zero_or_pos pat.length with h0 | h0
            · rw [h0] at hjl; simp at hjl
            · exact h0
          have hx : j / pat.length < (((ρ.a c).drop q).take n).length := (Nat.div_lt_iff_lt_mul hpos).2 hjl
          have hf : j % pat.length < pat.length := Nat.mod_lt _ hpos
          obtain ⟨r, hr⟩ : ∃ r, (((ρ.a c).drop q).take n)[j / pat.length]? = some r := ⟨_, List.getElem?_eq_getElem hx⟩
          have hk : pat[j % pat.length]? = some pat[j % pat.length] := List.getElem?_eq_getElem hf
          have e := arrCells_get pat _ _ _ r _ hr hk
          have hj : j / pat.length * pat.length + j % pat.length = j := by rw [Nat.mul_comm]; exact Nat.div_add_mod j pat.length
          rw [hj, hu] at e
          cases e
          have hr' : (ρ.a c)[q + j / pat.length]? = some r := by
            rw [List.getElem?_take] at hr
            split at hr
            · rw [List.getElem?_drop] at hr; exact hr
            · cases hr
          have := a1 _ _ r _ hr' hk
          rw [Addr.add_mid, ← this]
          congr 2
          rw [Nat.add_mul]; omega
        split at h
        · cases h
          rename_i hle
          have hle := IE.eqb_eq hle
          subst hle
          refine ⟨rfl, slAddr ρ κ k pat.length 0 0, cap.den ρ κ, by simp only [SC.den, IE.den, AE.den]; simp, ?_⟩
          simp only [slAddr, AE.den]
          cases hnl : ρ.nl k
          · simp only [Bool.false_eq_true, if_false]
            exact part 0 (ρ.a c).length (ρ.a c) (by simp)
          · simp only [if_true]
            rw [a2 hnl]; rfl
        · rename_i xx _ _ _
          cases h
          obtain ⟨n1, n2⟩ := forall_append hn
          obtain ⟨n2, n3⟩ := forall_append n2
          have m1 := needLeq_den n1
          have m2 := needLeq_den n2
          have m3 := needLeq_den n3
          simp only [IE.den, mkPlus_den] at m1 m2 m3
          have hlen : (((ρ.a c).drop (xx.den ρ).toNat).take (m.den ρ).toNat).length = (m.den ρ).toNat := by simp; omega
          refine ⟨by simp only [AE.den, hlen]; omega, slAddr ρ κ k pat.length 0 (xx.den ρ), cap.den ρ κ, by simp only [SC.den, AE.den, hlen], ?_⟩
          simp only [slAddr, AE.den]
          cases hnl : ρ.nl k
          · simp only [Bool.false_eq_true, if_false]
            exact part _ _ _ rfl
          · simp only [if_true]
            rw [a2 hnl]; simp
    · cases h
  · cases h
    refine ⟨rfl, none, 0, by simp [SC.den, bigCell, Value.oneCell', AE.den], rfl⟩
  · cases h
theorem xappend_sound {P : Program} {ρ : Env} {κ : Kap} {base : Bk} {H : Heap} {w : World} (hH : HeapOk ρ κ base H w) (hb : base.top ≤ w.heap.size) {t ty : TypeId} {s x : SV} {ns : List BE} {q : RowRes} (h : xappend P H t s x = some (ns, q)) (hn : ∀ p ∈ ns, p.den ρ = true) :
    DoesRow ρ κ base H w (((Builtin.append_ #[t, t] ty #[s.den ρ κ, x.den ρ κ]).run P w).andThen fun v w' => .ok (.value v) w') q := by
  unfold xappend at h
  split at h
  · rename_i s x E hu
    split at h
    · rename_i i z hi hz
      cases hq : ((Nat.blt 0 i.size && Nat.blt 0 i.bytes) && Nat.beq z.cells.length i.size)
      · rw [hq] at h; cases h
      · rw [hq] at h; simp only [cond_true] at h
        simp only [Bool.and_eq_true, Nat.beq_eq, Nat.blt_eq] at hq
        split at h
        · rename_i b hbs
          split at h
          · rename_i ns' ct m hnw
            cases h
            obtain ⟨n1, n2⟩ := forall_append hn
            have m2 := needLeq_den n2
            obtain ⟨b1, b2, b3, b4, b5⟩ := xbase_spec hH hbs
            obtain ⟨c1, oa, cc, c2, c3⟩ := xnews_spec hH hnw n1 b1
            obtain ⟨it, zv, hit, hzv, hzd⟩ := zeroP_spec hz
            rw [hi] at hit; cases hit
            have hzc : zv.cells.size = i.size := by rw [hzd ρ κ, SA.den_cells]; simp [hq.2]
            simp only [mkPlus_den, b2, c1, lim, IE.den] at m2
            have hbytes : ((b.old.den ρ).length + (ct.den ρ).length) * i.bytes ≤ 140737488355328 := by
              have h1 : (b.old.den ρ).length + (ct.den ρ).length ≤ 140737488355328 / i.bytes := by
                have : ((((b.old.den ρ).length + (ct.den ρ).length : Nat) : Int)) ≤ ((140737488355328 / i.bytes : Nat) : Int) := by simpa using m2
                omega
              exact Nat.le_trans (Nat.mul_le_mul_right _ h1) (Nat.div_mul_le_self _ _)
            have h63 : (b.old.den ρ).length + (ct.den ρ).length ≤ maxLen := by
              have := Nat.le_trans (Nat.le_mul_of_pos_right ((b.old.den ρ).length + (ct.den ρ).length) hq.1.2) hbytes
              simp only [maxLen]; omega
            obtain ⟨v', w', hr, ho', hg, hnil, hfr⟩ := run_append_x (P := P) w base.b t ty E i zv i.size i.bytes hu hi hzv rfl rfl hzc hq.1.1 (s.den ρ κ) _ _ b3 oa _ cc (arrCells b.pat (ct.den ρ)) (by rw [arrCells_length, b1]) c3 (arrCells_one _ _) h63 hbytes (Nat.le_trans base.le hb)
            intro n hf ha hnl
            simp only [AE.den] at ha
            have hown : w'.ownsRow base.b E b.pat.length v' (ρ.a n).length (arrCells b.pat (ρ.a n)) := by
              rw [ha, b1, List.length_append, arrCells_append]; exact ho'
            have hpat : b.pat ≠ [] := fun e => by rw [e] at b1; simp at b1; omega
            obtain ⟨k0, κ', k1, k2, k3⟩ := hH.newRow (s := b.src) hb hf b5 hown hg (by
              rw [hnil, hnl, b4, mkAnd_den, mkCmp_den, c1]
              simp only [bc, IE.den, Bool.and_eq_true]
              constructor
              · rintro ⟨h1, h2⟩; exact ⟨h1, by rw [h2]; rfl⟩
              · rintro ⟨h1, h2⟩; refine ⟨h1, ?_⟩; simpa using h2) hfr hpat
            refine ⟨κ', w', k1, ?_, k3, k0⟩
            simp only [SV.den, SA.den, c2, hr, Result.andThen_ok]; rw [k2]
          · cases h
        · cases h
    · cases h
  · cases h

/-! ### make -/
def xmake (P : Program) (t : TypeId) (len cap : SV) : Option (List BE × RowRes) :=
  match len, cap, P.underlying t with
  | .a (.c (.int _ l)), .a (.c (.int _ c)), some (.slice E) => match P.info? E, zeroP P E, patOf P 60 E with
    | some i, some z, some pat => bif (Nat.blt 0 i.size && Nat.blt 0 i.bytes) && ((Nat.beq z.cells.length i.size && Nat.beq pat.length i.size) && l.eqb c) then match rowLV pat z.cells with
        | some row => some (needLeq (.lit 0) l ++ needLeq l (lim i.bytes), ⟨.nil, pat, E, .rep l row, .lit false⟩)
        | none => none
      else none
    | _, _, _ => none
  | _, _, _ => none
theorem range_mod {α : Type} (z : List α) (d : α) (hz : 0 < z.length) : ∀ (n : Nat), (List.range (n * z.length)).map (fun i => z.getD (i % z.length) d) = (List.replicate n z).flatten
  | 0 => by simp
  | n + 1 => by
    rw [Nat.add_mul, Nat.one_mul, List.range_add, List.map_append, range_mod z d hz n, List.replicate_succ', List.flatten_append, List.flatten_singleton]
    congr 1
    rw [List.map_map]
    apply List.ext_getElem
    · simp
    · intro i h1 h2
      simp at h1
      simp [Nat.add_mod, Nat.mod_eq_of_lt h1, h2]
theorem arrCells_replicate (p : List CK) (n : Nat) (r : List Dat) : arrCells p (List.replicate n r) = (List.replicate n (rowCells p r)).flatten := by
  induction n with
  | zero => rfl
  | succ n ih => simp only [List.replicate_succ, arrCells, List.flatMap_cons, List.flatten_cons] at ih ⊢; rw [ih]
theorem xmake_sound {P : Program} {ρ : Env} {κ : Kap} {base : Bk} {H : Heap} {w : World} (hH : HeapOk ρ κ base H w) (hb : base.top ≤ w.heap.size) {t : TypeId} {len cap : SV} {ns : List BE} {q : RowRes} (h : xmake P t len cap = some (ns, q)) (hn : ∀ p ∈ ns, p.den ρ = true) :
    DoesRow ρ κ base H w (((Instr.makeSlice t (len.den ρ κ) (cap.den ρ κ)).run P w).andThen fun v w' => .ok (.value v) w') q := by
  unfold xmake at h
  split at h
  · rename_i k l k' c E hu
    split at h
    · rename_i i z pat hi hz hp
      cases hq : ((Nat.blt 0 i.size && Nat.blt 0 i.bytes) && ((Nat.beq z.cells.length i.size && Nat.beq pat.length i.size) && l.eqb c))
      · rw [hq] at h; cases h
      · rw [hq] at h; simp only [cond_true] at h
        simp only [Bool.and_eq_true, Nat.beq_eq, Nat.blt_eq] at hq
        obtain ⟨⟨hs, hby⟩, ⟨hzl, hpl⟩, hlc⟩ := hq
        have hlc := IE.eqb_eq hlc
        subst hlc
        split at h
        · rename_i row hrow
          cases h
          obtain ⟨n1, n2⟩ := forall_append hn
          have m1 := needLeq_den n1
          have m2 := needLeq_den n2
          simp only [IE.den, lim] at m1 m2
          intro n hf ha hnl
          simp only [AE.den, BE.den] at ha hnl
          obtain ⟨L, hL⟩ : ∃ L : Nat, l.den ρ = (L : Int) := ⟨(l.den ρ).toNat, by omega⟩
          rw [hL] at m1 m2
          have hLb : L * i.bytes ≤ 140737488355328 := by
            have h1 : L ≤ 140737488355328 / i.bytes := by
              have : (L : Int) ≤ ((140737488355328 / i.bytes : Nat) : Int) := by simpa using m2
              omega
            exact Nat.le_trans (Nat.mul_le_mul_right _ h1) (Nat.div_mul_le_self _ _)
          have hLs : L ≤ 140737488355328 := Nat.le_trans (Nat.le_mul_of_pos_right L hby) hLb
          have hwrap : IntKind.i64.wrap (L : Int) = (L : Int) := wrap_of_fits (by simp only [fits]; rw [Nat.blt_eq]; omega)
          obtain ⟨it, zv, hit, hzv, hzd⟩ := zeroP_spec hz
          rw [hi] at hit; cases hit
          have hzc : zv.cells = (z.cells.map (SC.den ρ κ)).toArray := by rw [hzd ρ κ, SA.den_cells]
          have hrc := rowLV_den (ρ := ρ) (κ := κ) hrow
          have hzpos : 0 < (z.cells.map (SC.den ρ κ)).length := by simp; omega
          -- the cells
          have hcells : ∀ (za : Array Value), (L * i.size = 0 ∨ za = (z.cells.map (SC.den ρ κ)).toArray) → (Array.range (L * i.size)).map (za[· % za.size]!) = (arrCells pat (ρ.a n)).toArray := by
            intro za hza
            rw [ha, hL, Int.toNat_natCast, arrCells_replicate, hrc, ← range_mod _ .nilFunc hzpos L]
            have hsz : (z.cells.map (SC.den ρ κ)).length = i.size := by simp [hzl]
            rw [hsz]
            rcases hza with h0 | rfl
            · rw [h0]; simp
            · apply Array.ext
              · simp
              · intro j j1 j2
                have : j % i.size < z.cells.length := by rw [hzl]; exact Nat.mod_lt _ hs
                simp [hzl, List.getElem?_eq_getElem this]
          have hrun : (Instr.makeSlice t (.int k (L : Int)) (.int k' (L : Int))).run P w = .ok (.slice (some ⟨w.heap.size, 0, none⟩) L L) (w.alloc (.cells (arrCells pat (ρ.a n)).toArray E)) := by
            have hinfo : ∀ w, (typeInfo E).run P w = .ok i w := fun w => by simp [typeInfo, hi]
            have t1 : decide ((i.bytes : Int) * (L : Int) > 2 ^ 48) = false := by
              have h2 : (i.bytes : Int) * (L : Int) ≤ 140737488355328 := by
                have : ((L * i.bytes : Nat) : Int) ≤ 140737488355328 := by omega
                rw [Int.natCast_mul] at this
                rw [Int.mul_comm]; exact this
              simp only [decide_eq_false_iff_not]
              omega
            have t2 : decide ((L : Int) < 0) = false := by simp
            have t3 : decide ((L : Int) > (L : Int)) = false := by simp
            simp only [Instr.makeSlice, Sem.run_bind, run_underlying hu, Result.andThen_ok, asInt, asIntOf, Sem.run_pure, hinfo, hwrap, t1, t2, t3, Bool.false_or, Bool.or_false, decide_false, Bool.false_eq_true, if_false, run_askRoom, Sem.run_ite, sizeOf, Int.toNat_natCast]
            by_cases h0 : L * i.size = 0
            · simp only [h0, if_true, Result.andThen_ok]
              have := hcells #[] (.inl h0)
              rw [h0] at this
              simp only [newRow, Sem.run_bind, run_newObj, Result.andThen_ok, Sem.run_pure]
              rw [this]; rfl
            · simp only [h0, if_false, Sem.run_bind, run_zeroP hz ρ κ, Result.andThen_ok, SA.den_cells]
              have := hcells _ (.inr rfl)
              simp only [newRow, Sem.run_bind, run_newObj, Result.andThen_ok, Sem.run_pure]
              rw [this]; rfl
          have hlen : (ρ.a n).length = L := by rw [ha, hL]; simp
          have hown : (w.alloc (.cells (arrCells pat (ρ.a n)).toArray E)).ownsRow base.b E pat.length (.slice (some ⟨w.heap.size, 0, none⟩) L L) (ρ.a n).length (arrCells pat (ρ.a n)) := by
            refine ⟨by rw [arrCells_length], .inr ⟨w.heap.size, L, _, by rw [hlen], Nat.le_trans base.le hb, heap_alloc_new w _, by omega, by simp only [maxLen]; omega, by simp [arrCells_length, hlen], ?_⟩⟩
            rw [← arrCells_length]; simp
          obtain ⟨k0, κ', k1, k2, k3⟩ := hH.newRow (s := .nil) (v := .slice none 0 0) hb hf rfl hown (World.grownBy_alloc w _ _) (by rw [hnl]; simp) (.inr rfl) (fun e => by rw [e] at hpl; simp at hpl; omega)
          refine ⟨κ', _, k1, ?_, k3, k0⟩
          simp only [SV.den, SA.den, SC.den, hL, hrun, Result.andThen_ok]
          rw [k2]
        · cases h
    · cases h
  · cases h
end Go.SX
