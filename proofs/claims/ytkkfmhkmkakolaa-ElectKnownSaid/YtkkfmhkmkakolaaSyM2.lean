/- A part of the proof: see the text that states the theorem. -/
import Derived.Test.YtkkfmhkmkakolaaSyM1
import Derived.Deep.AppendSrc
import Derived.Laws.BytesString
import Derived.RangeFuncRecord
import Derived.Lib.AppendZeros
/- SxS: append, make and a store into a row, as operations. -/
set_option linter.unusedSimpArgs false
set_option linter.unusedVariables false
set_option linter.unusedSectionVars false
noncomputable section
namespace Go.SX
open Go Go.RowKit

structure RowBase where
  src : Src
  pat : List CK
  old : AE
  len : IE
  nl : BE
/-- what is appended to -/
def xbase (P : Program) (H : Heap) (E : TypeId) (sz : Nat) : SC → Option RowBase
  | .lit (.slice none 0 0) => match patOf P 60 E with
    | some pat => bif Nat.beq pat.length sz then some ⟨.nil, pat, .nil, .lit 0, .lit true⟩ else none
    | none => none
  | .slice j _ 0 (.lit (.ofNat 0)) len (.k j') => match H.arr? j with
    | some (c, pat, some E') => bif (Nat.beq j j' && Nat.beq E' E) && (len.eqb (.alen c) && Nat.beq pat.length sz) then some ⟨.row j, pat, .arr c, .alen c, .nl j⟩ else none
    | _ => none
  | .oslice id 0 len cap => match H.obj? id, patOf P 60 E with
    | some (.cells cs ty none), some pat => bif (Nat.beq ty E && Nat.beq cs.length (cap * sz)) && (Nat.ble len cap && (Nat.ble cap 1000000 && Nat.beq pat.length sz)) then match rowsLV pat len (cs.take (len * sz)) with
        | some rs => some ⟨.own id, pat, .rows rs, .lit (.ofNat len), .lit false⟩
        | none => none
      else none
    | _, _ => none
  | .gslice id 0 len 0 => match H.obj? id, patOf P 60 E with
    | some (.cells cs ty (some z)), some pat => bif (Nat.beq ty E && Nat.beq z sz) && (Nat.ble (len * sz) cs.length && (Nat.blt 0 sz && Nat.beq pat.length sz)) then match rowsLV pat len (cs.take (len * sz)) with
        | some rs => some ⟨.own id, pat, .rows rs, .lit (.ofNat len), .lit false⟩
        | none => none
      else none
    | _, _ => none
  | _ => none
/-- what is appended -/
def xnews (H : Heap) (sz : Nat) (pat : List CK) : SC → Option (List BE × AE × IE)
  | .oslice id off m _ => match H.own? id with
    | some (cs, _) => bif Nat.beq ((cs.drop off).take (m * sz)).length (m * sz) && Nat.beq pat.length sz then match rowsLV pat m ((cs.drop off).take (m * sz)) with
        | some rs => some ([], .rows rs, .lit (.ofNat m))
        | none => none
      else none
    | none => none
  | .gslice id off m _ => match H.own? id with
    | some (cs, _) => bif Nat.beq ((cs.drop off).take (m * sz)).length (m * sz) && Nat.beq pat.length sz then match rowsLV pat m ((cs.drop off).take (m * sz)) with
        | some rs => some ([], .rows rs, .lit (.ofNat m))
        | none => none
      else none
    | none => none
  | .slice k s 0 x len _ => match H.arr? k with
    | some (c, pat', _) => bif patq pat pat' && (Nat.beq s pat.length && Nat.beq pat.length sz) then
        match x, len.eqb (.alen c) with
        | .lit (.ofNat 0), true => some ([], .arr c, .alen c)
        | x, _ => some (needLeq (.lit 0) x ++ (needLeq (.lit 0) len ++ needLeq (mkPlus x len) (.alen c)), .sub c x len, len)
      else none
    | none => none
  | .lit (.slice none 0 0) => some ([], .nil, .lit 0)
  | _ => none
structure RowRes where
  src : Src
  pat : List CK
  E : TypeId
  ct : AE
  nl : BE
def lim (bytes : Nat) : IE := .lit (.ofNat (140737488355328 / bytes))
def xappend (P : Program) (H : Heap) (t : TypeId) (s x : SV) : Option (List BE × RowRes) :=
  match s, x, P.underlying t with
  | .a (.c s), .a (.c x), some (.slice E) => match P.info? E, zeroP P E with
    | some i, some z => bif (Nat.blt 0 i.size && Nat.blt 0 i.bytes) && Nat.beq z.cells.length i.size then match xbase P H E i.size s with
        | some b => match xnews H i.size b.pat x with
          | some (ns, ct, m) => some (ns ++ needLeq (mkPlus b.len m) (lim i.bytes), ⟨b.src, b.pat, E, .cat b.old ct, mkAnd b.nl (mkCmp .eql m (.lit 0))⟩)
          | none => none
        | none => none
      else none
    | _, _ => none
  | _, _, _ => none
/-- WHAT SUCH AN OPERATION DOES: a new row n. -/
def DoesRow (ρ : Env) (κ : Kap) (base : Bk) (H : Heap) (w : World) (r : Result Next) (q : RowRes) : Prop :=
  ∀ n, H.Free (one n) → ρ.a n = q.ct.den ρ → ρ.nl n = q.nl.den ρ → ∃ κ' w', KBut (one n) κ κ' ∧ r = .ok (.value ((rowSV n q.pat).den ρ κ')) w' ∧ HeapOk ρ κ' base (.arr n n q.pat (some q.E) :: H.del q.src) w' ∧ Kept base w w'
theorem xbase_spec {P : Program} {ρ : Env} {κ : Kap} {base : Bk} {H : Heap} {w : World} (hH : HeapOk ρ κ base H w) {E : TypeId} {sz : Nat} {s : SC} {b : RowBase} (h : xbase P H E sz s = some b) :
    b.pat.length = sz ∧ b.len.den ρ = ((b.old.den ρ).length : Int) ∧ w.ownsRow base.b E sz (s.den ρ κ) (b.old.den ρ).length (arrCells b.pat (b.old.den ρ)) ∧ (s.den ρ κ = .slice none 0 0 ↔ b.nl.den ρ = true) ∧
      (match b.src with
        | .nil => (s.den ρ κ).ownBlock = none
        | .row j => ∃ c pat E, H.arr? j = some (c, pat, some E) ∧ ((s.den ρ κ).ownBlock = none ∨ (ρ.nl j = false ∧ (s.den ρ κ).ownBlock = some (κ.ab j)))
        | .own id => ∃ o, H.obj? id = some o ∧ (s.den ρ κ).ownBlock = some (κ.o id)) := by
  unfold xbase at h
  split at h
  · split at h
    · rename_i pat hp
      cases hq : Nat.beq pat.length sz
      · rw [hq] at h; cases h
      · rw [hq] at h; simp only [cond_true] at h; cases h
        rw [Nat.beq_eq] at hq
        refine ⟨hq, rfl, ?_, ?_, ?_⟩
        · exact World.ownsRow_nil w base.b E sz
        · simp [SC.den, bigCell, Value.oneCell', BE.den]
        · simp [SC.den, bigCell, Value.oneCell', Value.ownBlock]
    · cases h
  · rename_i j s0 len j'
    split at h
    · rename_i c pat E' ha
      cases hq : ((Nat.beq j j' && Nat.beq E' E) && (len.eqb (.alen c) && Nat.beq pat.length sz))
      · rw [hq] at h; cases h
      · rw [hq] at h; simp only [cond_true] at h; cases h
        simp only [Bool.and_eq_true, Nat.beq_eq] at hq
        obtain ⟨⟨rfl, rfl⟩, hl, hsz⟩ := hq
        have hl := IE.eqb_eq hl
        subst hl
        obtain ⟨h1, h2, _⟩ := hH.row j c pat E' ha
        have hv : SC.den ρ κ (.slice j s0 0 (.lit (.ofNat 0)) (.alen c) (.k j)) = rowVal ρ κ j (ρ.a c).length := by
          simp only [SC.den, slAddr, rowVal, CE.den, IE.den, h1]; simp
        rw [hv]
        refine ⟨hsz, rfl, by rw [← hsz]; exact h2, ?_, c, pat, E', ha, ?_⟩
        · simp only [BE.den]
          constructor
          · intro e
            cases hn : ρ.nl j
            · rw [rowVal, hn] at e; simp at e
            · rfl
          · intro hn
            have hnil := (hH.arr j c pat _ ha).2 hn
            have h3 := h2.2
            simp only [rowVal, hn, if_true] at h3 ⊢
            rcases h3 with ⟨e1, _⟩ | ⟨g, cap, cur, e, _⟩
            · exact e1
            · simp at e
        · cases hn : ρ.nl j
          · exact .inr ⟨rfl, by simp [rowVal, hn, Value.ownBlock]⟩
          · exact .inl (by simp [rowVal, hn, Value.ownBlock])
    · cases h
  · rename_i id len cap
    split at h
    · rename_i cs ty pat ho hp
      cases hq : ((Nat.beq ty E && Nat.beq cs.length (cap * sz)) && (Nat.ble len cap && (Nat.ble cap 1000000 && Nat.beq pat.length sz)))
      · rw [hq] at h; cases h
      · rw [hq] at h; simp only [cond_true] at h
        simp only [Bool.and_eq_true, Nat.beq_eq, Nat.ble_eq] at hq
        obtain ⟨⟨rfl, hcs⟩, hlc, hcm, hsz⟩ := hq
        split at h
        · rename_i rs hrs
          cases h
          obtain ⟨r1, r2⟩ := rowsLV_den (ρ := ρ) (κ := κ) hrs
          have hlen : (LV.evalLL ρ rs).length = len := by rw [evalLL_length, r2]
          obtain ⟨⟨b, o1, o3⟩, o2, _⟩ := hH.obj id _ ho
          simp only [SObj.Is] at o3; subst o3
          refine ⟨hsz, by simp only [AE.den, IE.den, hlen]; rfl, ?_, by simp [SC.den, BE.den], _, ho, rfl⟩
          simp only [AE.den, hlen, SC.den]
          refine ⟨by rw [arrCells_length, hlen, hsz], .inr ⟨κ.o id, cap, _, rfl, o2, o1, hlc, by simp only [maxLen]; omega, by simp [hcs], ?_⟩⟩
          rw [r1]; simp [List.map_take]
        · cases h
    · cases h
  · rename_i id len
    split at h
    · rename_i cs ty z pat ho hp
      cases hq : ((Nat.beq ty E && Nat.beq z sz) && (Nat.ble (len * sz) cs.length && (Nat.blt 0 sz && Nat.beq pat.length sz)))
      · rw [hq] at h; cases h
      · rw [hq] at h; simp only [cond_true] at h
        simp only [Bool.and_eq_true, Nat.beq_eq, Nat.ble_eq, Nat.blt_eq] at hq
        obtain ⟨⟨rfl, rfl⟩, hlc, hs0, hsz⟩ := hq
        split at h
        · rename_i rs hrs
          cases h
          obtain ⟨r1, r2⟩ := rowsLV_den (ρ := ρ) (κ := κ) hrs
          have hlen : (LV.evalLL ρ rs).length = len := by rw [evalLL_length, r2]
          obtain ⟨⟨b, o1, sp, o3, o4, o5⟩, o2, _⟩ := hH.obj id _ ho
          subst o3
          refine ⟨hsz, by simp only [AE.den, IE.den, hlen]; rfl, ?_, by simp [SC.den, BE.den], _, ho, rfl⟩
          simp only [AE.den, hlen, SC.den, Nat.sub_zero]
          have hle : len ≤ κ.cap id := Nat.le_of_mul_le_mul_right (Nat.le_trans hlc (by omega)) hs0
          refine ⟨by rw [arrCells_length, hlen, hsz], .inr ⟨κ.o id, κ.cap id, _, rfl, o2, o1, hle, o5, by simp [o4], ?_⟩⟩
          rw [r1]; simp only [List.toList_toArray, List.map_take]
          rw [List.take_append_of_le_length (by simpa using hlc)]
        · cases h
    · cases h
  · cases h
/-- a part of a block -/
theorem HeapOk.range {ρ : Env} {κ : Kap} {base : Bk} {H : Heap} {w : World} (hH : HeapOk ρ κ base H w) {id : Nat} {cs : List SC} {ty : TypeId} (ho : H.own? id = some (cs, ty)) {off n : Nat} (hb : ((cs.drop off).take n).length = n) :
    w.rangeAt (κ.o id) off (((cs.drop off).take n).map (SC.den ρ κ)) := by
  obtain ⟨sp, hw⟩ := hH.own ho
  have hr := World.rangeAt_of_block hw off n
  have hl : n = 0 ∨ off + n ≤ cs.length := by simp at hb; omega
  have he : ((cs.map (SC.den ρ κ) ++ sp).drop off).take n = ((cs.drop off).take n).map (SC.den ρ κ) := by
    rcases hl with rfl | hl
    · simp
    · rw [List.drop_append_of_le_length (by simp; omega), List.take_append_of_le_length (by simp; omega), List.map_take, List.map_drop]
  simpa [List.extract_eq_take_drop, he] using hr
theorem xnews_spec {ρ : Env} {κ : Kap} {base : Bk} {H : Heap} {w : World} (hH : HeapOk ρ κ base H w) {sz : Nat} {pat : List CK} {x : SC} {ns : List BE} {ct : AE} {m : IE} (h : xnews H sz pat x = some (ns, ct, m)) (hn : ∀ p ∈ ns, p.den ρ = true) (_hpat : pat.length = sz) :
    m.den ρ = ((ct.den ρ).length : Int) ∧ ∃ oa c, x.den ρ κ = .slice oa (ct.den ρ).length c ∧ (match oa with
      | some a => ∀ j u, (arrCells pat (ct.den ρ))[j]? = some u → w.cell? (a.add j) = some u
      | none => (ct.den ρ).length = 0) := by
  unfold xnews at h
  split at h
  · rename_i id off k cap
    split at h
    · rename_i cs ty ho
      cases hq : (Nat.beq ((cs.drop off).take (k * sz)).length (k * sz) && Nat.beq pat.length sz)
      · rw [hq] at h; cases h
      · rw [hq] at h; simp only [cond_true] at h
        simp only [Bool.and_eq_true, Nat.beq_eq] at hq
        split at h
        · rename_i rs hrs
          cases h
          obtain ⟨r1, r2⟩ := rowsLV_den (ρ := ρ) (κ := κ) hrs
          have hlen : (LV.evalLL ρ rs).length = k := by rw [evalLL_length, r2]
          refine ⟨by simp only [AE.den, IE.den, hlen]; rfl, some ⟨κ.o id, off, none⟩, cap, by simp only [SC.den, AE.den, hlen], ?_⟩
          simp only [AE.den]
          rw [r1]
          intro j u hu
          rw [Addr.add_mid]
          exact hH.range ho hq.1 j u hu
        · cases h
    · cases h
  · rename_i id off k cap
    split at h
    · rename_i cs ty ho
      cases hq : (Nat.beq ((cs.drop off).take (k * sz)).length (k * sz) && Nat.beq pat.length sz)
      · rw [hq] at h; cases h
      · rw [hq] at h; simp only [cond_true] at h
        simp only [Bool.and_eq_true, Nat.beq_eq] at hq
        split at h
        · rename_i rs hrs
          cases h
          obtain ⟨r1, r2⟩ := rowsLV_den (ρ := ρ) (κ := κ) hrs
          have hlen : (LV.evalLL ρ rs).length = k := by rw [evalLL_length, r2]
          refine ⟨by simp only [AE.den, IE.den, hlen]; rfl, some ⟨κ.o id, off, none⟩, (κ.cap id - cap), by simp only [SC.den, AE.den, hlen], ?_⟩
          simp only [AE.den]
          rw [r1]
          intro j u hu
          rw [Addr.add_mid]
          exact hH.range ho hq.1 j u hu
        · cases h
    · cases h
  · rename_i k s x len cap
    split at h
    · rename_i c pat' o ha
      cases hq : (patq pat pat' && (Nat.beq s pat.length && Nat.beq pat.length sz))
      · rw [hq] at h; cases h
      · rw [hq] at h; simp only [cond_true] at h
        simp only [Bool.and_eq_true, Nat.beq_eq] at hq
        obtain ⟨hpp, rfl, _⟩ := hq
        have hpp := patq_eq hpp
        subst hpp
        obtain ⟨a1, a2⟩ := hH.arr k c pat o ha
        -- the cells of a part
        have part : ∀ (q n : Nat) (l : List (List Dat)), l = ((ρ.a c).drop q).take n → ∀ j u, (arrCells pat l)[j]? = some u → w.cell? ((⟨κ.ab k, κ.ao k + q * pat.length + 0, none⟩ : Addr).add j) = some u := by
          intro q n l hl j u hu
          subst hl
          have hjl : j < (arrCells pat (((ρ.a c).drop q).take n)).length := (List.getElem?_eq_some_iff.1 hu).1
          rw [arrCells_length] at hjl
          have hpos : 0 < pat.length := by
            rcases Nat.eq_zero_or_pos pat.length with h0 | h0
            · rw [h0] at hjl; simp at hjl
            · exact h0
          have hx : j / pat.length < (((ρ.a c).drop q).take n).length := (Nat.div_lt_iff_lt_mul hpos).2 hjl
          have hf : j % pat.length < pat.length := Nat.mod_lt _ hpos
          obtain ⟨r, hr⟩ : ∃ r, (((ρ.a c).drop q).take n)[j / pat.length]? = some r := ⟨_, List.getElem?_eq_getElem hx⟩
          have hk : pat[j % pat.length]? = some pat[j % pat.length] := List.getElem?_eq_getElem hf
          have e := arrCells_get pat _ _ _ r _ hr hk
          have hj : j / pat.length * pat.length + j % pat.length = j := by rw [Nat.mul_comm]; exact Nat.div_add_mod j pat.length
          rw [hj, hu] at e
          cases e
          have hr' : (ρ.a c)[q + j / pat.length]? = some r := by
            rw [List.getElem?_take] at hr
            split at hr
            · rw [List.getElem?_drop] at hr; exact hr
            · cases hr
          have := a1 _ _ r _ hr' hk
          rw [Addr.add_mid, ← this]
          congr 2
          rw [Nat.add_mul]; omega
        split at h
        · cases h
          rename_i hle
          have hle := IE.eqb_eq hle
          subst hle
          refine ⟨rfl, slAddr ρ κ k pat.length 0 0, cap.den ρ κ, by simp only [SC.den, IE.den, AE.den]; simp, ?_⟩
          simp only [slAddr, AE.den]
          cases hnl : ρ.nl k
          · simp only [Bool.false_eq_true, if_false]
            exact part 0 (ρ.a c).length (ρ.a c) (by simp)
          · simp only [if_true]
            rw [a2 hnl]; rfl
        · rename_i xx _ _ _
          cases h
          obtain ⟨n1, n2⟩ := forall_append hn
          obtain ⟨n2, n3⟩ := forall_append n2
          have m1 := needLeq_den n1
          have m2 := needLeq_den n2
          have m3 := needLeq_den n3
          simp only [IE.den, mkPlus_den] at m1 m2 m3
          have hlen : (((ρ.a c).drop (xx.den ρ).toNat).take (m.den ρ).toNat).length = (m.den ρ).toNat := by simp; omega
          refine ⟨by simp only [AE.den, hlen]; omega, slAddr ρ κ k pat.length 0 (xx.den ρ), cap.den ρ κ, by simp only [SC.den, AE.den, hlen], ?_⟩
          simp only [slAddr, AE.den]
          cases hnl : ρ.nl k
          · simp only [Bool.false_eq_true, if_false]
            exact part _ _ _ rfl
          · simp only [if_true]
            rw [a2 hnl]; simp
    · cases h
  · cases h
    refine ⟨rfl, none, 0, by simp [SC.den, bigCell, Value.oneCell', AE.den], rfl⟩
  · cases h
theorem xappend_sound {P : Program} {ρ : Env} {κ : Kap} {base : Bk} {H : Heap} {w : World} (hH : HeapOk ρ κ base H w) (hb : base.top ≤ w.heap.size) {t ty : TypeId} {s x : SV} {ns : List BE} {q : RowRes} (h : xappend P H t s x = some (ns, q)) (hn : ∀ p ∈ ns, p.den ρ = true) :
    DoesRow ρ κ base H w (((Builtin.append_ #[t, t] ty #[s.den ρ κ, x.den ρ κ]).run P w).andThen fun v w' => .ok (.value v) w') q := by
  unfold xappend at h
  split at h
  · rename_i s x E hu
    split at h
    · rename_i i z hi hz
      cases hq : ((Nat.blt 0 i.size && Nat.blt 0 i.bytes) && Nat.beq z.cells.length i.size)
      · rw [hq] at h; cases h
      · rw [hq] at h; simp only [cond_true] at h
        simp only [Bool.and_eq_true, Nat.beq_eq, Nat.blt_eq] at hq
        split at h
        · rename_i b hbs
          split at h
          · rename_i ns' ct m hnw
            cases h
            obtain ⟨n1, n2⟩ := forall_append hn
            have m2 := needLeq_den n2
            obtain ⟨b1, b2, b3, b4, b5⟩ := xbase_spec hH hbs
            obtain ⟨c1, oa, cc, c2, c3⟩ := xnews_spec hH hnw n1 b1
            obtain ⟨it, zv, hit, hzv, hzd⟩ := zeroP_spec hz
            rw [hi] at hit; cases hit
            have hzc : zv.cells.size = i.size := by rw [hzd ρ κ, SA.den_cells]; simp [hq.2]
            simp only [mkPlus_den, b2, c1, lim, IE.den] at m2
            have hbytes : ((b.old.den ρ).length + (ct.den ρ).length) * i.bytes ≤ 140737488355328 := by
              have h1 : (b.old.den ρ).length + (ct.den ρ).length ≤ 140737488355328 / i.bytes := by
                have : ((((b.old.den ρ).length + (ct.den ρ).length : Nat) : Int)) ≤ ((140737488355328 / i.bytes : Nat) : Int) := by simpa using m2
                omega
              exact Nat.le_trans (Nat.mul_le_mul_right _ h1) (Nat.div_mul_le_self _ _)
            have h63 : (b.old.den ρ).length + (ct.den ρ).length ≤ maxLen := by
              have := Nat.le_trans (Nat.le_mul_of_pos_right ((b.old.den ρ).length + (ct.den ρ).length) hq.1.2) hbytes
              simp only [maxLen]; omega
            obtain ⟨v', w', hr, ho', hg, hnil, hfr⟩ := run_append_x (P := P) w base.b t ty E i zv i.size i.bytes hu hi hzv rfl rfl hzc hq.1.1 (s.den ρ κ) _ _ b3 oa _ cc (arrCells b.pat (ct.den ρ)) (by rw [arrCells_length, b1]) c3 (arrCells_one _ _) h63 hbytes (Nat.le_trans base.le hb)
            intro n hf ha hnl
            simp only [AE.den] at ha
            have hown : w'.ownsRow base.b E b.pat.length v' (ρ.a n).length (arrCells b.pat (ρ.a n)) := by
              rw [ha, b1, List.length_append, arrCells_append]; exact ho'
            have hpat : b.pat ≠ [] := fun e => by rw [e] at b1; simp at b1; omega
            obtain ⟨k0, κ', k1, k2, k3⟩ := hH.newRow (s := b.src) hb hf b5 hown hg (by
              rw [hnil, hnl, b4, mkAnd_den, mkCmp_den, c1]
              simp only [bc, IE.den, Bool.and_eq_true]
              constructor
              · rintro ⟨h1, h2⟩; exact ⟨h1, by rw [h2]; rfl⟩
              · rintro ⟨h1, h2⟩; refine ⟨h1, ?_⟩; simpa using h2) hfr hpat
            refine ⟨κ', w', k1, ?_, k3, k0⟩
            simp only [SV.den, SA.den, c2, hr, Result.andThen_ok]; rw [k2]
          · cases h
        · cases h
    · cases h
  · cases h

/-! ### make -/
def xmake (P : Program) (t : TypeId) (len cap : SV) : Option (List BE × RowRes) :=
  match len, cap, P.underlying t with
  | .a (.c (.int _ l)), .a (.c (.int _ c)), some (.slice E) => match P.info? E, zeroP P E, patOf P 60 E with
    | some i, some z, some pat => bif (Nat.blt 0 i.size && Nat.blt 0 i.bytes) && ((Nat.beq z.cells.length i.size && Nat.beq pat.length i.size) && l.eqb c) then match rowLV pat z.cells with
        | some row => some (needLeq (.lit 0) l ++ needLeq l (lim i.bytes), ⟨.nil, pat, E, .rep l row, .lit false⟩)
        | none => none
      else none
    | _, _, _ => none
  | _, _, _ => none
theorem range_mod {α : Type} (z : List α) (d : α) (hz : 0 < z.length) : ∀ (n : Nat), (List.range (n * z.length)).map (fun i => z.getD (i % z.length) d) = (List.replicate n z).flatten
  | 0 => by simp
  | n + 1 => by
    rw [Nat.add_mul, Nat.one_mul, List.range_add, List.map_append, range_mod z d hz n, List.replicate_succ', List.flatten_append, List.flatten_singleton]
    congr 1
    rw [List.map_map]
    apply List.ext_getElem
    · simp
    · intro i h1 h2
      simp at h1
      simp [Nat.add_mod, Nat.mod_eq_of_lt h1, h2]
theorem arrCells_replicate (p : List CK) (n : Nat) (r : List Dat) : arrCells p (List.replicate n r) = (List.replicate n (rowCells p r)).flatten := by
  induction n with
  | zero => rfl
  | succ n ih => simp only [List.replicate_succ, arrCells, List.flatMap_cons, List.flatten_cons] at ih ⊢; rw [ih]
theorem xmake_sound {P : Program} {ρ : Env} {κ : Kap} {base : Bk} {H : Heap} {w : World} (hH : HeapOk ρ κ base H w) (hb : base.top ≤ w.heap.size) {t : TypeId} {len cap : SV} {ns : List BE} {q : RowRes} (h : xmake P t len cap = some (ns, q)) (hn : ∀ p ∈ ns, p.den ρ = true) :
    DoesRow ρ κ base H w (((Instr.makeSlice t (len.den ρ κ) (cap.den ρ κ)).run P w).andThen fun v w' => .ok (.value v) w') q := by
  unfold xmake at h
  split at h
  · rename_i k l k' c E hu
    split at h
    · rename_i i z pat hi hz hp
      cases hq : ((Nat.blt 0 i.size && Nat.blt 0 i.bytes) && ((Nat.beq z.cells.length i.size && Nat.beq pat.length i.size) && l.eqb c))
      · rw [hq] at h; cases h
      · rw [hq] at h; simp only [cond_true] at h
        simp only [Bool.and_eq_true, Nat.beq_eq, Nat.blt_eq] at hq
        obtain ⟨⟨hs, hby⟩, ⟨hzl, hpl⟩, hlc⟩ := hq
        have hlc := IE.eqb_eq hlc
        subst hlc
        split at h
        · rename_i row hrow
          cases h
          obtain ⟨n1, n2⟩ := forall_append hn
          have m1 := needLeq_den n1
          have m2 := needLeq_den n2
          simp only [IE.den, lim] at m1 m2
          intro n hf ha hnl
          simp only [AE.den, BE.den] at ha hnl
          obtain ⟨L, hL⟩ : ∃ L : Nat, l.den ρ = (L : Int) := ⟨(l.den ρ).toNat, by omega⟩
          rw [hL] at m1 m2
          have hLb : L * i.bytes ≤ 140737488355328 := by
            have h1 : L ≤ 140737488355328 / i.bytes := by
              have : (L : Int) ≤ ((140737488355328 / i.bytes : Nat) : Int) := by simpa using m2
              omega
            exact Nat.le_trans (Nat.mul_le_mul_right _ h1) (Nat.div_mul_le_self _ _)
          have hLs : L ≤ 140737488355328 := Nat.le_trans (Nat.le_mul_of_pos_right L hby) hLb
          have hwrap : IntKind.i64.wrap (L : Int) = (L : Int) := wrap_of_fits (by simp only [fits]; rw [Nat.blt_eq]; omega)
          obtain ⟨it, zv, hit, hzv, hzd⟩ := zeroP_spec hz
          rw [hi] at hit; cases hit
          have hzc : zv.cells = (z.cells.map (SC.den ρ κ)).toArray := by rw [hzd ρ κ, SA.den_cells]
          have hrc := rowLV_den (ρ := ρ) (κ := κ) hrow
          have hzpos : 0 < (z.cells.map (SC.den ρ κ)).length := by simp; omega
          -- the cells
          have hcells : ∀ (za : Array Value), (L * i.size = 0 ∨ za = (z.cells.map (SC.den ρ κ)).toArray) → (Array.range (L * i.size)).map (za[· % za.size]!) = (arrCells pat (ρ.a n)).toArray := by
            intro za hza
            rw [ha, hL, Int.toNat_natCast, arrCells_replicate, hrc, ← range_mod _ .nilFunc hzpos L]
            have hsz : (z.cells.map (SC.den ρ κ)).length = i.size := by simp [hzl]
            rw [hsz]
            rcases hza with h0 | rfl
            · rw [h0]; simp
            · apply Array.ext
              · simp
              · intro j j1 j2
                have : j % i.size < z.cells.length := by rw [hzl]; exact Nat.mod_lt _ hs
                simp [hzl, List.getElem?_eq_getElem this]
          have hrun : (Instr.makeSlice t (.int k (L : Int)) (.int k' (L : Int))).run P w = .ok (.slice (some ⟨w.heap.size, 0, none⟩) L L) (w.alloc (.cells (arrCells pat (ρ.a n)).toArray E)) := by
            have hinfo : ∀ w, (typeInfo E).run P w = .ok i w := fun w => by simp [typeInfo, hi]
            have t1 : decide ((i.bytes : Int) * (L : Int) > 2 ^ 48) = false := by
              have h2 : (i.bytes : Int) * (L : Int) ≤ 140737488355328 := by
                have : ((L * i.bytes : Nat) : Int) ≤ 140737488355328 := by omega
                rw [Int.natCast_mul] at this
                rw [Int.mul_comm]; exact this
              simp only [decide_eq_false_iff_not]
              omega
            have t2 : decide ((L : Int) < 0) = false := by simp
            have t3 : decide ((L : Int) > (L : Int)) = false := by simp
            simp only [Instr.makeSlice, Sem.run_bind, run_underlying hu, Result.andThen_ok, asInt, asIntOf, Sem.run_pure, hinfo, hwrap, t1, t2, t3, Bool.false_or, Bool.or_false, decide_false, Bool.false_eq_true, if_false, run_askRoom, Sem.run_ite, sizeOf, Int.toNat_natCast]
            by_cases h0 : L * i.size = 0
            · simp only [h0, if_true, Result.andThen_ok]
              have := hcells #[] (.inl h0)
              rw [h0] at this
              simp only [newRow, Sem.run_bind, run_newObj, Result.andThen_ok, Sem.run_pure]
              rw [this]; rfl
            · simp only [h0, if_false, Sem.run_bind, run_zeroP hz ρ κ, Result.andThen_ok, SA.den_cells]
              have := hcells _ (.inr rfl)
              simp only [newRow, Sem.run_bind, run_newObj, Result.andThen_ok, Sem.run_pure]
              rw [this]; rfl
          have hlen : (ρ.a n).length = L := by rw [ha, hL]; simp
          have hown : (w.alloc (.cells (arrCells pat (ρ.a n)).toArray E)).ownsRow base.b E pat.length (.slice (some ⟨w.heap.size, 0, none⟩) L L) (ρ.a n).length (arrCells pat (ρ.a n)) := by
            refine ⟨by rw [arrCells_length], .inr ⟨w.heap.size, L, _, by rw [hlen], Nat.le_trans base.le hb, heap_alloc_new w _, by omega, by simp only [maxLen]; omega, by simp [arrCells_length, hlen], ?_⟩⟩
            rw [← arrCells_length]; simp
          obtain ⟨k0, κ', k1, k2, k3⟩ := hH.newRow (s := .nil) (v := .slice none 0 0) hb hf rfl hown (World.grownBy_alloc w _ _) (by rw [hnl]; simp) (.inr rfl) (fun e => by rw [e] at hpl; simp at hpl; omega)
          refine ⟨κ', _, k1, ?_, k3, k0⟩
          simp only [SV.den, SA.den, SC.den, hL, hrun, Result.andThen_ok]
          rw [k2]
        · cases h
    · cases h
  · cases h

/-! ### a store into a row of the call's own, and a copy onto it -/
theorem rowCells_app : ∀ (p q : List CK) (R : List Dat), rowCells (p ++ q) R = rowCells p R ++ rowCells q (R.drop p.length)
  | [], q, R => by simp [rowCells]
  | k :: p, q, R => by
    simp only [List.cons_append, rowCells, rowCells_app p q R.tail, List.length_cons]
    congr 2
    cases R <;> simp
theorem rowCells_app2 : ∀ (p q : List CK) (R S : List Dat), p.length = R.length → rowCells (p ++ q) (R ++ S) = rowCells p R ++ rowCells q S
  | [], q, [], S, _ => by simp [rowCells]
  | k :: p, q, d :: R, S, h => by simp only [List.cons_append, rowCells, List.headD_cons, List.tail_cons, rowCells_app2 p q R S (by simpa using h)]
def ckLV (c q : Nat) (x : IE) : CK → LV
  | .int _ => .i (.sel c q x)
  | .bool => .b (.sel c q x)
  | .val => .v (.axs c q x)
theorem ckLV_den {ρ : Env} {c q : Nat} {x : IE} (k : CK) : k.den ((ckLV c q x k).eval ρ) = k.den (ρ.at c q (x.den ρ)) := by
  cases k <;> simp only [ckLV, LV.eval, CK.den, IE.den, BE.den, SC.den, Dat.int, Dat.bool, Dat.val]
/-- row x of array c, from place q on -/
def selLVs (c : Nat) (x : IE) : Nat → List CK → List LV
  | _, [] => []
  | q, k :: p => ckLV c q x k :: selLVs c x (q + 1) p
theorem selLVs_length (c : Nat) (x : IE) : ∀ (p : List CK) (q : Nat), (selLVs c x q p).length = p.length
  | [], _ => rfl
  | _ :: p, q => by simp [selLVs, selLVs_length c x p]
theorem selLVs_cells {ρ : Env} {c : Nat} {x : IE} : ∀ (p : List CK) (q : Nat) (R : List Dat), (∀ i, ρ.at c (q + i) (x.den ρ) = R.getD i (.i 0)) → rowCells p (LV.evalL ρ (selLVs c x q p)) = rowCells p R
  | [], _, _, _ => rfl
  | k :: p, q, R, h => by
    simp only [selLVs, LV.evalL, rowCells, List.headD_cons, List.tail_cons]
    rw [selLVs_cells p (q + 1) R.tail (fun i => by rw [show q + 1 + i = q + (i + 1) by omega, h (i + 1)]; cases R <;> simp), ckLV_den k]
    have := h 0
    rw [Nat.add_zero] at this
    rw [this]
    cases R <;> simp
theorem evalL_length (ρ : Env) (l : List LV) : (LV.evalL ρ l).length = l.length := by rw [LV.evalL_eq]; simp
theorem evalL_append (ρ : Env) (l r : List LV) : LV.evalL ρ (l ++ r) = LV.evalL ρ l ++ LV.evalL ρ r := by simp only [LV.evalL_eq, List.map_append]
theorem rowLV_length : ∀ {p : List CK} {l : List SC} {r : List LV}, rowLV p l = some r → r.length = p.length
  | [], [], r, h => by simp [rowLV] at h; subst h; rfl
  | [], _ :: _, r, h => by simp [rowLV] at h
  | _ :: _, [], r, h => by simp [rowLV] at h
  | k :: p, s :: l, r, h => by
    unfold rowLV at h
    split at h
    · rename_i v r' _ hr; cases h; simp [rowLV_length hr]
    · cases h
theorem arrCells_take (p : List CK) (l : List (List Dat)) {X : Nat} (h : X ≤ l.length) : arrCells p (l.take X) = (arrCells p l).take (X * p.length) := by
  have e : arrCells p l = arrCells p (l.take X) ++ arrCells p (l.drop X) := by rw [← arrCells_append, List.take_append_drop]
  have hl : (arrCells p (l.take X)).length = X * p.length := by rw [arrCells_length, List.length_take, Nat.min_eq_left h]
  rw [e, List.take_append_of_le_length (by omega)]; exact (List.take_of_length_le (by omega)).symm
theorem arrCells_drop (p : List CK) (l : List (List Dat)) {X : Nat} (h : X ≤ l.length) : arrCells p (l.drop X) = (arrCells p l).drop (X * p.length) := by
  have e : arrCells p l = arrCells p (l.take X) ++ arrCells p (l.drop X) := by rw [← arrCells_append, List.take_append_drop]
  have hl : (arrCells p (l.take X)).length = X * p.length := by rw [arrCells_length, List.length_take, Nat.min_eq_left h]
  rw [e, List.drop_append_of_le_length (by omega)]
  have : (arrCells p (l.take X)).drop (X * p.length) = [] := List.drop_of_length_le (by omega)
  rw [this]; rfl
theorem splice_eq {α : Type} {A1 R1 R2 R3 V A3 : List α} (hv : V.length = R2.length) :
    A1 ++ ((R1 ++ (V ++ R3)) ++ A3) = (A1 ++ ((R1 ++ (R2 ++ R3)) ++ A3)).take (A1.length + R1.length) ++ V ++ (A1 ++ ((R1 ++ (R2 ++ R3)) ++ A3)).drop (A1.length + R1.length + V.length) := by
  have e : A1 ++ ((R1 ++ (R2 ++ R3)) ++ A3) = (A1 ++ R1) ++ (R2 ++ (R3 ++ A3)) := by simp
  rw [e, List.take_left' (by simp), ← List.drop_drop, List.drop_left' (by simp), hv, List.drop_left' rfl]
  simp
/-- what such an operation does: row j turns to ct -/
def DoesTurn (ρ : Env) (κ : Kap) (base : Bk) (H : Heap) (w : World) (r : Result Next) (j : Nat) (ct : AE) (v : SV) : Prop :=
  ∃ c pat E, H.arr? j = some (c, pat, some E) ∧ ∃ w', (r = .ok (.value (v.den ρ κ)) w' ∨ (r = .ok .skip w' ∧ v.den ρ κ = undef)) ∧ ∀ n, ρ.a n = ct.den ρ → HeapOk ρ κ base (H.turnA j n) w' ∧ Kept base w w'
def xset (P : Program) (H : Heap) (t : TypeId) (p : SC) (s : SA) : Option (List BE × Nat × AE) :=
  match p with
  | .aptr j z f x => match H.arr? j, sizeP P t with
    | some (c, pat, some _), some sz => bif (Nat.beq z pat.length && Nat.beq sz s.cells.length) && Nat.ble (f + sz) pat.length then match rowLV ((pat.drop f).take sz) s.cells with
        | some vs => some (needLeq (.lit 0) x ++ needLss x (.alen c), j, .set c x (selLVs c x 0 (pat.take f) ++ (vs ++ selLVs c x (f + sz) (pat.drop (f + sz)))))
        | none => none
      else none
    | _, _ => none
  | _ => none
theorem xset_sound {P : Program} {ρ : Env} {κ : Kap} {base : Bk} {H : Heap} {w : World} (hH : HeapOk ρ κ base H w) {t : TypeId} {p : SC} {s : SA} {ns : List BE} {j : Nat} {ct : AE} (h : xset P H t p s = some (ns, j, ct)) (hn : ∀ p ∈ ns, p.den ρ = true) :
    ∃ c pat E, H.arr? j = some (c, pat, some E) ∧ ∃ w', (Instr.storeAt t (p.den ρ κ) (s.den ρ κ)).run P w = .ok () w' ∧ ∀ n, ρ.a n = ct.den ρ → HeapOk ρ κ base (H.turnA j n) w' ∧ Kept base w w' := by
  unfold xset at h
  split at h
  · rename_i j1 z f x
    split at h
    · rename_i c pat E sz ha hsz
      cases hb : ((Nat.beq z pat.length && Nat.beq sz s.cells.length) && Nat.ble (f + sz) pat.length)
      · rw [hb] at h; cases h
      · rw [hb] at h; simp only [cond_true] at h
        simp only [Bool.and_eq_true, Nat.beq_eq, Nat.ble_eq] at hb
        obtain ⟨⟨rfl, rfl⟩, hfl⟩ := hb
        split at h
        · rename_i vs hvs
          cases h
          obtain ⟨n1, n2⟩ := forall_append hn
          have m1 := needLeq_den n1
          have m2 := needLss_den n2
          simp only [IE.den] at m1 m2
          generalize hX : (x.den ρ).toNat = X
          have hXl : X < (ρ.a c).length := by omega
          obtain ⟨r1, r2, r3⟩ := hH.row _ c pat E ha
          have hnlf : ρ.nl j = false := by
            cases hq : ρ.nl j
            · rfl
            · have := (hH.arr _ c pat _ ha).2 hq; rw [this] at hXl; simp at hXl
          rcases r2.2 with ⟨e1, _⟩ | ⟨g, cap, cur, hv, hbg, hg, hnc, hcm, hcs, htake⟩
          · simp [rowVal, hnlf] at e1
          · have hgb : κ.ab j = g := by simp [rowVal, hnlf] at hv; exact hv.1
            have hw : w.heap[κ.ab j]? = some (.cells cur E (0, 0)) := by rw [hgb]; exact hg
            have hroom : (ρ.a c).length * pat.length ≤ cap * pat.length := Nat.mul_le_mul_right _ hnc
            have hXm : X * pat.length + pat.length ≤ (ρ.a c).length * pat.length := by
              rw [show X * pat.length + pat.length = (X + 1) * pat.length by rw [Nat.add_mul]; omega]; exact Nat.mul_le_mul_right _ hXl
            have hst := run_storeCells_cells (P := P) (κ.ab j) (X * pat.length + f) (s.cells.map (SC.den ρ κ)) 0 w (fun i hi => by simp at hi; rw [cell_of_row w _ _ _ _ _ hw]; simp; omega) (fun i _ => by simp [World.frozen?, hw])
              (fun v hv => by obtain ⟨y, _, rfl⟩ := List.mem_map.1 hv; exact SC.den_one ρ κ y)
            simp only [Nat.add_zero] at hst
            refine ⟨c, pat, E, ha, w.setCells (κ.ab j) (X * pat.length + f) (s.cells.map (SC.den ρ κ)), ?_, fun n hct => ?_⟩
            · simp only [SC.den, r1, Nat.zero_add, hX, Instr.storeAt, Instr.sureAddr, Sem.run_bind, Sem.run_pure, Result.andThen_ok, storeVar, run_sizeP hsz, SA.den_cells]
              simp [hst]
            · have hrow : (ρ.a c)[X]? = some ((ρ.a c)[X]) := List.getElem?_eq_getElem hXl
              have hat : ∀ q, ρ.at c q (x.den ρ) = ((ρ.a c)[X]).getD q (.i 0) := fun q => by simp [Env.at, hX, List.getD_eq_getElem?_getD, hrow]
              simp only [AE.den, hX] at hct
              have hlen : (arrCells pat (ρ.a c)).length = (ρ.a c).length * pat.length := arrCells_length _ _
              refine hH.turnRow ha (by rw [hlen]; simp; omega) ?_ (by rw [hct]; simp)
              -- the parts of the array
              have hp : pat = pat.take f ++ ((pat.drop f).take s.cells.length ++ pat.drop (f + s.cells.length)) := by
                rw [← List.drop_drop, List.take_append_drop, List.take_append_drop]
              have l1 : (pat.take f).length = f := by simp; omega
              have l2 : ((pat.drop f).take s.cells.length).length = s.cells.length := by simp; omega
              generalize pat.take f = p1 at hp l1 hct ⊢
              generalize (pat.drop f).take s.cells.length = p2 at hp l2 hvs ⊢
              generalize pat.drop (f + s.cells.length) = p3 at hp hct ⊢
              have hnew : rowCells pat (LV.evalL ρ (selLVs c x 0 p1 ++ (vs ++ selLVs c x (f + s.cells.length) p3))) = rowCells p1 ((ρ.a c)[X]) ++ (s.cells.map (SC.den ρ κ) ++ rowCells p3 (((ρ.a c)[X]).drop (f + s.cells.length))) := by
                rw [hp, evalL_append, evalL_append, rowCells_app2 _ _ _ _ (by rw [evalL_length, selLVs_length]), rowCells_app2 _ _ _ _ (by rw [evalL_length, rowLV_length hvs])]
                rw [selLVs_cells _ 0 ((ρ.a c)[X]) (fun i => by rw [hat, Nat.zero_add]), rowLV_den (ρ := ρ) (κ := κ) hvs]
                congr 2
                exact selLVs_cells _ _ _ fun i => by rw [hat]; simp
              have hold : rowCells pat ((ρ.a c)[X]) = rowCells p1 ((ρ.a c)[X]) ++ (rowCells p2 (((ρ.a c)[X]).drop f) ++ rowCells p3 (((ρ.a c)[X]).drop (f + s.cells.length))) := by
                rw [hp, rowCells_app, rowCells_app, l1, l2, List.drop_drop]
              have hset : (ρ.a c).set X (LV.evalL ρ (selLVs c x 0 p1 ++ (vs ++ selLVs c x (f + s.cells.length) p3))) = (ρ.a c).take X ++ (LV.evalL ρ (selLVs c x 0 p1 ++ (vs ++ selLVs c x (f + s.cells.length) p3)) :: (ρ.a c).drop (X + 1)) := by
                rw [List.set_eq_take_append_cons_drop, if_pos hXl]
              have hA : arrCells pat (ρ.a c) = arrCells pat ((ρ.a c).take X) ++ (rowCells pat ((ρ.a c)[X]) ++ arrCells pat ((ρ.a c).drop (X + 1))) := by
                conv => lhs; rw [show ρ.a c = (ρ.a c).take X ++ ((ρ.a c)[X] :: (ρ.a c).drop (X + 1)) by simp]
                rw [arrCells_append]; rfl
              have hA1 : (arrCells pat ((ρ.a c).take X)).length = X * pat.length := by rw [arrCells_length, List.length_take, Nat.min_eq_left (by omega)]
              rw [hct, hset, arrCells_append]
              have hcons : ∀ (r : List Dat) (l : List (List Dat)), arrCells pat (r :: l) = rowCells pat r ++ arrCells pat l := fun _ _ => rfl
              rw [hcons, hnew, hA, hold]
              generalize hA1' : arrCells pat ((ρ.a c).take X) = A1 at hA1
              generalize hR1 : rowCells p1 ((ρ.a c)[X]) = R1
              generalize hR2 : rowCells p2 (((ρ.a c)[X]).drop f) = R2
              have k1 : R1.length = f := by rw [← hR1, rowCells_length, l1]
              have k2 : R2.length = s.cells.length := by rw [← hR2, rowCells_length, l2]
              generalize hvv : s.cells.map (SC.den ρ κ) = V
              have k3 : V.length = s.cells.length := by rw [← hvv]; simp
              rw [← hA1, ← k1]
              exact splice_eq (k3.trans k2.symm)
        · cases h
    · cases h
  · cases h
def xcopyR (P : Program) (H : Heap) (t u : TypeId) (d x : SV) : Option (List BE × Nat × AE × SV) :=
  match d, x, P.underlying t, P.underlying u with
  | .a (.c (.slice j s 0 x0 len _)), .a (.c x), some (.slice E), some (.slice _) => match H.arr? j, sizeP P E with
    | some (c, pat, some _), some sz => bif (Nat.beq s pat.length && Nat.beq pat.length sz) && Nat.blt 0 sz then match xnews H sz pat x with
        | some (ns, a, m) => some (ns ++ (needLeq (.lit 0) x0 ++ (needLeq m len ++ needLeq (mkPlus x0 len) (.alen c))), j, .put c x0 a, .c (.int .i64 m))
        | none => none
      else none
    | _, _ => none
  | _, _, _, _ => none
theorem xcopyR_sound {P : Program} {ρ : Env} {κ : Kap} {base : Bk} {H : Heap} {w : World} (hH : HeapOk ρ κ base H w) {t u ty : TypeId} {d x v : SV} {ns : List BE} {j : Nat} {ct : AE} (h : xcopyR P H t u d x = some (ns, j, ct, v)) (hn : ∀ p ∈ ns, p.den ρ = true) :
    DoesTurn ρ κ base H w (((Builtin.copy_ #[t, u] ty #[d.den ρ κ, x.den ρ κ]).run P w).andThen fun v w' => .ok (.value v) w') j ct v := by
  unfold xcopyR at h
  split at h
  · rename_i j1 s x0 len capE x E e' hu hu'
    split at h
    · rename_i c pat E' sz ha hsz
      cases hb : ((Nat.beq s pat.length && Nat.beq pat.length sz) && Nat.blt 0 sz)
      · rw [hb] at h; cases h
      · rw [hb] at h; simp only [cond_true] at h
        simp only [Bool.and_eq_true, Nat.beq_eq, Nat.blt_eq] at hb
        obtain ⟨⟨rfl, rfl⟩, hs0⟩ := hb
        split at h
        · rename_i ns' a m hx
          cases h
          obtain ⟨n1, n2⟩ := forall_append hn
          obtain ⟨n2, n3⟩ := forall_append n2
          obtain ⟨n3, n4⟩ := forall_append n3
          have m2 := needLeq_den n2
          have m3 := needLeq_den n3
          have m4 := needLeq_den n4
          simp only [IE.den, mkPlus_den] at m2 m4
          obtain ⟨c1, oa, cc, c2, c3⟩ := xnews_spec hH hx n1 rfl
          generalize hX : (x0.den ρ).toNat = X
          have hlen : (a.den ρ).length ≤ (len.den ρ).toNat := by omega
          have hfit : X + (a.den ρ).length ≤ (ρ.a c).length := by omega
          obtain ⟨r1, r2, r3⟩ := hH.row _ c pat E' ha
          have hA : (arrCells pat (ρ.a c)).length = (ρ.a c).length * pat.length := arrCells_length _ _
          have hV : (arrCells pat (a.den ρ)).length = (a.den ρ).length * pat.length := arrCells_length _ _
          have hmul : X * pat.length + (a.den ρ).length * pat.length ≤ (ρ.a c).length * pat.length := by rw [← Nat.add_mul]; exact Nat.mul_le_mul_right _ hfit
          have hturn : ∀ n, ρ.a n = (AE.put c x0 a).den ρ → HeapOk ρ κ base (H.turnA j n) (w.setCells (κ.ab j) (X * pat.length) (arrCells pat (a.den ρ))) ∧ Kept base w (w.setCells (κ.ab j) (X * pat.length) (arrCells pat (a.den ρ))) := by
            intro n hct
            simp only [AE.den, hX] at hct
            refine hH.turnRow ha (by rw [hA, hV]; exact hmul) ?_ (by rw [hct, putRows_length])
            rw [hct, putRows_eq hfit, arrCells_append, arrCells_append, arrCells_take pat _ (by omega), arrCells_drop pat _ (by omega), hV, Nat.add_mul]
          have hsrc : _root_.Go.Src P pat.length u (x.den ρ κ) (a.den ρ).length (arrCells pat (a.den ρ)) w := by
            rw [c2]
            cases oa with
            | none =>
              have h0 : a.den ρ = [] := List.eq_nil_of_length_eq_zero c3
              rw [h0]; exact _root_.Go.Src.ofNil w hu' cc
            | some ad => exact _root_.Go.Src.ofSlice w hu' ad _ cc _ hV c3 (arrCells_one _ _)
          have hl := hsrc.len w
          have hc := hsrc.cells
          have hmin : Nat.min (a.den ρ).length (len.den ρ).toNat = (a.den ρ).length := Nat.min_eq_left hlen
          refine ⟨c, pat, E', ha, w.setCells (κ.ab j) (X * pat.length) (arrCells pat (a.den ρ)), .inl ?_, hturn⟩
          have hres : (SV.a (.c (.int .i64 m))).den ρ κ = goInt (a.den ρ).length := by simp [SV.den, SA.den, SC.den, goInt, c1]
          rw [hres]
          simp only [SV.den, SA.den]
          generalize x.den ρ κ = Y at hl hc
          cases hq : ρ.nl j
          · rcases r2.2 with ⟨e1, _⟩ | ⟨g, cap, cur, hv, hbg, hg, hnc, hcm, hcs, htake⟩
            · simp [rowVal, hq] at e1
            · have hgb : κ.ab j = g := by simp [rowVal, hq] at hv; exact hv.1
              have hw : w.heap[κ.ab j]? = some (.cells cur E' (0, 0)) := by rw [hgb]; exact hg
              have hroom : (ρ.a c).length * pat.length ≤ cap * pat.length := Nat.mul_le_mul_right _ hnc
              have hst := run_storeCells_cells (P := P) (κ.ab j) (X * pat.length) (arrCells pat (a.den ρ)) 0 w (fun i hi => by rw [cell_of_row w _ _ _ _ _ hw]; simp; omega) (fun i _ => by simp [World.frozen?, hw]) (arrCells_one _ _)
              simp only [Nat.add_zero] at hst
              simp [Builtin.copy_, run_underlying hu, run_sizeP hsz, hl, hmin, hc, SC.den, slAddr, hq, r1, hX, hst]
          · have h0 : ρ.a c = [] := (hH.arr _ c pat _ ha).2 hq
            have h1 : a.den ρ = [] := List.eq_nil_of_length_eq_zero (by rw [h0, List.length_nil] at hfit; omega)
            have h2 : arrCells pat (a.den ρ) = [] := by rw [h1]; rfl
            rw [h2] at hc ⊢
            rw [h1] at hl hc hmin ⊢
            simp only [List.length_nil] at hl hc
            clear hmin
            simp [Builtin.copy_, run_underlying hu, run_sizeP hsz, hl, hc, SC.den, slAddr, hq, World.setCells]
        · cases h
    · cases h
  · cases h
end Go.SX

/- SyF0: strings of bytes: from a slice of bytes; when two are equal. -/
set_option linter.unusedSimpArgs false
set_option linter.unusedVariables false
set_option linter.unusedSectionVars false
noncomputable section
namespace Go.SX
open Go Go.RowKit

/-- surely a byte -/
def inb : IE → Bool
  | .lit (.ofNat n) => Nat.blt n 256
  | .conv .u8 _ => true
  | .bin .add .u8 _ _ | .bin .sub .u8 _ _ | .bin .mul .u8 _ _ => true
  | _ => false
theorem wrap_u8 (n : Int) : 0 ≤ IntKind.u8.wrap n ∧ IntKind.u8.wrap n < 256 := by
  simp only [IntKind.wrap, IntKind.bits, IntKind.signed]; simp; omega
theorem inb_den {e : IE} (h : inb e = true) (ρ : Env) : 0 ≤ e.den ρ ∧ e.den ρ < 256 := by
  unfold inb at h
  split at h <;> first | (cases h; done) | skip
  · rw [Nat.blt_eq] at h; simp only [IE.den]; exact ⟨by simp, by simp; omega⟩
  all_goals (simp only [IE.den, bi]; exact wrap_u8 _)
def byteNeed (e : IE) : List BE := bif inb e then [] else needLeq (.lit 0) e ++ needLss e (.lit 256)
theorem byteNeed_den {ρ : Env} {e : IE} (h : ∀ p ∈ byteNeed e, p.den ρ = true) : 0 ≤ e.den ρ ∧ e.den ρ < 256 := by
  unfold byteNeed at h
  cases hq : inb e
  · rw [hq] at h; simp only [cond_false] at h
    obtain ⟨h1, h2⟩ := forall_append h
    have := needLeq_den h1; have := needLss_den h2
    simp only [IE.den] at *; omega
  · exact inb_den hq ρ
def byteNeeds : List IE → List BE
  | [] => []
  | e :: l => byteNeed e ++ byteNeeds l
theorem byteNeeds_den {ρ : Env} : ∀ {l : List IE}, (∀ p ∈ byteNeeds l, p.den ρ = true) → ∀ e ∈ l, 0 ≤ e.den ρ ∧ e.den ρ < 256
  | [], _, _, h => by cases h
  | x :: l, h, e, he => by
    obtain ⟨h1, h2⟩ := forall_append h
    rcases List.mem_cons.1 he with rfl | he
    · exact byteNeed_den h1
    · exact byteNeeds_den h2 e he
theorem u8_eq {a b : Int} (ha : 0 ≤ a ∧ a < 256) (hb : 0 ≤ b ∧ b < 256) : (UInt8.ofNat a.toNat == UInt8.ofNat b.toNat) = (a == b) := by
  rw [Bool.eq_iff_iff, beq_iff_eq, beq_iff_eq]
  constructor
  · intro h
    have := congrArg UInt8.toNat h
    simp only [UInt8.toNat_ofNat'] at this
    rw [Nat.mod_eq_of_lt (by omega), Nat.mod_eq_of_lt (by omega)] at this
    omega
  · rintro rfl; rfl
def u8s (l : List Int) : List UInt8 := l.map fun n => UInt8.ofNat n.toNat
theorem u8s_eq : ∀ {a b : List Int}, (∀ x ∈ a, 0 ≤ x ∧ x < 256) → (∀ x ∈ b, 0 ≤ x ∧ x < 256) → (u8s a == u8s b) = (a == b)
  | [], [], _, _ => rfl
  | [], _ :: _, _, _ => rfl
  | _ :: _, [], _, _ => rfl
  | x :: a, y :: b, ha, hb => by
    have h1 := u8_eq (ha x (List.mem_cons_self ..)) (hb y (List.mem_cons_self ..))
    have h2 := u8s_eq (a := a) (b := b) (fun z hz => ha z (List.mem_cons_of_mem _ hz)) (fun z hz => hb z (List.mem_cons_of_mem _ hz))
    simp only [u8s, List.map_cons] at h2 ⊢
    rw [List.cons_beq_cons, List.cons_beq_cons, h1, h2]
/-- the bytes, where their number is known -/
def bytesIE : SC → Option (List IE)
  | .str l => some l
  | .lit (.string s) => some (s.data.toList.map fun b => .lit (.ofNat b.toNat))
  | _ => none
theorem bytesIE_den {s : SC} {l : List IE} (h : bytesIE s = some l) (ρ : Env) (κ : Kap) : s.den ρ κ = bytesOf (l.map (IE.den ρ)) := by
  unfold bytesIE at h
  split at h
  · cases h; simp only [SC.den]
  · cases h
    rename_i s
    simp only [SC.den, bigCell, Value.oneCell', if_true, bytesOf, List.map_map]
    congr 1
    cases s with
    | mk d =>
      congr 1
      apply Array.toList_inj.1
      simp only [List.toList_toArray]
      apply List.ext_getElem
      · simp
      · intro i h1 h2; simp [IE.den]
  · cases h
def eqAll : List IE → List IE → BE
  | a :: l, b :: r => mkAnd (mkCmp .eql a b) (eqAll l r)
  | [], [] => .lit true
  | _, _ => .lit false
theorem eqAll_den (ρ : Env) : ∀ (l r : List IE), (eqAll l r).den ρ = (l.map (IE.den ρ) == r.map (IE.den ρ))
  | [], [] => rfl
  | [], _ :: _ => rfl
  | _ :: _, [] => rfl
  | a :: l, b :: r => by simp only [eqAll, mkAnd_den, mkCmp_den, bc, List.map_cons, List.cons_beq_cons, eqAll_den ρ l r]
def selsFrom (c : Nat) (x : IE) : Nat → Nat → List IE
  | _, 0 => []
  | i, n + 1 => .sel c 0 (mkPlus x (.lit (.ofNat i))) :: selsFrom c x (i + 1) n
def orNeeds (p : BE) : List BE → List BE
  | [] => []
  | q :: l => mkOr p q :: orNeeds p l
theorem orNeeds_den {ρ : Env} {p : BE} (hp : p.den ρ = false) : ∀ {l : List BE}, (∀ q ∈ orNeeds p l, q.den ρ = true) → ∀ q ∈ l, q.den ρ = true
  | [], _, _, h => by cases h
  | x :: l, h, q, hq => by
    rcases List.mem_cons.1 hq with rfl | hq
    · have := h _ (List.mem_cons_self ..); rw [mkOr_den, hp] at this; simpa using this
    · exact orNeeds_den hp (fun q hq => h q (List.mem_cons_of_mem _ hq)) q hq
theorem selsFrom_den {ρ : Env} {c : Nat} {x : IE} (hx : 0 ≤ x.den ρ) : ∀ (n i : Nat), (x.den ρ).toNat + i + n ≤ (ρ.a c).length →
    (selsFrom c x i n).map (IE.den ρ) = (((ρ.a c).drop ((x.den ρ).toNat + i)).take n).map fun r => (r.getD 0 (.i 0)).int
  | 0, i, _ => by simp [selsFrom]
  | n + 1, i, h => by
    have ih := selsFrom_den (c := c) hx n (i + 1) (by omega)
    have hlt : (x.den ρ).toNat + i < (ρ.a c).length := by omega
    rw [List.drop_eq_getElem_cons hlt, List.take_succ_cons, List.map_cons]
    simp only [selsFrom, List.map_cons, ih, IE.den, mkPlus_den, Env.at]
    have e : (x.den ρ + Int.ofNat i).toNat = (x.den ρ).toNat + i := by simp; omega
    rw [e]
    simp [List.getD_eq_getElem?_getD, hlt]
    simp [Nat.add_assoc]
theorem SC.den_strA (c : Nat) (x len : IE) (ρ : Env) (κ : Kap) : (SC.strA c x len).den ρ κ = bytesOf ((((ρ.a c).drop (x.den ρ).toNat).take (len.den ρ).toNat).map fun r => (r.getD 0 (.i 0)).int) := by simp only [SC.den]
/-- whether two strings are equal -/
def xstrEq (x y : SC) : Option (List BE × BE) :=
  match bytesIE x, bytesIE y, x, y with
  | some l, some r, _, _ => bif Nat.beq l.length r.length then some (byteNeeds l ++ byteNeeds r, eqAll l r) else some (byteNeeds l ++ byteNeeds r, .lit false)
  | some l, none, _, .strA c x len =>
    let p := mkCmp .eql len (.lit (.ofNat l.length))
    let q := selsFrom c x 0 l.length
    some (needLeq (.lit 0) x ++ (needLeq (.lit 0) len ++ (needLeq (mkPlus x len) (.alen c) ++ (byteNeeds l ++ orNeeds (mkNot p) (byteNeeds q)))), mkAnd p (eqAll l q))
  | _, _, _, _ => none
theorem xstrEq_sound {x y : SC} {ns : List BE} {b : BE} (h : xstrEq x y = some (ns, b)) {ρ : Env} {κ : Kap} (hn : ∀ p ∈ ns, p.den ρ = true) :
    ∃ s t : List Int, x.den ρ κ = bytesOf s ∧ y.den ρ κ = bytesOf t ∧ b.den ρ = (u8s s == u8s t) := by
  unfold xstrEq at h
  split at h
  · rename_i l r hl hr
    refine ⟨_, _, bytesIE_den hl ρ κ, bytesIE_den hr ρ κ, ?_⟩
    have key : (∀ p ∈ byteNeeds l ++ byteNeeds r, p.den ρ = true) → (u8s (l.map (IE.den ρ)) == u8s (r.map (IE.den ρ))) = (l.map (IE.den ρ) == r.map (IE.den ρ)) := fun hn => by
      obtain ⟨n1, n2⟩ := forall_append hn
      exact u8s_eq (fun x hx => by obtain ⟨e, he, rfl⟩ := List.mem_map.1 hx; exact byteNeeds_den n1 e he) (fun x hx => by obtain ⟨e, he, rfl⟩ := List.mem_map.1 hx; exact byteNeeds_den n2 e he)
    cases hq : Nat.beq l.length r.length
    · rw [hq] at h; simp only [cond_false] at h; cases h
      rw [key hn]
      symm; simp only [BE.den, beq_eq_false_iff_ne]
      intro e
      have := congrArg List.length e
      simp at this
      exact beq_false hq this
    · rw [hq] at h; simp only [cond_true] at h; cases h
      rw [key hn, eqAll_den]
  · rename_i l c x len hl _
    cases h
    obtain ⟨n1, n2⟩ := forall_append hn
    obtain ⟨n2, n3⟩ := forall_append n2
    obtain ⟨n3, n4⟩ := forall_append n3
    obtain ⟨n4, n5⟩ := forall_append n4
    have m1 := needLeq_den n1
    have m2 := needLeq_den n2
    have m3 := needLeq_den n3
    simp only [IE.den, mkPlus_den] at m1 m2 m3
    refine ⟨_, _, bytesIE_den hl ρ κ, SC.den_strA c x len ρ κ, ?_⟩
    have hp := mkCmp_den ρ .eql len (.lit (.ofNat l.length))
    simp only [bc, IE.den] at hp
    rw [mkAnd_den]
    by_cases he : len.den ρ = Int.ofNat l.length
    · have hpt : (mkCmp .eql len (.lit (.ofNat l.length))).den ρ = true := by rw [hp]; simpa using he
      rw [hpt, Bool.true_and, eqAll_den]
      have hlen : (len.den ρ).toNat = l.length := by rw [he]; rfl
      have hs := selsFrom_den (ρ := ρ) (c := c) (x := x) m1 l.length 0 (by omega)
      rw [Nat.add_zero] at hs
      have nq := byteNeeds_den (orNeeds_den (by rw [mkNot_den, hpt]; rfl) n5)
      rw [hlen, ← hs]
      symm
      exact u8s_eq (fun x hx => by obtain ⟨e, he, rfl⟩ := List.mem_map.1 hx; exact byteNeeds_den n4 e he) (fun x hx => by obtain ⟨e, he, rfl⟩ := List.mem_map.1 hx; exact nq e he)
    · have hpf : (mkCmp .eql len (.lit (.ofNat l.length))).den ρ = false := by rw [hp]; simpa using he
      rw [hpf, Bool.false_and]
      symm; rw [beq_eq_false_iff_ne]
      intro e
      have := congrArg List.length e
      simp only [u8s, List.length_map, List.length_take, List.length_drop] at this
      apply he
      have : len.den ρ = ((len.den ρ).toNat : Int) := by omega
      rw [this]
      simp only [Int.ofNat_eq_natCast]
      omega
  · cases h
def xbinS (op : BinOp) (x y : SV) : XV := match x, y with
  | .a (.c x), .a (.c y) => match xstrEq x y with
    | some (ns, b) => (eqv op b).map fun v => (ns, v)
    | none => match xstrEq y x with
      | some (ns, b) => (eqv op b).map fun v => (ns, v)
      | none => none
  | _, _ => none
theorem run_bytesEq {P : Program} {ρ : Env} {κ : Kap} (w : World) {op : BinOp} (t : TypeId) (X Y : Operand) {b : BE} {v : SV} (hv : eqv op b = some v) {s u : List Int} (hb : b.den ρ = (u8s s == u8s u)) :
    (do eqGuard op t X Y (bytesOf s) (bytesOf u); binOp op t (bytesOf s) (bytesOf u)).run P w = .ok (v.den ρ κ) w := by
  have e : ∀ l : List Int, (ByteArray.mk (l.map fun n => UInt8.ofNat n.toNat).toArray).toList = u8s l := fun l => ByteArray.toList_mk _
  rcases eqv_den (ρ := ρ) (κ := κ) hv with ⟨rfl, hd⟩ | ⟨rfl, hd⟩
  · rw [hd, hb]; simp only [bytesOf, eqGuard, binOp_string_eql, e]; simp
  · rw [hd, hb]; simp only [bytesOf, eqGuard, binOp_string_neq, e]; simp
theorem xbinS_sound {P : Program} {ρ : Env} {κ : Kap} (w : World) {op : BinOp} {t : TypeId} {X Y : Operand} {x y : SV} {ns : List BE} {s : SV} (h : xbinS op x y = some (ns, s)) (hn : ∀ p ∈ ns, p.den ρ = true) :
    (do eqGuard op t X Y (x.den ρ κ) (y.den ρ κ); binOp op t (x.den ρ κ) (y.den ρ κ)).run P w = .ok (s.den ρ κ) w := by
  unfold xbinS at h
  split at h
  · rename_i x y
    simp only [SV.den, SA.den]
    split at h
    · rename_i ns' b hs
      obtain ⟨v, hv, he⟩ := Option.map_eq_some_iff.1 h; cases he
      obtain ⟨a1, a2, e1, e2, e3⟩ := xstrEq_sound (κ := κ) hs hn
      rw [e1, e2]
      exact run_bytesEq w t X Y hv e3
    · split at h
      · rename_i ns' b hs
        obtain ⟨v, hv, he⟩ := Option.map_eq_some_iff.1 h; cases he
        obtain ⟨a1, a2, e1, e2, e3⟩ := xstrEq_sound (κ := κ) hs hn
        rw [e1, e2]
        refine run_bytesEq w t X Y hv ?_
        rw [e3, Bool.eq_iff_iff, beq_iff_eq, beq_iff_eq]; exact eq_comm
      · cases h
  · cases h

/-! ### a slice of bytes as a string -/
def intsOf : List SC → Option (List IE)
  | [] => some []
  | .int .u8 e :: l => (intsOf l).map (e :: ·)
  | _ => none
theorem intsOf_den {ρ : Env} {κ : Kap} : ∀ {l : List SC} {r : List IE}, intsOf l = some r → l.map (SC.den ρ κ) = (r.map (IE.den ρ)).map (Value.int .u8)
  | [], _, h => by cases h; rfl
  | s :: l, r, h => by
    unfold intsOf at h
    split at h
    · rename_i heq; cases heq
    · rename_i e l' heq
      cases heq
      obtain ⟨q, hq, rfl⟩ := Option.map_eq_some_iff.1 h
      simp only [List.map_cons, intsOf_den hq, SC.den]
    · cases h
def xstr (P : Program) (H : Heap) (src dst : TypeId) (x : SV) : XV :=
  match P.underlying src, P.underlying dst, x with
  | some (.slice e), some .string, .a (.c x) => match P.underlying e with
    | some (.int .u8) => match x with
      | .lit (.slice none 0 0) => some ([], .c (.str []))
      | .oslice id off len _ | .gslice id off len _ => match H.own? id with
        | some (cs, _) => bif Nat.beq ((cs.drop off).take len).length len then (intsOf ((cs.drop off).take len)).map fun l => ([], .c (.str l)) else none
        | none => none
      | .slice j 1 0 x len _ => match H.arr? j with
        | some (c, [.int .u8], _) => some (needLeq (.lit 0) x ++ (needLeq (.lit 0) len ++ needLeq (mkPlus x len) (.alen c)), .c (.strA c x len))
        | _ => none
      | _ => none
    | _ => none
  | _, _, _ => none
theorem foldl_push (ns : List Int) (s : ByteArray) : ns.foldl (fun r n => r.push (UInt8.ofNat n.toNat)) s = ⟨(s.data.toList ++ u8s ns).toArray⟩ := by
  induction ns generalizing s with
  | nil => simp [u8s]
  | cons n ns ih =>
    simp only [List.foldl_cons, ih, u8s, List.map_cons]
    cases s; simp [ByteArray.push]
theorem run_str {P : Program} {w : World} {src dst e : TypeId} {a : Addr} {l c : Nat} (hs : P.underlying src = some (.slice e)) (he : P.underlying e = some (.int .u8)) (hd : P.underlying dst = some .string) {ns : List Int}
    (h : (loadCells a l).run P w = .ok (ns.map (Value.int .u8)).toArray w) : (convert src dst (.slice (some a) l c)).run P w = .ok (bytesOf ns) w := by
  rw [run_convert_bytes_string w src dst e _ _ _ hs he hd, run_bytesToString w a l c ns h, foldl_push]
  rfl
theorem run_loadCells_range {P : Program} {w : World} {b o : Nat} {l : List Value} (h : w.rangeAt b o l) : (loadCells ⟨b, o, none⟩ l.length).run P w = .ok l.toArray w :=
  run_loadCells_list w _ l fun j v hv => by rw [Addr.add_mid]; exact h j v hv
theorem xstr_sound {P : Program} {ρ : Env} {κ : Kap} {base : Bk} {H : Heap} {w : World} (hH : HeapOk ρ κ base H w) {src dst : TypeId} {x : SV} {ns : List BE} {s : SV} (h : xstr P H src dst x = some (ns, s)) (hn : ∀ p ∈ ns, p.den ρ = true) :
    (convert src dst (x.den ρ κ)).run P w = .ok (s.den ρ κ) w := by
  unfold xstr at h
  split at h
  · rename_i e x hs hd
    have own : ∀ (id off len : Nat) (capv : Nat) (cs : List SC) (ty : TypeId), H.own? id = some (cs, ty) → (bif Nat.beq ((cs.drop off).take len).length len then (intsOf ((cs.drop off).take len)).map fun l => (([] : List BE), SV.c (.str l)) else none) = some (ns, s) → P.underlying e = some (.int .u8) →
        (convert src dst (.slice (some ⟨κ.o id, off, none⟩) len capv)).run P w = .ok (s.den ρ κ) w := by
      intro id off len capv cs ty ho h he
      cases hq : Nat.beq ((cs.drop off).take len).length len
      · rw [hq] at h; cases h
      · rw [hq] at h; simp only [cond_true] at h
        rw [Nat.beq_eq] at hq
        obtain ⟨l, hl, hh⟩ := Option.map_eq_some_iff.1 h; cases hh
        have hr := hH.range ho hq
        rw [intsOf_den hl] at hr
        have := run_loadCells_range (P := P) hr
        simp only [List.length_map] at this
        have hll : l.length = len := by
          have := congrArg List.length (intsOf_den (ρ := ρ) (κ := κ) hl); simp only [List.length_map] at this; omega
        rw [hll] at this
        rw [run_str hs he hd this]
        simp only [SV.den, SA.den, SC.den]
    split at h
    · rename_i he
      split at h
      · cases h
        simp only [SV.den, SA.den, SC.den, bigCell, Value.oneCell', if_true, List.map_nil, bytesOf]
        rw [run_convert_bytes_string w src dst e _ _ _ hs he hd]
        simp only [Conv.bytesToString, Sem.run_pure]
        rfl
      · rename_i id off len cap
        split at h
        · rename_i cs ty ho
          simp only [SV.den, SA.den, SC.den]
          exact own id off len _ cs ty ho h he
        · cases h
      · rename_i id off len cap
        split at h
        · rename_i cs ty ho
          simp only [SV.den, SA.den, SC.den]
          exact own id off len _ cs ty ho h he
        · cases h
      · rename_i j x len cap
        split at h
        · rename_i c o ha
          cases h
          obtain ⟨n1, n2⟩ := forall_append hn
          obtain ⟨n2, n3⟩ := forall_append n2
          have m1 := needLeq_den n1
          have m2 := needLeq_den n2
          have m3 := needLeq_den n3
          simp only [IE.den, mkPlus_den] at m1 m2 m3
          obtain ⟨a1, a2⟩ := hH.arr j c _ o ha
          simp only [SV.den, SA.den, SC.den, slAddr, Nat.mul_one, Nat.add_zero]
          cases hnl : ρ.nl j
          · simp only [Bool.false_eq_true, if_false]
            have hlen : (((ρ.a c).drop (x.den ρ).toNat).take (len.den ρ).toNat).length = (len.den ρ).toNat := by simp; omega
            refine run_str hs he hd ?_
            have hr : w.rangeAt (κ.ab j) (κ.ao j + (x.den ρ).toNat) (((((ρ.a c).drop (x.den ρ).toNat).take (len.den ρ).toNat).map fun r => (r.getD 0 (.i 0)).int).map (Value.int .u8)) := by
              intro q v hv
              simp only [List.getElem?_map, Option.map_eq_some_iff] at hv
              obtain ⟨_, ⟨r, hr, rfl⟩, rfl⟩ := hv
              rw [List.getElem?_take] at hr
              split at hr
              · rw [List.getElem?_drop] at hr
                have := a1 _ 0 r (.int .u8) hr rfl
                simp only [List.length_cons, List.length_nil, Nat.mul_one, Nat.add_zero, Nat.zero_add] at this
                rw [← Nat.add_assoc] at this
                exact this
              · cases hr
            have := run_loadCells_range (P := P) hr
            simp only [List.length_map, hlen] at this
            exact this
          · simp only [if_true]
            have h0 := a2 hnl
            rw [h0] at m3
            have hl0 : (len.den ρ).toNat = 0 := by simp at m3; omega
            rw [run_convert_bytes_string w src dst e _ _ _ hs he hd]
            simp only [Conv.bytesToString, Sem.run_pure, hl0, List.take_zero, List.map_nil, bytesOf]
            rfl
        · cases h
      · cases h
    · cases h
  · cases h
end Go.SX

/- SyF1: maps with keys of an integer kind; rows whose length is known: append, copy. -/
set_option linter.unusedSimpArgs false
set_option linter.unusedVariables false
set_option linter.unusedSectionVars false
noncomputable section
namespace Go.SX
open Go Go.RowKit

/-- what a new block's value is -/
inductive NP where
  | ptr
  | os (l c : Nat)
  | gs (l : Nat)
  | mref
def newPtr (n : Nat) : NP → SV
  | .ptr => .c (.ptr n 0)
  | .os l c => .c (.oslice n 0 l c)
  | .gs l => .c (.gslice n 0 l 0)
  | .mref => .c (.mref n)
/-- a choice: the first of these that holds -/
def altDen (ρ : Env) (κ : Kap) : List (BE × SV) → SV → Value
  | [], v => v.den ρ κ
  | (c, v) :: l, e => if c.den ρ = true then v.den ρ κ else altDen ρ κ l e
/-- A NEW BLOCK. -/
def DoesNew (ρ : Env) (κ : Kap) (base : Bk) (H : Heap) (w : World) (r : Result Next) (o : SObj) (np : NP) (src : Option Nat) : Prop :=
  ∀ n, H.Free (one n) → o.has (one n) = false → ∃ κ' w', KBut (one n) κ κ' ∧ r = .ok (.value ((newPtr n np).den ρ κ')) w' ∧ HeapOk ρ κ' base (.obj n o :: H.delS src) w' ∧ Kept base w w'
/-- WHAT TURNS STANDS. -/
def DoesUpd (ρ : Env) (κ : Kap) (base : Bk) (w : World) (r : Result Next) (H' : Heap) (v : SV) : Prop :=
  ∃ w', (r = .ok (.value (v.den ρ κ)) w' ∨ (r = .ok .skip w' ∧ v.den ρ κ = undef)) ∧ HeapOk ρ κ base H' w' ∧ Kept base w w'

/-! ### maps -/
def mapP (P : Program) (t : TypeId) : Option (IntKind × TypeId × TypeId) := match P.underlying t with
  | some (.map kt vt) => match P.underlying kt with
    | some (.int k) => some (k, kt, vt)
    | _ => none
  | _ => none
theorem mapP_spec {P : Program} {t : TypeId} {k : IntKind} {kt vt : TypeId} (h : mapP P t = some (k, kt, vt)) : P.underlying t = some (.map kt vt) ∧ P.underlying kt = some (.int k) := by
  unfold mapP at h
  split at h
  · rename_i a b hu
    split at h
    · rename_i q hk; cases h; exact ⟨hu, hk⟩
    · cases h
  · cases h
theorem run_getObjM {P : Program} {w : World} {r : Nat} {es : Array MapEntry} {clock : Nat} (hb : w.heap[r]? = some (.map es clock)) : (getObj r).run P w = .ok (.map es clock) w := by simp [getObj, Sem.run, hb]
theorem run_setObjM {P : Program} {w : World} {r : Nat} {es : Array MapEntry} {clock : Nat} (o : Obj) (hb : w.heap[r]? = some (.map es clock)) : (setObj r o).run P w = .ok () { w with heap := w.heap.setIfInBounds r o } := by simp [setObj, Sem.run, hb]
/-- the entry at a key -/
def findI (k : IntKind) (a : Int) : List (Value × Value) → Nat → Option (Nat × Value)
  | [], _ => none
  | (.int _ b, v) :: l, i => if a == b then some (i, v) else findI k a l (i + 1)
  | _ :: l, i => findI k a l (i + 1)
theorem findNow_int (k k' : IntKind) (a : Int) : ∀ (l : List MapEntry) (es : List (Int × Value)) (i : Nat), l.map (fun e => (e.key, e.val)) = es.map (fun e => (.int k e.1, e.2)) →
    Instr.findNow (.int k') (.int k a) l i = some (findI k a (es.map fun e => (.int k e.1, e.2)) i)
  | [], [], i, _ => rfl
  | [], _ :: _, _, h => by simp at h
  | _ :: _, [], _, h => by simp at h
  | e :: l, x :: es, i, h => by
    simp only [List.map_cons, List.cons.injEq, Prod.mk.injEq] at h
    obtain ⟨⟨h1, h2⟩, h3⟩ := h
    have ih := findNow_int k k' a l es (i + 1) h3
    simp only [Instr.findNow, h1, Instr.sameNow, if_true, List.map_cons, findI, ih, h2]
    cases a == x.1 <;> simp
theorem run_findKey {P : Program} {w : World} {kt : TypeId} {k : IntKind} (hk : P.underlying kt = some (.int k)) (a : Int) (l : List MapEntry) (es : List (Int × Value)) (h : l.map (fun e => (e.key, e.val)) = es.map (fun e => (.int k e.1, e.2))) :
    (Instr.findKey kt (.int k a) l).run P w = .ok (findI k a (es.map fun e => (.int k e.1, e.2)) 0) w := by
  simp only [Instr.findKey, Sem.run_bind, run_underlying hk, Result.andThen_ok, findNow_int k k a l es 0 h, Sem.run_pure]
theorem run_checkKey {P : Program} {w : World} {kt : TypeId} {k : IntKind} (hk : P.underlying kt = some (.int k)) (b : Bool) (n : Nat) (a : Int) : (Instr.checkKey b (n + 1) kt (.int k a)).run P w = .ok () w := by
  simp only [Instr.checkKey, Sem.run_bind, run_underlying hk, Result.andThen_ok, Sem.run_pure]
def esDen (ρ : Env) (κ : Kap) (es : List (IE × SA)) : List (Int × Value) := es.map fun e => (e.1.den ρ, e.2.den ρ κ)
theorem esDen_map (ρ : Env) (κ : Kap) (k : IntKind) (es : List (IE × SA)) : (esDen ρ κ es).map (fun e => (Value.int k e.1, e.2)) = es.map fun e => (.int k (e.1.den ρ), e.2.den ρ κ) := by
  simp [esDen, List.map_map, Function.comp_def]
theorem den_mref (id : Nat) (ρ : Env) (κ : Kap) : (SV.a (.c (.mref id))).den ρ κ = .map (some (κ.o id)) := by simp only [SV.den, SA.den, SC.den]
theorem den_int (k : IntKind) (e : IE) (ρ : Env) (κ : Kap) : (SV.a (.c (.int k e))).den ρ κ = .int k (e.den ρ) := by simp only [SV.den, SA.den, SC.den]
theorem den_a (s : SA) (ρ : Env) (κ : Kap) : (SV.a s).den ρ κ = s.den ρ κ := rfl
/-- what is at a key: by cases -/
def lookAlts (ok : Bool) (e : IE) : List (IE × SA) → List (BE × SV)
  | [] => []
  | (x, s) :: l => (mkCmp .eql e x, bif ok then .tup [s, .c (.bool (.lit true))] else .a s) :: lookAlts ok e l
def xlook (P : Program) (H : Heap) (t : TypeId) (m i : SV) (ok : Bool) : Option (List (BE × SV) × SV) :=
  match mapP P t, m, i with
  | some (k, _, vt), .a (.c m), .a (.c (.int k' e)) => match zeroP P vt with
    | some z => bif Nat.beq (kn k) (kn k') then
        let els : SV := bif ok then .tup [z, .c (.bool (.lit false))] else .a z
        match m with
        | .mref id => match H.obj? id with
          | some (.map k2 es) => bif Nat.beq (kn k) (kn k2) then some (lookAlts ok e es, els) else none
          | _ => none
        | .lit (.map none) => some ([], els)
        | _ => none
      else none
    | none => none
  | _, _, _ => none
theorem lookAlts_den {ρ : Env} {κ : Kap} (k : IntKind) (ok : Bool) (e : IE) (z : SA) : ∀ (es : List (IE × SA)) (i : Nat),
    altDen ρ κ (lookAlts ok e es) (bif ok then .tup [z, .c (.bool (.lit false))] else .a z) =
      (match findI k (e.den ρ) (es.map fun e => (.int k (e.1.den ρ), e.2.den ρ κ)) i with
        | some (_, v) => if ok = true then .tuple #[v, .bool true] else v
        | none => if ok = true then .tuple #[z.den ρ κ, .bool false] else z.den ρ κ)
  | [], i => by cases ok <;> simp [lookAlts, altDen, findI, SV.den, SA.den, SC.den, BE.den]
  | (x, s) :: es, i => by
    have ih := lookAlts_den (ρ := ρ) (κ := κ) k ok e z es (i + 1)
    simp only [lookAlts, altDen, mkCmp_den, bc, List.map_cons, findI]
    cases hq : (e.den ρ == x.den ρ)
    · simp only [Bool.false_eq_true, if_false]; exact ih
    · simp only [if_true]; cases ok <;> simp [SV.den, SA.den, SC.den, BE.den]
theorem xlook_sound {P : Program} {ρ : Env} {κ : Kap} {base : Bk} {H : Heap} {w : World} (hH : HeapOk ρ κ base H w) {t : TypeId} {m i : SV} {ok : Bool} {l : List (BE × SV)} {v : SV} (h : xlook P H t m i ok = some (l, v)) :
    (Instr.lookup t (m.den ρ κ) (i.den ρ κ) ok).run P w = .ok (altDen ρ κ l v) w := by
  unfold xlook at h
  split at h
  · rename_i k kt vt m k' e hm
    obtain ⟨u1, u2⟩ := mapP_spec hm
    split at h
    · rename_i z hz
      cases hq : Nat.beq (kn k) (kn k')
      · rw [hq] at h; cases h
      · rw [hq] at h; simp only [cond_true] at h
        have := kn_eq hq; subst this
        split at h
        · rename_i id
          split at h
          · rename_i k2 es ho
            cases hq2 : Nat.beq (kn k) (kn k2)
            · rw [hq2] at h; cases h
            · rw [hq2] at h; simp only [cond_true] at h; cases h
              have := kn_eq hq2; subst this
              obtain ⟨⟨b, hb, mp, clock, e1, e2⟩, _⟩ := hH.obj id _ ho
              subst e1
              have hf := run_findKey (P := P) (w := w) u2 (e.den ρ) mp.toList (esDen ρ κ es) (by rw [e2, esDen_map])
              rw [esDen_map] at hf
              rw [den_mref, den_int]
              simp only [Instr.lookup, Sem.run_bind, run_underlying u1, Result.andThen_ok, run_getObjM (P := P) hb, Sem.run_pure, run_checkKey u2 _ 9999, hf]
              have := lookAlts_den (ρ := ρ) (κ := κ) k ok e z es 0
              rw [this]
              cases findI k (e.den ρ) (es.map fun e => (.int k (e.1.den ρ), e.2.den ρ κ)) 0 with
              | none => simp [run_zeroP hz ρ κ]
              | some x => simp
          · cases h
        · cases h
          have hf := run_findKey (P := P) (w := w) u2 (e.den ρ) [] [] rfl
          simp only [SV.den, SA.den, SC.den, bigCell, Value.oneCell', if_true, Instr.lookup, Sem.run_bind, run_underlying u1, Result.andThen_ok, Sem.run_pure, run_checkKey u2 _ 9999, hf]
          simp only [List.map_nil, findI, Sem.run_bind, run_zeroP hz ρ κ, Result.andThen_ok, Sem.run_pure, altDen]
          cases ok <;> simp [SV.den, SA.den, SC.den, BE.den]
        · cases h
    · cases h
  · cases h
/-- an entry put in -/
def putE (e : IE) (s : SA) : List (IE × SA) → Option (List (IE × SA))
  | [] => some [(e, s)]
  | (x, u) :: l => match mkCmp .eql e x with
    | .lit true => some ((e, s) :: l)
    | .lit false => (putE e s l).map ((x, u) :: ·)
    | _ => none
theorem putE_den {ρ : Env} {κ : Kap} (k : IntKind) {e : IE} {s : SA} : ∀ {es r : List (IE × SA)} (i : Nat), putE e s es = some r →
    (∃ j v, findI k (e.den ρ) (es.map fun e => (.int k (e.1.den ρ), e.2.den ρ κ)) i = some (i + j, v) ∧ (es[j]?.map fun x => x.1.den ρ) = some (e.den ρ) ∧ r = es.set j (e, s)) ∨
      (findI k (e.den ρ) (es.map fun e => (.int k (e.1.den ρ), e.2.den ρ κ)) i = none ∧ r = es ++ [(e, s)])
  | [], _, i, h => by simp only [putE] at h; cases h; exact .inr ⟨rfl, rfl⟩
  | (x, u) :: es, r, i, h => by
    unfold putE at h
    have hc := mkCmp_den ρ .eql e x
    simp only [bc] at hc
    split at h
    · rename_i hq
      cases h
      rw [hq] at hc; simp only [BE.den] at hc
      refine .inl ⟨0, u.den ρ κ, by simp only [List.map_cons, findI, ← hc, if_true, Nat.add_zero], ?_, rfl⟩
      simp only [List.getElem?_cons_zero, Option.map_some, Option.some.injEq]
      have := eq_of_beq hc.symm; exact this.symm
    · rename_i hq
      obtain ⟨q, hq2, rfl⟩ := Option.map_eq_some_iff.1 h
      rw [hq] at hc; simp only [BE.den] at hc
      simp only [List.map_cons, findI, ← hc, Bool.false_eq_true, if_false]
      rcases putE_den (ρ := ρ) (κ := κ) k (i + 1) hq2 with ⟨j, v, e1, e2, rfl⟩ | ⟨e1, rfl⟩
      · exact .inl ⟨j + 1, v, by rw [e1]; congr 2; omega, by simpa using e2, rfl⟩
      · exact .inr ⟨e1, rfl⟩
    · cases h
def xput (P : Program) (H : Heap) (t : TypeId) (m i x : SV) : Option (Nat × SObj) :=
  match mapP P t, m, i, x with
  | some (k, _, _), .a (.c (.mref id)), .a (.c (.int k' e)), .a s => match H.obj? id with
    | some (.map k2 es) => bif Nat.beq (kn k) (kn k') && Nat.beq (kn k) (kn k2) then (putE e s es).map fun r => (id, .map k r) else none
    | _ => none
  | _, _, _, _ => none
theorem map_modify_pair (l : List MapEntry) (j : Nat) (key val : Value) : (l.modify j fun e => { e with key, val }).map (fun e => (e.key, e.val)) = (l.map fun e => (e.key, e.val)).modify j fun _ => (key, val) := by
  induction l generalizing j with
  | nil => cases j <;> simp
  | cons e l ih =>
    cases j with
    | zero => simp
    | succ j => simp [ih]
theorem modify_const {α : Type} (l : List α) (j : Nat) (x : α) : (l.modify j fun _ => x) = l.set j x := by
  induction l generalizing j with
  | nil => cases j <;> simp
  | cons e l ih => cases j <;> simp [ih]
theorem xput_sound {P : Program} {ρ : Env} {κ : Kap} {base : Bk} {H : Heap} {w : World} (hH : HeapOk ρ κ base H w) {t : TypeId} {m i x : SV} {id : Nat} {o : SObj} (h : xput P H t m i x = some (id, o)) :
    ∃ w', (Instr.mapUpdate t (m.den ρ κ) (i.den ρ κ) (x.den ρ κ)).run P w = .ok () w' ∧ HeapOk ρ κ base (H.setObj id o) w' ∧ Kept base w w' := by
  unfold xput at h
  split at h
  · rename_i k kt vt id' k' e s hm
    obtain ⟨u1, u2⟩ := mapP_spec hm
    split at h
    · rename_i k2 es ho
      cases hq : (Nat.beq (kn k) (kn k') && Nat.beq (kn k) (kn k2))
      · rw [hq] at h; cases h
      · rw [hq] at h; simp only [cond_true] at h
        simp only [Bool.and_eq_true] at hq
        obtain ⟨r, hr, he⟩ := Option.map_eq_some_iff.1 h; cases he
        have q1 := kn_eq hq.1; have q2 := kn_eq hq.2
        subst q1; subst q2
        obtain ⟨⟨b, hb, mp, clock, e1, e2⟩, e3, e4⟩ := hH.obj id _ ho
        subst e1
        have hf := run_findKey (P := P) (w := w) u2 (e.den ρ) mp.toList (esDen ρ κ es) (by rw [e2, esDen_map])
        rw [esDen_map] at hf
        -- whatever is set
        have fin : ∀ mp' clock', mp'.toList.map (fun e => (e.key, e.val)) = (r.map fun e => (Value.int k (e.1.den ρ), e.2.den ρ κ)) →
            HeapOk ρ κ base (H.setObj id (.map k r)) { w with heap := w.heap.setIfInBounds (κ.o id) (.map mp' clock') } ∧ Kept base w { w with heap := w.heap.setIfInBounds (κ.o id) (.map mp' clock') } := by
          intro mp' clock' hmp
          have hlt := hH.lt ho
          have hoth : ∀ j, j ≠ κ.o id → (w.heap.setIfInBounds (κ.o id) (.map mp' clock'))[j]? = w.heap[j]? := fun j hj => by
            rw [Array.getElem?_setIfInBounds_ne (Ne.symm hj)]
          refine ⟨hH.setObj ho (b := .map mp' clock') (by simp [hlt]) ⟨mp', clock', rfl, hmp⟩ hoth, ⟨⟨rfl, rfl, rfl, by simp, fun j hj => hoth j (by omega)⟩, fun j hj hp => hoth j (fun e => e4 (e ▸ hp))⟩⟩
        rw [den_mref, den_int, den_a]
        simp only [Instr.mapUpdate, Sem.run_bind, run_underlying u1, Result.andThen_ok, run_getObjM (P := P) hb, run_checkKey u2 _ 9999, hf]
        rcases putE_den (ρ := ρ) (κ := κ) k 0 hr with ⟨j, v, g1, g2, rfl⟩ | ⟨g1, rfl⟩
        · rw [g1]
          simp only [Nat.zero_add]
          have hlen : mp.toList.length = es.length := by have := congrArg List.length e2; simpa using this
          have hjl : j < es.length := by
            rcases Nat.lt_or_ge j es.length with h | h
            · exact h
            · rw [List.getElem?_eq_none h] at g2; cases g2
          have hkey : ((mp[j]?).map (·.key)).getD (.int k (e.den ρ)) = .int k (e.den ρ) := by
            have h1 := congrArg (fun l => l[j]?) e2
            simp only [List.getElem?_map] at h1
            rw [List.getElem?_eq_getElem hjl] at h1 g2
            simp only [Option.map_some, Option.some.injEq] at g2
            have : mp[j]? = mp.toList[j]? := by simp
            rw [this]
            cases hm2 : mp.toList[j]? with
            | none => rfl
            | some x => rw [hm2] at h1; simp at h1; simp [h1.1, g2]
          rw [hkey]
          simp only [Instr.keyThatStays, Instr.sameBits, beq_self_eq_true, Bool.and_self, if_true, Sem.run_bind, Sem.run_pure, Result.andThen_ok, run_setObjM (P := P) _ hb]
          obtain ⟨f1, f2⟩ := fin (mp.modify j fun e1 => { e1 with key := .int k (e.den ρ), val := s.den ρ κ }) clock (by
            rw [Array.toList_modify, map_modify_pair, e2, modify_const, List.map_set])
          exact ⟨_, rfl, f1, f2⟩
        · rw [g1]
          simp only [run_setObjM (P := P) _ hb]
          obtain ⟨f1, f2⟩ := fin (mp.push { key := .int k (e.den ρ), val := s.den ρ κ, born := clock }) (clock + 1) (by simp [e2])
          exact ⟨_, rfl, f1, f2⟩
    · cases h
  · cases h
theorem xmkmap_sound {P : Program} {ρ : Env} {κ : Kap} {base : Bk} {H : Heap} {w : World} (hH : HeapOk ρ κ base H w) (hz : base.top ≤ w.heap.size) (t : TypeId) (k : IntKind) :
    DoesNew ρ κ base H w (((Instr.makeMap t none).run P w).andThen fun v w' => .ok (.value v) w') (.map k []) .mref none := by
  intro n hf _
  refine ⟨κ.setO n w.heap.size 0, w.alloc (.map #[] 0), KBut.setO n _ _ κ, ?_, hH.alloc hf hz 0 (.map k []) (.map #[] 0) ⟨#[], 0, rfl, rfl⟩, Kept.of_below ((Below.refl _ _).alloc (Nat.le_refl _) _) (Nat.le_trans base.le hz)⟩
  simp [Instr.makeMap, newPtr, SV.den, SA.den, SC.den, Kap.setO]
end Go.SX

/- SyF2: append and copy where the lengths are known. -/
set_option linter.unusedSimpArgs false
set_option linter.unusedVariables false
set_option linter.unusedSectionVars false
noncomputable section
namespace Go.SX
open Go Go.RowKit

inductive ORes where
  | val (v : SV)
  | new (o : SObj) (np : NP) (src : Option Nat)
  | upd (H : Heap) (v : SV)
  | call (f : FuncId) (args : List SV)
  | yld (l : Nat) (args : List SV)
  | row (q : RowRes)
  | alts (l : List (BE × SV)) (v : SV)
  | turn (j : Nat) (ct : AE) (v : SV)
/-- the cells of a slice whose length is known -/
def knownSl (H : Heap) (sz : Nat) : SC → Option (List SC × Nat)
  | .lit (.slice none 0 0) => some ([], 0)
  | .oslice id off m _ | .gslice id off m _ => match H.own? id with
    | some (cs, _) => bif Nat.beq ((cs.drop off).take (m * sz)).length (m * sz) then some ((cs.drop off).take (m * sz), m) else none
    | none => none
  | _ => none
theorem knownSl_spec {P : Program} {ρ : Env} {κ : Kap} {base : Bk} {H : Heap} {w : World} (hH : HeapOk ρ κ base H w) {sz : Nat} {s : SC} {l : List SC} {m : Nat} (h : knownSl H sz s = some (l, m)) {u e' : TypeId} (hk : P.underlying u = some (.slice e')) :
    l.length = m * sz ∧ _root_.Go.Src P sz u (s.den ρ κ) m (l.map (SC.den ρ κ)) w ∧ (Builtin.lenOf (s.den ρ κ) = pure m) ∧ (∃ a c, s.den ρ κ = .slice a m c ∧ (Builtin.firstCells sz m (s.den ρ κ)).run P w.drew = .ok (l.map (SC.den ρ κ)).toArray w.drew) := by
  have own : ∀ (id off m' c : Nat) (cs : List SC) (ty : TypeId), H.own? id = some (cs, ty) → (bif Nat.beq ((cs.drop off).take (m' * sz)).length (m' * sz) then some ((cs.drop off).take (m' * sz), m') else none) = some (l, m) → s.den ρ κ = .slice (some ⟨κ.o id, off, none⟩) m' c →
      l.length = m * sz ∧ _root_.Go.Src P sz u (s.den ρ κ) m (l.map (SC.den ρ κ)) w ∧ (Builtin.lenOf (s.den ρ κ) = pure m) ∧ (∃ a c, s.den ρ κ = .slice a m c ∧ (Builtin.firstCells sz m (s.den ρ κ)).run P w.drew = .ok (l.map (SC.den ρ κ)).toArray w.drew) := by
    intro id off m' c cs ty ho h hs
    cases hq : Nat.beq ((cs.drop off).take (m' * sz)).length (m' * sz)
    · rw [hq] at h; cases h
    · rw [hq] at h; simp only [cond_true] at h; cases h
      rw [Nat.beq_eq] at hq
      have hr := hH.range ho hq
      have hsrc := _root_.Go.Src.ofSlice (P := P) (size := sz) w hk ⟨κ.o id, off, none⟩ m c (((cs.drop off).take (m * sz)).map (SC.den ρ κ)) (by simpa using hq) (fun j v hv => by rw [Addr.add_mid]; exact hr j v hv)
        (fun v hv => by obtain ⟨x, _, rfl⟩ := List.mem_map.1 hv; exact SC.den_one ρ κ x)
      rw [hs]
      exact ⟨hq, hsrc, rfl, _, _, rfl, hsrc.cellsD⟩
  unfold knownSl at h
  split at h
  · cases h
    have hs : SC.den ρ κ (.lit (.slice none 0 0)) = .slice none 0 0 := by simp [SC.den, bigCell, Value.oneCell']
    have hsrc := _root_.Go.Src.ofNil (P := P) (size := sz) w hk 0
    rw [hs]
    exact ⟨by simp, hsrc, rfl, _, _, rfl, hsrc.cellsD⟩
  · rename_i id off m' cap
    split at h
    · rename_i cs ty ho
      exact own id off m' cap cs ty ho h (by simp only [SC.den])
    · cases h
  · rename_i id off m' k
    split at h
    · rename_i cs ty ho
      exact own id off m' (κ.cap id - k) cs ty ho h (by simp only [SC.den])
    · cases h
  · cases h
def xappK (P : Program) (H : Heap) (t u : TypeId) (s x : SV) : Option ORes :=
  match s, x, P.underlying t, P.underlying u with
  | .a (.c s), .a (.c x), some (.slice E), some (.slice _) => match P.info? E, zeroP P E with
    | some i, some z => match knownSl H i.size s, knownSl H i.size x with
      | some (old, n), some (news, m) => bif (Nat.blt 0 i.size && Nat.blt 0 i.bytes) && (Nat.beq z.cells.length i.size && Nat.ble ((n + m) * i.bytes) 140737488355328) then
          match s with
          | .lit (.slice none 0 0) => bif Nat.beq m 0 then some (.val (.c s)) else some (.new (.cells news E (some i.size)) (.gs m) none)
          | .oslice id off _ cap => bif Nat.ble (n + m) cap then
              bif Nat.beq m 0 then some (.val (.c (.oslice id off n cap))) else
              match H.own? id with
              | some (cs, _) => bif Nat.ble (off + n * i.size + news.length) cs.length then some (.upd (H.setOwn id (setMany cs (off + n * i.size) news)) (.c (.oslice id off (n + m) cap))) else none
              | none => none
            else some (.new (.cells (old ++ news) E (some i.size)) (.gs (n + m)) none)
          | .gslice id off _ k => match H.obj? id with
            | some (.cells cs ty (some z')) => bif Nat.beq z' i.size && Nat.beq ty E then
                bif Nat.ble ((k + n + m) * i.size) cs.length && Nat.ble (off + n * i.size + news.length) cs.length then some (.upd (H.setOwn id (setMany cs (off + n * i.size) news)) (.c (.gslice id off (n + m) k)))
                else bif Nat.beq off 0 && Nat.beq k 0 then some (.new (.cells (old ++ news) E (some i.size)) (.gs (n + m)) (some id)) else none
              else none
            | _ => none
          | _ => none
        else none
      | _, _ => none
    | _, _ => none
  | _, _, _, _ => none
/-- what such an operation does -/
def Does (ρ : Env) (κ : Kap) (base : Bk) (H : Heap) (w : World) (r : Result Next) : ORes → Prop
  | .val v => r = .ok (.value (v.den ρ κ)) w
  | .new o np src => DoesNew ρ κ base H w r o np src
  | .upd H' v => DoesUpd ρ κ base w r H' v
  | .call f args => r = .ok (.enter f (args.map (SV.den ρ κ)).toArray) w
  | .yld l args => ∃ rc, H.obj? l = some (.loop rc) ∧ ∀ b, w.heap[κ.o l]? = some (.loop b) → args.length = b.params.size → r = .ok (.round (κ.o l) b.fn ((b.params.zip (args.map (SV.den ρ κ)).toArray).foldl (fun tmps (t, a) => tmps.setIfInBounds t a) b.tmps) b.assign b.body) w
  | .row q => DoesRow ρ κ base H w r q
  | .alts l v => r = .ok (.value (altDen ρ κ l v)) w
  | .turn j ct v => DoesTurn ρ κ base H w r j ct v
theorem HeapOk.ownsNew {w' : World} {b : Nat} {E : TypeId} {sz : Nat} {v' : Value} {n : Nat} {xs : List Value} (h : w'.ownsRow b E sz v' n xs) (hv : v' ≠ .slice none 0 0) :
    ∃ g cap sp, v' = .slice (some ⟨g, 0, none⟩) n cap ∧ w'.heap[g]? = some (.cells (xs ++ sp).toArray E (0, 0)) ∧ xs.length + sp.length = cap * sz ∧ cap ≤ maxLen := by
  rcases h.2 with ⟨e1, _⟩ | ⟨g, cap, cur, hv', hbg, hg, hnc, hcm, hcs, htake⟩
  · exact absurd e1 hv
  · have hlen := h.1
    refine ⟨g, cap, cur.toList.drop (n * sz), hv', ?_, ?_, hcm⟩
    · rw [← htake, List.take_append_drop]; simpa using hg
    · rw [← htake, List.length_take, List.length_drop, Array.length_toList, hcs]
      have : n * sz ≤ cap * sz := Nat.mul_le_mul_right _ hnc
      omega
theorem xappK_sound {P : Program} {ρ : Env} {κ : Kap} {base : Bk} {H : Heap} {w : World} (hH : HeapOk ρ κ base H w) (hz : base.top ≤ w.heap.size) {t u ty : TypeId} {s x : SV} {q : ORes} (h : xappK P H t u s x = some q) :
    Does ρ κ base H w (((Builtin.append_ #[t, u] ty #[s.den ρ κ, x.den ρ κ]).run P w).andThen fun v w' => .ok (.value v) w') q := by
  unfold xappK at h
  split at h
  · rename_i s x E e' hu hu'
    split at h
    · rename_i i z hi hzp
      split at h
      · rename_i old n news m hs hx
        cases hq : ((Nat.blt 0 i.size && Nat.blt 0 i.bytes) && (Nat.beq z.cells.length i.size && Nat.ble ((n + m) * i.bytes) 140737488355328))
        · rw [hq] at h; cases h
        · rw [hq] at h; simp only [cond_true] at h
          simp only [Bool.and_eq_true, Nat.beq_eq, Nat.blt_eq, Nat.ble_eq] at hq
          obtain ⟨⟨hsz, hby⟩, hzl, hbb⟩ := hq
          obtain ⟨zi, zv, hzi, hzv, hzd⟩ := zeroP_spec hzp
          rw [hi] at hzi; cases hzi
          have hzc : zv.cells.size = i.size := by rw [hzd ρ κ, SA.den_cells]; simp [hzl]
          obtain ⟨s1, s2, s3, sa, scap, s4, s5⟩ := knownSl_spec (P := P) (ρ := ρ) (κ := κ) hH hs hu
          obtain ⟨x1, x2, x3, xa, xcap, x4, x5⟩ := knownSl_spec (P := P) (ρ := ρ) (κ := κ) hH hx hu'
          have h63 : n + m ≤ 9223372036854775807 := by
            have := Nat.le_trans (Nat.le_mul_of_pos_right (n + m) hby) hbb; omega
          have hml : n + m ≤ maxLen := by
            have := Nat.le_trans (Nat.le_mul_of_pos_right (n + m) hby) hbb; simp only [maxLen]; omega
          -- a new row, the old one stands
          have grow : ∀ (sCap : Nat), s.den ρ κ = .slice sa n sCap → sCap < n + m → DoesNew ρ κ base H w (((Builtin.append_ #[t, u] ty #[(SV.a (.c s)).den ρ κ, (SV.a (.c x)).den ρ κ]).run P w).andThen fun v w' => .ok (.value v) w') (.cells (old ++ news) E (some i.size)) (.gs (n + m)) none := by
            intro sCap hsv hlt nn hf hfo
            rw [hsv] at s5
            have hrun := run_append_grow_src (P := P) w t u ty E i zv hu hi hzv sa n sCap (old.map (SC.den ρ κ)) s5 (x.den ρ κ) m (news.map (SC.den ρ κ)) x2 hlt (by omega) (growslice_fits (by omega) hbb)
            have hge := grownCap_ge w (n + m) sCap E
            have hcm : grownCap w (n + m) sCap E ≤ maxLen := grownCap_le_maxLen w (n + m) sCap E hml
            have K := KBut.setO nn w.heap.size (grownCap w (n + m) sCap E) κ
            refine ⟨κ.setO nn w.heap.size (grownCap w (n + m) sCap E), w.drew.alloc (.cells ((old.map (SC.den ρ κ) ++ news.map (SC.den ρ κ)).toArray ++ Builtin.zeroCells zv.cells (grownCap w (n + m) sCap E - (n + m))) E), K, ?_, ?_, ?_⟩
            · simp only [SV.den, SA.den, hsv, hrun, Result.andThen_ok, newPtr, SC.den]
              simp [Kap.setO]
            · have h0 : HeapOk ρ κ base H w.drew := hH.below fun k _ => rfl
              have hf0 : (w.drew).heap.size = w.heap.size := rfl
              have := h0.alloc hf (by rw [hf0]; exact hz) (grownCap w (n + m) sCap E) (.cells (old ++ news) E (some i.size))
                (.cells ((old.map (SC.den ρ κ) ++ news.map (SC.den ρ κ)).toArray ++ Builtin.zeroCells zv.cells (grownCap w (n + m) sCap E - (n + m))) E (0, 0)) (by
                  refine ⟨(Builtin.zeroCells zv.cells (grownCap w (n + m) sCap E - (n + m))).toList, ?_, ?_, ?_⟩
                  · congr 1
                    apply Array.toList_inj.1
                    simp only [Array.toList_append, List.toList_toArray]
                    rw [SC.hasM_den (show KBut (one nn) κ (κ.setO nn w.drew.heap.size (grownCap w (n + m) sCap E)) from K) (show SC.hasL (one nn) (old ++ news) = false from hfo), List.map_append]
                  · simp only [Array.length_toList, size_zeroCells, hzc, List.length_append, s1, x1, Kap.setO, if_true]
                    rw [← Nat.add_mul, ← Nat.add_mul]; congr 1; omega
                  · simp only [Kap.setO, if_true]; exact hcm)
              exact this
            · refine Kept.of_below (w := w) ?_ (Nat.le_trans base.le hz)
              exact ((Below.refl _ w).drew).alloc (Nat.le_refl _) _
          split at h
          · -- nil
            simp only [knownSl] at hs; cases hs
            have hsv : SC.den ρ κ (.lit (.slice none 0 0)) = .slice none 0 0 := by simp [SC.den, bigCell, Value.oneCell']
            cases hm : Nat.beq m 0
            · rw [hm] at h; simp only [cond_false] at h; cases h
              have hm0 := beq_false hm
              rw [hsv] at s4; cases s4
              have := grow 0 hsv (by omega)
              simpa [Does] using this
            · rw [hm] at h; simp only [cond_true] at h; cases h
              rw [Nat.beq_eq] at hm; subst hm
              have hnil : news = [] := List.eq_nil_of_length_eq_zero (by simpa using x1)
              simp only [Does, SV.den, SA.den, hsv]
              subst hnil
              have hk0 := x2.cells
              have hl0 := x2.len w
              simp only [List.map_nil] at hk0
              generalize x.den ρ κ = X at hk0 hl0
              have hls : (Builtin.lenOf (.slice none 0 0)).run P w = .ok 0 w := rfl
              simp [Builtin.append_, run_underlying hu, run_underlying hu', sizeOf, typeInfo, hi, hl0, hk0]
          · rename_i id off len cap
            have hsv : SC.den ρ κ (.oslice id off len cap) = .slice (some ⟨κ.o id, off, none⟩) len cap := by simp only [SC.den]
            rw [hsv] at s4
            obtain ⟨rfl, rfl, rfl⟩ : some ⟨κ.o id, off, none⟩ = sa ∧ len = n ∧ cap = scap := by simpa using s4
            cases hle : Nat.ble (len + m) cap
            · rw [hle] at h; simp only [cond_false] at h; cases h
              exact grow cap hsv (by rw [Bool.eq_false_iff] at hle; simp at hle; omega)
            · rw [hle] at h; simp only [cond_true] at h
              rw [Nat.ble_eq] at hle
              cases hm : Nat.beq m 0
              · rw [hm] at h; simp only [cond_false] at h
                split at h
                · rename_i cs cty ho
                  cases hfit : Nat.ble (off + len * i.size + news.length) cs.length
                  · rw [hfit] at h; cases h
                  · rw [hfit] at h; simp only [cond_true] at h; cases h
                    rw [Nat.ble_eq] at hfit
                    obtain ⟨sp, hw⟩ := hH.own ho
                    have hrun := run_append_room_src (P := P) w t u ty E i hu hi (κ.o id) off len cap (x.den ρ κ) m (news.map (SC.den ρ κ)) x2 hle
                      (fun j hj => by simp at hj; rw [cell_of_row w _ _ _ _ _ hw]; simp; omega) (fun j _ => by simp [World.frozen?, hw])
                    obtain ⟨f1, f2⟩ := hH.store ho (off + len * i.size) news hfit
                    refine ⟨_, .inl ?_, f1, f2⟩
                    simp only [SV.den, SA.den, hsv, hrun, Result.andThen_ok]
                    simp only [SC.den]
                · cases h
              · rw [hm] at h; simp only [cond_true] at h; cases h
                rw [Nat.beq_eq] at hm; subst hm
                have hrun := run_append_room_src (P := P) w t u ty E i hu hi (κ.o id) off len cap (x.den ρ κ) 0 (news.map (SC.den ρ κ)) x2 hle
                  (fun j hj => by simp [x1] at hj) (fun j hj => by simp [x1] at hj)
                have hnil : news = [] := List.eq_nil_of_length_eq_zero (by simpa using x1)
                subst hnil
                simp only [Does, SV.den, SA.den, hsv, hrun, Result.andThen_ok]
                simp [World.setCells]
          · rename_i id off len k
            have hsv : SC.den ρ κ (.gslice id off len k) = .slice (some ⟨κ.o id, off, none⟩) len (κ.cap id - k) := by simp only [SC.den]
            rw [hsv] at s4; cases s4
            split at h
            · rename_i cs cty z' ho
              cases hq2 : (Nat.beq z' i.size && Nat.beq cty E)
              · rw [hq2] at h; cases h
              · rw [hq2] at h; simp only [cond_true] at h
                simp only [Bool.and_eq_true, Nat.beq_eq] at hq2
                obtain ⟨rfl, rfl⟩ := hq2
                have hown : H.own? id = some (cs, cty) := by simp [Heap.own?, ho]
                cases hq3 : (Nat.ble ((k + n + m) * i.size) cs.length && Nat.ble (off + n * i.size + news.length) cs.length)
                · rw [hq3] at h; simp only [cond_false] at h
                  cases hq4 : (Nat.beq off 0 && Nat.beq k 0)
                  · rw [hq4] at h; cases h
                  · rw [hq4] at h; simp only [cond_true] at h; cases h
                    simp only [Bool.and_eq_true, Nat.beq_eq] at hq4
                    obtain ⟨rfl, rfl⟩ := hq4
                    intro nn hf hfo
                    obtain ⟨⟨b, o1, sp, o3, o4, o5⟩, o2, okp⟩ := hH.obj id _ ho
                    subst o3
                    -- the row that is there
                    have hlen0 : n * i.size ≤ cs.length := by
                      simp only [knownSl, hown] at hs
                      cases hqq : Nat.beq ((cs.drop 0).take (n * i.size)).length (n * i.size)
                      · rw [hqq] at hs; cases hs
                      · rw [Nat.beq_eq] at hqq; simp at hqq; omega
                    have holds : old = cs.take (n * i.size) := by
                      simp only [knownSl, hown] at hs
                      cases hqq : Nat.beq ((cs.drop 0).take (n * i.size)).length (n * i.size)
                      · rw [hqq] at hs; cases hs
                      · rw [hqq] at hs; simp at hs; exact hs.symm
                    have hncap : n ≤ κ.cap id := Nat.le_of_mul_le_mul_right (Nat.le_trans hlen0 (by omega)) hsz
                    have howns : w.ownsRow base.b cty i.size (.slice (some ⟨κ.o id, 0, none⟩) n (κ.cap id)) n (old.map (SC.den ρ κ)) := by
                      refine ⟨by simp [s1], .inr ⟨κ.o id, κ.cap id, _, rfl, o2, o1, hncap, o5, by simp [o4], ?_⟩⟩
                      rw [holds]; simp only [List.toList_toArray, List.map_take]
                      rw [List.take_append_of_le_length (by simpa using hlen0)]
                    -- what is appended, in its own words
                    have hxa : ∃ oa c', x.den ρ κ = .slice oa m c' ∧ (match oa with
                        | some a => ∀ j v, (news.map (SC.den ρ κ))[j]? = some v → w.cell? (a.add j) = some v
                        | none => m = 0) := by
                      unfold knownSl at hx
                      split at hx
                      · cases hx; exact ⟨none, 0, by simp [SC.den, bigCell, Value.oneCell'], rfl⟩
                      · rename_i id2 off2 m2 cap2
                        split at hx
                        · rename_i cs2 ty2 ho2
                          cases hqq : Nat.beq ((cs2.drop off2).take (m2 * i.size)).length (m2 * i.size)
                          · rw [hqq] at hx; cases hx
                          · rw [hqq] at hx; simp only [cond_true] at hx; cases hx
                            rw [Nat.beq_eq] at hqq
                            exact ⟨some ⟨κ.o id2, off2, none⟩, cap2, by simp only [SC.den], fun j v hv => by rw [Addr.add_mid]; exact hH.range ho2 hqq j v hv⟩
                        · cases hx
                      · rename_i id2 off2 m2 cap2
                        split at hx
                        · rename_i cs2 ty2 ho2
                          cases hqq : Nat.beq ((cs2.drop off2).take (m2 * i.size)).length (m2 * i.size)
                          · rw [hqq] at hx; cases hx
                          · rw [hqq] at hx; simp only [cond_true] at hx; cases hx
                            rw [Nat.beq_eq] at hqq
                            exact ⟨some ⟨κ.o id2, off2, none⟩, (κ.cap id2 - cap2), by simp only [SC.den], fun j v hv => by rw [Addr.add_mid]; exact hH.range ho2 hqq j v hv⟩
                        · cases hx
                      · cases hx
                    obtain ⟨oa, c', hxv, hxc⟩ := hxa
                    have happ : ∃ v' w', (Builtin.append_ #[t, u] ty #[.slice (some ⟨κ.o id, 0, none⟩) n (κ.cap id), .slice oa m c']).run P w = .ok v' w' ∧ w'.ownsRow base.b cty i.size v' (n + m) (old.map (SC.den ρ κ) ++ news.map (SC.den ρ κ)) ∧ w.grownBy w' (some (κ.o id)) ∧
                        v' ≠ .slice none 0 0 ∧ (v'.ownBlock = some (κ.o id) ∨ v'.ownBlock = some w.heap.size) := by
                      have hkind : ∀ r : Result Value, (Builtin.append_ #[t, t] ty #[.slice (some ⟨κ.o id, 0, none⟩) n (κ.cap id), .slice oa m c']).run P w = r → (Builtin.append_ #[t, u] ty #[.slice (some ⟨κ.o id, 0, none⟩) n (κ.cap id), .slice oa m c']).run P w = r := by
                        intro r hr
                        rw [← hr]
                        simp [Builtin.append_, run_underlying hu, run_underlying hu']
                      obtain ⟨v', w', e1, e2, e3, e4, e5⟩ := run_append_x (P := P) w base.b t ty cty i zv i.size i.bytes hu hi hzv rfl rfl hzc hsz (.slice (some ⟨κ.o id, 0, none⟩) n (κ.cap id)) n _ howns oa m c' (news.map (SC.den ρ κ)) (by simp [x1]) hxc
                        (fun v hv => by obtain ⟨y, _, rfl⟩ := List.mem_map.1 hv; exact SC.den_one ρ κ y) hml hbb (Nat.le_trans base.le hz)
                      exact ⟨v', w', hkind _ e1, e2, e3, fun e => by have := (e4.1 e).1; simp at this, e5⟩
                    obtain ⟨v', w', e1, e2, e3, e4, e5⟩ := happ
                    obtain ⟨g, cap, sp', g1, g2, g3, g4⟩ := HeapOk.ownsNew e2 e4
                    subst g1
                    simp only [Value.ownBlock] at e5
                    have K := KBut.setO nn g cap κ
                    have hne : ∀ k, k < w.heap.size → k ≠ κ.o id → w'.heap[k]? = w.heap[k]? := fun k hk hkn => e3.block k hk (fun e => hkn (Option.some.inj e))
                    refine ⟨κ.setO nn g cap, w', K, ?_, ?_, ?_⟩
                    · simp only [SV.den, SA.den, hsv, Nat.sub_zero, hxv, e1, Result.andThen_ok, newPtr]
                      simp [SC.den, Kap.setO]
                    · refine hH.newObj hz hf K (s := some id) (fun id' e => by cases e; exact ⟨_, ho⟩) (b := .cells (old.map (SC.den ρ κ) ++ news.map (SC.den ρ κ) ++ sp').toArray cty (0, 0)) ?_ ?_ ?_ ?_
                      · simpa [Kap.setO] using g2
                      · refine ⟨sp', ?_, ?_, ?_⟩
                        · rw [SC.hasM_den K (show SC.hasL (one nn) (old ++ news) = false from hfo), List.map_append]
                        · simp only [List.length_map, List.length_append, Kap.setO, if_true] at g3 ⊢; exact g3
                        · simpa [Kap.setO] using g4
                      · simp only [Kap.setO, if_true]
                        rcases e5 with e5 | e5
                        · simp at e5; exact .inr ⟨id, rfl, e5⟩
                        · simp at e5; exact .inl e5
                      · intro k hk hkn; exact hne k hk (hkn id rfl)
                    · exact ⟨⟨e3.os, e3.tape, e3.output, e3.size, fun k hk => hne k (by have := Nat.le_trans base.le hz; omega) (by omega)⟩, fun k hk hp => hne k hk (fun e => okp (e ▸ hp))⟩
                · rw [hq3] at h; simp only [cond_true] at h; cases h
                  simp only [Bool.and_eq_true, Nat.ble_eq] at hq3
                  have hcap := hH.capge ho
                  have hroom : n + m ≤ κ.cap id - k := by
                    have : k + n + m ≤ κ.cap id := Nat.le_of_mul_le_mul_right (Nat.le_trans hq3.1 hcap) hsz
                    omega
                  obtain ⟨sp, hw⟩ := hH.own hown
                  have hrun := run_append_room_src (P := P) w t u ty cty i hu hi (κ.o id) off n (κ.cap id - k) (x.den ρ κ) m (news.map (SC.den ρ κ)) x2 hroom
                    (fun j hj => by simp at hj; rw [cell_of_row w _ _ _ _ _ hw]; simp; omega) (fun j _ => by simp [World.frozen?, hw])
                  obtain ⟨f1, f2⟩ := hH.store hown (off + n * i.size) news hq3.2
                  refine ⟨_, .inl ?_, f1, f2⟩
                  simp only [SV.den, SA.den, hsv, hrun, Result.andThen_ok]
                  simp only [SC.den]
            · cases h
          · cases h
      · cases h
    · cases h
  · cases h
end Go.SX

/- SxF: one operation. -/
set_option linter.unusedSimpArgs false
set_option linter.unusedVariables false
set_option linter.unusedSectionVars false
noncomputable section
namespace Go.SX
open Go Go.RowKit

/-! ### all that gives a value -/
def xlen (P : Program) (t : TypeId) (x : SV) : Option SV :=
  match P.underlying t, x with
  | some (.array n _), _ => some (.c (.int .i64 (.lit (.ofNat n))))
  | some (.slice _), .a (.c (.slice _ _ _ _ len _)) => some (.c (.int .i64 (mkNat len)))
  | some (.slice _), .a (.c (.oslice _ _ len _)) => some (.c (.int .i64 (.lit (.ofNat len))))
  | some (.slice _), .a (.c (.gslice _ _ len _)) => some (.c (.int .i64 (.lit (.ofNat len))))
  | some .string, .a (.c (.str l)) => some (.c (.int .i64 (.lit (.ofNat l.length))))
  | some (.slice _), .a (.c (.lit (.slice _ n _))) => some (.c (.int .i64 (.lit (.ofNat n))))
  | some .string, .a (.c (.lit (.string s))) => some (.c (.int .i64 (.lit (.ofNat s.size))))
  | _, _ => none
theorem xlen_sound {P : Program} {ρ : Env} {κ : Kap} (w : World) {t ty : TypeId} {x s : SV} (h : xlen P t x = some s) :
    (Builtin.len_ #[t] ty #[x.den ρ κ]).run P w = .ok (s.den ρ κ) w := by
  unfold xlen at h
  split at h <;> (try (cases h; done)) <;> cases h <;> rename_i hu <;> first
    | (simp [Builtin.len_, run_underlying hu, SV.den, SA.den, SC.den, IE.den, mkNat_den, goInt, bigCell, Value.oneCell']; done)
    | (simp only [SV.den, SA.den, SC.den, IE.den, bytesOf]; rw [run_len_string w t ty _ hu]; simp [goInt, ByteArray.size])
def xun (op : UnOp) (x : SV) : Option SV :=
  match op, x with
  | .not, .a (.c (.bool b)) => some (.c (.bool (mkNot b)))
  | .neg, .a (.c (.int k n)) => some (.c (.int k (mkBin .sub k (.lit 0) n)))
  | _, _ => none
theorem xun_sound {P : Program} {ρ : Env} {κ : Kap} (w : World) {op : UnOp} {x s : SV} (h : xun op x = some s) : (Op.unary op (x.den ρ κ)).run P w = .ok (s.den ρ κ) w := by
  unfold xun at h
  split at h <;> (try (cases h; done)) <;> cases h <;> simp [Op.unary, SV.den, SA.den, SC.den, IE.den, mkNot_den, mkBin_den, bi, Op.intArith]
def xconv (P : Program) (src dst : TypeId) (x : SV) : Option SV :=
  match P.underlying src, P.underlying dst, x with
  | some _, some (.int k), .a (.c (.int _ n)) => some (.c (.int k (mkConv k n)))
  | _, _, _ => none
theorem xconv_sound {P : Program} {ρ : Env} {κ : Kap} (w : World) {src dst : TypeId} {x s : SV} (h : xconv P src dst x = some s) : (convert src dst (x.den ρ κ)).run P w = .ok (s.den ρ κ) w := by
  unfold xconv at h
  split at h <;> (try (cases h; done)) <;> cases h
  rename_i d k k' n hs hd
  simp [convert, run_underlying hs, run_underlying hd, SV.den, SA.den, SC.den, mkConv_den, Conv.intToInt]
def xcellsOf : List SV → Option (List SC)
  | [] => some []
  | .a (.c s) :: l => (xcellsOf l).map (s :: ·)
  | _ => none
theorem xcellsOf_den {ρ : Env} {κ : Kap} : ∀ {l : List SV} {r : List SC}, xcellsOf l = some r → l.map (SV.den ρ κ) = r.map (SC.den ρ κ) := by
  intro l
  induction l with
  | nil => intro r h; cases h; rfl
  | cons s l ih =>
    intro r h
    unfold xcellsOf at h
    split at h
    · rename_i heq; cases heq
    · rename_i s' l' heq
      cases heq
      obtain ⟨q, hq, rfl⟩ := Option.map_eq_some_iff.1 h
      simp only [List.map_cons, ih hq, SV.den, SA.den]
    · cases h
/-- values, cells and rows of cells, laid side by side -/
def xgroup : List SV → Option (List (Option Nat) × List SC)
  | [] => some ([], [])
  | .a (.c s) :: l => (xgroup l).map fun r => (none :: r.1, s :: r.2)
  | .a (.agg c) :: l => (xgroup l).map fun r => (some c.length :: r.1, c ++ r.2)
  | _ => none
theorem xgroup_den {ρ : Env} {κ : Kap} : ∀ {l : List SV} {fs : List (Option Nat)} {r : List SC}, xgroup l = some (fs, r) → l.map (SV.den ρ κ) = regroup fs (r.map (SC.den ρ κ)) := by
  intro l
  induction l with
  | nil => intro fs r h; cases h; rfl
  | cons s l ih =>
    intro fs r h
    unfold xgroup at h
    split at h
    · rename_i heq; cases heq
    · rename_i s' l' heq
      cases heq
      obtain ⟨⟨q1, q2⟩, hq, he⟩ := Option.map_eq_some_iff.1 h
      cases he
      simp only [List.map_cons, ih hq, SV.den, SA.den, regroup]
    · rename_i c l' heq
      cases heq
      obtain ⟨⟨q1, q2⟩, hq, he⟩ := Option.map_eq_some_iff.1 h
      cases he
      have e1 : List.take c.length (List.map (SC.den ρ κ) (c ++ q2)) = c.map (SC.den ρ κ) := by rw [List.map_append]; exact List.take_left' (by simp)
      have e2 : List.drop c.length (List.map (SC.den ρ κ) (c ++ q2)) = q2.map (SC.den ρ κ) := by rw [List.map_append]; exact List.drop_left' (by simp)
      simp only [List.map_cons, ih hq, SV.den, SA.den, regroup, e1, e2]
    · cases h
def xbound (l : List SV) : Option (List (Option Nat) × List SC) := match xcellsOf l with
  | some r => some ([], r)
  | none => xgroup l
theorem xbound_den {ρ : Env} {κ : Kap} {l : List SV} {r : List (Option Nat) × List SC} (h : xbound l = some r) : l.map (SV.den ρ κ) = regroup r.1 (r.2.map (SC.den ρ κ)) := by
  unfold xbound at h
  split at h
  · rename_i q hq; cases h; exact xcellsOf_den hq
  · exact xgroup_den h
/-- .. and told apart again -/
def ungroup : List (Option Nat) → List SC → List SV
  | [], l => l.map SV.c
  | none :: fs, s :: l => .c s :: ungroup fs l
  | none :: _, [] => []
  | some n :: fs, l => .a (.agg (l.take n)) :: ungroup fs (l.drop n)
theorem ungroup_den {ρ : Env} {κ : Kap} : ∀ (fs : List (Option Nat)) (l : List SC), (ungroup fs l).map (SV.den ρ κ) = regroup fs (l.map (SC.den ρ κ))
  | [], l => by simp only [ungroup, regroup, List.map_map]; rfl
  | none :: fs, s :: l => by simp only [ungroup, List.map_cons, regroup, ungroup_den fs l]; rfl
  | none :: _, [] => rfl
  | some n :: fs, l => by
    simp only [ungroup, List.map_cons, regroup, ungroup_den fs (l.drop n), SV.den, SA.den, List.map_take, List.map_drop]
def evs (ev : Operand → Option SV) : List Operand → Option (List SV)
  | [] => some []
  | x :: l => match ev x, evs ev l with
    | some s, some r => some (s :: r)
    | _, _ => none
theorem evs_den {ρ : Env} {κ : Kap} {ev : Operand → Option SV} {e : Operand → Value} (hev : ∀ x s, ev x = some s → e x = s.den ρ κ) : ∀ {l : List Operand} {r : List SV}, evs ev l = some r → l.map e = r.map (SV.den ρ κ) := by
  intro l
  induction l with
  | nil => intro r h; cases h; rfl
  | cons x l ih =>
    intro r h
    unfold evs at h
    split at h
    · rename_i s q h1 h2; cases h; simp [hev _ _ h1, ih h2]
    · cases h
def nons (o : Option SV) : XV := o.map fun v => ([], v)
def evo (ev : Operand → Option SV) : Option Operand → Option (Option SV)
  | none => some none
  | some x => (ev x).map some
theorem evo_den {ρ : Env} {κ : Kap} {ev : Operand → Option SV} {e : Operand → Value} (hev : ∀ x s, ev x = some s → e x = s.den ρ κ) {o : Option Operand} {r : Option SV} (h : evo ev o = some r) : o.map e = r.map (SV.den ρ κ) := by
  cases o with
  | none => cases h; rfl
  | some x =>
    obtain ⟨s, hs, rfl⟩ := Option.map_eq_some_iff.1 h
    simp [hev _ _ hs]
theorem mapArr {α β : Type} (f : α → β) (a : Array α) : a.map f = (a.toList.map f).toArray := by
  apply Array.toList_inj.1; simp
def xval (P : Program) (H : Heap) (ev : Operand → Option SV) (o : Op) : XV :=
  match o with
  | .move x | .assign x => nons (ev x)
  | .pick c a b => match ev c, ev a, ev b with
    | some (.a (.c (.bool c))), some a, some b => some ([], SV.pick c a b)
    | _, _, _ => none
  | .binOp op t x y _ => match ev x, ev y with
    | some x, some y => match xbin P op t x y with
      | some r => some r
      | none => xbinS op x y
    | _, _ => none
  | .unOp op _ x => (ev x).bind fun x => nons (xun op x)
  | .convert s d x => (ev x).bind fun x => match xconv P s d x with
    | some v => some ([], v)
    | none => xstr P H s d x
  | .fieldAddr t x f => (ev x).bind fun x => xfieldAddr P t x f
  | .field t x f => (ev x).bind fun x => xfield P t x f
  | .indexAddr t x i => match ev x, ev i with
    | some x, some i => xindexAddr P H t x i
    | _, _ => none
  | .index t x i => match ev x, ev i with
    | some x, some i => xindex P t x i
    | _, _ => none
  | .load t x => (ev x).bind fun x => xload P H t x
  | .extract x i => (ev x).bind fun x => xextract x i
  | .build t ps => xbuild P ev t ps.toList
  | .slice t x lo hi mx => match ev x, evo ev lo, evo ev hi, evo ev mx with
    | some x, some lo, some hi, some mx => xslice P H t x lo hi mx
    | _, _, _, _ => none
  | .makeFunc f a b => match (evs ev a.toList).bind xbound, (evs ev b.toList).bind xbound with
    | some a, some b => some ([], .c (.fn ⟨f, a.1, b.1⟩ a.2 b.2))
    | _, _ => none
  | .call { callee := .builtin .len, args, argTypes } => match args.toList, argTypes.toList with
    | [x], [t] => (ev x).bind fun x => nons (xlen P t x)
    | _, _ => none
  | .call { callee := .builtin .min, args, argTypes := _ } => match evs ev args.toList with
    | some [.a (.c (.int k x)), .a (.c (.int _ y))] => some ([], .c (.int k (mkCs .lss y x y x)))
    | _ => none
  | .call { callee := .builtin .max, args, argTypes := _ } => match evs ev args.toList with
    | some [.a (.c (.int k x)), .a (.c (.int _ y))] => some ([], .c (.int k (mkCs .gtr y x y x)))
    | _ => none
  | .nilCheck x => match ev x with
    | some (.a (.c s)) => match s with
      | .ptr .. | .aptr .. => some ([], .c s)
      | .fn ⟨.func f, fs, cs⟩ a b => some ([], .c (.fn ⟨.func f, fs, cs⟩ a b))
      | _ => none
    | _ => none
  | _ => none
theorem nons_eq {o : Option SV} {ns : List BE} {s : SV} (h : nons o = some (ns, s)) : o = some s := by
  obtain ⟨v, hv, he⟩ := Option.map_eq_some_iff.1 h; cases he; exact hv
theorem xval_sound {P : Program} {ρ : Env} {κ : Kap} {base : Bk} {H : Heap} {w : World} (hH : HeapOk ρ κ base H w) {ev : Operand → Option SV} {e : Operand → Value} (hev : ∀ x s, ev x = some s → e x = s.den ρ κ) {o : Oper} {ns : List BE} {s : SV}
    (h : xval P H ev o.op = some (ns, s)) (hn : ∀ p ∈ ns, p.den ρ = true) : (execOp e o).run P w = .ok (.value (s.den ρ κ)) w := by
  obtain ⟨dst, op, type, pos, after, guard⟩ := o
  dsimp only at h
  unfold execOp
  cases op <;> (try (simp only [xval, reduceCtorEq] at h; done)) <;> simp only [xval] at h
  case move x => simp [hev _ _ (nons_eq h)]
  case assign x => simp [hev _ _ (nons_eq h)]
  case pick c a b =>
    split at h
    · rename_i c' a' b' hc ha hb
      cases h
      have := hev _ _ hc
      simp only [SV.den, SA.den, SC.den] at this
      simp [this, asBool, hev _ _ ha, hev _ _ hb, SV.pick_den]
    · cases h
  case binOp op t x y yt =>
    split at h
    · rename_i x' y' hx hy
      split at h
      · rename_i r hr
        cases h
        have := xbin_sound (X := x) (Y := y) (κ := κ) w hr hn
        simp only [hev _ _ hx, hev _ _ hy]
        rw [Sem.run_bind, this]; rfl
      · have := xbinS_sound (t := t) (X := x) (Y := y) (κ := κ) w (P := P) h hn
        simp only [hev _ _ hx, hev _ _ hy]
        rw [Sem.run_bind, this]; rfl
    · cases h
  case unOp op t x =>
    obtain ⟨x', hx, h⟩ := Option.bind_eq_some_iff.1 h
    simp [hev _ _ hx, xun_sound (ρ := ρ) (κ := κ) w (nons_eq h)]
  case convert a b x =>
    obtain ⟨x', hx, h⟩ := Option.bind_eq_some_iff.1 h
    split at h
    · rename_i v hv
      cases h
      simp [hev _ _ hx, xconv_sound (ρ := ρ) (κ := κ) w hv]
    · simp [hev _ _ hx, xstr_sound hH h hn]
  case fieldAddr t x f =>
    obtain ⟨x', hx, h⟩ := Option.bind_eq_some_iff.1 h
    simp [hev _ _ hx, xfieldAddr_sound (ρ := ρ) (κ := κ) w h]
  case field t x f =>
    obtain ⟨x', hx, h⟩ := Option.bind_eq_some_iff.1 h
    simp [hev _ _ hx, xfield_sound (ρ := ρ) (κ := κ) w h]
  case indexAddr t x i =>
    split at h
    · rename_i x' i' hx hi
      simp [hev _ _ hx, hev _ _ hi, xindexAddr_sound hH h hn]
    · cases h
  case index t x i =>
    split at h
    · rename_i x' i' hx hi
      simp [hev _ _ hx, hev _ _ hi, xindex_sound (ρ := ρ) (κ := κ) w h]
    · cases h
  case load t x =>
    obtain ⟨x', hx, h⟩ := Option.bind_eq_some_iff.1 h
    simp [hev _ _ hx, xload_sound hH h hn]
  case extract x i =>
    obtain ⟨x', hx, h⟩ := Option.bind_eq_some_iff.1 h
    simp [hev _ _ hx, xextract_sound (ρ := ρ) (κ := κ) w h]
  case build t ps =>
    have := xbuild_sound w hev h
    simp [this]
  case slice t x lo hi mx =>
    split at h
    · rename_i x' lo' hi' mx' hx hlo hhi hmx
      have := xslice_sound hH h hn
      rw [← evo_den hev hlo, ← evo_den hev hhi, ← evo_den hev hmx, ← hev _ _ hx] at this
      simp [this]
    · cases h
  case makeFunc f a b =>
    split at h
    · rename_i a' b' ha hb
      cases h
      obtain ⟨a1, ha1, ha2⟩ := Option.bind_eq_some_iff.1 ha
      obtain ⟨b1, hb1, hb2⟩ := Option.bind_eq_some_iff.1 hb
      have ea : a.map e = (regroup a'.1 (a'.2.map (SC.den ρ κ))).toArray := by
        rw [← xbound_den ha2, ← evs_den hev ha1, mapArr]
      have eb : b.map e = (regroup b'.1 (b'.2.map (SC.den ρ κ))).toArray := by
        rw [← xbound_den hb2, ← evs_den hev hb1, mapArr]
      simp [Instr.makeFunc, ea, eb, SV.den, SA.den, SC.den, SC.denL_eq]
    · cases h
  case call c =>
    obtain ⟨callee, args, argTypes⟩ := c
    cases callee with
    | builtin b =>
      cases b <;> (try (simp only [reduceCtorEq] at h; done))
      case min =>
        dsimp only at h
        split at h
        · rename_i k x k' y hxy
          cases h
          have e1 : (args.map e).toList = [.int k (x.den ρ), .int k' (y.den ρ)] := by
            have := evs_den hev hxy
            simp only [SV.den, SA.den, SC.den, List.map_cons, List.map_nil] at this
            rw [Array.toList_map]; exact this
          rw [Array.toList_map] at e1
          simp [resolve, invoke, builtin, Builtin.min_, e1, Builtin.min2, SV.den, SA.den, SC.den, mkCs_den, bc]
        · cases h
      case max =>
        dsimp only at h
        split at h
        · rename_i k x k' y hxy
          cases h
          have e1 : (args.map e).toList = [.int k (x.den ρ), .int k' (y.den ρ)] := by
            have := evs_den hev hxy
            simp only [SV.den, SA.den, SC.den, List.map_cons, List.map_nil] at this
            rw [Array.toList_map]; exact this
          rw [Array.toList_map] at e1
          simp [resolve, invoke, builtin, Builtin.max_, e1, Builtin.max2, SV.den, SA.den, SC.den, mkCs_den, bc]
        · cases h
      dsimp only at h
      split at h
      · rename_i x t hx ht
        obtain ⟨x', hx', h⟩ := Option.bind_eq_some_iff.1 h
        have e1 : args = #[x] := by cases args; simp_all
        have e2 : argTypes = #[t] := by cases argTypes; simp_all
        subst e1; subst e2
        have := xlen_sound (ty := type) (ρ := ρ) (κ := κ) w (nons_eq h)
        simp [resolve, invoke, builtin, hev _ _ hx', this]
      · cases h
    | _ => cases h
  case nilCheck x =>
    split at h
    · rename_i s' hx
      have := hev _ _ hx
      split at h
      · cases h; simp only [this, SV.den, SA.den, SC.den]; rfl
      · cases h; simp only [this, SV.den, SA.den, SC.den]; rfl
      · cases h; simp only [this, SV.den, SA.den, SC.den]; rfl
      · cases h
    · cases h

/-! ### all the rest -/
def rep (z : List SC) (n : Nat) : List SC := (List.range n).map fun i => z.getD (i % z.length) (.lit .nilFunc)
theorem rep_den {ρ : Env} {κ : Kap} (z : List SC) (n : Nat) (hz : z ≠ [] ∨ n = 0) :
    (Array.range n).map ((z.map (SC.den ρ κ)).toArray[· % (z.map (SC.den ρ κ)).toArray.size]!) = ((rep z n).map (SC.den ρ κ)).toArray := by
  apply Array.ext
  · simp [rep]
  · intro i h1 h2
    simp at h1
    have hzl : z ≠ [] := hz.resolve_right (by omega)
    have hpos : 0 < z.length := List.length_pos_iff.2 hzl
    have hm : i % z.length < z.length := Nat.mod_lt _ hpos
    simp [rep, hm]
def callable (P : Program) (f : FuncId) : Bool := match P.funcs[f]? with
  | some fn => fn.body.isSome && !(fn.name == "runtime.NumGoroutine")
  | none => false
theorem run_callFunc {P : Program} {f : FuncId} (h : callable P f = true) (args : Array Value) (w : World) : (callFunc f args).run P w = .ok (.enter f args) w := by
  unfold callable at h
  split at h
  · rename_i fn hf
    simp only [Bool.and_eq_true, Bool.not_eq_true'] at h
    have hb : fn.body.isNone = false := by cases hb : fn.body <;> simp_all
    simp only [callFunc, Sem.run_bind, run_program, Result.andThen_ok, hf, h.2, hb, Bool.false_eq_true, if_false, Sem.run_pure]
  · cases h
/-- cells of a new block -/
theorem doesNew_cells {ρ : Env} {κ : Kap} {base : Bk} {H : Heap} {w : World} (hH : HeapOk ρ κ base H w) (hz : base.top ≤ w.heap.size) (cs : List SC) (ty : TypeId) (np : NP) {r : Result Next} {u : Value}
    (hr : r = .ok (.value u) (w.alloc (.cells (cs.map (SC.den ρ κ)).toArray ty (0, 0)))) (hu : ∀ n, u = (newPtr n np).den ρ (κ.setO n w.heap.size 0)) : DoesNew ρ κ base H w r (.cells cs ty none) np none := by
  intro n hf hc
  have K := KBut.setO n w.heap.size 0 κ
  refine ⟨κ.setO n w.heap.size 0, w.alloc (.cells (cs.map (SC.den ρ κ)).toArray ty (0, 0)), K, by rw [hr, hu n], ?_, Kept.of_below ((Below.refl _ w).alloc (Nat.le_refl _) _) (Nat.le_trans base.le hz)⟩
  exact hH.alloc hf hz 0 (.cells cs ty none) _ (by simp only [SObj.Is]; rw [SC.hasM_den K (show SC.hasL (one n) cs = false from hc)])
theorem np_ptr (ρ : Env) (κ : Kap) (n b c : Nat) : (newPtr n .ptr).den ρ (κ.setO n b c) = .pointer (some ⟨b, 0, none⟩) := by simp [newPtr, SV.den, SA.den, SC.den, Kap.setO]
theorem np_os (ρ : Env) (κ : Kap) (n b c l k : Nat) : (newPtr n (.os l k)).den ρ (κ.setO n b c) = .slice (some ⟨b, 0, none⟩) l k := by simp [newPtr, SV.den, SA.den, SC.den, Kap.setO]
/-- a row of a known length, all of it zero -/
def xmakeK (P : Program) (t : TypeId) (l c : SV) : Option (List SC × TypeId × Nat) :=
  match l, c, P.underlying t with
  | .a (.c (.int _ (.lit (.ofNat L)))), .a (.c (.int _ (.lit (.ofNat L')))), some (.slice e) => match P.info? e, zeroP P e with
    | some i, some z => bif (Nat.beq L L' && Nat.blt 0 i.bytes) && ((Nat.beq z.cells.length i.size && Nat.blt 0 i.size) && (Nat.ble (L * i.bytes) 140737488355328 && Nat.ble L 100000)) then some (rep z.cells (L * i.size), e, L) else none
    | _, _ => none
  | _, _, _ => none
theorem xmakeK_run {P : Program} {ρ : Env} {κ : Kap} (w : World) {t : TypeId} {l c : SV} {cs : List SC} {e : TypeId} {L : Nat} (h : xmakeK P t l c = some (cs, e, L)) :
    (Instr.makeSlice t (l.den ρ κ) (c.den ρ κ)).run P w = .ok (.slice (some ⟨w.heap.size, 0, none⟩) L L) (w.alloc (.cells (cs.map (SC.den ρ κ)).toArray e (0, 0))) := by
  unfold xmakeK at h
  split at h
  · rename_i k L' k' L2 e' hu
    split at h
    · rename_i i z hi hz
      cases hq : ((Nat.beq L' L2 && Nat.blt 0 i.bytes) && ((Nat.beq z.cells.length i.size && Nat.blt 0 i.size) && (Nat.ble (L' * i.bytes) 140737488355328 && Nat.ble L' 100000)))
      · rw [hq] at h; cases h
      · rw [hq] at h; simp only [cond_true] at h; cases h
        simp only [Bool.and_eq_true, Nat.beq_eq, Nat.blt_eq, Nat.ble_eq] at hq
        obtain ⟨⟨rfl, hby⟩, ⟨hzl, hsz⟩, hbb, hL⟩ := hq
        have hwrap : IntKind.i64.wrap (L : Int) = (L : Int) := wrap_of_fits (by simp only [fits]; rw [Nat.blt_eq]; omega)
        have hinfo : ∀ w, (typeInfo e).run P w = .ok i w := fun w => by simp [typeInfo, hi]
        have t1 : decide ((i.bytes : Int) * (L : Int) > 2 ^ 48) = false := by
          have h2 : (i.bytes : Int) * (L : Int) ≤ 140737488355328 := by
            have : ((L * i.bytes : Nat) : Int) ≤ 140737488355328 := by omega
            rw [Int.natCast_mul] at this
            rw [Int.mul_comm]; exact this
          simp only [decide_eq_false_iff_not]
          omega
        have t2 : decide ((L : Int) < 0) = false := by simp
        have t3 : decide ((L : Int) > (L : Int)) = false := by simp
        have hne : z.cells ≠ [] := fun e => by rw [e] at hzl; simp at hzl; omega
        simp only [SV.den, SA.den, SC.den, IE.den, Int.ofNat_eq_natCast]
        simp only [Instr.makeSlice, Sem.run_bind, run_underlying hu, Result.andThen_ok, asInt, asIntOf, Sem.run_pure, hinfo, hwrap, t1, t2, t3, Bool.false_or, Bool.or_false, decide_false, Bool.false_eq_true, if_false, run_askRoom, Sem.run_ite, sizeOf, Int.toNat_natCast]
        by_cases h0 : L * i.size = 0
        · simp only [h0, if_true, Result.andThen_ok, newRow, Sem.run_bind, run_newObj, Sem.run_pure]
          have he0 : (Array.range 0).map (fun x => (#[] : Array Value)[x % (#[] : Array Value).size]!) = #[] := by simp
          rw [he0]
          simp [rep]
        · simp only [h0, if_false, Sem.run_bind, run_zeroP hz ρ κ, Result.andThen_ok, SA.den_cells, newRow, run_newObj, Sem.run_pure]
          rw [rep_den z.cells (L * i.size) (.inl hne)]
          rfl
    · cases h
  · cases h
/-- copy, where the lengths are known -/
def xcopyK (P : Program) (H : Heap) (t u : TypeId) (d x : SV) : Option (Heap × SV) :=
  match d, x, P.underlying t, P.underlying u with
  | .a (.c d), .a (.c x), some (.slice E), some (.slice _) => match sizeP P E, d with
    | some sz, .oslice id off dl _ | some sz, .gslice id off dl _ => match knownSl H sz x, H.own? id with
      | some (news, m), some (cs, _) => bif Nat.ble m dl && Nat.ble (off + news.length) cs.length then some (H.setOwn id (setMany cs off news), .c (.int .i64 (.lit (.ofNat m)))) else none
      | _, _ => none
    | _, _ => none
  | _, _, _, _ => none
theorem xcopyK_sound {P : Program} {ρ : Env} {κ : Kap} {base : Bk} {H : Heap} {w : World} (hH : HeapOk ρ κ base H w) {t u ty : TypeId} {d x v : SV} {H' : Heap} (h : xcopyK P H t u d x = some (H', v)) :
    DoesUpd ρ κ base w (((Builtin.copy_ #[t, u] ty #[d.den ρ κ, x.den ρ κ]).run P w).andThen fun v w' => .ok (.value v) w') H' v := by
  unfold xcopyK at h
  split at h
  · rename_i d x E e' hu hu'
    have key : ∀ (id off dl capv sz : Nat), sizeP P E = some sz → d.den ρ κ = .slice (some ⟨κ.o id, off, none⟩) dl capv → (match knownSl H sz x, H.own? id with
        | some (news, m), some (cs, _) => bif Nat.ble m dl && Nat.ble (off + news.length) cs.length then some (H.setOwn id (setMany cs off news), SV.c (.int .i64 (.lit (.ofNat m)))) else none
        | _, _ => none) = some (H', v) → DoesUpd ρ κ base w (((Builtin.copy_ #[t, u] ty #[(SV.a (.c d)).den ρ κ, (SV.a (.c x)).den ρ κ]).run P w).andThen fun v w' => .ok (.value v) w') H' v := by
      intro id off dl capv sz hsz hd h
      split at h
      · rename_i news m cs cty hx ho
        cases hq : (Nat.ble m dl && Nat.ble (off + news.length) cs.length)
        · rw [hq] at h; cases h
        · rw [hq] at h; simp only [cond_true] at h; cases h
          simp only [Bool.and_eq_true, Nat.ble_eq] at hq
          obtain ⟨x1, x2, x3, _⟩ := knownSl_spec (P := P) (ρ := ρ) (κ := κ) hH hx hu'
          obtain ⟨f1, f2⟩ := hH.store ho off news hq.2
          obtain ⟨sp, hw⟩ := hH.own ho
          have hst := run_storeCells_cells (P := P) (κ.o id) off (news.map (SC.den ρ κ)) 0 w (fun j hj => by simp at hj; rw [cell_of_row w _ _ _ _ _ hw]; simp; omega) (fun j _ => by simp [World.frozen?, hw])
            (fun v hv => by obtain ⟨y, _, rfl⟩ := List.mem_map.1 hv; exact SC.den_one ρ κ y)
          simp only [Nat.add_zero] at hst
          refine ⟨_, .inl ?_, f1, f2⟩
          have hl := x2.len w
          have hc := x2.cells
          have hmin : Nat.min m dl = m := Nat.min_eq_left hq.1
          simp only [SV.den, SA.den, hd]
          generalize x.den ρ κ = X at hl hc
          simp [Builtin.copy_, run_underlying hu, run_sizeP hsz, hl, hmin, hc, hst, goInt, SC.den, IE.den]
      · cases h
    split at h
    · rename_i sz id off dl cap hsz
      exact key id off dl cap sz hsz (by simp only [SC.den]) h
    · rename_i sz id off dl k hsz
      exact key id off dl (κ.cap id - k) sz hsz (by simp only [SC.den]) h
    · cases h
  · cases h
/-- cap of a slice -/
def xcap (P : Program) (t : TypeId) (x : SV) : Option SV := match P.underlying t, x with
  | some (.slice _), .a (.c (.lit (.slice none 0 0))) => some (.c (.int .i64 (.lit 0)))
  | some (.slice _), .a (.c (.oslice _ _ _ c)) => some (.c (.int .i64 (.lit (.ofNat c))))
  | some (.slice _), .a (.c (.slice _ _ _ _ _ (.e c))) => some (.c (.int .i64 (mkNat c)))
  | _, _ => none
theorem xcap_sound {P : Program} {ρ : Env} {κ : Kap} (w : World) {t ty : TypeId} {x s : SV} (h : xcap P t x = some s) : (Builtin.cap_ #[t] ty #[x.den ρ κ]).run P w = .ok (s.den ρ κ) w := by
  unfold xcap at h
  split at h
  · rename_i hu; cases h
    simp [Builtin.cap_, run_underlying hu, SV.den, SA.den, SC.den, bigCell, Value.oneCell', goInt, IE.den]
  · rename_i hu; cases h
    simp [Builtin.cap_, run_underlying hu, SV.den, SA.den, SC.den, goInt, IE.den]
  · rename_i hu; cases h
    simp [Builtin.cap_, run_underlying hu, SV.den, SA.den, SC.den, goInt, mkNat_den, CE.den]
  · cases h
def zlit : Option IE → Bool
  | none => true
  | some (.lit (.ofNat 0)) => true
  | _ => false
/-- nil, sliced -/
def xsliceN (P : Program) (t : TypeId) (x : SV) (lo hi mx : Option SV) : Option SV := match P.underlying t, x, mx with
  | some (.slice e), .a (.c (.lit (.slice none 0 0))), none => match sizeP P e, xint lo, xint hi with
    | some _, some lo, some hi => bif zlit lo && zlit hi then some (.c (.lit (.slice none 0 0))) else none
    | _, _, _ => none
  | _, _, _ => none
theorem zlit_den {ρ : Env} {o : Option IE} (h : zlit o = true) : (o.getD (.lit 0)).den ρ = 0 := by
  unfold zlit at h
  split at h
  · rfl
  · rfl
  · cases h
theorem xsliceN_sound {P : Program} {ρ : Env} {κ : Kap} (w : World) {t : TypeId} {x : SV} {lo hi mx : Option SV} {s : SV} (h : xsliceN P t x lo hi mx = some s) :
    (Instr.sliceAt t (x.den ρ κ) (lo.map (SV.den ρ κ)) (hi.map (SV.den ρ κ)) (mx.map (SV.den ρ κ))).run P w = .ok (s.den ρ κ) w := by
  unfold xsliceN at h
  split at h
  · rename_i e hu
    split at h
    · rename_i z lo' hi' hz hlo hhi
      cases hb : (zlit lo' && zlit hi')
      · rw [hb] at h; cases h
      · rw [hb] at h; simp only [cond_true] at h; cases h
        simp only [Bool.and_eq_true] at hb
        have h1 := zlit_den (ρ := ρ) hb.1
        have h2 := zlit_den (ρ := ρ) hb.2
        have hb2 := run_bounds2 (P := P) w true 0 0 (ρ := ρ) (κ := κ) hlo hhi (by omega) (by rw [h1]; simp only [Int.ofNat_zero] at h2 ⊢; exact Int.le_of_eq h2.symm) (by intro _; simp only [Int.ofNat_zero] at h2 ⊢; exact Int.le_of_eq h2)
        have h2' : (hi'.getD (.lit ((0 : Nat) : Int))).den ρ = 0 := h2
        rw [h1, h2'] at hb2
        simp [SV.den, SA.den, SC.den, bigCell, Value.oneCell', Instr.sliceAt, Instr.slice, run_underlying hu, hb2, run_sizeP hz]
    · cases h
  · cases h
/-- zeros appended to nil -/
def xappZ (P : Program) (t u : TypeId) (s x : SV) : Option ORes := match s, x, P.underlying t, P.underlying u with
  | .a (.c (.lit (.slice none 0 0))), .a (.c (.int _ (.lit (.ofNat (m + 1))))), some (.slice E), some (.int _) => match P.info? E, zeroP P E with
    | some i, some z => bif (Nat.blt 0 i.size && Nat.blt 0 i.bytes) && (Nat.beq z.cells.length i.size && Nat.ble ((m + 1) * i.bytes) 140737488355328) then some (.new (.cells (rep z.cells ((m + 1) * i.size)) E (some i.size)) (.gs (m + 1)) none) else none
    | _, _ => none
  | _, _, _, _ => none
theorem xappZ_sound {P : Program} {ρ : Env} {κ : Kap} {base : Bk} {H : Heap} {w : World} (hH : HeapOk ρ κ base H w) (hz : base.top ≤ w.heap.size) {t u ty : TypeId} {s x : SV} {q : ORes} (h : xappZ P t u s x = some q) :
    Does ρ κ base H w (((Builtin.append_ #[t, u] ty #[s.den ρ κ, x.den ρ κ]).run P w).andThen fun v w' => .ok (.value v) w') q ∧ (∃ o np src, q = .new o np src) := by
  unfold xappZ at h
  split at h
  · rename_i k m E k' hu hu'
    split at h
    · rename_i i z hi hzp
      cases hq : ((Nat.blt 0 i.size && Nat.blt 0 i.bytes) && (Nat.beq z.cells.length i.size && Nat.ble ((m + 1) * i.bytes) 140737488355328))
      · rw [hq] at h; cases h
      · rw [hq] at h; simp only [cond_true] at h; cases h
        simp only [Bool.and_eq_true, Nat.beq_eq, Nat.blt_eq, Nat.ble_eq] at hq
        obtain ⟨⟨hsz, hby⟩, hzl, hbb⟩ := hq
        obtain ⟨zi, zv, hzi, hzv, hzd⟩ := zeroP_spec hzp
        rw [hi] at hzi; cases hzi
        have hzc : zv.cells = (z.cells.map (SC.den ρ κ)).toArray := by rw [hzd ρ κ, SA.den_cells]
        have hml : m + 1 ≤ maxLen := by
          have := Nat.le_trans (Nat.le_mul_of_pos_right (m + 1) hby) hbb; simp only [maxLen]; omega
        have hrun := _root_.Go.Lib.run_append_nil_zeros (P := P) w t u ty E i zv k k' hu hu' hi hzv (m + 1) (by omega) hsz (by
          have := Nat.le_trans (Nat.le_mul_of_pos_right (m + 1) hby) hbb; omega) (by omega)
        refine ⟨?_, _, _, _, rfl⟩
        intro nn hf hfo
        have hge := grownCap_ge w (m + 1) 0 E
        have hcm : grownCap w (m + 1) 0 E ≤ maxLen := grownCap_le_maxLen w (m + 1) 0 E hml
        have K := KBut.setO nn w.heap.size (grownCap w (m + 1) 0 E) κ
        refine ⟨κ.setO nn w.heap.size (grownCap w (m + 1) 0 E), w.drew.alloc (.cells (Builtin.zeroCells zv.cells (m + 1) ++ Builtin.zeroCells zv.cells (grownCap w (m + 1) 0 E - (m + 1))) E), K, ?_, ?_, ?_⟩
        · simp only [SV.den, SA.den, SC.den, bigCell, Value.oneCell', if_true, IE.den, newPtr]
          have : (Int.ofNat (m + 1)) = ((m + 1 : Nat) : Int) := rfl
          rw [this, hrun]
          simp [Kap.setO]
        · have h0 : HeapOk ρ κ base H w.drew := hH.below fun k _ => rfl
          have hf0 : (w.drew).heap.size = w.heap.size := rfl
          have hzs : zv.cells.size = i.size := by rw [hzc]; simp [hzl]
          have hre : (Builtin.zeroCells zv.cells (m + 1)).toList = (rep z.cells ((m + 1) * i.size)).map (SC.den ρ κ) := by
            have := rep_den (ρ := ρ) (κ := κ) z.cells ((m + 1) * i.size) (.inl (fun e => by rw [e] at hzl; simp at hzl; omega))
            have h2 := congrArg Array.toList this
            simp only [List.toList_toArray] at h2
            rw [← h2, hzc]
            simp only [Builtin.zeroCells]
            simp [hzl]
          have := h0.alloc hf (by rw [hf0]; exact hz) (grownCap w (m + 1) 0 E) (.cells (rep z.cells ((m + 1) * i.size)) E (some i.size))
            (.cells (Builtin.zeroCells zv.cells (m + 1) ++ Builtin.zeroCells zv.cells (grownCap w (m + 1) 0 E - (m + 1))) E (0, 0)) (by
              refine ⟨(Builtin.zeroCells zv.cells (grownCap w (m + 1) 0 E - (m + 1))).toList, ?_, ?_, ?_⟩
              · congr 1
                apply Array.toList_inj.1
                simp only [Array.toList_append, List.toList_toArray]
                rw [SC.hasM_den (show KBut (one nn) κ (κ.setO nn w.drew.heap.size (grownCap w (m + 1) 0 E)) from K) (show SC.hasL (one nn) (rep z.cells ((m + 1) * i.size)) = false from hfo), hre]
              · have hl : (rep z.cells ((m + 1) * i.size)).length = (m + 1) * i.size := by simp [rep]
                simp only [Array.length_toList, size_zeroCells, hzs, hl, Kap.setO, if_true]
                rw [← Nat.add_mul]; congr 1; omega
              · simp only [Kap.setO, if_true]; exact hcm)
          exact this
        · refine Kept.of_below (w := w) ?_ (Nat.le_trans base.le hz)
          exact ((Below.refl _ w).drew).alloc (Nat.le_refl _) _
    · cases h
  · cases h
def xone (P : Program) (H : Heap) (ev : Operand → Option SV) (o : Op) : Option (List BE × ORes) :=
  match xval P H ev o with
  | some (ns, v) => some (ns, .val v)
  | none => match o with
    | .alloc t => (zeroP P t).map fun z => ([], .new (.cells z.cells t none) .ptr none)
    | .box t x => match ev x with
      | some (.a s) => some ([], .new (.cells s.cells t none) .ptr none)
      | _ => none
    | .buildSlice t len ps => match P.underlying t with
      | some (.slice e) => match sizeP P e, zeroP P e, xparts ev ps.toList with
        | some sz, some z, some ps => bif Nat.ble (len * sz) 16777216 && (Nat.beq (len * sz) 0 || Nat.blt 0 z.cells.length) then (xfill (fun i => some (i * sz, sz)) (rep z.cells (len * sz)) ps).map fun cs => ([], .new (.cells cs e none) (.os len len) none) else none
        | _, _, _ => none
      | _ => none
    | .makeSlice t l c => match ev l, ev c with
      | some l, some c => match xmakeK P t l c with
        | some (cs, e, L) => some ([], .new (.cells cs e none) (.os L L) none)
        | none => (xmake P t l c).map fun x => (x.1, .row x.2)
      | _, _ => none
    | .call { callee := .builtin .append, args, argTypes } => match args.toList, argTypes.toList with
      | [x, y], [t, u] => match ev x, ev y with
        | some x, some y => match xappK P H t u x y with
          | some r => some ([], r)
          | none => bif Nat.beq t u then (xappend P H t x y).map fun x => (x.1, .row x.2) else (xappZ P t u x y).map fun r => ([], r)
        | _, _ => none
      | _, _ => none
    | .slice t x lo hi mx => match ev x, evo ev lo, evo ev hi, evo ev mx with
      | some x, some lo, some hi, some mx => (xsliceN P t x lo hi mx).map fun v => ([], .val v)
      | _, _, _, _ => none
    | .call { callee := .builtin .cap, args, argTypes } => match args.toList, argTypes.toList with
      | [x], [t] => (ev x).bind fun x => (xcap P t x).map fun v => ([], .val v)
      | _, _ => none
    | .call { callee := .builtin .copy, args, argTypes } => match args.toList, argTypes.toList with
      | [x, y], [t, u] => match ev x, ev y with
        | some x, some y => match xcopyK P H t u x y with
          | some r => some ([], .upd r.1 r.2)
          | none => (xcopyR P H t u x y).map fun r => (r.1, .turn r.2.1 r.2.2.1 r.2.2.2)
        | _, _ => none
      | _, _ => none
    | .store t p x => match ev p, ev x with
      | some (.a (.c (.ptr id off))), some (.a s) => match H.own? id, sizeP P t with
        | some (cs, _), some sz => bif Nat.beq sz s.cells.length && Nat.ble (off + s.cells.length) cs.length then some ([], .upd (H.setOwn id (setMany cs off s.cells)) sundef) else none
        | _, _ => none
      | some (.a (.c p)), some (.a s) => (xset P H t p s).map fun r => (r.1, .turn r.2.1 r.2.2 sundef)
      | _, _ => none
    | .makeMap t none => (mapP P t).map fun x => ([], .new (.map x.1 []) .mref none)
    | .mapUpdate t m k x | .insert t m k x => match ev m, ev k, ev x with
      | some m, some k, some x => (xput P H t m k x).map fun r => ([], .upd (H.setObj r.1 r.2) sundef)
      | _, _, _ => none
    | .lookup t m i ok => match ev m, ev i with
      | some m, some i => (xlook P H t m i ok).map fun r => ([], .alts r.1 r.2)
      | _, _ => none
    | .call { callee := .value f, args, argTypes := _ } => match ev f, evs ev args.toList with
      | some (.a (.c (.fn ⟨.func f, fs, cs⟩ first cap))), some args => bif callable P f then some ([], .call f (ungroup fs first ++ (args ++ ungroup cs cap))) else none
      | some (.a (.c (.yld l))), some args => match H.obj? l with
        | some (.loop _) => some ([], .yld l args)
        | _ => none
      | _, _ => none
    | _ => none
theorem xone_sound {P : Program} {ρ : Env} {κ : Kap} {base : Bk} {H : Heap} {w : World} (hH : HeapOk ρ κ base H w) (hbase : base.top ≤ w.heap.size) {ev : Operand → Option SV} {e : Operand → Value} (hev : ∀ x s, ev x = some s → e x = s.den ρ κ) {o : Oper} {ns : List BE} {r : ORes}
    (h : xone P H ev o.op = some (ns, r)) (hn : ∀ p ∈ ns, p.den ρ = true) : Does ρ κ base H w ((execOp e o).run P w) r ∧ (∀ f args, r = .call f args → callable P f = true) ∧ (∀ l args, r = .yld l args → ∃ rc, H.obj? l = some (.loop rc)) := by
  unfold xone at h
  split at h
  · rename_i ns' v hv
    cases h
    exact ⟨xval_sound hH hev hv hn, fun _ _ h => (by cases h), fun _ _ h => (by cases h)⟩
  · obtain ⟨dst, op, type, pos, after, guard⟩ := o
    dsimp only at h
    unfold execOp
    split at h
    · obtain ⟨z, hz, he⟩ := Option.map_eq_some_iff.1 h; cases he
      refine ⟨doesNew_cells hH hbase _ _ _ (u := .pointer (some ⟨w.heap.size, 0, none⟩)) ?_ fun n => (np_ptr ρ κ n _ _).symm, fun _ _ h => (by cases h), fun _ _ h => (by cases h)⟩
      simp only [Instr.alloc, Sem.run_bind, run_zeroP hz ρ κ, Result.andThen_ok, newVar, newRow, run_newObj, Sem.run_pure, SA.den_cells]
      rfl
    · rename_i t x _
      split at h
      · rename_i s hx
        cases h
        have hx' : e x = s.den ρ κ := hev _ _ hx
        refine ⟨doesNew_cells hH hbase _ _ _ (u := .pointer (some ⟨w.heap.size, 0, none⟩)) ?_ fun n => (np_ptr ρ κ n _ _).symm, fun _ _ h => (by cases h), fun _ _ h => (by cases h)⟩
        simp only [hx', Instr.box, newVar, newRow, Sem.run_bind, run_newObj, Result.andThen_ok, Sem.run_pure, SA.den_cells]
        rfl
      · cases h
    · rename_i t len ps _
      split at h
      · rename_i el hu
        split at h
        · rename_i sz z ps' hsz hz hps
          cases hb : (Nat.ble (len * sz) 16777216 && (Nat.beq (len * sz) 0 || Nat.blt 0 z.cells.length))
          · rw [hb] at h; cases h
          · rw [hb] at h; simp only [cond_true] at h
            simp only [Bool.and_eq_true, Nat.ble_eq, Bool.or_eq_true, Nat.beq_eq, Nat.blt_eq] at hb
            obtain ⟨cs, hcs, he⟩ := Option.map_eq_some_iff.1 h; cases he
            refine ⟨doesNew_cells hH hbase _ _ _ (u := .slice (some ⟨w.heap.size, 0, none⟩) len len) ?_ fun n => (np_os ρ κ n _ _ _ _).symm, fun _ _ h => (by cases h), fun _ _ h => (by cases h)⟩
            have hpd := xparts_den hev hps
            have hl : (ps.map fun (i, x) => (i, e x)).toList = ps'.map fun p => (p.1, p.2.den ρ κ) := by
              rw [← hpd]; simp
            have hf := xfill_den (ρ := ρ) (κ := κ) hcs
            have h1 : ¬ (len * sz > 2 ^ 24) := by omega
            by_cases h2 : len * sz = 0
            · have hr0 : rep z.cells (len * sz) = [] := by rw [h2]; rfl
              rw [hr0] at hf
              simp only [Instr.buildSlice, Sem.run_bind, run_underlying hu, Result.andThen_ok, run_sizeP hsz, Sem.run_ite, h1, if_false, Sem.run_pure, h2, if_true, hl]
              simp only [List.map_nil] at hf
              have he0 : (Array.range 0).map (fun x => (#[] : Array Value)[x % (#[] : Array Value).size]!) = #[] := by simp
              rw [he0, hf]
              simp only [Sem.run_bind, newRow, run_newObj, Result.andThen_ok, Sem.run_pure]
              rfl
            · have hne : z.cells ≠ [] := fun e => by rw [e] at hb; simp at hb; exact h2 hb.2
              simp only [Instr.buildSlice, Sem.run_bind, run_underlying hu, Result.andThen_ok, run_sizeP hsz, Sem.run_ite, h1, if_false, Sem.run_pure, h2, run_zeroP hz ρ κ, SA.den_cells, rep_den z.cells (len * sz) (.inl hne), hl, hf, newRow, run_newObj]
              rfl
        · cases h
      · cases h
    · rename_i t l c _
      split at h
      · rename_i l' c' hl hc
        split at h
        · rename_i cs el L hk
          cases h
          refine ⟨doesNew_cells hH hbase _ _ _ (u := .slice (some ⟨w.heap.size, 0, none⟩) L L) ?_ fun n => (np_os ρ κ n _ _ _ _).symm, fun _ _ h => (by cases h), fun _ _ h => (by cases h)⟩
          have := xmakeK_run (ρ := ρ) (κ := κ) w hk
          simp only [hev _ _ hl, hev _ _ hc]
          rw [Sem.run_bind, this]; rfl
        · obtain ⟨x, hx, he⟩ := Option.map_eq_some_iff.1 h; cases he
          refine ⟨?_, fun _ _ h => (by cases h), fun _ _ h => (by cases h)⟩
          have := xmake_sound (P := P) hH hbase hx hn
          simp only [Does, hev _ _ hl, hev _ _ hc]
          rw [Sem.run_bind]
          exact this
      · cases h
    · rename_i args argTypes _
      split at h
      · rename_i x y t u hx hy
        have e1 : args = #[x, y] := by cases args; simp_all
        have e2 : argTypes = #[t, u] := by cases argTypes; simp_all
        subst e1; subst e2
        have he : (do
            let d ← resolve e { callee := Callee.builtin Builtin.append, args := #[x, y], argTypes := #[t, u] } type
            invoke d.target d.args : Sem Next).run P w = ((Builtin.append_ #[t, u] type #[e x, e y]).run P w).andThen fun v w' => .ok (.value v) w' := by
          simp only [resolve, Sem.run_bind, Sem.run_pure, Result.andThen_ok, invoke, builtin]
          simp
        split at h
        · rename_i x' y' hx' hy'
          split at h
          · rename_i r' hk
            cases h
            have := xappK_sound (P := P) (ty := type) hH hbase hk
            rw [← hev _ _ hx', ← hev _ _ hy'] at this
            refine ⟨by rw [he]; exact this, fun f args hr => ?_, fun l args hr => ?_⟩
            · subst hr
              exfalso
              unfold xappK at hk
              repeat' split at hk
              all_goals first | (cases hk; done) | skip
              all_goals (rw [Bool.cond_eq_ite] at hk; split at hk)
              all_goals first | (cases hk; done) | skip
              all_goals (repeat' split at hk)
              all_goals first | (cases hk; done) | skip
              all_goals (simp only [Bool.cond_eq_ite] at hk; repeat' split at hk)
              all_goals (cases hk; done)
            · subst hr
              exfalso
              unfold xappK at hk
              repeat' split at hk
              all_goals first | (cases hk; done) | skip
              all_goals (rw [Bool.cond_eq_ite] at hk; split at hk)
              all_goals first | (cases hk; done) | skip
              all_goals (repeat' split at hk)
              all_goals first | (cases hk; done) | skip
              all_goals (simp only [Bool.cond_eq_ite] at hk; repeat' split at hk)
              all_goals (cases hk; done)
          · cases hb : Nat.beq t u
            · rw [hb] at h; simp only [cond_false] at h
              obtain ⟨z, hz, hee⟩ := Option.map_eq_some_iff.1 h; cases hee
              obtain ⟨h1, o1, np1, src1, h2⟩ := xappZ_sound (P := P) (ty := type) hH hbase hz
              refine ⟨?_, fun _ _ h => (by rw [h2] at h; cases h), fun _ _ h => (by rw [h2] at h; cases h)⟩
              rw [← hev _ _ hx', ← hev _ _ hy'] at h1
              rw [he]; exact h1
            · rw [hb] at h; simp only [cond_true] at h
              rw [Nat.beq_eq] at hb; subst hb
              obtain ⟨z, hz, hee⟩ := Option.map_eq_some_iff.1 h; cases hee
              refine ⟨?_, fun _ _ h => (by cases h), fun _ _ h => (by cases h)⟩
              have := xappend_sound (P := P) (ty := type) hH hbase hz hn
              simp only [Does]
              rw [← hev _ _ hx', ← hev _ _ hy'] at this
              rw [he]
              exact this
        · cases h
      · cases h
    · rename_i t x lo hi mx _
      split at h
      · rename_i x' lo' hi' mx' hx hlo hhi hmx
        obtain ⟨v, hv, hee⟩ := Option.map_eq_some_iff.1 h; cases hee
        refine ⟨?_, fun _ _ h => (by cases h), fun _ _ h => (by cases h)⟩
        have := xsliceN_sound (P := P) (ρ := ρ) (κ := κ) w hv
        rw [← evo_den hev hlo, ← evo_den hev hhi, ← evo_den hev hmx, ← hev _ _ hx] at this
        simp [Does, this]
      · cases h
    · rename_i args argTypes _
      split at h
      · rename_i x t hx ht
        have e1 : args = #[x] := by cases args; simp_all
        have e2 : argTypes = #[t] := by cases argTypes; simp_all
        subst e1; subst e2
        obtain ⟨x', hx', h⟩ := Option.bind_eq_some_iff.1 h
        obtain ⟨v, hv, hee⟩ := Option.map_eq_some_iff.1 h; cases hee
        refine ⟨?_, fun _ _ h => (by cases h), fun _ _ h => (by cases h)⟩
        have := xcap_sound (P := P) (ρ := ρ) (κ := κ) w (ty := type) hv
        rw [← hev _ _ hx'] at this
        simp only [Does, resolve, Sem.run_bind, Sem.run_pure, Result.andThen_ok, invoke, builtin]
        simp [this]
      · cases h
    · rename_i args argTypes _
      split at h
      · rename_i x y t u hx hy
        have e1 : args = #[x, y] := by cases args; simp_all
        have e2 : argTypes = #[t, u] := by cases argTypes; simp_all
        subst e1; subst e2
        split at h
        · rename_i x' y' hx' hy'
          have he : (do
              let d ← resolve e { callee := Callee.builtin Builtin.copy, args := #[x, y], argTypes := #[t, u] } type
              invoke d.target d.args : Sem Next).run P w = ((Builtin.copy_ #[t, u] type #[e x, e y]).run P w).andThen fun v w' => .ok (.value v) w' := by
            simp only [resolve, Sem.run_bind, Sem.run_pure, Result.andThen_ok, invoke, builtin]
            simp
          split at h
          · rename_i z hz
            cases h
            refine ⟨?_, fun _ _ h => (by cases h), fun _ _ h => (by cases h)⟩
            have := xcopyK_sound (P := P) (ty := type) hH hz
            rw [← hev _ _ hx', ← hev _ _ hy'] at this
            simp only [Does]
            rw [he]; exact this
          · obtain ⟨⟨ns', j', ct', v'⟩, hz, hee⟩ := Option.map_eq_some_iff.1 h; cases hee
            refine ⟨?_, fun _ _ h => (by cases h), fun _ _ h => (by cases h)⟩
            have := xcopyR_sound (P := P) (ty := type) hH hz hn
            rw [← hev _ _ hx', ← hev _ _ hy'] at this
            simp only [Does]
            rw [he]; exact this
        · cases h
      · cases h
    · rename_i t p x _
      split at h
      · rename_i id off s hp hx
        split at h
        · rename_i cs cty sz ho hsz
          cases hb : (Nat.beq sz s.cells.length && Nat.ble (off + s.cells.length) cs.length)
          · rw [hb] at h; cases h
          · rw [hb] at h; simp only [cond_true] at h; cases h
            simp only [Bool.and_eq_true, Nat.beq_eq, Nat.ble_eq] at hb
            refine ⟨?_, fun _ _ h => (by cases h), fun _ _ h => (by cases h)⟩
            have := run_store_x (P := P) hH ho off (t := t) (s := s) (by rw [hsz, hb.1]) hb.2
            have hp' : e p = .pointer (some ⟨κ.o id, off, none⟩) := by have := hev _ _ hp; simpa only [SV.den, SA.den, SC.den] using this
            have hx' : e x = s.den ρ κ := hev _ _ hx
            obtain ⟨f1, f2⟩ := hH.store ho off s.cells hb.2
            refine ⟨_, .inr ⟨?_, sundef_den ρ κ⟩, f1, f2⟩
            simp only [hp', hx']
            rw [Sem.run_bind, this]; rfl
        · cases h
      · rename_i p' s hne hp hx
        obtain ⟨⟨ns', j', ct'⟩, hz, hee⟩ := Option.map_eq_some_iff.1 h; cases hee
        refine ⟨?_, fun _ _ h => (by cases h), fun _ _ h => (by cases h)⟩
        obtain ⟨c, pat, E, q1, w', q2, q3⟩ := xset_sound (P := P) hH hz hn
        refine ⟨c, pat, E, q1, w', .inr ⟨?_, sundef_den ρ κ⟩, q3⟩
        have hp' : e p = p'.den ρ κ := hev _ _ hp
        have hx' : e x = s.den ρ κ := hev _ _ hx
        simp only [hp', hx']
        rw [Sem.run_bind, q2]; rfl
      · cases h
    · rename_i t _
      obtain ⟨⟨k, kt, vt⟩, hk, he⟩ := Option.map_eq_some_iff.1 h; cases he
      refine ⟨?_, fun _ _ h => (by cases h), fun _ _ h => (by cases h)⟩
      have := xmkmap_sound (P := P) hH hbase t k
      simp only [Does, Option.map_none]
      rw [Sem.run_bind]; exact this
    · rename_i t m k x _
      split at h
      · rename_i m' k' x' hm hk hx
        obtain ⟨⟨id, ob⟩, hq, he⟩ := Option.map_eq_some_iff.1 h; cases he
        refine ⟨?_, fun _ _ h => (by cases h), fun _ _ h => (by cases h)⟩
        obtain ⟨w', g1, g2, g3⟩ := xput_sound (P := P) hH hq
        refine ⟨w', .inr ⟨?_, sundef_den ρ κ⟩, g2, g3⟩
        simp only [hev _ _ hm, hev _ _ hk, hev _ _ hx]
        rw [Sem.run_bind, g1]; rfl
      · cases h
    · rename_i t m k x _
      split at h
      · rename_i m' k' x' hm hk hx
        obtain ⟨⟨id, ob⟩, hq, he⟩ := Option.map_eq_some_iff.1 h; cases he
        refine ⟨?_, fun _ _ h => (by cases h), fun _ _ h => (by cases h)⟩
        obtain ⟨w', g1, g2, g3⟩ := xput_sound (P := P) hH hq
        refine ⟨w', .inr ⟨?_, sundef_den ρ κ⟩, g2, g3⟩
        simp only [hev _ _ hm, hev _ _ hk, hev _ _ hx]
        rw [Sem.run_bind, g1]; rfl
      · cases h
    · rename_i t m i ok _
      split at h
      · rename_i m' i' hm hi
        obtain ⟨⟨l, v⟩, hq, he⟩ := Option.map_eq_some_iff.1 h; cases he
        refine ⟨?_, fun _ _ h => (by cases h), fun _ _ h => (by cases h)⟩
        have := xlook_sound (P := P) hH hq
        simp only [Does, hev _ _ hm, hev _ _ hi]
        rw [Sem.run_bind, this]; rfl
      · cases h
    · rename_i f args _ _
      split at h
      · rename_i f' fs cs first cap args' hf ha
        cases hb : callable P f'
        · rw [hb] at h; cases h
        · rw [hb] at h; simp only [cond_true] at h; cases h
          refine ⟨?_, fun _ _ h => (by cases h; exact hb), fun _ _ h => (by cases h)⟩
          have e1 : args.map e = (args'.map (SV.den ρ κ)).toArray := by rw [← evs_den hev ha, mapArr]
          have e2 := hev _ _ hf
          simp only [SV.den, SA.den, SC.den, SC.denL_eq] at e2
          simp only [Does, resolve, e2, e1, Deferred.ofValue, Sem.run_bind, Sem.run_pure, Result.andThen_ok, invoke, run_callFunc hb, List.map_append, ungroup_den]
          simp
      · rename_i l args' hf ha
        split at h
        · rename_i rc hrc
          cases h
          refine ⟨?_, fun _ _ h => (by cases h), fun _ _ h => (by cases h; exact ⟨rc, hrc⟩)⟩
          have e1 : args.map e = (args'.map (SV.den ρ κ)).toArray := by rw [← evs_den hev ha, mapArr]
          have e2 := hev _ _ hf
          simp only [SV.den, SA.den, SC.den] at e2
          refine ⟨rc, hrc, fun b hb2 hbs => ?_⟩
          simp only [resolve, e2, e1, Deferred.ofValue, Sem.run_bind, Sem.run_pure, Result.andThen_ok, invoke]
          have := run_yield (P := P) (args := (args'.map (SV.den ρ κ)).toArray) hb2 (by simp [hbs])
          simpa using this
        · cases h
      · cases h
    · cases h
/-! ### the same, by small pieces: quick in the kernel -/
section
variable (P : Program) (H : Heap) (ev : Operand → Option SV)
def xv_pick (c a b : Operand) : XV := match ev c, ev a, ev b with
    | some (.a (.c (.bool c))), some a, some b => some ([], SV.pick c a b)
    | _, _, _ => none
def xv_bin (op : BinOp) (t : TypeId) (x y : Operand) : XV := match ev x, ev y with
    | some x, some y => match xbin P op t x y with
      | some r => some r
      | none => xbinS op x y
    | _, _ => none
def xv_un (op : UnOp) (x : Operand) : XV := (ev x).bind fun x => nons (xun op x)
def xv_conv (s d : TypeId) (x : Operand) : XV := (ev x).bind fun x => match xconv P s d x with
    | some v => some ([], v)
    | none => xstr P H s d x
def xv_fa (t : TypeId) (x : Operand) (f : Nat) : XV := (ev x).bind fun x => xfieldAddr P t x f
def xv_f (t : TypeId) (x : Operand) (f : Nat) : XV := (ev x).bind fun x => xfield P t x f
def xv_ia (t : TypeId) (x i : Operand) : XV := match ev x, ev i with
    | some x, some i => xindexAddr P H t x i
    | _, _ => none
def xv_i (t : TypeId) (x i : Operand) : XV := match ev x, ev i with
    | some x, some i => xindex P t x i
    | _, _ => none
def xv_load (t : TypeId) (x : Operand) : XV := (ev x).bind fun x => xload P H t x
def xv_ext (x : Operand) (i : Nat) : XV := (ev x).bind fun x => xextract x i
def xv_build (t : TypeId) (ps : Array (Nat × Operand)) : XV := xbuild P ev t ps.toList
def xv_slice (t : TypeId) (x : Operand) (lo hi mx : Option Operand) : XV := match ev x, evo ev lo, evo ev hi, evo ev mx with
    | some x, some lo, some hi, some mx => xslice P H t x lo hi mx
    | _, _, _, _ => none
def xv_fn (f : Fn) (a b : Array Operand) : XV := match (evs ev a.toList).bind xbound, (evs ev b.toList).bind xbound with
    | some a, some b => some ([], .c (.fn ⟨f, a.1, b.1⟩ a.2 b.2))
    | _, _ => none
def xv_len (args : Array Operand) (argTypes : Array TypeId) : XV := match args.toList, argTypes.toList with
    | [x], [t] => (ev x).bind fun x => nons (xlen P t x)
    | _, _ => none
def xv_min (args : Array Operand) : XV := match evs ev args.toList with
    | some [.a (.c (.int k x)), .a (.c (.int _ y))] => some ([], .c (.int k (mkCs .lss y x y x)))
    | _ => none
def xv_max (args : Array Operand) : XV := match evs ev args.toList with
    | some [.a (.c (.int k x)), .a (.c (.int _ y))] => some ([], .c (.int k (mkCs .gtr y x y x)))
    | _ => none
def xv_blt (b : Builtin) (args : Array Operand) (argTypes : Array TypeId) : XV := match b with
  | .len => xv_len P ev args argTypes
  | .min => xv_min ev args
  | .max => xv_max ev args
  | _ => none
def xv_call (c : Call) : XV := match c with
  | { callee := c, args, argTypes } => match c with
    | .builtin b => xv_blt P ev b args argTypes
    | _ => none
def xv_nil (x : Operand) : XV := match ev x with
    | some (.a (.c s)) => match s with
      | .ptr .. | .aptr .. => some ([], .c s)
      | .fn ⟨.func f, fs, cs⟩ a b => some ([], .c (.fn ⟨.func f, fs, cs⟩ a b))
      | _ => none
    | _ => none
def xvalF (o : Op) : XV :=
  match o with
  | .move x => nons (ev x)
  | .assign x => nons (ev x)
  | .pick c a b => xv_pick ev c a b
  | .binOp op t x y _ => xv_bin P ev op t x y
  | .unOp op _ x => xv_un ev op x
  | .convert s d x => xv_conv P H ev s d x
  | .fieldAddr t x f => xv_fa P ev t x f
  | .field t x f => xv_f P ev t x f
  | .indexAddr t x i => xv_ia P H ev t x i
  | .index t x i => xv_i P ev t x i
  | .load t x => xv_load P H ev t x
  | .extract x i => xv_ext ev x i
  | .build t ps => xv_build P ev t ps
  | .slice t x lo hi mx => xv_slice P H ev t x lo hi mx
  | .makeFunc f a b => xv_fn ev f a b
  | .call c => xv_call P ev c
  | .nilCheck x => xv_nil ev x
  | _ => none
theorem xvalF_eq (o : Op) : xvalF P H ev o = xval P H ev o := by
  cases o <;> first | rfl | skip
  rename_i c
  obtain ⟨c, a, ts⟩ := c
  cases c <;> first | rfl | skip
  rename_i b
  cases b <;> rfl
def xo_new (s : Option SA) (t : TypeId) : Option (List BE × ORes) := s.map fun z => ([], .new (.cells z.cells t none) .ptr none)
def xo_box (t : TypeId) (x : Operand) : Option (List BE × ORes) := match ev x with
      | some (.a s) => some ([], .new (.cells s.cells t none) .ptr none)
      | _ => none
def xo_bs (t : TypeId) (len : Nat) (ps : Array (Nat × Operand)) : Option (List BE × ORes) := match P.underlying t with
      | some (.slice e) => match sizeP P e, zeroP P e, xparts ev ps.toList with
        | some sz, some z, some ps => bif Nat.ble (len * sz) 16777216 && (Nat.beq (len * sz) 0 || Nat.blt 0 z.cells.length) then (xfill (fun i => some (i * sz, sz)) (rep z.cells (len * sz)) ps).map fun cs => ([], .new (.cells cs e none) (.os len len) none) else none
        | _, _, _ => none
      | _ => none
def xo_ms (t : TypeId) (l c : Operand) : Option (List BE × ORes) := match ev l, ev c with
      | some l, some c => match xmakeK P t l c with
        | some (cs, e, L) => some ([], .new (.cells cs e none) (.os L L) none)
        | none => (xmake P t l c).map fun x => (x.1, .row x.2)
      | _, _ => none
def xo_app (args : Array Operand) (argTypes : Array TypeId) : Option (List BE × ORes) := match args.toList, argTypes.toList with
      | [x, y], [t, u] => match ev x, ev y with
        | some x, some y => match xappK P H t u x y with
          | some r => some ([], r)
          | none => bif Nat.beq t u then (xappend P H t x y).map fun x => (x.1, .row x.2) else (xappZ P t u x y).map fun r => ([], r)
        | _, _ => none
      | _, _ => none
def xo_slice (t : TypeId) (x : Operand) (lo hi mx : Option Operand) : Option (List BE × ORes) := match ev x, evo ev lo, evo ev hi, evo ev mx with
      | some x, some lo, some hi, some mx => (xsliceN P t x lo hi mx).map fun v => ([], .val v)
      | _, _, _, _ => none
def xo_cap (args : Array Operand) (argTypes : Array TypeId) : Option (List BE × ORes) := match args.toList, argTypes.toList with
      | [x], [t] => (ev x).bind fun x => (xcap P t x).map fun v => ([], .val v)
      | _, _ => none
def xo_copy (args : Array Operand) (argTypes : Array TypeId) : Option (List BE × ORes) := match args.toList, argTypes.toList with
      | [x, y], [t, u] => match ev x, ev y with
        | some x, some y => match xcopyK P H t u x y with
          | some r => some ([], .upd r.1 r.2)
          | none => (xcopyR P H t u x y).map fun r => (r.1, .turn r.2.1 r.2.2.1 r.2.2.2)
        | _, _ => none
      | _, _ => none
def xo_store (t : TypeId) (p x : Operand) : Option (List BE × ORes) := match ev p, ev x with
      | some (.a (.c (.ptr id off))), some (.a s) => match H.own? id, sizeP P t with
        | some (cs, _), some sz => bif Nat.beq sz s.cells.length && Nat.ble (off + s.cells.length) cs.length then some ([], .upd (H.setOwn id (setMany cs off s.cells)) sundef) else none
        | _, _ => none
      | some (.a (.c p)), some (.a s) => (xset P H t p s).map fun r => (r.1, .turn r.2.1 r.2.2 sundef)
      | _, _ => none
def xo_mm (t : TypeId) (r : Option Operand) : Option (List BE × ORes) := match r with
  | none => (mapP P t).map fun x => ([], .new (.map x.1 []) .mref none)
  | some _ => none
def xo_put (t : TypeId) (m k x : Operand) : Option (List BE × ORes) := match ev m, ev k, ev x with
      | some m, some k, some x => (xput P H t m k x).map fun r => ([], .upd (H.setObj r.1 r.2) sundef)
      | _, _, _ => none
def xo_look (t : TypeId) (m i : Operand) (ok : Bool) : Option (List BE × ORes) := match ev m, ev i with
      | some m, some i => (xlook P H t m i ok).map fun r => ([], .alts r.1 r.2)
      | _, _ => none
def xo_val (f : Operand) (args : Array Operand) : Option (List BE × ORes) := match ev f, evs ev args.toList with
      | some (.a (.c (.fn ⟨.func f, fs, cs⟩ first cap))), some args => bif callable P f then some ([], .call f (ungroup fs first ++ (args ++ ungroup cs cap))) else none
      | some (.a (.c (.yld l))), some args => match H.obj? l with
        | some (.loop _) => some ([], .yld l args)
        | _ => none
      | _, _ => none
def xo_blt (b : Builtin) (args : Array Operand) (argTypes : Array TypeId) : Option (List BE × ORes) := match b with
  | .append => xo_app P H ev args argTypes
  | .cap => xo_cap P ev args argTypes
  | .copy => xo_copy P H ev args argTypes
  | _ => none
def xo_call (c : Call) : Option (List BE × ORes) := match c with
  | { callee := c, args, argTypes } => match c with
    | .builtin b => xo_blt P H ev b args argTypes
    | .value f => xo_val P H ev f args
    | _ => none
def xoneE (o : Op) : Option (List BE × ORes) := match o with
    | .alloc t => xo_new (zeroP P t) t
    | .box t x => xo_box ev t x
    | .buildSlice t len ps => xo_bs P ev t len ps
    | .makeSlice t l c => xo_ms P ev t l c
    | .call c => xo_call P H ev c
    | .slice t x lo hi mx => xo_slice P ev t x lo hi mx
    | .store t p x => xo_store P H ev t p x
    | .makeMap t r => xo_mm P t r
    | .mapUpdate t m k x => xo_put P H ev t m k x
    | .insert t m k x => xo_put P H ev t m k x
    | .lookup t m i ok => xo_look P H ev t m i ok
    | _ => none
def xoneF (o : Op) : Option (List BE × ORes) :=
  match xvalF P H ev o with
  | some r => some (r.1, .val r.2)
  | none => xoneE P H ev o
theorem xoneF_eq (o : Op) : xoneF P H ev o = xone P H ev o := by
  unfold xoneF xone
  rw [xvalF_eq]
  cases xval P H ev o with
  | some r => rfl
  | none =>
    cases o <;> first | rfl | skip
    · rename_i t r; cases r <;> rfl
    · rename_i c
      obtain ⟨c, a, ts⟩ := c
      cases c <;> first | rfl | skip
      rename_i b
      cases b <;> rfl
end
end Go.SX
