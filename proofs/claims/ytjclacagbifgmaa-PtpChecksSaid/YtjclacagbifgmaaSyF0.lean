/- SyF0: strings of bytes: from a slice of bytes; when two are equal. -/
import Derived.Test.YtjclacagbifgmaaSyS
import Derived.Laws.BytesString
set_option linter.unusedSimpArgs false
set_option linter.unusedVariables false
set_option linter.unusedSectionVars false
noncomputable section
namespace Go.SX
open Go Go.RowKit

/-- surely a byte -/
def inb : IE → Bool
  | .lit (.ofNat n) => Nat.blt n 256
  | .conv .u8 _ => true
  | .bin .add .u8 _ _ | .bin .sub .u8 _ _ | .bin .mul .u8 _ _ => true
  | _ => false
theorem wrap_u8 (n : Int) : 0 ≤ IntKind.u8.wrap n ∧ IntKind.u8.wrap n < 256 := by
  simp only [IntKind.wrap, IntKind.bits, IntKind.signed]; simp; omega
theorem inb_den {e : IE} (h : inb e = true) (ρ : Env) : 0 ≤ e.den ρ ∧ e.den ρ < 256 := by
  unfold inb at h
  split at h <;> first | (cases h; done) | skip
  · rw [Nat.blt_eq] at h; simp only [IE.den]; exact ⟨by simp, by simp; omega⟩
  all_goals (simp only [IE.den, bi]; exact wrap_u8 _)
def byteNeed (e : IE) : List BE := bif inb e then [] else needLeq (.lit 0) e ++ needLss e (.lit 256)
theorem byteNeed_den {ρ : Env} {e : IE} (h : ∀ p ∈ byteNeed e, p.den ρ = true) : 0 ≤ e.den ρ ∧ e.den ρ < 256 := by
  unfold byteNeed at h
  cases hq : inb e
  · rw [hq] at h; simp only [cond_false] at h
    obtain ⟨h1, h2⟩ := forall_append h
    have := needLeq_den h1; have := needLss_den h2
    simp only [IE.den] at *; omega
  · exact inb_den hq ρ
def byteNeeds : List IE → List BE
  | [] => []
  | e :: l => byteNeed e ++ byteNeeds l
theorem byteNeeds_den {ρ : Env} : ∀ {l : List IE}, (∀ p ∈ byteNeeds l, p.den ρ = true) → ∀ e ∈ l, 0 ≤ e.den ρ ∧ e.den ρ < 256
  | [], _, _, h => by cases h
  | x :: l, h, e, he => by
    obtain ⟨h1, h2⟩ := forall_append h
    rcases List.mem_cons.1 he with rfl | he
    · exact byteNeed_den h1
    · exact byteNeeds_den h2 e he
theorem u8_eq {a b : Int} (ha : 0 ≤ a ∧ a < 256) (hb : 0 ≤ b ∧ b < 256) : (UInt8.ofNat a.toNat == UInt8.ofNat b.toNat) = (a == b) := by
  rw [Bool.eq_iff_iff, beq_iff_eq, beq_iff_eq]
  constructor
  · intro h
    have := congrArg UInt8.toNat h
    simp only [UInt8.toNat_ofNat'] at this
    rw [Nat.mod_eq_of_lt (by omega), Nat.mod_eq_of_lt (by omega)] at this
    omega
  · rintro rfl; rfl
def u8s (l : List Int) : List UInt8 := l.map fun n => UInt8.ofNat n.toNat
theorem u8s_eq : ∀ {a b : List Int}, (∀ x ∈ a, 0 ≤ x ∧ x < 256) → (∀ x ∈ b, 0 ≤ x ∧ x < 256) → (u8s a == u8s b) = (a == b)
  | [], [], _, _ => rfl
  | [], _ :: _, _, _ => rfl
  | _ :: _, [], _, _ => rfl
  | x :: a, y :: b, ha, hb => by
    have h1 := u8_eq (ha x (List.mem_cons_self ..)) (hb y (List.mem_cons_self ..))
    have h2 := u8s_eq (a := a) (b := b) (fun z hz => ha z (List.mem_cons_of_mem _ hz)) (fun z hz => hb z (List.mem_cons_of_mem _ hz))
    simp only [u8s, List.map_cons] at h2 ⊢
    rw [List.cons_beq_cons, List.cons_beq_cons, h1, h2]
/-- the bytes, where their number is known -/
def bytesIE : SC → Option (List IE)
  | .str l => some l
  | .lit (.string s) => some (s.data.toList.map fun b => .lit (.ofNat b.toNat))
  | _ => none
theorem bytesIE_den {s : SC} {l : List IE} (h : bytesIE s = some l) (ρ : Env) (κ : Kap) : s.den ρ κ = bytesOf (l.map (IE.den ρ)) := by
  unfold bytesIE at h
  split at h
  · cases h; simp only [SC.den]
  · cases h
    rename_i s
    simp only [SC.den, bigCell, Value.oneCell', if_true, bytesOf, List.map_map]
    congr 1
    cases s with
    | mk d =>
      congr 1
      apply Array.toList_inj.1
      simp only [List.toList_toArray]
      apply List.ext_getElem
      · simp
      · intro i h1 h2; simp [IE.den]
  · cases h
def eqAll : List IE → List IE → BE
  | a :: l, b :: r => mkAnd (mkCmp .eql a b) (eqAll l r)
  | [], [] => .lit true
  | _, _ => .lit false
theorem eqAll_den (ρ : Env) : ∀ (l r : List IE), (eqAll l r).den ρ = (l.map (IE.den ρ) == r.map (IE.den ρ))
  | [], [] => rfl
  | [], _ :: _ => rfl
  | _ :: _, [] => rfl
  | a :: l, b :: r => by simp only [eqAll, mkAnd_den, mkCmp_den, bc, List.map_cons, List.cons_beq_cons, eqAll_den ρ l r]
def selsFrom (c : Nat) (x : IE) : Nat → Nat → List IE
  | _, 0 => []
  | i, n + 1 => .sel c 0 (mkPlus x (.lit (.ofNat i))) :: selsFrom c x (i + 1) n
def orNeeds (p : BE) : List BE → List BE
  | [] => []
  | q :: l => mkOr p q :: orNeeds p l
theorem orNeeds_den {ρ : Env} {p : BE} (hp : p.den ρ = false) : ∀ {l : List BE}, (∀ q ∈ orNeeds p l, q.den ρ = true) → ∀ q ∈ l, q.den ρ = true
  | [], _, _, h => by cases h
  | x :: l, h, q, hq => by
    rcases List.mem_cons.1 hq with rfl | hq
    · have := h _ (List.mem_cons_self ..); rw [mkOr_den, hp] at this; simpa using this
    · exact orNeeds_den hp (fun q hq => h q (List.mem_cons_of_mem _ hq)) q hq
theorem selsFrom_den {ρ : Env} {c : Nat} {x : IE} (hx : 0 ≤ x.den ρ) : ∀ (n i : Nat), (x.den ρ).toNat + i + n ≤ (ρ.a c).length →
    (selsFrom c x i n).map (IE.den ρ) = (((ρ.a c).drop ((x.den ρ).toNat + i)).take n).map fun r => (r.getD 0 (.i 0)).int
  | 0, i, _ => by simp [selsFrom]
  | n + 1, i, h => by
    have ih := selsFrom_den (c := c) hx n (i + 1) (by omega)
    have hlt : (x.den ρ).toNat + i < (ρ.a c).length := by omega
    rw [List.drop_eq_getElem_cons hlt, List.take_succ_cons, List.map_cons]
    simp only [selsFrom, List.map_cons, ih, IE.den, mkPlus_den, Env.at]
    have e : (x.den ρ + Int.ofNat i).toNat = (x.den ρ).toNat + i := by simp; omega
    rw [e]
    simp [List.getD_eq_getElem?_getD, hlt]
    simp [Nat.add_assoc]
theorem SC.den_strA (c : Nat) (x len : IE) (ρ : Env) (κ : Kap) : (SC.strA c x len).den ρ κ = bytesOf ((((ρ.a c).drop (x.den ρ).toNat).take (len.den ρ).toNat).map fun r => (r.getD 0 (.i 0)).int) := by simp only [SC.den]
/-- whether two strings are equal -/
def xstrEq (x y : SC) : Option (List BE × BE) :=
  match bytesIE x, bytesIE y, x, y with
  | some l, some r, _, _ => bif Nat.beq l.length r.length then some (byteNeeds l ++ byteNeeds r, eqAll l r) else some (byteNeeds l ++ byteNeeds r, .lit false)
  | some l, none, _, .strA c x len =>
    let p := mkCmp .eql len (.lit (.ofNat l.length))
    let q := selsFrom c x 0 l.length
    some (needLeq (.lit 0) x ++ (needLeq (.lit 0) len ++ (needLeq (mkPlus x len) (.alen c) ++ (byteNeeds l ++ orNeeds (mkNot p) (byteNeeds q)))), mkAnd p (eqAll l q))
  | _, _, _, _ => none
theorem xstrEq_sound {x y : SC} {ns : List BE} {b : BE} (h : xstrEq x y = some (ns, b)) {ρ : Env} {κ : Kap} (hn : ∀ p ∈ ns, p.den ρ = true) :
    ∃ s t : List Int, x.den ρ κ = bytesOf s ∧ y.den ρ κ = bytesOf t ∧ b.den ρ = (u8s s == u8s t) := by
  unfold xstrEq at h
  split at h
  · rename_i l r hl hr
    refine ⟨_, _, bytesIE_den hl ρ κ, bytesIE_den hr ρ κ, ?_⟩
    have key : (∀ p ∈ byteNeeds l ++ byteNeeds r, p.den ρ = true) → (u8s (l.map (IE.den ρ)) == u8s (r.map (IE.den ρ))) = (l.map (IE.den ρ) == r.map (IE.den ρ)) := fun hn => by
      obtain ⟨n1, n2⟩ := forall_append hn
      exact u8s_eq (fun x hx => by obtain ⟨e, he, rfl⟩ := List.mem_map.1 hx; exact byteNeeds_den n1 e he) (fun x hx => by obtain ⟨e, he, rfl⟩ := List.mem_map.1 hx; exact byteNeeds_den n2 e he)
    cases hq : Nat.beq l.length r.length
    · rw [hq] at h; simp only [cond_false] at h; cases h
      rw [key hn]
      symm; simp only [BE.den, beq_eq_false_iff_ne]
      intro e
      have := congrArg List.length e
      simp at this
      exact beq_false hq this
    · rw [hq] at h; simp only [cond_true] at h; cases h
      rw [key hn, eqAll_den]
  · rename_i l c x len hl _
    cases h
    obtain ⟨n1, n2⟩ := forall_append hn
    obtain ⟨n2, n3⟩ := forall_append n2
    obtain ⟨n3, n4⟩ := forall_append n3
    obtain ⟨n4, n5⟩ := forall_append n4
    have m1 := needLeq_den n1
    have m2 := needLeq_den n2
    have m3 := needLeq_den n3
    simp only [IE.den, mkPlus_den] at m1 m2 m3
    refine ⟨_, _, bytesIE_den hl ρ κ, SC.den_strA c x len ρ κ, ?_⟩
    have hp := mkCmp_den ρ .eql len (.lit (.ofNat l.length))
    simp only [bc, IE.den] at hp
    rw [mkAnd_den]
    by_cases he : len.den ρ = Int.ofNat l.length
    · have hpt : (mkCmp .eql len (.lit (.ofNat l.length))).den ρ = true := by rw [hp]; simpa using he
      rw [hpt, Bool.true_and, eqAll_den]
      have hlen : (len.den ρ).toNat = l.length := by rw [he]; rfl
      have hs := selsFrom_den (ρ := ρ) (c := c) (x := x) m1 l.length 0 (by omega)
      rw [Nat.add_zero] at hs
      have nq := byteNeeds_den (orNeeds_den (by rw [mkNot_den, hpt]; rfl) n5)
      rw [hlen, ← hs]
      symm
      exact u8s_eq (fun x hx => by obtain ⟨e, he, rfl⟩ := List.mem_map.1 hx; exact byteNeeds_den n4 e he) (fun x hx => by obtain ⟨e, he, rfl⟩ := List.mem_map.1 hx; exact nq e he)
    · have hpf : (mkCmp .eql len (.lit (.ofNat l.length))).den ρ = false := by rw [hp]; simpa using he
      rw [hpf, Bool.false_and]
      symm; rw [beq_eq_false_iff_ne]
      intro e
      have := congrArg List.length e
      simp only [u8s, List.length_map, List.length_take, List.length_drop] at this
      apply he
      have : len.den ρ = ((len.den ρ).toNat : Int) := by omega
      rw [this]
      simp only [Int.ofNat_eq_natCast]
      omega
  · cases h
def xbinS (op : BinOp) (x y : SV) : XV := match x, y with
  | .a (.c x), .a (.c y) => match xstrEq x y with
    | some (ns, b) => (eqv op b).map fun v => (ns, v)
    | none => match xstrEq y x with
      | some (ns, b) => (eqv op b).map fun v => (ns, v)
      | none => none
  | _, _ => none
theorem run_bytesEq {P : Program} {ρ : Env} {κ : Kap} (w : World) {op : BinOp} (t : TypeId) (X Y : Operand) {b : BE} {v : SV} (hv : eqv op b = some v) {s u : List Int} (hb : b.den ρ = (u8s s == u8s u)) :
    (do eqGuard op t X Y (bytesOf s) (bytesOf u); binOp op t (bytesOf s) (bytesOf u)).run P w = .ok (v.den ρ κ) w := by
  have e : ∀ l : List Int, (ByteArray.mk (l.map fun n => UInt8.ofNat n.toNat).toArray).toList = u8s l := fun l => ByteArray.toList_mk _
  rcases eqv_den (ρ := ρ) (κ := κ) hv with ⟨rfl, hd⟩ | ⟨rfl, hd⟩
  · rw [hd, hb]; simp only [bytesOf, eqGuard, binOp_string_eql, e]; simp
  · rw [hd, hb]; simp only [bytesOf, eqGuard, binOp_string_neq, e]; simp
theorem xbinS_sound {P : Program} {ρ : Env} {κ : Kap} (w : World) {op : BinOp} {t : TypeId} {X Y : Operand} {x y : SV} {ns : List BE} {s : SV} (h : xbinS op x y = some (ns, s)) (hn : ∀ p ∈ ns, p.den ρ = true) :
    (do eqGuard op t X Y (x.den ρ κ) (y.den ρ κ); binOp op t (x.den ρ κ) (y.den ρ κ)).run P w = .ok (s.den ρ κ) w := by
  unfold xbinS at h
  split at h
  · rename_i x y
    simp only [SV.den, SA.den]
    split at h
    · rename_i ns' b hs
      obtain ⟨v, hv, he⟩ := Option.map_eq_some_iff.1 h; cases he
      obtain ⟨a1, a2, e1, e2, e3⟩ := xstrEq_sound (κ := κ) hs hn
      rw [e1, e2]
      exact run_bytesEq w t X Y hv e3
    · split at h
      · rename_i ns' b hs
        obtain ⟨v, hv, he⟩ := Option.map_eq_some_iff.1 h; cases he
        obtain ⟨a1, a2, e1, e2, e3⟩ := xstrEq_sound (κ := κ) hs hn
        rw [e1, e2]
        refine run_bytesEq w t X Y hv ?_
        rw [e3, Bool.eq_iff_iff, beq_iff_eq, beq_iff_eq]; exact eq_comm
      · cases h
  · cases h

/-! ### a slice of bytes as a string -/
def intsOf : List SC → Option (List IE)
  | [] => some []
  | .int .u8 e :: l => (intsOf l).map (e :: ·)
  | _ => none
theorem intsOf_den {ρ : Env} {κ : Kap} : ∀ {l : List SC} {r : List IE}, intsOf l = some r → l.map (SC.den ρ κ) = (r.map (IE.den ρ)).map (Value.int .u8)
  | [], _, h => by cases h; rfl
  | s :: l, r, h => by
    unfold intsOf at h
    split at h
    · rename_i heq; cases heq
    · rename_i e l' heq
      cases heq
      obtain ⟨q, hq, rfl⟩ := Option.map_eq_some_iff.1 h
      simp only [List.map_cons, intsOf_den hq, SC.den]
    · cases h
def xstr (P : Program) (H : Heap) (src dst : TypeId) (x : SV) : XV :=
  match P.underlying src, P.underlying dst, x with
  | some (.slice e), some .string, .a (.c x) => match P.underlying e with
    | some (.int .u8) => match x with
      | .lit (.slice none 0 0) => some ([], .c (.str []))
      | .oslice id off len _ | .gslice id off len _ => match H.own? id with
        | some (cs, _) => bif Nat.beq ((cs.drop off).take len).length len then (intsOf ((cs.drop off).take len)).map fun l => ([], .c (.str l)) else none
        | none => none
      | .slice j 1 0 x len _ => match H.arr? j with
        | some (c, [.int .u8], _) => some (needLeq (.lit 0) x ++ (needLeq (.lit 0) len ++ needLeq (mkPlus x len) (.alen c)), .c (.strA c x len))
        | _ => none
      | _ => none
    | _ => none
  | _, _, _ => none
theorem foldl_push (ns : List Int) (s : ByteArray) : ns.foldl (fun r n => r.push (UInt8.ofNat n.toNat)) s = ⟨(s.data.toList ++ u8s ns).toArray⟩ := by
  induction ns generalizing s with
  | nil => simp [u8s]
  | cons n ns ih =>
    simp only [List.foldl_cons, ih, u8s, List.map_cons]
    cases s; simp [ByteArray.push]
theorem run_str {P : Program} {w : World} {src dst e : TypeId} {a : Addr} {l c : Nat} (hs : P.underlying src = some (.slice e)) (he : P.underlying e = some (.int .u8)) (hd : P.underlying dst = some .string) {ns : List Int}
    (h : (loadCells a l).run P w = .ok (ns.map (Value.int .u8)).toArray w) : (convert src dst (.slice (some a) l c)).run P w = .ok (bytesOf ns) w := by
  rw [run_convert_bytes_string w src dst e _ _ _ hs he hd, run_bytesToString w a l c ns h, foldl_push]
  rfl
theorem run_loadCells_range {P : Program} {w : World} {b o : Nat} {l : List Value} (h : w.rangeAt b o l) : (loadCells ⟨b, o, none⟩ l.length).run P w = .ok l.toArray w :=
  run_loadCells_list w _ l fun j v hv => by rw [Addr.add_mid]; exact h j v hv
theorem xstr_sound {P : Program} {ρ : Env} {κ : Kap} {base : Bk} {H : Heap} {w : World} (hH : HeapOk ρ κ base H w) {src dst : TypeId} {x : SV} {ns : List BE} {s : SV} (h : xstr P H src dst x = some (ns, s)) (hn : ∀ p ∈ ns, p.den ρ = true) :
    (convert src dst (x.den ρ κ)).run P w = .ok (s.den ρ κ) w := by
  unfold xstr at h
  split at h
  · rename_i e x hs hd
    have own : ∀ (id off len : Nat) (capv : Nat) (cs : List SC) (ty : TypeId), H.own? id = some (cs, ty) → (bif Nat.beq ((cs.drop off).take len).length len then (intsOf ((cs.drop off).take len)).map fun l => (([] : List BE), SV.c (.str l)) else none) = some (ns, s) → P.underlying e = some (.int .u8) →
        (convert src dst (.slice (some ⟨κ.o id, off, none⟩) len capv)).run P w = .ok (s.den ρ κ) w := by
      intro id off len capv cs ty ho h he
      cases hq : Nat.beq ((cs.drop off).take len).length len
      · rw [hq] at h; cases h
      · rw [hq] at h; simp only [cond_true] at h
        rw [Nat.beq_eq] at hq
        obtain ⟨l, hl, hh⟩ := Option.map_eq_some_iff.1 h; cases hh
        have hr := hH.range ho hq
        rw [intsOf_den hl] at hr
        have := run_loadCells_range (P := P) hr
        simp only [List.length_map] at this
        have hll : l.length = len := by
          have := congrArg List.length (intsOf_den (ρ := ρ) (κ := κ) hl); simp only [List.length_map] at this; omega
        rw [hll] at this
        rw [run_str hs he hd this]
        simp only [SV.den, SA.den, SC.den]
    split at h
    · rename_i he
      split at h
      · cases h
        simp only [SV.den, SA.den, SC.den, bigCell, Value.oneCell', if_true, List.map_nil, bytesOf]
        rw [run_convert_bytes_string w src dst e _ _ _ hs he hd]
        simp only [Conv.bytesToString, Sem.run_pure]
        rfl
      · rename_i id off len cap
        split at h
        · rename_i cs ty ho
          simp only [SV.den, SA.den, SC.den]
          exact own id off len _ cs ty ho h he
        · cases h
      · rename_i id off len cap
        split at h
        · rename_i cs ty ho
          simp only [SV.den, SA.den, SC.den]
          exact own id off len _ cs ty ho h he
        · cases h
      · rename_i j x len cap
        split at h
        · rename_i c o ha
          cases h
          obtain ⟨n1, n2⟩ := forall_append hn
          obtain ⟨n2, n3⟩ := forall_append n2
          have m1 := needLeq_den n1
          have m2 := needLeq_den n2
          have m3 := needLeq_den n3
          simp only [IE.den, mkPlus_den] at m1 m2 m3
          obtain ⟨a1, a2⟩ := hH.arr j c _ o ha
          simp only [SV.den, SA.den, SC.den, slAddr, Nat.mul_one, Nat.add_zero]
          cases hnl : ρ.nl j
          · simp only [Bool.false_eq_true, if_false]
            have hlen : (((ρ.a c).drop (x.den ρ).toNat).take (len.den ρ).toNat).length = (len.den ρ).toNat := by simp; omega
            refine run_str hs he hd ?_
            have hr : w.rangeAt (κ.ab j) (κ.ao j + (x.den ρ).toNat) (((((ρ.a c).drop (x.den ρ).toNat).take (len.den ρ).toNat).map fun r => (r.getD 0 (.i 0)).int).map (Value.int .u8)) := by
              intro q v hv
              simp only [List.getElem?_map, Option.map_eq_some_iff] at hv
              obtain ⟨_, ⟨r, hr, rfl⟩, rfl⟩ := hv
              rw [List.getElem?_take] at hr
              split at hr
              · rw [List.getElem?_drop] at hr
                have := a1 _ 0 r (.int .u8) hr rfl
                simp only [List.length_cons, List.length_nil, Nat.mul_one, Nat.add_zero, Nat.zero_add] at this
                rw [← Nat.add_assoc] at this
                exact this
              · cases hr
            have := run_loadCells_range (P := P) hr
            simp only [List.length_map, hlen] at this
            exact this
          · simp only [if_true]
            have h0 := a2 hnl
            rw [h0] at m3
            have hl0 : (len.den ρ).toNat = 0 := by simp at m3; omega
            rw [run_convert_bytes_string w src dst e _ _ _ hs he hd]
            simp only [Conv.bytesToString, Sem.run_pure, hl0, List.take_zero, List.map_nil, bytesOf]
            rfl
        · cases h
      · cases h
    · cases h
  · cases h
end Go.SX
