/- SxD: addresses, loads, parts, builds, slices of slices. -/
import Derived.Test.YtjclacagbifgmaaSyC
set_option linter.unusedSimpArgs false
set_option linter.unusedVariables false
set_option linter.unusedSectionVars false
noncomputable section
namespace Go.SX
open Go Go.RowKit

/-! ### addresses -/
def movePtr (p : SC) (n : Nat) : Option SC := match p with
  | .ptr id off => some (.ptr id (off + n))
  | .aptr j s c x => some (.aptr j s (c + n) x)
  | _ => none
theorem movePtr_den {ρ : Env} {κ : Kap} {p q : SC} {n : Nat} (h : movePtr p n = some q) : ∃ a : Addr, p.den ρ κ = .pointer (some a) ∧ q.den ρ κ = .pointer (some (a.add n)) := by
  unfold movePtr at h
  split at h <;> simp at h <;> subst h <;> simp only [SC.den]
  · exact ⟨_, rfl, by rw [Addr.add_mid]⟩
  · exact ⟨_, rfl, by rw [Addr.add_mid]; simp only [Nat.add_assoc]⟩
def xfieldAddr (P : Program) (t : TypeId) (p : SV) (f : Nat) : XV :=
  match p with
  | .a (.c p) => match fieldP P t f with
    | some fd => match sizeP P fd.type with
      | some (_ + 1) => (movePtr p fd.offset).map fun q => ([], .c q)
      | _ => none
    | none => none
  | _ => none
theorem xfieldAddr_sound {P : Program} {ρ : Env} {κ : Kap} (w : World) {t : TypeId} {p : SV} {f : Nat} {ns : List BE} {s : SV} (h : xfieldAddr P t p f = some (ns, s)) :
    (Instr.fieldAt t (p.den ρ κ) f).run P w = .ok (s.den ρ κ) w := by
  unfold xfieldAddr at h
  split at h
  · rename_i p
    split at h
    · rename_i fd hfd
      split at h
      · rename_i n hs
        obtain ⟨q, hq, he⟩ := Option.map_eq_some_iff.1 h; cases he
        obtain ⟨a, e1, e2⟩ := movePtr_den (ρ := ρ) (κ := κ) hq
        unfold fieldP at hfd
        split at hfd
        · rename_i fs hu
          simp only [SV.den, SA.den, e1, e2, Instr.fieldAt, Sem.run_bind, run_underlying hu, Result.andThen_ok, hfd, Instr.sureAddr, Sem.run_pure, fieldPlace, run_sizeP hs]
          simp
        · cases hfd
      · cases h
    · cases h
  · cases h
/-- an index into a row that is known by number, or into an array -/
def xindexAddr (P : Program) (H : Heap) (t : TypeId) (p i : SV) : XV :=
  match p, i with
  | .a (.c p), .a (.c (.int _ i)) => match P.underlying t, p, i with
    | some (.array n e), p, .lit (.ofNat m) => bif Nat.blt m n then match sizeP P e with
        | some z => (movePtr p (m * z)).map fun q => ([], .c q)
        | none => none
      else none
    | some (.slice e), .oslice id off len _, .lit (.ofNat m) => bif Nat.blt m len then match sizeP P e with
        | some z => some ([], .c (.ptr id (off + m * z)))
        | none => none
      else none
    | some (.slice e), .gslice id off len _, .lit (.ofNat m) => bif Nat.blt m len then match sizeP P e with
        | some z => some ([], .c (.ptr id (off + m * z)))
        | none => none
      else none
    | some (.slice e), .slice j s c x len _, i => match sizeP P e, H.arr? j with
        | some z, some (ct, _, _) => bif Nat.beq z s then some (needLeq (.lit 0) i ++ (needLss i len ++ (needLeq (.lit 0) x ++ needLss (mkPlus x i) (.alen ct))), .c (.aptr j s c (mkPlus x i))) else none
        | _, _ => none
    | _, _, _ => none
  | _, _ => none
theorem forall_append {p q : List BE} {ρ : Env} (h : ∀ n ∈ p ++ q, n.den ρ = true) : (∀ n ∈ p, n.den ρ = true) ∧ (∀ n ∈ q, n.den ρ = true) :=
  ⟨fun n hn => h n (List.mem_append_left _ hn), fun n hn => h n (List.mem_append_right _ hn)⟩
theorem xindexAddr_sound {P : Program} {ρ : Env} {κ : Kap} {base : Bk} {H : Heap} {w : World} (hH : HeapOk ρ κ base H w) {t : TypeId} {p i : SV} {ns : List BE} {s : SV} (h : xindexAddr P H t p i = some (ns, s)) (hn : ∀ p ∈ ns, p.den ρ = true) :
    (Instr.indexAt t (p.den ρ κ) (i.den ρ κ)).run P w = .ok (s.den ρ κ) w := by
  unfold xindexAddr at h
  split at h
  · rename_i p k i
    simp only [SV.den, SA.den, SC.den]
    split at h
    · rename_i n e m hu
      cases hb : Nat.blt m n
      · rw [hb] at h; cases h
      · rw [hb] at h; simp only [cond_true] at h
        rw [Nat.blt_eq] at hb
        split at h
        · rename_i z hz
          obtain ⟨q, hq, he⟩ := Option.map_eq_some_iff.1 h; cases he
          obtain ⟨a, e1, e2⟩ := movePtr_den (ρ := ρ) (κ := κ) hq
          have h0 : (0 : Int) ≤ Int.ofNat m ∧ Int.ofNat m < (n : Int) := by constructor <;> (simp; try omega)
          simp only [SV.den, SA.den, e1, e2, Instr.indexAt, asIntOf, Sem.run_bind, Sem.run_pure, run_underlying hu, Result.andThen_ok, Instr.sureAddr, IE.den, Sem.run_ite, h0, and_self, if_true, run_sizeP hz]
          rfl
        · cases h
    · rename_i e id off len cap m hu
      cases hb : Nat.blt m len
      · rw [hb] at h; cases h
      · rw [hb] at h; simp only [cond_true] at h
        rw [Nat.blt_eq] at hb
        split at h
        · rename_i z hz
          cases h
          have h0 : (0 : Int) ≤ Int.ofNat m ∧ Int.ofNat m < (len : Int) := by constructor <;> (simp; try omega)
          simp only [SV.den, SA.den, SC.den, Instr.indexAt, asIntOf, Sem.run_bind, Sem.run_pure, run_underlying hu, Result.andThen_ok, IE.den, Sem.run_ite, h0, and_self, if_true, run_sizeP hz, Addr.add_mid]
          rfl
        · cases h
    · rename_i e id off len k m hu
      cases hb : Nat.blt m len
      · rw [hb] at h; cases h
      · rw [hb] at h; simp only [cond_true] at h
        rw [Nat.blt_eq] at hb
        split at h
        · rename_i z hz
          cases h
          have h0 : (0 : Int) ≤ Int.ofNat m ∧ Int.ofNat m < (len : Int) := by constructor <;> (simp; try omega)
          simp only [SV.den, SA.den, SC.den, Instr.indexAt, asIntOf, Sem.run_bind, Sem.run_pure, run_underlying hu, Result.andThen_ok, IE.den, Sem.run_ite, h0, and_self, if_true, run_sizeP hz, Addr.add_mid]
          rfl
        · cases h
    · rename_i i _ _ _ e j s c x len cap hu
      split at h
      · rename_i z ct pat o hz harr
        cases hb : Nat.beq z s
        · rw [hb] at h; cases h
        · rw [hb] at h; simp only [cond_true] at h
          rw [Nat.beq_eq] at hb; subst hb
          cases h
          obtain ⟨n1, n2⟩ := forall_append hn
          obtain ⟨n2, n3⟩ := forall_append n2
          obtain ⟨n3, n4⟩ := forall_append n3
          have m1 := needLeq_den n1
          have m2 := needLss_den n2
          have m3 := needLeq_den n3
          have m4 := needLss_den n4
          simp only [IE.den, mkPlus_den] at m1 m3 m4
          have hnl : ρ.nl j = false := by
            cases hn : ρ.nl j
            · rfl
            · have := (hH.arr j ct pat o harr).2 hn
              rw [this] at m4; simp at m4; omega
          have h0 : (0 : Int) ≤ i.den ρ ∧ i.den ρ < (((len.den ρ).toNat : Nat) : Int) := by omega
          simp only [SV.den, SA.den, SC.den, Instr.indexAt, asIntOf, Sem.run_bind, Sem.run_pure, run_underlying hu, Result.andThen_ok, Sem.run_ite, h0, and_self, if_true, run_sizeP hz, Addr.add_mid, mkPlus_den, slAddr, hnl, Bool.false_eq_true, if_false]
          have e : (x.den ρ + i.den ρ).toNat = (x.den ρ).toNat + (i.den ρ).toNat := by omega
          rw [e, Nat.add_mul]
          have e2 : κ.ao j + (x.den ρ).toNat * z + c + (i.den ρ).toNat * z = κ.ao j + ((x.den ρ).toNat * z + (i.den ρ).toNat * z) + c := by omega
          rw [e2]
      · cases h
    · cases h
  · cases h

/-! ### loads -/
def ckRow (pat : List CK) (j : Nat) (x : IE) : Nat → Nat → Option (List SC)
  | _, 0 => some []
  | c, n + 1 => match pat[c]?, ckRow pat j x (c + 1) n with
    | some k, some r => some (k.sc j c x :: r)
    | _, _ => none
theorem ckRow_spec {ρ : Env} {κ : Kap} {pat : List CK} {j : Nat} {x : IE} : ∀ {n c : Nat} {l : List SC}, ckRow pat j x c n = some l →
    l.length = n ∧ ∀ q s, l[q]? = some s → ∃ k, pat[c + q]? = some k ∧ s.den ρ κ = k.den (ρ.at j (c + q) (x.den ρ)) := by
  intro n
  induction n with
  | zero => intro c l h; simp [ckRow] at h; subst h; exact ⟨rfl, fun q s hq => by simp at hq⟩
  | succ n ih =>
    intro c l h
    unfold ckRow at h
    split at h
    · rename_i k r hk hr
      simp at h; subst h
      obtain ⟨h1, h2⟩ := ih hr
      refine ⟨by simp [h1], fun q s hq => ?_⟩
      cases q with
      | zero => simp at hq; subst hq; exact ⟨k, by simpa using hk, by rw [CK.sc_den]; rfl⟩
      | succ q => simp at hq; obtain ⟨k', e1, e2⟩ := h2 q s hq; exact ⟨k', by rw [← e1]; congr 1; omega, by rw [e2, show c + 1 + q = c + (q + 1) by omega]⟩
    · cases h
/-- the cells from a place on -/
def xcells (H : Heap) (p : SC) (n : Nat) : Option (List BE × List SC) :=
  match p with
  | .ptr id off => match H.own? id with
    | some (cs, _) => let r := (cs.drop off).take n; bif Nat.beq r.length n then some ([], r) else none
    | none => none
  | .aptr j s c x => match H.arr? j with
    | some (ct, pat, _) => bif Nat.beq s pat.length then (ckRow pat ct x c n).map fun r => (needLeq (.lit 0) x ++ needLss x (.alen ct), r) else none
    | none => none
  | _ => none
theorem xcells_range {ρ : Env} {κ : Kap} {base : Bk} {H : Heap} {w : World} (hH : HeapOk ρ κ base H w) {p : SC} {n : Nat} {ns : List BE} {l : List SC} (h : xcells H p n = some (ns, l)) (hn : ∀ p ∈ ns, p.den ρ = true) :
    l.length = n ∧ ∃ b o, p.den ρ κ = .pointer (some ⟨b, o, none⟩) ∧ w.rangeAt b o (l.map (SC.den ρ κ)) := by
  unfold xcells at h
  split at h
  · rename_i id off
    split at h
    · rename_i cs ty ho
      dsimp only at h
      cases hb : Nat.beq ((cs.drop off).take n).length n
      · rw [hb] at h; cases h
      · rw [hb] at h; simp only [cond_true] at h; cases h
        rw [Nat.beq_eq] at hb
        refine ⟨hb, _, _, by simp only [SC.den]; rfl, ?_⟩
        obtain ⟨sp, hw⟩ := hH.own ho
        have hr := World.rangeAt_of_block hw off n
        have hl : n = 0 ∨ off + n ≤ cs.length := by simp at hb; omega
        have he : ((cs.map (SC.den ρ κ) ++ sp).drop off).take n = ((cs.drop off).take n).map (SC.den ρ κ) := by
          rcases hl with rfl | hl
          · simp
          · rw [List.drop_append_of_le_length (by simp; omega), List.take_append_of_le_length (by simp; omega), List.map_take, List.map_drop]
        simpa [List.extract_eq_take_drop, he] using hr
    · cases h
  · rename_i j s c x
    split at h
    · rename_i ct pat o ha
      cases hb : Nat.beq s pat.length
      · rw [hb] at h; cases h
      · rw [hb] at h; simp only [cond_true] at h
        rw [Nat.beq_eq] at hb; subst hb
        obtain ⟨r, hr, he⟩ := Option.map_eq_some_iff.1 h; cases he
        obtain ⟨h1, h2⟩ := ckRow_spec (ρ := ρ) (κ := κ) hr
        obtain ⟨n1, n2⟩ := forall_append hn
        have m1 := needLeq_den n1
        have m2 := needLss_den n2
        simp only [IE.den] at m1
        refine ⟨h1, _, _, by simp only [SC.den]; rfl, fun q v hv => ?_⟩
        simp only [List.getElem?_map, Option.map_eq_some_iff] at hv
        obtain ⟨s, hs, rfl⟩ := hv
        obtain ⟨k, hk, e⟩ := h2 q s hs
        simp only [IE.den] at m2
        have hlt : (x.den ρ).toNat < (ρ.a ct).length := by omega
        have hrow : (ρ.a ct)[(x.den ρ).toNat]? = some ((ρ.a ct)[(x.den ρ).toNat]) := List.getElem?_eq_getElem hlt
        have := (hH.arr j ct pat o ha).1 (x.den ρ).toNat (c + q) _ k hrow hk
        have hat : ρ.at ct (c + q) (x.den ρ) = ((ρ.a ct)[(x.den ρ).toNat]).getD (c + q) (.i 0) := by
          simp [Env.at, List.getD_eq_getElem?_getD, hrow]
        rw [e, hat, ← this]; congr 2; omega
    · cases h
  · cases h
def xload (P : Program) (H : Heap) (t : TypeId) (p : SV) : XV :=
  match p with
  | .a (.c p) => match rowP P t, sizeP P t with
    | some true, some n => (xcells H p n).map fun (ns, l) => (ns, .agg l)
    | some false, _ => match xcells H p 1 with
      | some (ns, [s]) => some (ns, .c s)
      | _ => none
    | _, _ => none
  | _ => none
theorem sizeP_info {P : Program} {t : TypeId} {n : Nat} (h : sizeP P t = some n) : (P.info? t).map (·.size) = some n := by
  unfold sizeP at h; split at h <;> simp_all
theorem rowP_desc {P : Program} {t : TypeId} (h : rowP P t = some true) : ∃ d, P.underlying t = some d ∧ d.isRow = true := by
  unfold rowP at h; split at h
  · rename_i hu; exact ⟨_, hu, rfl⟩
  · rename_i hu; exact ⟨_, hu, rfl⟩
  · cases h
  · cases h
theorem run_loadVar_x {P : Program} {ρ : Env} {κ : Kap} {base : Bk} {H : Heap} {w : World} (hH : HeapOk ρ κ base H w) {t : TypeId} {p : SV} {ns : List BE} {s : SV} (h : xload P H t p = some (ns, s)) (hn : ∀ p ∈ ns, p.den ρ = true) :
    ∃ a : Addr, p.den ρ κ = .pointer (some a) ∧ (loadVar t a).run P w = .ok (s.den ρ κ) w := by
  unfold xload at h
  split at h
  · rename_i p
    split at h
    · rename_i n hr hs
      obtain ⟨⟨ns', l⟩, hl, he⟩ := Option.map_eq_some_iff.1 h; cases he
      obtain ⟨h1, b, o, e, hra⟩ := xcells_range hH hl hn
      obtain ⟨d, hd, hd'⟩ := rowP_desc hr
      exact ⟨_, e, run_loadVar_mid w b o t _ d hra hd hd' (by rw [sizeP_info hs]; simp [h1])⟩
    · rename_i hr
      split at h
      · rename_i ns' s' hl
        cases h
        obtain ⟨h1, b, o, e, hra⟩ := xcells_range hH hl hn
        refine ⟨_, e, ?_⟩
        have hc := hra 0 _ rfl
        simp only [Nat.add_zero] at hc
        simp [loadVar, run_rowP hr, hc, SV.den, SA.den]
      · cases h
    · cases h
  · cases h
theorem xload_sound {P : Program} {ρ : Env} {κ : Kap} {base : Bk} {H : Heap} {w : World} (hH : HeapOk ρ κ base H w) {t : TypeId} {p : SV} {ns : List BE} {s : SV} (h : xload P H t p = some (ns, s)) (hn : ∀ p ∈ ns, p.den ρ = true) :
    (Instr.loadAt t (p.den ρ κ)).run P w = .ok (s.den ρ κ) w := by
  obtain ⟨a, e, hr⟩ := run_loadVar_x hH h hn
  simp only [Instr.loadAt, e, Instr.sureAddr, Sem.run_bind, Sem.run_pure, Result.andThen_ok, hr]

/-! ### parts of rows -/
def xfield (P : Program) (t : TypeId) (x : SV) (f : Nat) : XV :=
  match x with
  | .a (.agg l) => match fieldP P t f with
    | some fd => (xpart P fd.type l fd.offset).map fun s => ([], .a s)
    | none => none
  | _ => none
theorem xfield_sound {P : Program} {ρ : Env} {κ : Kap} (w : World) {t : TypeId} {x : SV} {f : Nat} {ns : List BE} {s : SV} (h : xfield P t x f = some (ns, s)) :
    (Instr.field t (x.den ρ κ) f).run P w = .ok (s.den ρ κ) w := by
  unfold xfield at h
  split at h
  · rename_i l
    split at h
    · rename_i fd hfd
      obtain ⟨q, hq, he⟩ := Option.map_eq_some_iff.1 h; cases he
      unfold fieldP at hfd
      split at hfd
      · rename_i fs hu
        simp only [SV.den, SA.den, Instr.field, Sem.run_bind, run_underlying hu, Result.andThen_ok, hfd, asAgg, Sem.run_pure, run_xpart hq]
      · cases hfd
    · cases h
  · cases h
def xindex (P : Program) (t : TypeId) (x i : SV) : XV :=
  match x, i with
  | .a (.agg l), .a (.c (.int _ (.lit (.ofNat m)))) => match P.underlying t with
    | some (.array n e) => bif Nat.blt m n then match sizeP P e with
        | some z => (xpart P e l (m * z)).map fun s => ([], .a s)
        | none => none
      else none
    | _ => none
  | _, _ => none
theorem xindex_sound {P : Program} {ρ : Env} {κ : Kap} (w : World) {t : TypeId} {x i : SV} {ns : List BE} {s : SV} (h : xindex P t x i = some (ns, s)) :
    (Instr.index t (x.den ρ κ) (i.den ρ κ)).run P w = .ok (s.den ρ κ) w := by
  unfold xindex at h
  split at h
  · rename_i l k m
    split at h
    · rename_i n e hu
      cases hb : Nat.blt m n
      · rw [hb] at h; cases h
      · rw [hb] at h; simp only [cond_true] at h
        rw [Nat.blt_eq] at hb
        split at h
        · rename_i z hz
          obtain ⟨q, hq, he⟩ := Option.map_eq_some_iff.1 h; cases he
          have h0 : (0 : Int) ≤ Int.ofNat m ∧ Int.ofNat m < (n : Int) := by constructor <;> (simp; try omega)
          simp only [SV.den, SA.den, SC.den, IE.den, Instr.index, asIntOf, Sem.run_bind, Sem.run_pure, run_underlying hu, Result.andThen_ok, Sem.run_ite, h0, and_self, if_true, run_sizeP hz]
          exact run_xpart hq w
        · cases h
    · cases h
  · cases h
def xextract (x : SV) (i : Nat) : XV :=
  match x with
  | .tup l => (l[i]?).map fun s => ([], .a s)
  | _ => none
theorem xextract_sound {P : Program} {ρ : Env} {κ : Kap} (w : World) {x : SV} {i : Nat} {ns : List BE} {s : SV} (h : xextract x i = some (ns, s)) :
    (Instr.extract (x.den ρ κ) i).run P w = .ok (s.den ρ κ) w := by
  unfold xextract at h
  split at h
  · obtain ⟨q, hq, he⟩ := Option.map_eq_some_iff.1 h; cases he
    simp [SV.den, Instr.extract, hq]
  · cases h

/-! ### builds -/
def setMany : List SC → Nat → List SC → List SC
  | cs, _, [] => cs
  | cs, o, v :: vs => setMany (cs.set o v) (o + 1) vs
theorem setMany_length (vs : List SC) : ∀ (cs : List SC) (o : Nat), (setMany cs o vs).length = cs.length := by
  induction vs with
  | nil => intro cs o; rfl
  | cons v vs ih => intro cs o; simp [setMany, ih]
theorem setMany_den (ρ : Env) (κ : Kap) (vs : List SC) : ∀ (cs : List SC) (o off : Nat),
    ((vs.map (SC.den ρ κ)).zipIdx o).foldl (fun (a : Array Value) (x : Value × Nat) => a.setIfInBounds (off + x.2) x.1) (cs.map (SC.den ρ κ)).toArray = ((setMany cs (off + o) vs).map (SC.den ρ κ)).toArray := by
  induction vs with
  | nil => intro cs o off; rfl
  | cons v vs ih =>
    intro cs o off
    simp only [List.map_cons, List.zipIdx_cons, List.foldl_cons, setMany]
    have : (cs.map (SC.den ρ κ)).toArray.setIfInBounds (off + o) (v.den ρ κ) = ((cs.set (off + o) v).map (SC.den ρ κ)).toArray := by
      simp [List.map_set]
    rw [this, ih]; rw [Nat.add_assoc]
def xfill (place : Nat → Option (Nat × Nat)) (cells : List SC) : List (Nat × SV) → Option (List SC)
  | [] => some cells
  | (i, v) :: rest => match place i, v with
    | some (off, size), .a s => bif Nat.beq s.cells.length size && Nat.ble (off + s.cells.length) cells.length then xfill place (setMany cells off s.cells) rest else none
    | _, _ => none
theorem xfill_den {ρ : Env} {κ : Kap} {place : Nat → Option (Nat × Nat)} {ps : List (Nat × SV)} : ∀ {cells r : List SC}, xfill place cells ps = some r →
    Instr.fill place (cells.map (SC.den ρ κ)).toArray (ps.map fun p => (p.1, p.2.den ρ κ)) = some (r.map (SC.den ρ κ)).toArray := by
  induction ps with
  | nil => intro cells r h; simp [xfill] at h; subst h; rfl
  | cons p ps ih =>
    intro cells r h
    obtain ⟨i, v⟩ := p
    unfold xfill at h
    split at h
    · rename_i off size s hp
      cases hb : (Nat.beq s.cells.length size && Nat.ble (off + s.cells.length) cells.length)
      · rw [hb] at h; cases h
      · rw [hb] at h; simp only [cond_true] at h
        simp only [Bool.and_eq_true, Nat.beq_eq, Nat.ble_eq] at hb
        simp only [List.map_cons, SV.den, Instr.fill, hp, SA.den_cells]
        have h1 : ¬ ((s.cells.map (SC.den ρ κ)).toArray.size ≠ size ∨ off + (s.cells.map (SC.den ρ κ)).toArray.size > (cells.map (SC.den ρ κ)).toArray.size) := by
          simp; omega
        have h2 : (decide ((s.cells.map (SC.den ρ κ)).toArray.size ≠ size) || decide (off + (s.cells.map (SC.den ρ κ)).toArray.size > (cells.map (SC.den ρ κ)).toArray.size)) = false := by
          simp; omega
        simp only [h2, Bool.false_eq_true, if_false]
        rw [← ih h]
        congr 1
        have hm := setMany_den ρ κ s.cells cells 0 off
        rw [Nat.add_zero] at hm
        rw [← hm]
        simp
    · cases h
def xparts (ev : Operand → Option SV) : List (Nat × Operand) → Option (List (Nat × SV))
  | [] => some []
  | (i, x) :: r => match ev x, xparts ev r with
    | some s, some q => some ((i, s) :: q)
    | _, _ => none
theorem xparts_den {ρ : Env} {κ : Kap} {ev : Operand → Option SV} {e : Operand → Value} (hev : ∀ x s, ev x = some s → e x = s.den ρ κ) {ps : List (Nat × Operand)} : ∀ {r}, xparts ev ps = some r →
    ps.map (fun p => (p.1, e p.2)) = r.map fun p => (p.1, p.2.den ρ κ) := by
  induction ps with
  | nil => intro r h; simp [xparts] at h; subst h; rfl
  | cons p ps ih =>
    intro r h
    obtain ⟨i, x⟩ := p
    unfold xparts at h
    split at h
    · rename_i s q h1 h2
      simp at h; subst h
      simp [hev _ _ h1, ih h2]
    · cases h
def zeroP (P : Program) (t : TypeId) : Option SA := match P.info? t with
  | some i => match i.zero with
    | some z => constSA z
    | none => none
  | none => none
theorem run_zeroP {P : Program} {t : TypeId} {s : SA} (h : zeroP P t = some s) (ρ : Env) (κ : Kap) (w : World) : (zeroValue t).run P w = .ok (s.den ρ κ) w := by
  unfold zeroP at h
  split at h
  · rename_i i hi
    split at h
    · rename_i z hz; simp [zeroValue, typeInfo, hi, hz, constSA_den h]
    · cases h
  · cases h
def placesP (P : Program) (fs : List Field) : Option (List (Nat × Nat)) := fs.mapM fun f => (P.info? f.type).map fun i => (f.offset, i.size)
def xbuild (P : Program) (ev : Operand → Option SV) (t : TypeId) (parts : List (Nat × Operand)) : XV :=
  match zeroP P t, xparts ev parts with
  | some z, some ps => match P.underlying t with
    | some (.struct fs) => match placesP P fs.toList with
      | some places => (xfill (fun i => places.toArray[i]?) z.cells ps).map fun r => ([], .agg r)
      | none => none
    | some (.array _ e) => match sizeP P e with
      | some n => (xfill (fun i => some (i * n, n)) z.cells ps).map fun r => ([], .agg r)
      | none => none
    | _ => none
  | _, _ => none
theorem zeroP_spec {P : Program} {t : TypeId} {s : SA} (h : zeroP P t = some s) : ∃ i z, P.info? t = some i ∧ i.zero = some z ∧ ∀ ρ κ, z = s.den ρ κ := by
  unfold zeroP at h
  split at h
  · rename_i i hi
    split at h
    · rename_i z hz; exact ⟨i, z, hi, hz, fun ρ κ => (constSA_den h ρ κ).symm⟩
    · cases h
  · cases h
theorem sizeP_spec {P : Program} {t : TypeId} {n : Nat} (h : sizeP P t = some n) : ∃ i, P.info? t = some i ∧ i.size = n := by
  unfold sizeP at h
  split at h
  · rename_i i hi; simp at h; exact ⟨i, hi, h⟩
  · cases h
theorem xbuild_sound {P : Program} {ρ : Env} {κ : Kap} (w : World) {ev : Operand → Option SV} {e : Operand → Value} (hev : ∀ x s, ev x = some s → e x = s.den ρ κ) {t : TypeId} {parts : Array (Nat × Operand)} {ns : List BE} {s : SV} (h : xbuild P ev t parts.toList = some (ns, s)) :
    (Instr.build t (parts.map fun (i, x) => (i, e x))).run P w = .ok (s.den ρ κ) w := by
  unfold xbuild at h
  split at h
  · rename_i z ps hz hps
    have hpd := xparts_den hev hps
    have hl : (parts.map fun (i, x) => (i, e x)).toList = ps.map fun p => (p.1, p.2.den ρ κ) := by
      rw [← hpd]; simp
    obtain ⟨it, zv, hit, hzv, hzd⟩ := zeroP_spec hz
    have hzd := hzd ρ κ
    split at h
    · rename_i fs hu
      split at h
      · rename_i places hpl
        obtain ⟨r, hr, he⟩ := Option.map_eq_some_iff.1 h; cases he
        have hf := xfill_den (ρ := ρ) (κ := κ) hr
        refine run_build w t _ _ ?_
        unfold placesP at hpl
        simp only [Program.built, hit, hu, hzv, hpl, hl, hzd, SA.den_cells, hf]
      · cases h
    · rename_i n e' hu
      split at h
      · rename_i n' hs
        obtain ⟨r, hr, he⟩ := Option.map_eq_some_iff.1 h; cases he
        have hf := xfill_den (ρ := ρ) (κ := κ) hr
        obtain ⟨ie, hie, hies⟩ := sizeP_spec hs
        refine run_build w t _ _ ?_
        simp only [Program.built, hit, hu, hzv, hie, hl, hzd, SA.den_cells, hies, hf]
      · cases h
    · cases h
  · cases h

/-! ### slices of slices -/
def xint : Option SV → Option (Option IE)
  | none => some none
  | some (.a (.c (.int _ i))) => some (some i)
  | _ => none
/-- where a slice begins that is taken from lo to hi: at its end only if nothing is left -/
def swH (hi cap lo a b : IE) : IE := match lo, hi with
  | .lit (.ofNat l), .lit (.ofNat h) => bif Nat.blt l h then b else mkSw cap lo a b
  | _, _ => mkSw cap lo a b
theorem swH_den {ρ : Env} {hi cap lo a b : IE} (h : hi.den ρ ≤ cap.den ρ) : (swH hi cap lo a b).den ρ = (mkSw cap lo a b).den ρ := by
  unfold swH
  split
  · rename_i l h'
    cases hq : Nat.blt l h'
    · rfl
    · rw [Nat.blt_eq] at hq
      simp only [cond_true, mkSw_den]
      have h1 : (IE.lit (Int.ofNat h')).den ρ = (h' : Int) := rfl
      have h2 : (IE.lit (Int.ofNat l)).den ρ = (l : Int) := rfl
      rw [h1] at h
      have : ¬ cap.den ρ = (IE.lit (Int.ofNat l)).den ρ := by rw [h2]; omega
      rw [if_neg this]
  · rfl
def xslice (P : Program) (H : Heap) (t : TypeId) (x : SV) (lo hi mx : Option SV) : XV :=
  match x, xint lo, xint hi, xint mx with
  | .a (.c x), some lo, some hi, some mx =>
    match P.underlying t, x with
    | some (.slice e), .slice j s c x len cap => match sizeP P e with
      | some z => bif Nat.beq z s then
          match cap, mx, hi with
          | .e cap, none, hi =>
            some (needLeq (.lit 0) (lo.getD (.lit 0)) ++ (needLeq (lo.getD (.lit 0)) (hi.getD len) ++ (needLeq (hi.getD len) cap ++ needLeq (.lit 0) x)),
              .c (.slice j s c (swH (hi.getD len) cap (lo.getD (.lit 0)) x (mkPlus x (lo.getD (.lit 0)))) (mkMinus (hi.getD len) (lo.getD (.lit 0))) (.e (mkMinus cap (lo.getD (.lit 0))))))
          | .e cap, some m, some h =>
            some (needLeq (.lit 0) (lo.getD (.lit 0)) ++ (needLeq (lo.getD (.lit 0)) h ++ (needLeq h m ++ (needLeq m cap ++ needLeq (.lit 0) x))),
              .c (.slice j s c (swH h m (lo.getD (.lit 0)) x (mkPlus x (lo.getD (.lit 0)))) (mkMinus h (lo.getD (.lit 0))) (.e (mkMinus m (lo.getD (.lit 0))))))
          | .k j', none, some h => match lo.getD (.lit 0), H.arr? j with
            | .lit (.ofNat 0), some (ct, _, some _) => bif Nat.beq j j' then some (needLeq (.lit 0) h ++ needLeq h (.alen ct), .c (.slice j s c x h (.k j))) else none
            | _, _ => none
          | .k j', some m, some h => match H.arr? j with
            | some (ct, _, some _) => bif Nat.beq j j' then
              some (needLeq (.lit 0) (lo.getD (.lit 0)) ++ (needLeq (lo.getD (.lit 0)) h ++ (needLeq h m ++ (needLeq m (.alen ct) ++ needLeq (.lit 0) x))),
                .c (.slice j s c (swH h m (lo.getD (.lit 0)) x (mkPlus x (lo.getD (.lit 0)))) (mkMinus h (lo.getD (.lit 0))) (.e (mkMinus m (lo.getD (.lit 0)))))) else none
            | _ => none
          | _, _, _ => none
        else none
      | none => none
    | some (.slice e), .oslice id off len cap => match sizeP P e, lo.getD (.lit 0), hi.getD (.lit (.ofNat len)), mx with
      | some z, .lit (.ofNat l), .lit (.ofNat h), none => bif Nat.ble l h && Nat.ble h cap then some ([], .c (.oslice id (bif Nat.beq cap l then off else off + l * z) (h - l) (cap - l))) else none
      | some z, .lit (.ofNat l), .lit (.ofNat h), some (.lit (.ofNat m)) => bif Nat.ble l h && (Nat.ble h m && Nat.ble m cap) then (if hi.isNone then none else some ([], .c (.oslice id (bif Nat.beq m l then off else off + l * z) (h - l) (m - l)))) else none
      | _, _, _, _ => none
    | some (.slice e), .gslice id off len k => match sizeP P e, lo.getD (.lit 0), hi.getD (.lit (.ofNat len)), mx, H.obj? id with
      | some z, .lit (.ofNat l), .lit (.ofNat h), none, some (.cells cs _ (some z')) =>
        bif (Nat.beq z z' && Nat.ble l h) && (Nat.ble ((k + h) * z) cs.length && (Nat.beq l 0 || Nat.blt ((k + l) * z) cs.length)) && Nat.blt 0 z then some ([], .c (.gslice id (off + l * z) (h - l) (k + l))) else none
      | some z, .lit (.ofNat l), .lit (.ofNat h), some (.lit (.ofNat m)), some (.cells cs _ (some z')) =>
        bif (Nat.beq z z' && Nat.ble l h) && (Nat.ble ((k + m) * z) cs.length && Nat.ble h m) && Nat.blt 0 z then (if hi.isNone then none else some ([], .c (.oslice id (bif Nat.beq m l then off else off + l * z) (h - l) (m - l)))) else none
      | _, _, _, _, _ => none
    | some (.array n e), .ptr id off => match sizeP P e, lo.getD (.lit 0), hi.getD (.lit (.ofNat n)), mx with
      | some z, .lit (.ofNat l), .lit (.ofNat h), none => bif Nat.ble l h && Nat.ble h n then some ([], .c (.oslice id (bif Nat.beq n l then off else off + l * z) (h - l) (n - l))) else none
      | _, _, _, _ => none
    | _, _ => none
  | _, _, _, _ => none
theorem xint_den {ρ : Env} {κ : Kap} {o : Option SV} {r : Option IE} (h : xint o = some r) :
    (o = none ∧ r = none) ∨ ∃ k i, r = some i ∧ o.map (SV.den ρ κ) = some (.int k (i.den ρ)) := by
  unfold xint at h
  split at h <;> simp at h
  · subst h; exact .inl ⟨rfl, rfl⟩
  · subst h; exact .inr ⟨_, _, rfl, rfl⟩
theorem run_bound {P : Program} (w : World) (k : IntKind) (i : Int) (y : Nat) (code : BoundsCode) (h0 : 0 ≤ i) (h1 : i ≤ (y : Int)) : (Instr.sliceBound (.int k i) y code).run P w = .ok i.toNat w := by
  simp [Instr.sliceBound, asIntOf, h0, h1]
/-- 'sliceBounds' without a maximum. -/
theorem run_bounds2 {P : Program} (w : World) (b : Bool) (len cap : Nat) {ρ : Env} {κ : Kap} {lo hi : Option SV} {l h : Option IE} (hl : xint lo = some l) (hh : xint hi = some h)
    (h0 : 0 ≤ (l.getD (.lit 0)).den ρ) (h1 : (l.getD (.lit 0)).den ρ ≤ (h.getD (.lit len)).den ρ) (h2 : h.isSome → (h.getD (.lit len)).den ρ ≤ (cap : Int)) :
    (Instr.sliceBounds b len cap (lo.map (SV.den ρ κ)) (hi.map (SV.den ρ κ)) none).run P w = .ok (((l.getD (.lit 0)).den ρ).toNat, ((h.getD (.lit len)).den ρ).toNat, cap) w := by
  rcases xint_den (ρ := ρ) (κ := κ) hl with ⟨rfl, rfl⟩ | ⟨kl, li, rfl, el⟩ <;> rcases xint_den (ρ := ρ) (κ := κ) hh with ⟨rfl, rfl⟩ | ⟨kh, hi', rfl, eh⟩
  · simp [Instr.sliceBounds, IE.den]
  · simp only [Option.getD_some, Option.getD_none, IE.den] at h0 h1 h2
    have := h2 rfl
    simp only [Instr.sliceBounds, eh, Option.map_none, Sem.run_bind, Sem.run_pure, Result.andThen_ok, run_bound w kh _ cap _ h1 this, Option.getD_some, Option.getD_none, IE.den]
    rfl
  · simp only [Option.getD_some, Option.getD_none, IE.den] at h0 h1 h2
    simp only [Instr.sliceBounds, el, Option.map_none, Sem.run_bind, Sem.run_pure, Result.andThen_ok, run_bound w kl _ len _ h0 h1, Option.getD_some, Option.getD_none, IE.den]
    simp
  · simp only [Option.getD_some] at h0 h1 h2
    have := h2 rfl
    simp only [Instr.sliceBounds, el, eh, Sem.run_bind, Sem.run_pure, Result.andThen_ok, run_bound w kh _ cap _ (by omega) this, run_bound w kl _ (hi'.den ρ).toNat _ h0 (by omega), Option.getD_some]
theorem run_bounds3 {P : Program} (w : World) (b : Bool) (len cap : Nat) {ρ : Env} {κ : Kap} {lo hi mx : Option SV} {l : Option IE} {h m : IE} (hl : xint lo = some l) (hh : xint hi = some (some h)) (hm : xint mx = some (some m))
    (h0 : 0 ≤ (l.getD (.lit 0)).den ρ) (h1 : (l.getD (.lit 0)).den ρ ≤ h.den ρ) (h2 : h.den ρ ≤ m.den ρ) (h3 : m.den ρ ≤ (cap : Int)) :
    (Instr.sliceBounds b len cap (lo.map (SV.den ρ κ)) (hi.map (SV.den ρ κ)) (mx.map (SV.den ρ κ))).run P w = .ok (((l.getD (.lit 0)).den ρ).toNat, (h.den ρ).toNat, (m.den ρ).toNat) w := by
  rcases xint_den (ρ := ρ) (κ := κ) hh with ⟨_, hx⟩ | ⟨kh, hi', hx, eh⟩
  · cases hx
  · cases hx
    rcases xint_den (ρ := ρ) (κ := κ) hm with ⟨_, hx⟩ | ⟨km, mi', hx, em⟩
    · cases hx
    · cases hx
      rcases xint_den (ρ := ρ) (κ := κ) hl with ⟨rfl, rfl⟩ | ⟨kl, li, rfl, el⟩
      · simp only [Option.getD_none, IE.den] at h0 h1 h2
        simp only [Instr.sliceBounds, eh, em, Option.map_none, Sem.run_bind, Sem.run_pure, Result.andThen_ok, run_bound w km _ cap _ (by omega) h3, run_bound w kh _ (m.den ρ).toNat _ h1 (by omega), Option.getD_none, IE.den]
        rfl
      · simp only [Option.getD_some] at h0 h1 h2
        simp only [Instr.sliceBounds, el, eh, em, Sem.run_bind, Sem.run_pure, Result.andThen_ok, run_bound w km (m.den ρ) cap _ (by omega) h3, run_bound w kh (h.den ρ) (m.den ρ).toNat _ (by omega) (by omega), run_bound w kl (li.den ρ) (h.den ρ).toNat _ h0 (by omega), Option.getD_some]
theorem row_cap {ρ : Env} {κ : Kap} {base : Bk} {H : Heap} {w : World} (hH : HeapOk ρ κ base H w) {j c : Nat} {pat : List CK} {E : TypeId} (h : H.arr? j = some (c, pat, some E)) : (ρ.a c).length ≤ κ.cap j := by
  obtain ⟨_, ⟨_, ho⟩, _⟩ := hH.row j c pat E h
  rcases ho with ⟨_, hn⟩ | ⟨g, cap, cur, hv, _, _, hle, _⟩
  · omega
  · simp only [rowVal, Value.slice.injEq] at hv; rw [hv.2.2]; exact hle
theorem HeapOk.capge {ρ : Env} {κ : Kap} {base : Bk} {H : Heap} {w : World} (hH : HeapOk ρ κ base H w) {id : Nat} {cs : List SC} {ty : TypeId} {z : Nat} (h : H.obj? id = some (.cells cs ty (some z))) : cs.length ≤ κ.cap id * z := by
  obtain ⟨⟨b, _, sp, _, h2, _⟩, _⟩ := hH.obj id _ h
  omega
theorem xslice_sound {P : Program} {ρ : Env} {κ : Kap} {base : Bk} {H : Heap} {w : World} (hH : HeapOk ρ κ base H w) {t : TypeId} {x : SV} {lo hi mx : Option SV} {ns : List BE} {s : SV} (h : xslice P H t x lo hi mx = some (ns, s)) (hn : ∀ p ∈ ns, p.den ρ = true) :
    (Instr.sliceAt t (x.den ρ κ) (lo.map (SV.den ρ κ)) (hi.map (SV.den ρ κ)) (mx.map (SV.den ρ κ))).run P w = .ok (s.den ρ κ) w := by
  unfold xslice at h
  split at h
  · rename_i x lo' hi' mx' hlo hhi hmx
    split at h
    · rename_i e j st c x0 len cap hu
      split at h
      · rename_i z hz
        cases hb : Nat.beq z st
        · rw [hb] at h; cases h
        · rw [hb] at h; simp only [cond_true] at h
          rw [Nat.beq_eq] at hb; subst hb
          have hsz : ∀ w, (sizeOf e).run P w = .ok z w := fun w => run_sizeP hz w
          have place : ∀ (l m : Nat) (li mi : IE), l = (li.den ρ).toNat → m = (mi.den ρ).toNat → 0 ≤ li.den ρ → 0 ≤ mi.den ρ → 0 ≤ x0.den ρ →
              (if m = l then slAddr ρ κ j z c (x0.den ρ) else (slAddr ρ κ j z c (x0.den ρ)).map (·.add (l * z))) = slAddr ρ κ j z c ((mkSw mi li x0 (mkPlus x0 li)).den ρ) := by
            intro l m li mi e1 e2 p1 p2 p3
            rw [mkSw_den, mkPlus_den]
            by_cases hq : m = l
            · have : mi.den ρ = li.den ρ := by omega
              rw [if_pos hq, if_pos this]
            · have : ¬ mi.den ρ = li.den ρ := by omega
              rw [if_neg hq, if_neg this]
              simp only [slAddr]
              cases ρ.nl j
              · simp only [Bool.false_eq_true, if_false, Option.map_some, Addr.add_mid]
                have e3 : (x0.den ρ + li.den ρ).toNat = (x0.den ρ).toNat + l := by omega
                rw [e3, Nat.add_mul]
                have e4 : κ.ab j = κ.ab j ∧ κ.ao j + (x0.den ρ).toNat * z + c + l * z = κ.ao j + ((x0.den ρ).toNat * z + l * z) + c := ⟨rfl, by omega⟩
                rw [e4.2]
              · rfl
          split at h
          · rename_i cap'
            cases h
            obtain ⟨n1, n2⟩ := forall_append hn
            obtain ⟨n2, n3⟩ := forall_append n2
            obtain ⟨n3, n4⟩ := forall_append n3
            have m1 := needLeq_den n1
            have m2 := needLeq_den n2
            have m3 := needLeq_den n3
            have m4 := needLeq_den n4
            simp only [IE.den] at m1 m4
            have hmn : mx = none := by
              rcases xint_den (ρ := ρ) (κ := κ) hmx with ⟨rfl, _⟩ | ⟨_, _, hx, _⟩
              · rfl
              · cases hx
            subst hmn
            have hlen : ((hi'.getD (.lit (((len.den ρ).toNat : Nat) : Int))).den ρ) = ((hi'.getD len).den ρ).toNat ∧ ((hi'.getD len).den ρ).toNat = (hi'.getD len).den ρ := by
              cases hi' with
              | none =>
                simp only [Option.getD_none] at m2 m3
                simp only [Option.getD_none, IE.den]
                exact ⟨trivial, by omega⟩
              | some h' =>
                simp only [Option.getD_some] at m2 m3
                simp only [Option.getD_some]
                omega
            have hb2 := run_bounds2 (P := P) w true (len.den ρ).toNat (cap'.den ρ).toNat (κ := κ) hlo hhi m1 (by rw [hlen.1]; omega) (by
              intro hs
              cases hi' with
              | none => cases hs
              | some h' => simp only [Option.getD_some] at m3 ⊢; omega)
            simp only [SV.den, SA.den, SC.den, CE.den, Instr.sliceAt, Instr.slice, Sem.run_bind, run_underlying hu, Result.andThen_ok, Option.map_none, hb2, hsz, Sem.run_pure]
            rw [place _ _ (lo'.getD (.lit 0)) cap' rfl rfl m1 (by omega) m4, ← swH_den m3]
            simp only [mkMinus_den]
            have e1 : ((hi'.getD (.lit (((len.den ρ).toNat : Nat) : Int))).den ρ).toNat - ((lo'.getD (.lit 0)).den ρ).toNat = ((hi'.getD len).den ρ - (lo'.getD (.lit 0)).den ρ).toNat := by omega
            have e2 : (cap'.den ρ).toNat - ((lo'.getD (.lit 0)).den ρ).toNat = (cap'.den ρ - (lo'.getD (.lit 0)).den ρ).toNat := by omega
            rw [e1, e2]
          · rename_i cap' m' h'
            cases h
            obtain ⟨n1, n2⟩ := forall_append hn
            obtain ⟨n2, n3⟩ := forall_append n2
            obtain ⟨n3, n4⟩ := forall_append n3
            obtain ⟨n4, n5⟩ := forall_append n4
            have m1 := needLeq_den n1
            have m2 := needLeq_den n2
            have m3 := needLeq_den n3
            have m4 := needLeq_den n4
            have m5 := needLeq_den n5
            simp only [IE.den] at m1 m5
            have hb3 := run_bounds3 (P := P) w true (len.den ρ).toNat (cap'.den ρ).toNat (κ := κ) hlo hhi hmx m1 m2 m3 (by omega)
            simp only [SV.den, SA.den, SC.den, CE.den, Instr.sliceAt, Instr.slice, Sem.run_bind, run_underlying hu, Result.andThen_ok, hb3, hsz, Sem.run_pure]
            rw [place _ _ (lo'.getD (.lit 0)) m' rfl rfl m1 (by omega) m5, ← swH_den m3]
            simp only [mkMinus_den]
            have e1 : (h'.den ρ).toNat - ((lo'.getD (.lit 0)).den ρ).toNat = (h'.den ρ - (lo'.getD (.lit 0)).den ρ).toNat := by omega
            have e2 : (m'.den ρ).toNat - ((lo'.getD (.lit 0)).den ρ).toNat = (m'.den ρ - (lo'.getD (.lit 0)).den ρ).toNat := by omega
            rw [e1, e2]
          · rename_i j' h'
            split at h
            · rename_i ct pat E hlz harr
              cases hjj : Nat.beq j j'
              · rw [hjj] at h; cases h
              · rw [hjj] at h; simp only [cond_true] at h; cases h
                rw [Nat.beq_eq] at hjj; subst hjj
                obtain ⟨n1, n2⟩ := forall_append hn
                have m1 := needLeq_den n1
                have m2 := needLeq_den n2
                simp only [IE.den] at m1 m2
                have hcap := row_cap hH harr
                have hmn : mx = none := by
                  rcases xint_den (ρ := ρ) (κ := κ) hmx with ⟨rfl, _⟩ | ⟨_, _, hx, _⟩
                  · rfl
                  · cases hx
                subst hmn
                have hl0 : (lo'.getD (.lit 0)).den ρ = 0 := by rw [hlz]; rfl
                have hb2 := run_bounds2 (P := P) w true (len.den ρ).toNat (κ.cap j) (ρ := ρ) (κ := κ) hlo hhi (by omega) (by simp only [Option.getD_some]; omega) (by intro _; simp only [Option.getD_some]; omega)
                simp only [hl0, Option.getD_some] at hb2
                simp only [SV.den, SA.den, SC.den, CE.den, Instr.sliceAt, Instr.slice, Sem.run_bind, run_underlying hu, Result.andThen_ok, Option.map_none, hb2, hsz, Sem.run_pure]
                simp only [Int.toNat_zero, Nat.sub_zero, Nat.zero_mul]
                have : (if κ.cap j = 0 then slAddr ρ κ j z c (x0.den ρ) else (slAddr ρ κ j z c (x0.den ρ)).map (·.add 0)) = slAddr ρ κ j z c (x0.den ρ) := by
                  split
                  · rfl
                  · cases slAddr ρ κ j z c (x0.den ρ) <;> simp [Addr.add]
                rw [this]
            · cases h
          · rename_i j' m' h'
            split at h
            · rename_i ct pat E harr
              cases hjj : Nat.beq j j'
              · rw [hjj] at h; cases h
              · rw [hjj] at h; simp only [cond_true] at h; cases h
                rw [Nat.beq_eq] at hjj; subst hjj
                obtain ⟨n1, n2⟩ := forall_append hn
                obtain ⟨n2, n3⟩ := forall_append n2
                obtain ⟨n3, n4⟩ := forall_append n3
                obtain ⟨n4, n5⟩ := forall_append n4
                have m1 := needLeq_den n1
                have m2 := needLeq_den n2
                have m3 := needLeq_den n3
                have m4 := needLeq_den n4
                have m5 := needLeq_den n5
                have hcap := row_cap hH harr
                simp only [IE.den] at m1 m4 m5
                have hb3 := run_bounds3 (P := P) w true (len.den ρ).toNat (κ.cap j) (κ := κ) hlo hhi hmx m1 m2 m3 (by omega)
                simp only [SV.den, SA.den, SC.den, CE.den, Instr.sliceAt, Instr.slice, Sem.run_bind, run_underlying hu, Result.andThen_ok, hb3, hsz, Sem.run_pure]
                rw [place _ _ (lo'.getD (.lit 0)) m' rfl rfl m1 (by omega) m5, ← swH_den m3]
                simp only [mkMinus_den]
                have e1 : (h'.den ρ).toNat - ((lo'.getD (.lit 0)).den ρ).toNat = (h'.den ρ - (lo'.getD (.lit 0)).den ρ).toNat := by omega
                have e2 : (m'.den ρ).toNat - ((lo'.getD (.lit 0)).den ρ).toNat = (m'.den ρ - (lo'.getD (.lit 0)).den ρ).toNat := by omega
                rw [e1, e2]
            · cases h
          · cases h
      · cases h
    · rename_i e id off len cap hu
      split at h
      · rename_i z l h' hz hl hh
        cases hb : (Nat.ble l h' && Nat.ble h' cap)
        · rw [hb] at h; cases h
        · rw [hb] at h; simp only [cond_true] at h; cases h
          simp only [Bool.and_eq_true, Nat.ble_eq] at hb
          have hmn : mx = none := by
            rcases xint_den (ρ := ρ) (κ := κ) hmx with ⟨rfl, _⟩ | ⟨_, _, hx, _⟩
            · rfl
            · cases hx
          subst hmn
          have hl' : (lo'.getD (.lit 0)).den ρ = (l : Int) := by rw [hl]; rfl
          have hh' : (hi'.getD (.lit (len : Int))).den ρ = (h' : Int) := by have : hi'.getD (.lit (len : Int)) = .lit (.ofNat h') := hh; rw [this]; rfl
          have hb2 := run_bounds2 (P := P) w true len cap (ρ := ρ) (κ := κ) hlo hhi (by omega) (by omega) (by intro _; omega)
          rw [hl', hh'] at hb2
          simp only [SV.den, SA.den, SC.den, Instr.sliceAt, Instr.slice, Sem.run_bind, run_underlying hu, Result.andThen_ok, Option.map_none, hb2, run_sizeP hz, Sem.run_pure, Int.toNat_natCast]
          cases hq : Nat.beq cap l
          · have hne : ¬ cap = l := fun e => by subst e; simp at hq
            simp [hne, Addr.add_mid]
          · rw [Nat.beq_eq] at hq; subst hq; simp
      · rename_i z l h' m hz hl hh
        cases hb : (Nat.ble l h' && (Nat.ble h' m && Nat.ble m cap))
        · rw [hb] at h; cases h
        · rw [hb] at h; simp only [cond_true] at h
          split at h
          · cases h
          · rename_i hns
            cases h
            simp only [Bool.and_eq_true, Nat.ble_eq] at hb
            have hhs : hi' = some (.lit (.ofNat h')) := by
              cases hi' with
              | none => simp at hns
              | some y => simpa using hh
            subst hhs
            have hl' : (lo'.getD (.lit 0)).den ρ = (l : Int) := by rw [hl]; rfl
            have hb3 := run_bounds3 (P := P) w true len cap (ρ := ρ) (κ := κ) hlo hhi hmx (by omega) (by simp only [IE.den]; rw [hl']; simp; omega) (by simp only [IE.den]; simp; omega) (by simp only [IE.den]; simp; omega)
            rw [hl'] at hb3
            simp only [IE.den, Int.ofNat_eq_natCast, Int.toNat_natCast] at hb3
            simp only [SV.den, SA.den, SC.den, Instr.sliceAt, Instr.slice, Sem.run_bind, run_underlying hu, Result.andThen_ok, hb3, run_sizeP hz, Sem.run_pure]
            cases hq : Nat.beq m l
            · have hne : ¬ m = l := fun e => by subst e; simp at hq
              simp [hne, Addr.add_mid]
            · rw [Nat.beq_eq] at hq; subst hq; simp
      · cases h
    · rename_i e id off len k hu
      split at h
      · rename_i z l h' cs ty z' hz hl hh hob
        cases hb : ((Nat.beq z z' && Nat.ble l h') && (Nat.ble ((k + h') * z) cs.length && (Nat.beq l 0 || Nat.blt ((k + l) * z) cs.length)) && Nat.blt 0 z)
        · rw [hb] at h; cases h
        · rw [hb] at h; simp only [cond_true] at h; cases h
          simp only [Bool.and_eq_true, Nat.ble_eq, Nat.beq_eq, Bool.or_eq_true, Nat.blt_eq] at hb
          obtain ⟨⟨⟨rfl, hlh⟩, hkh, hl0⟩, hz0⟩ := hb
          have hcap := hH.capge hob
          have c1 : k + h' ≤ κ.cap id := Nat.le_of_mul_le_mul_right (Nat.le_trans hkh hcap) hz0
          have hmn : mx = none := by
            rcases xint_den (ρ := ρ) (κ := κ) hmx with ⟨rfl, _⟩ | ⟨_, _, hx, _⟩
            · rfl
            · cases hx
          subst hmn
          have hl' : (lo'.getD (.lit 0)).den ρ = (l : Int) := by rw [hl]; rfl
          have hh' : (hi'.getD (.lit (len : Int))).den ρ = (h' : Int) := by have : hi'.getD (.lit (len : Int)) = .lit (.ofNat h') := hh; rw [this]; rfl
          have hb2 := run_bounds2 (P := P) w true len (κ.cap id - k) (ρ := ρ) (κ := κ) hlo hhi (by omega) (by omega) (by intro _; omega)
          rw [hl', hh'] at hb2
          simp only [SV.den, SA.den, SC.den, Instr.sliceAt, Instr.slice, Sem.run_bind, run_underlying hu, Result.andThen_ok, Option.map_none, hb2, run_sizeP hz, Sem.run_pure, Int.toNat_natCast]
          have e1 : κ.cap id - k - l = κ.cap id - (k + l) := by omega
          rw [e1]
          rcases hl0 with rfl | hl0
          · simp [Addr.add]
          · have c2 : k + l < κ.cap id := Nat.lt_of_mul_lt_mul_right (Nat.lt_of_lt_of_le hl0 hcap)
            have hne : ¬ κ.cap id - k = l := by omega
            rw [if_neg hne]
            simp only [Option.map_some, Addr.add_mid]
      · rename_i z l h' m cs ty z' hz hl hh hob
        cases hb : ((Nat.beq z z' && Nat.ble l h') && (Nat.ble ((k + m) * z) cs.length && Nat.ble h' m) && Nat.blt 0 z)
        · rw [hb] at h; cases h
        · rw [hb] at h; simp only [cond_true] at h
          split at h
          · cases h
          · rename_i hns
            cases h
            simp only [Bool.and_eq_true, Nat.ble_eq, Nat.beq_eq, Nat.blt_eq] at hb
            obtain ⟨⟨⟨rfl, hlh⟩, hkm, hhm⟩, hz0⟩ := hb
            have hcap := hH.capge hob
            have c1 : k + m ≤ κ.cap id := Nat.le_of_mul_le_mul_right (Nat.le_trans hkm hcap) hz0
            have hhs : hi' = some (.lit (.ofNat h')) := by
              cases hi' with
              | none => simp at hns
              | some y => simpa using hh
            subst hhs
            have hl' : (lo'.getD (.lit 0)).den ρ = (l : Int) := by rw [hl]; rfl
            have hb3 := run_bounds3 (P := P) w true len (κ.cap id - k) (ρ := ρ) (κ := κ) hlo hhi hmx (by omega) (by simp only [IE.den]; rw [hl']; simp; omega) (by simp only [IE.den]; simp; omega) (by simp only [IE.den]; simp; omega)
            rw [hl'] at hb3
            simp only [IE.den, Int.ofNat_eq_natCast, Int.toNat_natCast] at hb3
            simp only [SV.den, SA.den, SC.den, Instr.sliceAt, Instr.slice, Sem.run_bind, run_underlying hu, Result.andThen_ok, hb3, run_sizeP hz, Sem.run_pure]
            cases hq : Nat.beq m l
            · have hne : ¬ m = l := fun e => by subst e; simp at hq
              simp [hne, Addr.add_mid]
            · rw [Nat.beq_eq] at hq; subst hq; simp
      · cases h
    · rename_i n e id off hu
      split at h
      · rename_i z l h' hz hl hh
        cases hb : (Nat.ble l h' && Nat.ble h' n)
        · rw [hb] at h; cases h
        · rw [hb] at h; simp only [cond_true] at h; cases h
          simp only [Bool.and_eq_true, Nat.ble_eq] at hb
          have hmn : mx = none := by
            rcases xint_den (ρ := ρ) (κ := κ) hmx with ⟨rfl, _⟩ | ⟨_, _, hx, _⟩
            · rfl
            · cases hx
          subst hmn
          have hl' : (lo'.getD (.lit 0)).den ρ = (l : Int) := by rw [hl]; rfl
          have hh' : (hi'.getD (.lit (n : Int))).den ρ = (h' : Int) := by have : hi'.getD (.lit (n : Int)) = .lit (.ofNat h') := hh; rw [this]; rfl
          have hb2 := run_bounds2 (P := P) w false n n (ρ := ρ) (κ := κ) hlo hhi (by omega) (by omega) (by intro _; omega)
          rw [hl', hh'] at hb2
          simp only [SV.den, SA.den, SC.den, Instr.sliceAt, Instr.sureAddr, Sem.run_bind, run_underlying hu, Result.andThen_ok, Option.map_none, hb2, run_sizeP hz, Sem.run_pure, Int.toNat_natCast]
          cases hq : Nat.beq n l
          · have hne : ¬ n = l := fun e => by subst e; simp at hq
            simp [hne, Addr.add_mid]
          · rw [Nat.beq_eq] at hq; subst hq; simp
      · cases h
    · cases h
  · cases h
end Go.SX
