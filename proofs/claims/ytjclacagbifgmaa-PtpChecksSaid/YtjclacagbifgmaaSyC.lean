/- SxC: operations that give a value and leave the world alone. -/
import Derived.Test.YtjclacagbifgmaaSyB
set_option linter.unusedSimpArgs false
set_option linter.unusedVariables false
set_option linter.unusedSectionVars false
noncomputable section
namespace Go.SX
open Go Go.RowKit

/-- what must hold, and the value -/
abbrev XV := Option (List BE × SV)
def needLss (a b : IE) : List BE := match mkCmp .lss a b with
  | .lit true => []
  | p => [p]
def needLeq (a b : IE) : List BE := match mkCmp .leq a b with
  | .lit true => []
  | p => [p]
theorem needLss_den {ρ : Env} {a b : IE} (h : ∀ p ∈ needLss a b, p.den ρ = true) : a.den ρ < b.den ρ := by
  have e := mkCmp_den ρ .lss a b
  unfold needLss at h
  split at h
  · rename_i hl; rw [hl] at e; simpa [BE.den, bc] using e.symm
  · have := h _ (List.mem_singleton.2 rfl); rw [this] at e; simpa [bc] using e.symm
theorem needLeq_den {ρ : Env} {a b : IE} (h : ∀ p ∈ needLeq a b, p.den ρ = true) : a.den ρ ≤ b.den ρ := by
  have e := mkCmp_den ρ .leq a b
  unfold needLeq at h
  split at h
  · rename_i hl; rw [hl] at e; simpa [BE.den, bc] using e.symm
  · have := h _ (List.mem_singleton.2 rfl); rw [this] at e; simpa [bc] using e.symm

/-! ### binary -/
def isAr : BinOp → Bool
  | .add | .sub | .mul | .and | .or | .xor | .andNot => true
  | _ => false
def isCmp : BinOp → Bool
  | .eql | .neq | .lss | .leq | .gtr | .geq => true
  | _ => false
def nzNeed (b : IE) : Option (List BE) := match b with
  | .lit n => bif iq n 0 then none else some []
  | b => some [.cmp .neq b (.lit 0)]
theorem nzNeed_den {ρ : Env} {b : IE} {ns : List BE} (h : nzNeed b = some ns) (hn : ∀ p ∈ ns, p.den ρ = true) : b.den ρ ≠ 0 := by
  unfold nzNeed at h
  split at h
  · rename_i n
    cases hq : iq n 0
    · rw [iq_beq] at hq; simpa [IE.den] using hq
    · simp [hq] at h
  · simp at h; subst h
    simpa [BE.den, bc, IE.den] using hn _ (List.mem_singleton.2 rfl)
def eqv (op : BinOp) (b : BE) : Option SV := match op with
  | .eql => some (.c (.bool b))
  | .neq => some (.c (.bool (mkNot b)))
  | _ => none
/-- whether it is not nil -/
def nilness : SC → Option BE
  | .ptr .. | .aptr .. | .oslice .. | .fn .. | .gslice .. | .yld .. | .mref .. => some (.lit true)
  | .slice j .. => some (.not (.nl j))
  | .lit (.slice none _ _) | .lit (.pointer none) | .lit .nilFunc | .lit (.map none) => some (.lit false)
  | _ => none
def sort : SC → Nat
  | .ptr .. | .aptr .. | .lit (.pointer none) => 1
  | .slice .. | .oslice .. | .gslice .. | .lit (.slice none _ _) => 2
  | .fn .. | .yld .. | .lit .nilFunc => 3
  | .mref .. | .lit (.map none) => 4
  | _ => 0
def sortD (P : Program) (t : TypeId) : Nat := match P.underlying t with
  | some (.pointer _) => 1
  | some (.slice _) => 2
  | some (.func ..) => 3
  | some (.map ..) => 4
  | _ => 9
def xbin (P : Program) (op : BinOp) (t : TypeId) (x y : SV) : XV :=
  match x, y with
  | .a (.c (.int k a)), .a (.c (.int k' b)) =>
    match op with
    | .shl | .shr => some (needLeq (.lit 0) b, .c (.int k (mkBin op k a b)))
    | _ => bif Nat.beq (kn k) (kn k') then
        match op with
        | .quo | .rem => (nzNeed b).map fun ns => (ns, .c (.int k (mkBin op k a b)))
        | _ => bif isAr op then some ([], .c (.int k (mkBin op k a b))) else bif isCmp op then some ([], .c (.bool (mkCmp op a b))) else none
      else none
  | .a (.c (.bool a)), .a (.c (.bool b)) => match P.underlying t with
    | some .bool => (eqv op (mkEq a b)).map fun v => ([], v)
    | _ => none
  | .a (.agg xs), .a (.agg ys) => if P.eqGuardType P.depth t then none else (xeq P 2000 t (.agg xs) (.agg ys)).bind fun b => (eqv op b).map fun v => ([], v)
  | .a (.c x), .a (.c y) => bif Nat.beq (sort x) (sortD P t) && Nat.beq (sort y) (sortD P t) then
      match nilness x, nilness y with
      | some a, some (.lit false) => (eqv op (mkNot a)).map fun v => ([], v)
      | some (.lit false), some b => (eqv op (mkNot b)).map fun v => ([], v)
      | _, _ => none
    else none
  | _, _ => none
theorem run_ints {P : Program} (w : World) (op : BinOp) (t : TypeId) (x y : Operand) (k : IntKind) (m n : Int) (h : isAr op = true ∨ ((op = .quo ∨ op = .rem) ∧ n ≠ 0)) :
    (do eqGuard op t x y (.int k m) (.int k n); binOp op t (.int k m) (.int k n)).run P w = .ok (.int k (bi op k m n)) w := by
  rcases h with h | ⟨h | h, hn⟩
  · cases op <;> simp [isAr] at h <;> simp [eqGuard, binOp, Op.intArith, Op.intBits, bi, bits]
  · subst h; simp [eqGuard, binOp, Op.intDiv, bi, hn]
  · subst h; simp [eqGuard, binOp, Op.intDiv, bi, hn]
theorem run_cmps {P : Program} (w : World) (op : BinOp) (t : TypeId) (x y : Operand) (k : IntKind) (m n : Int) (h : isCmp op = true) :
    (do eqGuard op t x y (.int k m) (.int k n); binOp op t (.int k m) (.int k n)).run P w = .ok (.bool (bc op m n)) w := by
  cases op <;> simp [isCmp] at h <;> simp [eqGuard, binOp, Op.intCmp, bc]
theorem run_shifts {P : Program} (w : World) (op : BinOp) (t : TypeId) (x y : Operand) (k k' : IntKind) (m n : Int) (h : op = .shl ∨ op = .shr) (hn : 0 ≤ n) :
    (do eqGuard op t x y (.int k m) (.int k' n); binOp op t (.int k m) (.int k' n)).run P w = .ok (.int k (bi op k m n)) w := by
  have : ¬ n < 0 := by omega
  rcases h with h | h <;> subst h <;> simp [eqGuard, binOp, Op.shift, bi, this]
theorem eqv_den {ρ : Env} {κ : Kap} {op : BinOp} {b : BE} {v : SV} (h : eqv op b = some v) : (op = .eql ∧ v.den ρ κ = .bool (b.den ρ)) ∨ (op = .neq ∧ v.den ρ κ = .bool (!(b.den ρ))) := by
  unfold eqv at h
  split at h <;> simp at h <;> subst h <;> simp [SV.den, SA.den, SC.den, mkNot_den]
/-- a value that is nil, or surely not -/
inductive NV : Nat → Value → Bool → Prop where
  | p0 : NV 1 (.pointer none) false
  | p1 (a : Addr) : NV 1 (.pointer (some a)) true
  | s0 (n c : Nat) : NV 2 (.slice none n c) false
  | s1 (a : Addr) (n c : Nat) : NV 2 (.slice (some a) n c) true
  | f0 : NV 3 .nilFunc false
  | f1 (f : Fn) (a b : Array Value) : NV 3 (.func f a b) true
  | m0 : NV 4 (.map none) false
  | m1 (a : Nat) : NV 4 (.map (some a)) true
theorem nv_of {ρ : Env} {κ : Kap} {x : SC} {a : BE} (h : nilness x = some a) : NV (sort x) (x.den ρ κ) (a.den ρ) := by
  cases x <;> simp only [nilness, Option.some.injEq, reduceCtorEq] at h
  · subst h; simp only [SC.den, sort, BE.den]; exact .p1 _
  · subst h; simp only [SC.den, sort, BE.den]; exact .p1 _
  · subst h; simp only [SC.den, sort, BE.den, slAddr]
    cases ρ.nl _
    · exact .s1 _ _ _
    · exact .s0 _ _
  · subst h; simp only [SC.den, sort, BE.den]; exact .s1 _ _ _
  · split at h <;> simp only [Option.some.injEq, reduceCtorEq] at h <;> rename_i heq <;> cases heq <;> subst h <;> simp only [SC.den, sort, bigCell, Value.oneCell', if_true, BE.den]
    · exact .s0 _ _
    · exact .p0
    · exact .f0
    · exact .m0
  · subst h; simp only [SC.den, sort, BE.den]; exact .f1 _ _ _
  · subst h; simp only [SC.den, sort, BE.den]; exact .s1 _ _ _
  · subst h; simp only [SC.den, sort, BE.den]; exact .f1 _ _ _
  · subst h; simp only [SC.den, sort, BE.den]; exact .m1 _
theorem run_equal_nv {P : Program} (w : World) (d : Nat) {t : TypeId} {s : Nat} {u z : Value} {a b : Bool} (hu : NV s u a) (hz : NV s z b) (hs : s = sortD P t) (hab : a = false ∨ b = false) :
    (Op.equalIn (d + 1) t u z).run P w = .ok (a == b) w := by
  unfold sortD at hs
  cases hd : P.underlying t with
  | none => rw [hd] at hs; cases hu <;> simp at hs
  | some D =>
    rw [hd] at hs
    cases hu <;> cases hz <;> simp at hab <;> cases D <;> simp only [] at hs <;> first | (exfalso; omega) | simp [Op.equalIn, run_underlying hd]
theorem run_eqGuard_nv {P : Program} (w : World) {op : BinOp} {t : TypeId} {X Y : Operand} {s : Nat} {u z : Value} {a b : Bool} (hu : NV s u a) (hz : NV s z b) : (eqGuard op t X Y u z).run P w = .ok () w := by
  cases hu <;> cases hz <;> cases op <;> simp [eqGuard]
theorem binOp_nv {t : TypeId} {s : Nat} {u z : Value} {a b : Bool} (hu : NV s u a) (hz : NV s z b) :
    (binOp .eql t u z = do pure (.bool (← Op.equal t u z))) ∧ (binOp .neq t u z = do pure (.bool (!(← Op.equal t u z)))) := by
  cases hu <;> cases hz <;> exact ⟨by simp only [binOp], by simp only [binOp]⟩
theorem run_nil {P : Program} {ρ : Env} {κ : Kap} (w : World) (op : BinOp) (t : TypeId) (X Y : Operand) (x y : SC) {a b : BE} (hx : sort x = sortD P t) (hy : sort y = sortD P t) (ha : nilness x = some a) (hb : nilness y = some b)
    (hab : a.den ρ = false ∨ b.den ρ = false) {v : SV} {q : BE} (hq : q.den ρ = (a.den ρ == b.den ρ)) (hv : eqv op q = some v) :
    (do eqGuard op t X Y (x.den ρ κ) (y.den ρ κ); binOp op t (x.den ρ κ) (y.den ρ κ)).run P w = .ok (v.den ρ κ) w := by
  have n1 : NV (sortD P t) (x.den ρ κ) (a.den ρ) := hx ▸ nv_of ha
  have n2 : NV (sortD P t) (y.den ρ κ) (b.den ρ) := hy ▸ nv_of hb
  have k2 : (Op.equal t (x.den ρ κ) (y.den ρ κ)).run P w = .ok (a.den ρ == b.den ρ) w := run_equal_nv w 9999 n1 n2 rfl hab
  obtain ⟨k3, k4⟩ := binOp_nv (t := t) n1 n2
  rw [Sem.run_bind, run_eqGuard_nv w n1 n2, Result.andThen_ok]
  rcases eqv_den (ρ := ρ) (κ := κ) hv with ⟨rfl, hd⟩ | ⟨rfl, hd⟩
  · rw [k3, Sem.run_bind, k2, Result.andThen_ok, hd, hq]; rfl
  · rw [k4, Sem.run_bind, k2, Result.andThen_ok, hd, hq]; rfl
theorem xbin_sound {P : Program} {ρ : Env} {κ : Kap} (w : World) {op : BinOp} {t : TypeId} {X Y : Operand} {x y : SV} {ns : List BE} {s : SV} (h : xbin P op t x y = some (ns, s)) (hn : ∀ p ∈ ns, p.den ρ = true) :
    (do eqGuard op t X Y (x.den ρ κ) (y.den ρ κ); binOp op t (x.den ρ κ) (y.den ρ κ)).run P w = .ok (s.den ρ κ) w := by
  unfold xbin at h
  split at h
  · rename_i k a k' b
    simp only [SV.den, SA.den, SC.den]
    split at h
    · simp at h; obtain ⟨rfl, rfl⟩ := h
      simp only [SV.den, SA.den, SC.den, mkBin_den]
      exact run_shifts w _ t X Y k k' _ _ (.inl rfl) (by simpa [IE.den] using needLeq_den hn)
    · simp at h; obtain ⟨rfl, rfl⟩ := h
      simp only [SV.den, SA.den, SC.den, mkBin_den]
      exact run_shifts w _ t X Y k k' _ _ (.inr rfl) (by simpa [IE.den] using needLeq_den hn)
    · cases hk : Nat.beq (kn k) (kn k')
      · rw [hk] at h; cases h
      · have := kn_eq hk; subst this
        rw [hk] at h; simp only [cond_true] at h
        split at h
        · simp at h; obtain ⟨a', h1, rfl, rfl⟩ := h
          simp only [SV.den, SA.den, SC.den, mkBin_den]
          exact run_ints w _ t X Y k _ _ (.inr ⟨.inl rfl, nzNeed_den h1 hn⟩)
        · simp at h; obtain ⟨a', h1, rfl, rfl⟩ := h
          simp only [SV.den, SA.den, SC.den, mkBin_den]
          exact run_ints w _ t X Y k _ _ (.inr ⟨.inr rfl, nzNeed_den h1 hn⟩)
        · cases h1 : isAr op
          · rw [h1] at h; simp only [cond_false] at h
            cases h2 : isCmp op
            · rw [h2] at h; cases h
            · rw [h2] at h; simp at h; obtain ⟨rfl, rfl⟩ := h
              simp only [SV.den, SA.den, SC.den, mkCmp_den]
              exact run_cmps w op t X Y k _ _ h2
          · rw [h1] at h; simp at h; obtain ⟨rfl, rfl⟩ := h
            simp only [SV.den, SA.den, SC.den, mkBin_den]
            exact run_ints w op t X Y k _ _ (.inl h1)
  · rename_i a b
    split at h
    · rename_i hu
      obtain ⟨v, hv, he⟩ := Option.map_eq_some_iff.1 h; cases he
      have e : (Op.equal t (.bool (a.den ρ)) (.bool (b.den ρ))).run P w = .ok (a.den ρ == b.den ρ) w := by
        simp only [Op.equal, Op.maxDepth]; exact run_equalIn_bool' w 9999 t _ _ hu
      simp only [SV.den, SA.den, SC.den]
      rcases eqv_den (ρ := ρ) (κ := κ) hv with ⟨rfl, hd⟩ | ⟨rfl, hd⟩
      · rw [hd]; simp [eqGuard, binOp, e, mkEq_den]
      · rw [hd]; simp [eqGuard, binOp, e, mkEq_den]
    · cases h
  · rename_i xs ys
    split at h
    · cases h
    · rename_i hg
      obtain ⟨b, hb, h⟩ := Option.bind_eq_some_iff.1 h
      obtain ⟨v, hv, he⟩ := Option.map_eq_some_iff.1 h; cases he
      have e := (xeq_sound P ρ κ w 2000).1 _ _ _ _ hb 10000 (by omega)
      simp only [SA.den] at e
      simp only [SV.den, SA.den]
      rcases eqv_den (ρ := ρ) (κ := κ) hv with ⟨rfl, hd⟩ | ⟨rfl, hd⟩
      · rw [hd, Sem.run_bind, run_eqGuard_agg w _ _ _ _ _ _ (by simpa using hg), Result.andThen_ok, run_eql_struct, e]; rfl
      · rw [hd, Sem.run_bind, run_eqGuard_agg w _ _ _ _ _ _ (by simpa using hg), Result.andThen_ok, run_neq_struct, e]; rfl
  · rename_i x y _ _
    cases hs : (Nat.beq (sort x) (sortD P t) && Nat.beq (sort y) (sortD P t))
    · rw [hs] at h; cases h
    · rw [hs] at h; simp only [cond_true] at h
      simp only [Bool.and_eq_true, Nat.beq_eq] at hs
      split at h
      · rename_i a ha hb
        obtain ⟨v, hv, he⟩ := Option.map_eq_some_iff.1 h; cases he
        exact run_nil w op t X Y x y hs.1 hs.2 ha hb (.inr rfl) (by rw [mkNot_den]; simp only [BE.den]; cases a.den ρ <;> rfl) hv
      · rename_i b _ ha hb
        obtain ⟨v, hv, he⟩ := Option.map_eq_some_iff.1 h; cases he
        exact run_nil w op t X Y x y hs.1 hs.2 ha hb (.inl rfl) (by rw [mkNot_den]; simp only [BE.den]; cases b.den ρ <;> rfl) hv
      · cases h
  · cases h
end Go.SX
