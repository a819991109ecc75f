/- SxF: one operation. -/
import Derived.Lib.AppendZeros
import Derived.Test.YtjclacagbifgmaaSyF2
set_option linter.unusedSimpArgs false
set_option linter.unusedVariables false
set_option linter.unusedSectionVars false
noncomputable section
namespace Go.SX
open Go Go.RowKit

/-! ### all that gives a value -/
def xlen (P : Program) (t : TypeId) (x : SV) : Option SV :=
  match P.underlying t, x with
  | some (.array n _), _ => some (.c (.int .i64 (.lit (.ofNat n))))
  | some (.slice _), .a (.c (.slice _ _ _ _ len _)) => some (.c (.int .i64 (mkNat len)))
  | some (.slice _), .a (.c (.oslice _ _ len _)) => some (.c (.int .i64 (.lit (.ofNat len))))
  | some (.slice _), .a (.c (.gslice _ _ len _)) => some (.c (.int .i64 (.lit (.ofNat len))))
  | some .string, .a (.c (.str l)) => some (.c (.int .i64 (.lit (.ofNat l.length))))
  | some (.slice _), .a (.c (.lit (.slice _ n _))) => some (.c (.int .i64 (.lit (.ofNat n))))
  | some .string, .a (.c (.lit (.string s))) => some (.c (.int .i64 (.lit (.ofNat s.size))))
  | _, _ => none
theorem xlen_sound {P : Program} {ρ : Env} {κ : Kap} (w : World) {t ty : TypeId} {x s : SV} (h : xlen P t x = some s) :
    (Builtin.len_ #[t] ty #[x.den ρ κ]).run P w = .ok (s.den ρ κ) w := by
  unfold xlen at h
  split at h <;> (try (cases h; done)) <;> cases h <;> rename_i hu <;> first
    | (simp [Builtin.len_, run_underlying hu, SV.den, SA.den, SC.den, IE.den, mkNat_den, goInt, bigCell, Value.oneCell']; done)
    | (simp only [SV.den, SA.den, SC.den, IE.den, bytesOf]; rw [run_len_string w t ty _ hu]; simp [goInt, ByteArray.size])
def xun (op : UnOp) (x : SV) : Option SV :=
  match op, x with
  | .not, .a (.c (.bool b)) => some (.c (.bool (mkNot b)))
  | .neg, .a (.c (.int k n)) => some (.c (.int k (mkBin .sub k (.lit 0) n)))
  | _, _ => none
theorem xun_sound {P : Program} {ρ : Env} {κ : Kap} (w : World) {op : UnOp} {x s : SV} (h : xun op x = some s) : (Op.unary op (x.den ρ κ)).run P w = .ok (s.den ρ κ) w := by
  unfold xun at h
  split at h <;> (try (cases h; done)) <;> cases h <;> simp [Op.unary, SV.den, SA.den, SC.den, IE.den, mkNot_den, mkBin_den, bi, Op.intArith]
def xconv (P : Program) (src dst : TypeId) (x : SV) : Option SV :=
  match P.underlying src, P.underlying dst, x with
  | some _, some (.int k), .a (.c (.int _ n)) => some (.c (.int k (mkConv k n)))
  | _, _, _ => none
theorem xconv_sound {P : Program} {ρ : Env} {κ : Kap} (w : World) {src dst : TypeId} {x s : SV} (h : xconv P src dst x = some s) : (convert src dst (x.den ρ κ)).run P w = .ok (s.den ρ κ) w := by
  unfold xconv at h
  split at h <;> (try (cases h; done)) <;> cases h
  rename_i d k k' n hs hd
  simp [convert, run_underlying hs, run_underlying hd, SV.den, SA.den, SC.den, mkConv_den, Conv.intToInt]
def xcellsOf : List SV → Option (List SC)
  | [] => some []
  | .a (.c s) :: l => (xcellsOf l).map (s :: ·)
  | _ => none
theorem xcellsOf_den {ρ : Env} {κ : Kap} : ∀ {l : List SV} {r : List SC}, xcellsOf l = some r → l.map (SV.den ρ κ) = r.map (SC.den ρ κ) := by
  intro l
  induction l with
  | nil => intro r h; cases h; rfl
  | cons s l ih =>
    intro r h
    unfold xcellsOf at h
    split at h
    · rename_i heq; cases heq
    · rename_i s' l' heq
      cases heq
      obtain ⟨q, hq, rfl⟩ := Option.map_eq_some_iff.1 h
      simp only [List.map_cons, ih hq, SV.den, SA.den]
    · cases h
def evs (ev : Operand → Option SV) : List Operand → Option (List SV)
  | [] => some []
  | x :: l => match ev x, evs ev l with
    | some s, some r => some (s :: r)
    | _, _ => none
theorem evs_den {ρ : Env} {κ : Kap} {ev : Operand → Option SV} {e : Operand → Value} (hev : ∀ x s, ev x = some s → e x = s.den ρ κ) : ∀ {l : List Operand} {r : List SV}, evs ev l = some r → l.map e = r.map (SV.den ρ κ) := by
  intro l
  induction l with
  | nil => intro r h; cases h; rfl
  | cons x l ih =>
    intro r h
    unfold evs at h
    split at h
    · rename_i s q h1 h2; cases h; simp [hev _ _ h1, ih h2]
    · cases h
def nons (o : Option SV) : XV := o.map fun v => ([], v)
def evo (ev : Operand → Option SV) : Option Operand → Option (Option SV)
  | none => some none
  | some x => (ev x).map some
theorem evo_den {ρ : Env} {κ : Kap} {ev : Operand → Option SV} {e : Operand → Value} (hev : ∀ x s, ev x = some s → e x = s.den ρ κ) {o : Option Operand} {r : Option SV} (h : evo ev o = some r) : o.map e = r.map (SV.den ρ κ) := by
  cases o with
  | none => cases h; rfl
  | some x =>
    obtain ⟨s, hs, rfl⟩ := Option.map_eq_some_iff.1 h
    simp [hev _ _ hs]
theorem mapArr {α β : Type} (f : α → β) (a : Array α) : a.map f = (a.toList.map f).toArray := by
  apply Array.toList_inj.1; simp
def xval (P : Program) (H : Heap) (ev : Operand → Option SV) (o : Op) : XV :=
  match o with
  | .move x | .assign x => nons (ev x)
  | .pick c a b => match ev c, ev a, ev b with
    | some (.a (.c (.bool c))), some a, some b => some ([], SV.pick c a b)
    | _, _, _ => none
  | .binOp op t x y _ => match ev x, ev y with
    | some x, some y => match xbin P op t x y with
      | some r => some r
      | none => xbinS op x y
    | _, _ => none
  | .unOp op _ x => (ev x).bind fun x => nons (xun op x)
  | .convert s d x => (ev x).bind fun x => match xconv P s d x with
    | some v => some ([], v)
    | none => xstr P H s d x
  | .fieldAddr t x f => (ev x).bind fun x => xfieldAddr P t x f
  | .field t x f => (ev x).bind fun x => xfield P t x f
  | .indexAddr t x i => match ev x, ev i with
    | some x, some i => xindexAddr P H t x i
    | _, _ => none
  | .index t x i => match ev x, ev i with
    | some x, some i => xindex P t x i
    | _, _ => none
  | .load t x => (ev x).bind fun x => xload P H t x
  | .extract x i => (ev x).bind fun x => xextract x i
  | .build t ps => xbuild P ev t ps.toList
  | .slice t x lo hi mx => match ev x, evo ev lo, evo ev hi, evo ev mx with
    | some x, some lo, some hi, some mx => xslice P H t x lo hi mx
    | _, _, _, _ => none
  | .makeFunc f a b => match (evs ev a.toList).bind xcellsOf, (evs ev b.toList).bind xcellsOf with
    | some a, some b => some ([], .c (.fn f a b))
    | _, _ => none
  | .call { callee := .builtin .len, args, argTypes } => match args.toList, argTypes.toList with
    | [x], [t] => (ev x).bind fun x => nons (xlen P t x)
    | _, _ => none
  | .call { callee := .builtin .min, args, argTypes := _ } => match evs ev args.toList with
    | some [.a (.c (.int k x)), .a (.c (.int _ y))] => some ([], .c (.int k (mkCs .lss y x y x)))
    | _ => none
  | .call { callee := .builtin .max, args, argTypes := _ } => match evs ev args.toList with
    | some [.a (.c (.int k x)), .a (.c (.int _ y))] => some ([], .c (.int k (mkCs .gtr y x y x)))
    | _ => none
  | .nilCheck x => match ev x with
    | some (.a (.c s)) => match s with
      | .ptr .. | .aptr .. => some ([], .c s)
      | .fn (.func f) a b => some ([], .c (.fn (.func f) a b))
      | _ => none
    | _ => none
  | _ => none
theorem nons_eq {o : Option SV} {ns : List BE} {s : SV} (h : nons o = some (ns, s)) : o = some s := by
  obtain ⟨v, hv, he⟩ := Option.map_eq_some_iff.1 h; cases he; exact hv
theorem xval_sound {P : Program} {ρ : Env} {κ : Kap} {base : Bk} {H : Heap} {w : World} (hH : HeapOk ρ κ base H w) {ev : Operand → Option SV} {e : Operand → Value} (hev : ∀ x s, ev x = some s → e x = s.den ρ κ) {o : Oper} {ns : List BE} {s : SV}
    (h : xval P H ev o.op = some (ns, s)) (hn : ∀ p ∈ ns, p.den ρ = true) : (execOp e o).run P w = .ok (.value (s.den ρ κ)) w := by
  obtain ⟨dst, op, type, pos, after, guard⟩ := o
  dsimp only at h
  unfold execOp
  cases op <;> (try (simp only [xval, reduceCtorEq] at h; done)) <;> simp only [xval] at h
  case move x => simp [hev _ _ (nons_eq h)]
  case assign x => simp [hev _ _ (nons_eq h)]
  case pick c a b =>
    split at h
    · rename_i c' a' b' hc ha hb
      cases h
      have := hev _ _ hc
      simp only [SV.den, SA.den, SC.den] at this
      simp [this, asBool, hev _ _ ha, hev _ _ hb, SV.pick_den]
    · cases h
  case binOp op t x y yt =>
    split at h
    · rename_i x' y' hx hy
      split at h
      · rename_i r hr
        cases h
        have := xbin_sound (X := x) (Y := y) (κ := κ) w hr hn
        simp only [hev _ _ hx, hev _ _ hy]
        rw [Sem.run_bind, this]; rfl
      · have := xbinS_sound (t := t) (X := x) (Y := y) (κ := κ) w (P := P) h hn
        simp only [hev _ _ hx, hev _ _ hy]
        rw [Sem.run_bind, this]; rfl
    · cases h
  case unOp op t x =>
    obtain ⟨x', hx, h⟩ := Option.bind_eq_some_iff.1 h
    simp [hev _ _ hx, xun_sound (ρ := ρ) (κ := κ) w (nons_eq h)]
  case convert a b x =>
    obtain ⟨x', hx, h⟩ := Option.bind_eq_some_iff.1 h
    split at h
    · rename_i v hv
      cases h
      simp [hev _ _ hx, xconv_sound (ρ := ρ) (κ := κ) w hv]
    · simp [hev _ _ hx, xstr_sound hH h hn]
  case fieldAddr t x f =>
    obtain ⟨x', hx, h⟩ := Option.bind_eq_some_iff.1 h
    simp [hev _ _ hx, xfieldAddr_sound (ρ := ρ) (κ := κ) w h]
  case field t x f =>
    obtain ⟨x', hx, h⟩ := Option.bind_eq_some_iff.1 h
    simp [hev _ _ hx, xfield_sound (ρ := ρ) (κ := κ) w h]
  case indexAddr t x i =>
    split at h
    · rename_i x' i' hx hi
      simp [hev _ _ hx, hev _ _ hi, xindexAddr_sound hH h hn]
    · cases h
  case index t x i =>
    split at h
    · rename_i x' i' hx hi
      simp [hev _ _ hx, hev _ _ hi, xindex_sound (ρ := ρ) (κ := κ) w h]
    · cases h
  case load t x =>
    obtain ⟨x', hx, h⟩ := Option.bind_eq_some_iff.1 h
    simp [hev _ _ hx, xload_sound hH h hn]
  case extract x i =>
    obtain ⟨x', hx, h⟩ := Option.bind_eq_some_iff.1 h
    simp [hev _ _ hx, xextract_sound (ρ := ρ) (κ := κ) w h]
  case build t ps =>
    have := xbuild_sound w hev h
    simp [this]
  case slice t x lo hi mx =>
    split at h
    · rename_i x' lo' hi' mx' hx hlo hhi hmx
      have := xslice_sound hH h hn
      rw [← evo_den hev hlo, ← evo_den hev hhi, ← evo_den hev hmx, ← hev _ _ hx] at this
      simp [this]
    · cases h
  case makeFunc f a b =>
    split at h
    · rename_i a' b' ha hb
      cases h
      obtain ⟨a1, ha1, ha2⟩ := Option.bind_eq_some_iff.1 ha
      obtain ⟨b1, hb1, hb2⟩ := Option.bind_eq_some_iff.1 hb
      have ea : a.map e = (a'.map (SC.den ρ κ)).toArray := by
        rw [← xcellsOf_den ha2, ← evs_den hev ha1, mapArr]
      have eb : b.map e = (b'.map (SC.den ρ κ)).toArray := by
        rw [← xcellsOf_den hb2, ← evs_den hev hb1, mapArr]
      simp [Instr.makeFunc, ea, eb, SV.den, SA.den, SC.den, SC.denL_eq]
    · cases h
  case call c =>
    obtain ⟨callee, args, argTypes⟩ := c
    cases callee with
    | builtin b =>
      cases b <;> (try (simp only [reduceCtorEq] at h; done))
      case min =>
        dsimp only at h
        split at h
        · rename_i k x k' y hxy
          cases h
          have e1 : (args.map e).toList = [.int k (x.den ρ), .int k' (y.den ρ)] := by
            have := evs_den hev hxy
            simp only [SV.den, SA.den, SC.den, List.map_cons, List.map_nil] at this
            rw [Array.toList_map]; exact this
          rw [Array.toList_map] at e1
          simp [resolve, invoke, builtin, Builtin.min_, e1, Builtin.min2, SV.den, SA.den, SC.den, mkCs_den, bc]
        · cases h
      case max =>
        dsimp only at h
        split at h
        · rename_i k x k' y hxy
          cases h
          have e1 : (args.map e).toList = [.int k (x.den ρ), .int k' (y.den ρ)] := by
            have := evs_den hev hxy
            simp only [SV.den, SA.den, SC.den, List.map_cons, List.map_nil] at this
            rw [Array.toList_map]; exact this
          rw [Array.toList_map] at e1
          simp [resolve, invoke, builtin, Builtin.max_, e1, Builtin.max2, SV.den, SA.den, SC.den, mkCs_den, bc]
        · cases h
      dsimp only at h
      split at h
      · rename_i x t hx ht
        obtain ⟨x', hx', h⟩ := Option.bind_eq_some_iff.1 h
        have e1 : args = #[x] := by cases args; simp_all
        have e2 : argTypes = #[t] := by cases argTypes; simp_all
        subst e1; subst e2
        have := xlen_sound (ty := type) (ρ := ρ) (κ := κ) w (nons_eq h)
        simp [resolve, invoke, builtin, hev _ _ hx', this]
      · cases h
    | _ => cases h
  case nilCheck x =>
    split at h
    · rename_i s' hx
      have := hev _ _ hx
      split at h
      · cases h; simp only [this, SV.den, SA.den, SC.den]; rfl
      · cases h; simp only [this, SV.den, SA.den, SC.den]; rfl
      · cases h; simp only [this, SV.den, SA.den, SC.den]; rfl
      · cases h
    · cases h

/-! ### all the rest -/
def rep (z : List SC) (n : Nat) : List SC := (List.range n).map fun i => z.getD (i % z.length) (.lit .nilFunc)
theorem rep_den {ρ : Env} {κ : Kap} (z : List SC) (n : Nat) (hz : z ≠ [] ∨ n = 0) :
    (Array.range n).map ((z.map (SC.den ρ κ)).toArray[· % (z.map (SC.den ρ κ)).toArray.size]!) = ((rep z n).map (SC.den ρ κ)).toArray := by
  apply Array.ext
  · simp [rep]
  · intro i h1 h2
    simp at h1
    have hzl : z ≠ [] := hz.resolve_right (by omega)
    have hpos : 0 < z.length := List.length_pos_iff.2 hzl
    have hm : i % z.length < z.length := Nat.mod_lt _ hpos
    simp [rep, hm]
def callable (P : Program) (f : FuncId) : Bool := match P.funcs[f]? with
  | some fn => fn.body.isSome && !(fn.name == "runtime.NumGoroutine")
  | none => false
theorem run_callFunc {P : Program} {f : FuncId} (h : callable P f = true) (args : Array Value) (w : World) : (callFunc f args).run P w = .ok (.enter f args) w := by
  unfold callable at h
  split at h
  · rename_i fn hf
    simp only [Bool.and_eq_true, Bool.not_eq_true'] at h
    have hb : fn.body.isNone = false := by cases hb : fn.body <;> simp_all
    simp only [callFunc, Sem.run_bind, run_program, Result.andThen_ok, hf, h.2, hb, Bool.false_eq_true, if_false, Sem.run_pure]
  · cases h
/-- cells of a new block -/
theorem doesNew_cells {ρ : Env} {κ : Kap} {base : Bk} {H : Heap} {w : World} (hH : HeapOk ρ κ base H w) (hz : base.top ≤ w.heap.size) (cs : List SC) (ty : TypeId) (np : NP) {r : Result Next} {u : Value}
    (hr : r = .ok (.value u) (w.alloc (.cells (cs.map (SC.den ρ κ)).toArray ty (0, 0)))) (hu : ∀ n, u = (newPtr n np).den ρ (κ.setO n w.heap.size 0)) : DoesNew ρ κ base H w r (.cells cs ty none) np none := by
  intro n hf hc
  have K := KBut.setO n w.heap.size 0 κ
  refine ⟨κ.setO n w.heap.size 0, w.alloc (.cells (cs.map (SC.den ρ κ)).toArray ty (0, 0)), K, by rw [hr, hu n], ?_, Kept.of_below ((Below.refl _ w).alloc (Nat.le_refl _) _) (Nat.le_trans base.le hz)⟩
  exact hH.alloc hf hz 0 (.cells cs ty none) _ (by simp only [SObj.Is]; rw [SC.hasM_den K (show SC.hasL (one n) cs = false from hc)])
theorem np_ptr (ρ : Env) (κ : Kap) (n b c : Nat) : (newPtr n .ptr).den ρ (κ.setO n b c) = .pointer (some ⟨b, 0, none⟩) := by simp [newPtr, SV.den, SA.den, SC.den, Kap.setO]
theorem np_os (ρ : Env) (κ : Kap) (n b c l k : Nat) : (newPtr n (.os l k)).den ρ (κ.setO n b c) = .slice (some ⟨b, 0, none⟩) l k := by simp [newPtr, SV.den, SA.den, SC.den, Kap.setO]
/-- a row of a known length, all of it zero -/
def xmakeK (P : Program) (t : TypeId) (l c : SV) : Option (List SC × TypeId × Nat) :=
  match l, c, P.underlying t with
  | .a (.c (.int _ (.lit (.ofNat L)))), .a (.c (.int _ (.lit (.ofNat L')))), some (.slice e) => match P.info? e, zeroP P e with
    | some i, some z => bif (Nat.beq L L' && Nat.blt 0 i.bytes) && ((Nat.beq z.cells.length i.size && Nat.blt 0 i.size) && (Nat.ble (L * i.bytes) 140737488355328 && Nat.ble L 100000)) then some (rep z.cells (L * i.size), e, L) else none
    | _, _ => none
  | _, _, _ => none
theorem xmakeK_run {P : Program} {ρ : Env} {κ : Kap} (w : World) {t : TypeId} {l c : SV} {cs : List SC} {e : TypeId} {L : Nat} (h : xmakeK P t l c = some (cs, e, L)) :
    (Instr.makeSlice t (l.den ρ κ) (c.den ρ κ)).run P w = .ok (.slice (some ⟨w.heap.size, 0, none⟩) L L) (w.alloc (.cells (cs.map (SC.den ρ κ)).toArray e (0, 0))) := by
  unfold xmakeK at h
  split at h
  · rename_i k L' k' L2 e' hu
    split at h
    · rename_i i z hi hz
      cases hq : ((Nat.beq L' L2 && Nat.blt 0 i.bytes) && ((Nat.beq z.cells.length i.size && Nat.blt 0 i.size) && (Nat.ble (L' * i.bytes) 140737488355328 && Nat.ble L' 100000)))
      · rw [hq] at h; cases h
      · rw [hq] at h; simp only [cond_true] at h; cases h
        simp only [Bool.and_eq_true, Nat.beq_eq, Nat.blt_eq, Nat.ble_eq] at hq
        obtain ⟨⟨rfl, hby⟩, ⟨hzl, hsz⟩, hbb, hL⟩ := hq
        have hwrap : IntKind.i64.wrap (L : Int) = (L : Int) := wrap_of_fits (by simp only [fits]; rw [Nat.blt_eq]; omega)
        have hinfo : ∀ w, (typeInfo e).run P w = .ok i w := fun w => by simp [typeInfo, hi]
        have t1 : decide ((i.bytes : Int) * (L : Int) > 2 ^ 48) = false := by
          have h2 : (i.bytes : Int) * (L : Int) ≤ 140737488355328 := by
            have : ((L * i.bytes : Nat) : Int) ≤ 140737488355328 := by omega
            rw [Int.natCast_mul] at this
            rw [Int.mul_comm]; exact this
          simp only [decide_eq_false_iff_not]
          omega
        have t2 : decide ((L : Int) < 0) = false := by simp
        have t3 : decide ((L : Int) > (L : Int)) = false := by simp
        have hne : z.cells ≠ [] := fun e => by rw [e] at hzl; simp at hzl; omega
        simp only [SV.den, SA.den, SC.den, IE.den, Int.ofNat_eq_natCast]
        simp only [Instr.makeSlice, Sem.run_bind, run_underlying hu, Result.andThen_ok, asInt, asIntOf, Sem.run_pure, hinfo, hwrap, t1, t2, t3, Bool.false_or, Bool.or_false, decide_false, Bool.false_eq_true, if_false, run_askRoom, Sem.run_ite, sizeOf, Int.toNat_natCast]
        by_cases h0 : L * i.size = 0
        · simp only [h0, if_true, Result.andThen_ok, newRow, Sem.run_bind, run_newObj, Sem.run_pure]
          have he0 : (Array.range 0).map (fun x => (#[] : Array Value)[x % (#[] : Array Value).size]!) = #[] := by simp
          rw [he0]
          simp [rep]
        · simp only [h0, if_false, Sem.run_bind, run_zeroP hz ρ κ, Result.andThen_ok, SA.den_cells, newRow, run_newObj, Sem.run_pure]
          rw [rep_den z.cells (L * i.size) (.inl hne)]
          rfl
    · cases h
  · cases h
/-- copy, where the lengths are known -/
def xcopyK (P : Program) (H : Heap) (t u : TypeId) (d x : SV) : Option (Heap × SV) :=
  match d, x, P.underlying t, P.underlying u with
  | .a (.c d), .a (.c x), some (.slice E), some (.slice _) => match sizeP P E, d with
    | some sz, .oslice id off dl _ | some sz, .gslice id off dl _ => match knownSl H sz x, H.own? id with
      | some (news, m), some (cs, _) => bif Nat.ble m dl && Nat.ble (off + news.length) cs.length then some (H.setOwn id (setMany cs off news), .c (.int .i64 (.lit (.ofNat m)))) else none
      | _, _ => none
    | _, _ => none
  | _, _, _, _ => none
theorem xcopyK_sound {P : Program} {ρ : Env} {κ : Kap} {base : Bk} {H : Heap} {w : World} (hH : HeapOk ρ κ base H w) {t u ty : TypeId} {d x v : SV} {H' : Heap} (h : xcopyK P H t u d x = some (H', v)) :
    DoesUpd ρ κ base w (((Builtin.copy_ #[t, u] ty #[d.den ρ κ, x.den ρ κ]).run P w).andThen fun v w' => .ok (.value v) w') H' v := by
  unfold xcopyK at h
  split at h
  · rename_i d x E e' hu hu'
    have key : ∀ (id off dl capv sz : Nat), sizeP P E = some sz → d.den ρ κ = .slice (some ⟨κ.o id, off, none⟩) dl capv → (match knownSl H sz x, H.own? id with
        | some (news, m), some (cs, _) => bif Nat.ble m dl && Nat.ble (off + news.length) cs.length then some (H.setOwn id (setMany cs off news), SV.c (.int .i64 (.lit (.ofNat m)))) else none
        | _, _ => none) = some (H', v) → DoesUpd ρ κ base w (((Builtin.copy_ #[t, u] ty #[(SV.a (.c d)).den ρ κ, (SV.a (.c x)).den ρ κ]).run P w).andThen fun v w' => .ok (.value v) w') H' v := by
      intro id off dl capv sz hsz hd h
      split at h
      · rename_i news m cs cty hx ho
        cases hq : (Nat.ble m dl && Nat.ble (off + news.length) cs.length)
        · rw [hq] at h; cases h
        · rw [hq] at h; simp only [cond_true] at h; cases h
          simp only [Bool.and_eq_true, Nat.ble_eq] at hq
          obtain ⟨x1, x2, x3, _⟩ := knownSl_spec (P := P) (ρ := ρ) (κ := κ) hH hx hu'
          obtain ⟨f1, f2⟩ := hH.store ho off news hq.2
          obtain ⟨sp, hw⟩ := hH.own ho
          have hst := run_storeCells_cells (P := P) (κ.o id) off (news.map (SC.den ρ κ)) 0 w (fun j hj => by simp at hj; rw [cell_of_row w _ _ _ _ _ hw]; simp; omega) (fun j _ => by simp [World.frozen?, hw])
            (fun v hv => by obtain ⟨y, _, rfl⟩ := List.mem_map.1 hv; exact SC.den_one ρ κ y)
          simp only [Nat.add_zero] at hst
          refine ⟨_, .inl ?_, f1, f2⟩
          have hl := x2.len w
          have hc := x2.cells
          have hmin : Nat.min m dl = m := Nat.min_eq_left hq.1
          simp only [SV.den, SA.den, hd]
          generalize x.den ρ κ = X at hl hc
          simp [Builtin.copy_, run_underlying hu, run_sizeP hsz, hl, hmin, hc, hst, goInt, SC.den, IE.den]
      · cases h
    split at h
    · rename_i sz id off dl cap hsz
      exact key id off dl cap sz hsz (by simp only [SC.den]) h
    · rename_i sz id off dl k hsz
      exact key id off dl (κ.cap id - k) sz hsz (by simp only [SC.den]) h
    · cases h
  · cases h
/-- cap of a slice -/
def xcap (P : Program) (t : TypeId) (x : SV) : Option SV := match P.underlying t, x with
  | some (.slice _), .a (.c (.lit (.slice none 0 0))) => some (.c (.int .i64 (.lit 0)))
  | some (.slice _), .a (.c (.oslice _ _ _ c)) => some (.c (.int .i64 (.lit (.ofNat c))))
  | some (.slice _), .a (.c (.slice _ _ _ _ _ (.e c))) => some (.c (.int .i64 (mkNat c)))
  | _, _ => none
theorem xcap_sound {P : Program} {ρ : Env} {κ : Kap} (w : World) {t ty : TypeId} {x s : SV} (h : xcap P t x = some s) : (Builtin.cap_ #[t] ty #[x.den ρ κ]).run P w = .ok (s.den ρ κ) w := by
  unfold xcap at h
  split at h
  · rename_i hu; cases h
    simp [Builtin.cap_, run_underlying hu, SV.den, SA.den, SC.den, bigCell, Value.oneCell', goInt, IE.den]
  · rename_i hu; cases h
    simp [Builtin.cap_, run_underlying hu, SV.den, SA.den, SC.den, goInt, IE.den]
  · rename_i hu; cases h
    simp [Builtin.cap_, run_underlying hu, SV.den, SA.den, SC.den, goInt, mkNat_den, CE.den]
  · cases h
def zlit : Option IE → Bool
  | none => true
  | some (.lit (.ofNat 0)) => true
  | _ => false
/-- nil, sliced -/
def xsliceN (P : Program) (t : TypeId) (x : SV) (lo hi mx : Option SV) : Option SV := match P.underlying t, x, mx with
  | some (.slice e), .a (.c (.lit (.slice none 0 0))), none => match sizeP P e, xint lo, xint hi with
    | some _, some lo, some hi => bif zlit lo && zlit hi then some (.c (.lit (.slice none 0 0))) else none
    | _, _, _ => none
  | _, _, _ => none
theorem zlit_den {ρ : Env} {o : Option IE} (h : zlit o = true) : (o.getD (.lit 0)).den ρ = 0 := by
  unfold zlit at h
  split at h
  · rfl
  · rfl
  · cases h
theorem xsliceN_sound {P : Program} {ρ : Env} {κ : Kap} (w : World) {t : TypeId} {x : SV} {lo hi mx : Option SV} {s : SV} (h : xsliceN P t x lo hi mx = some s) :
    (Instr.sliceAt t (x.den ρ κ) (lo.map (SV.den ρ κ)) (hi.map (SV.den ρ κ)) (mx.map (SV.den ρ κ))).run P w = .ok (s.den ρ κ) w := by
  unfold xsliceN at h
  split at h
  · rename_i e hu
    split at h
    · rename_i z lo' hi' hz hlo hhi
      cases hb : (zlit lo' && zlit hi')
      · rw [hb] at h; cases h
      · rw [hb] at h; simp only [cond_true] at h; cases h
        simp only [Bool.and_eq_true] at hb
        have h1 := zlit_den (ρ := ρ) hb.1
        have h2 := zlit_den (ρ := ρ) hb.2
        have hb2 := run_bounds2 (P := P) w true 0 0 (ρ := ρ) (κ := κ) hlo hhi (by omega) (by rw [h1]; simp only [Int.ofNat_zero] at h2 ⊢; exact Int.le_of_eq h2.symm) (by intro _; simp only [Int.ofNat_zero] at h2 ⊢; exact Int.le_of_eq h2)
        have h2' : (hi'.getD (.lit ((0 : Nat) : Int))).den ρ = 0 := h2
        rw [h1, h2'] at hb2
        simp [SV.den, SA.den, SC.den, bigCell, Value.oneCell', Instr.sliceAt, Instr.slice, run_underlying hu, hb2, run_sizeP hz]
    · cases h
  · cases h
/-- zeros appended to nil -/
def xappZ (P : Program) (t u : TypeId) (s x : SV) : Option ORes := match s, x, P.underlying t, P.underlying u with
  | .a (.c (.lit (.slice none 0 0))), .a (.c (.int _ (.lit (.ofNat (m + 1))))), some (.slice E), some (.int _) => match P.info? E, zeroP P E with
    | some i, some z => bif (Nat.blt 0 i.size && Nat.blt 0 i.bytes) && (Nat.beq z.cells.length i.size && Nat.ble ((m + 1) * i.bytes) 140737488355328) then some (.new (.cells (rep z.cells ((m + 1) * i.size)) E (some i.size)) (.gs (m + 1)) none) else none
    | _, _ => none
  | _, _, _, _ => none
theorem xappZ_sound {P : Program} {ρ : Env} {κ : Kap} {base : Bk} {H : Heap} {w : World} (hH : HeapOk ρ κ base H w) (hz : base.top ≤ w.heap.size) {t u ty : TypeId} {s x : SV} {q : ORes} (h : xappZ P t u s x = some q) :
    Does ρ κ base H w (((Builtin.append_ #[t, u] ty #[s.den ρ κ, x.den ρ κ]).run P w).andThen fun v w' => .ok (.value v) w') q ∧ (∃ o np src, q = .new o np src) := by
  unfold xappZ at h
  split at h
  · rename_i k m E k' hu hu'
    split at h
    · rename_i i z hi hzp
      cases hq : ((Nat.blt 0 i.size && Nat.blt 0 i.bytes) && (Nat.beq z.cells.length i.size && Nat.ble ((m + 1) * i.bytes) 140737488355328))
      · rw [hq] at h; cases h
      · rw [hq] at h; simp only [cond_true] at h; cases h
        simp only [Bool.and_eq_true, Nat.beq_eq, Nat.blt_eq, Nat.ble_eq] at hq
        obtain ⟨⟨hsz, hby⟩, hzl, hbb⟩ := hq
        obtain ⟨zi, zv, hzi, hzv, hzd⟩ := zeroP_spec hzp
        rw [hi] at hzi; cases hzi
        have hzc : zv.cells = (z.cells.map (SC.den ρ κ)).toArray := by rw [hzd ρ κ, SA.den_cells]
        have hml : m + 1 ≤ maxLen := by
          have := Nat.le_trans (Nat.le_mul_of_pos_right (m + 1) hby) hbb; simp only [maxLen]; omega
        have hrun := _root_.Go.Lib.run_append_nil_zeros (P := P) w t u ty E i zv k k' hu hu' hi hzv (m + 1) (by omega) hsz (by
          have := Nat.le_trans (Nat.le_mul_of_pos_right (m + 1) hby) hbb; omega) (by omega)
        refine ⟨?_, _, _, _, rfl⟩
        intro nn hf hfo
        have hge := grownCap_ge w (m + 1) 0 E
        have hcm : grownCap w (m + 1) 0 E ≤ maxLen := grownCap_le_maxLen w (m + 1) 0 E hml
        have K := KBut.setO nn w.heap.size (grownCap w (m + 1) 0 E) κ
        refine ⟨κ.setO nn w.heap.size (grownCap w (m + 1) 0 E), w.drew.alloc (.cells (Builtin.zeroCells zv.cells (m + 1) ++ Builtin.zeroCells zv.cells (grownCap w (m + 1) 0 E - (m + 1))) E), K, ?_, ?_, ?_⟩
        · simp only [SV.den, SA.den, SC.den, bigCell, Value.oneCell', if_true, IE.den, newPtr]
          have : (Int.ofNat (m + 1)) = ((m + 1 : Nat) : Int) := rfl
          rw [this, hrun]
          simp [Kap.setO]
        · have h0 : HeapOk ρ κ base H w.drew := hH.below fun k _ => rfl
          have hf0 : (w.drew).heap.size = w.heap.size := rfl
          have hzs : zv.cells.size = i.size := by rw [hzc]; simp [hzl]
          have hre : (Builtin.zeroCells zv.cells (m + 1)).toList = (rep z.cells ((m + 1) * i.size)).map (SC.den ρ κ) := by
            have := rep_den (ρ := ρ) (κ := κ) z.cells ((m + 1) * i.size) (.inl (fun e => by rw [e] at hzl; simp at hzl; omega))
            have h2 := congrArg Array.toList this
            simp only [List.toList_toArray] at h2
            rw [← h2, hzc]
            simp only [Builtin.zeroCells]
            simp [hzl]
          have := h0.alloc hf (by rw [hf0]; exact hz) (grownCap w (m + 1) 0 E) (.cells (rep z.cells ((m + 1) * i.size)) E (some i.size))
            (.cells (Builtin.zeroCells zv.cells (m + 1) ++ Builtin.zeroCells zv.cells (grownCap w (m + 1) 0 E - (m + 1))) E (0, 0)) (by
              refine ⟨(Builtin.zeroCells zv.cells (grownCap w (m + 1) 0 E - (m + 1))).toList, ?_, ?_, ?_⟩
              · congr 1
                apply Array.toList_inj.1
                simp only [Array.toList_append, List.toList_toArray]
                rw [SC.hasM_den (show KBut (one nn) κ (κ.setO nn w.drew.heap.size (grownCap w (m + 1) 0 E)) from K) (show SC.hasL (one nn) (rep z.cells ((m + 1) * i.size)) = false from hfo), hre]
              · have hl : (rep z.cells ((m + 1) * i.size)).length = (m + 1) * i.size := by simp [rep]
                simp only [Array.length_toList, size_zeroCells, hzs, hl, Kap.setO, if_true]
                rw [← Nat.add_mul]; congr 1; omega
              · simp only [Kap.setO, if_true]; exact hcm)
          exact this
        · refine Kept.of_below (w := w) ?_ (Nat.le_trans base.le hz)
          exact ((Below.refl _ w).drew).alloc (Nat.le_refl _) _
    · cases h
  · cases h
def xone (P : Program) (H : Heap) (ev : Operand → Option SV) (o : Op) : Option (List BE × ORes) :=
  match xval P H ev o with
  | some (ns, v) => some (ns, .val v)
  | none => match o with
    | .alloc t => (zeroP P t).map fun z => ([], .new (.cells z.cells t none) .ptr none)
    | .box t x => match ev x with
      | some (.a s) => some ([], .new (.cells s.cells t none) .ptr none)
      | _ => none
    | .buildSlice t len ps => match P.underlying t with
      | some (.slice e) => match sizeP P e, zeroP P e, xparts ev ps.toList with
        | some sz, some z, some ps => bif Nat.ble (len * sz) 16777216 && (Nat.beq (len * sz) 0 || Nat.blt 0 z.cells.length) then (xfill (fun i => some (i * sz, sz)) (rep z.cells (len * sz)) ps).map fun cs => ([], .new (.cells cs e none) (.os len len) none) else none
        | _, _, _ => none
      | _ => none
    | .makeSlice t l c => match ev l, ev c with
      | some l, some c => match xmakeK P t l c with
        | some (cs, e, L) => some ([], .new (.cells cs e none) (.os L L) none)
        | none => (xmake P t l c).map fun x => (x.1, .row x.2)
      | _, _ => none
    | .call { callee := .builtin .append, args, argTypes } => match args.toList, argTypes.toList with
      | [x, y], [t, u] => match ev x, ev y with
        | some x, some y => match xappK P H t u x y with
          | some r => some ([], r)
          | none => bif Nat.beq t u then (xappend P H t x y).map fun x => (x.1, .row x.2) else (xappZ P t u x y).map fun r => ([], r)
        | _, _ => none
      | _, _ => none
    | .slice t x lo hi mx => match ev x, evo ev lo, evo ev hi, evo ev mx with
      | some x, some lo, some hi, some mx => (xsliceN P t x lo hi mx).map fun v => ([], .val v)
      | _, _, _, _ => none
    | .call { callee := .builtin .cap, args, argTypes } => match args.toList, argTypes.toList with
      | [x], [t] => (ev x).bind fun x => (xcap P t x).map fun v => ([], .val v)
      | _, _ => none
    | .call { callee := .builtin .copy, args, argTypes } => match args.toList, argTypes.toList with
      | [x, y], [t, u] => match ev x, ev y with
        | some x, some y => match xcopyK P H t u x y with
          | some r => some ([], .upd r.1 r.2)
          | none => (xcopyR P H t u x y).map fun r => (r.1, .turn r.2.1 r.2.2.1 r.2.2.2)
        | _, _ => none
      | _, _ => none
    | .store t p x => match ev p, ev x with
      | some (.a (.c (.ptr id off))), some (.a s) => match H.own? id, sizeP P t with
        | some (cs, _), some sz => bif Nat.beq sz s.cells.length && Nat.ble (off + s.cells.length) cs.length then some ([], .upd (H.setOwn id (setMany cs off s.cells)) sundef) else none
        | _, _ => none
      | some (.a (.c p)), some (.a s) => (xset P H t p s).map fun r => (r.1, .turn r.2.1 r.2.2 sundef)
      | _, _ => none
    | .makeMap t none => (mapP P t).map fun x => ([], .new (.map x.1 []) .mref none)
    | .mapUpdate t m k x | .insert t m k x => match ev m, ev k, ev x with
      | some m, some k, some x => (xput P H t m k x).map fun r => ([], .upd (H.setObj r.1 r.2) sundef)
      | _, _, _ => none
    | .lookup t m i ok => match ev m, ev i with
      | some m, some i => (xlook P H t m i ok).map fun r => ([], .alts r.1 r.2)
      | _, _ => none
    | .call { callee := .value f, args, argTypes := _ } => match ev f, evs ev args.toList with
      | some (.a (.c (.fn (.func f) first cap))), some args => bif callable P f then some ([], .call f (first.map SV.c ++ (args ++ cap.map SV.c))) else none
      | some (.a (.c (.yld l))), some args => match H.obj? l with
        | some (.loop _) => some ([], .yld l args)
        | _ => none
      | _, _ => none
    | _ => none
theorem xone_sound {P : Program} {ρ : Env} {κ : Kap} {base : Bk} {H : Heap} {w : World} (hH : HeapOk ρ κ base H w) (hbase : base.top ≤ w.heap.size) {ev : Operand → Option SV} {e : Operand → Value} (hev : ∀ x s, ev x = some s → e x = s.den ρ κ) {o : Oper} {ns : List BE} {r : ORes}
    (h : xone P H ev o.op = some (ns, r)) (hn : ∀ p ∈ ns, p.den ρ = true) : Does ρ κ base H w ((execOp e o).run P w) r ∧ (∀ f args, r = .call f args → callable P f = true) ∧ (∀ l args, r = .yld l args → ∃ rc, H.obj? l = some (.loop rc)) := by
  unfold xone at h
  split at h
  · rename_i ns' v hv
    cases h
    exact ⟨xval_sound hH hev hv hn, fun _ _ h => (by cases h), fun _ _ h => (by cases h)⟩
  · obtain ⟨dst, op, type, pos, after, guard⟩ := o
    dsimp only at h
    unfold execOp
    split at h
    · obtain ⟨z, hz, he⟩ := Option.map_eq_some_iff.1 h; cases he
      refine ⟨doesNew_cells hH hbase _ _ _ (u := .pointer (some ⟨w.heap.size, 0, none⟩)) ?_ fun n => (np_ptr ρ κ n _ _).symm, fun _ _ h => (by cases h), fun _ _ h => (by cases h)⟩
      simp only [Instr.alloc, Sem.run_bind, run_zeroP hz ρ κ, Result.andThen_ok, newVar, newRow, run_newObj, Sem.run_pure, SA.den_cells]
      rfl
    · rename_i t x _
      split at h
      · rename_i s hx
        cases h
        have hx' : e x = s.den ρ κ := hev _ _ hx
        refine ⟨doesNew_cells hH hbase _ _ _ (u := .pointer (some ⟨w.heap.size, 0, none⟩)) ?_ fun n => (np_ptr ρ κ n _ _).symm, fun _ _ h => (by cases h), fun _ _ h => (by cases h)⟩
        simp only [hx', Instr.box, newVar, newRow, Sem.run_bind, run_newObj, Result.andThen_ok, Sem.run_pure, SA.den_cells]
        rfl
      · cases h
    · rename_i t len ps _
      split at h
      · rename_i el hu
        split at h
        · rename_i sz z ps' hsz hz hps
          cases hb : (Nat.ble (len * sz) 16777216 && (Nat.beq (len * sz) 0 || Nat.blt 0 z.cells.length))
          · rw [hb] at h; cases h
          · rw [hb] at h; simp only [cond_true] at h
            simp only [Bool.and_eq_true, Nat.ble_eq, Bool.or_eq_true, Nat.beq_eq, Nat.blt_eq] at hb
            obtain ⟨cs, hcs, he⟩ := Option.map_eq_some_iff.1 h; cases he
            refine ⟨doesNew_cells hH hbase _ _ _ (u := .slice (some ⟨w.heap.size, 0, none⟩) len len) ?_ fun n => (np_os ρ κ n _ _ _ _).symm, fun _ _ h => (by cases h), fun _ _ h => (by cases h)⟩
            have hpd := xparts_den hev hps
            have hl : (ps.map fun (i, x) => (i, e x)).toList = ps'.map fun p => (p.1, p.2.den ρ κ) := by
              rw [← hpd]; simp
            have hf := xfill_den (ρ := ρ) (κ := κ) hcs
            have h1 : ¬ (len * sz > 2 ^ 24) := by omega
            by_cases h2 : len * sz = 0
            · have hr0 : rep z.cells (len * sz) = [] := by rw [h2]; rfl
              rw [hr0] at hf
              simp only [Instr.buildSlice, Sem.run_bind, run_underlying hu, Result.andThen_ok, run_sizeP hsz, Sem.run_ite, h1, if_false, Sem.run_pure, h2, if_true, hl]
              simp only [List.map_nil] at hf
              have he0 : (Array.range 0).map (fun x => (#[] : Array Value)[x % (#[] : Array Value).size]!) = #[] := by simp
              rw [he0, hf]
              simp only [Sem.run_bind, newRow, run_newObj, Result.andThen_ok, Sem.run_pure]
              rfl
            · have hne : z.cells ≠ [] := fun e => by rw [e] at hb; simp at hb; exact h2 hb.2
              simp only [Instr.buildSlice, Sem.run_bind, run_underlying hu, Result.andThen_ok, run_sizeP hsz, Sem.run_ite, h1, if_false, Sem.run_pure, h2, run_zeroP hz ρ κ, SA.den_cells, rep_den z.cells (len * sz) (.inl hne), hl, hf, newRow, run_newObj]
              rfl
        · cases h
      · cases h
    · rename_i t l c _
      split at h
      · rename_i l' c' hl hc
        split at h
        · rename_i cs el L hk
          cases h
          refine ⟨doesNew_cells hH hbase _ _ _ (u := .slice (some ⟨w.heap.size, 0, none⟩) L L) ?_ fun n => (np_os ρ κ n _ _ _ _).symm, fun _ _ h => (by cases h), fun _ _ h => (by cases h)⟩
          have := xmakeK_run (ρ := ρ) (κ := κ) w hk
          simp only [hev _ _ hl, hev _ _ hc]
          rw [Sem.run_bind, this]; rfl
        · obtain ⟨x, hx, he⟩ := Option.map_eq_some_iff.1 h; cases he
          refine ⟨?_, fun _ _ h => (by cases h), fun _ _ h => (by cases h)⟩
          have := xmake_sound (P := P) hH hbase hx hn
          simp only [Does, hev _ _ hl, hev _ _ hc]
          rw [Sem.run_bind]
          exact this
      · cases h
    · rename_i args argTypes _
      split at h
      · rename_i x y t u hx hy
        have e1 : args = #[x, y] := by cases args; simp_all
        have e2 : argTypes = #[t, u] := by cases argTypes; simp_all
        subst e1; subst e2
        have he : (do
            let d ← resolve e { callee := Callee.builtin Builtin.append, args := #[x, y], argTypes := #[t, u] } type
            invoke d.target d.args : Sem Next).run P w = ((Builtin.append_ #[t, u] type #[e x, e y]).run P w).andThen fun v w' => .ok (.value v) w' := by
          simp only [resolve, Sem.run_bind, Sem.run_pure, Result.andThen_ok, invoke, builtin]
          simp
        split at h
        · rename_i x' y' hx' hy'
          split at h
          · rename_i r' hk
            cases h
            have := xappK_sound (P := P) (ty := type) hH hbase hk
            rw [← hev _ _ hx', ← hev _ _ hy'] at this
            refine ⟨by rw [he]; exact this, fun f args hr => ?_, fun l args hr => ?_⟩
            · subst hr
              exfalso
              unfold xappK at hk
              repeat' split at hk
              all_goals first | (cases hk; done) | skip
              all_goals (rw [Bool.cond_eq_ite] at hk; split at hk)
              all_goals first | (cases hk; done) | skip
              all_goals (repeat' split at hk)
              all_goals first | (cases hk; done) | skip
              all_goals (simp only [Bool.cond_eq_ite] at hk; repeat' split at hk)
              all_goals (cases hk; done)
            · subst hr
              exfalso
              unfold xappK at hk
              repeat' split at hk
              all_goals first | (cases hk; done) | skip
              all_goals (rw [Bool.cond_eq_ite] at hk; split at hk)
              all_goals first | (cases hk; done) | skip
              all_goals (repeat' split at hk)
              all_goals first | (cases hk; done) | skip
              all_goals (simp only [Bool.cond_eq_ite] at hk; repeat' split at hk)
              all_goals (cases hk; done)
          · cases hb : Nat.beq t u
            · rw [hb] at h; simp only [cond_false] at h
              obtain ⟨z, hz, hee⟩ := Option.map_eq_some_iff.1 h; cases hee
              obtain ⟨h1, o1, np1, src1, h2⟩ := xappZ_sound (P := P) (ty := type) hH hbase hz
              refine ⟨?_, fun _ _ h => (by rw [h2] at h; cases h), fun _ _ h => (by rw [h2] at h; cases h)⟩
              rw [← hev _ _ hx', ← hev _ _ hy'] at h1
              rw [he]; exact h1
            · rw [hb] at h; simp only [cond_true] at h
              rw [Nat.beq_eq] at hb; subst hb
              obtain ⟨z, hz, hee⟩ := Option.map_eq_some_iff.1 h; cases hee
              refine ⟨?_, fun _ _ h => (by cases h), fun _ _ h => (by cases h)⟩
              have := xappend_sound (P := P) (ty := type) hH hbase hz hn
              simp only [Does]
              rw [← hev _ _ hx', ← hev _ _ hy'] at this
              rw [he]
              exact this
        · cases h
      · cases h
    · rename_i t x lo hi mx _
      split at h
      · rename_i x' lo' hi' mx' hx hlo hhi hmx
        obtain ⟨v, hv, hee⟩ := Option.map_eq_some_iff.1 h; cases hee
        refine ⟨?_, fun _ _ h => (by cases h), fun _ _ h => (by cases h)⟩
        have := xsliceN_sound (P := P) (ρ := ρ) (κ := κ) w hv
        rw [← evo_den hev hlo, ← evo_den hev hhi, ← evo_den hev hmx, ← hev _ _ hx] at this
        simp [Does, this]
      · cases h
    · rename_i args argTypes _
      split at h
      · rename_i x t hx ht
        have e1 : args = #[x] := by cases args; simp_all
        have e2 : argTypes = #[t] := by cases argTypes; simp_all
        subst e1; subst e2
        obtain ⟨x', hx', h⟩ := Option.bind_eq_some_iff.1 h
        obtain ⟨v, hv, hee⟩ := Option.map_eq_some_iff.1 h; cases hee
        refine ⟨?_, fun _ _ h => (by cases h), fun _ _ h => (by cases h)⟩
        have := xcap_sound (P := P) (ρ := ρ) (κ := κ) w (ty := type) hv
        rw [← hev _ _ hx'] at this
        simp only [Does, resolve, Sem.run_bind, Sem.run_pure, Result.andThen_ok, invoke, builtin]
        simp [this]
      · cases h
    · rename_i args argTypes _
      split at h
      · rename_i x y t u hx hy
        have e1 : args = #[x, y] := by cases args; simp_all
        have e2 : argTypes = #[t, u] := by cases argTypes; simp_all
        subst e1; subst e2
        split at h
        · rename_i x' y' hx' hy'
          have he : (do
              let d ← resolve e { callee := Callee.builtin Builtin.copy, args := #[x, y], argTypes := #[t, u] } type
              invoke d.target d.args : Sem Next).run P w = ((Builtin.copy_ #[t, u] type #[e x, e y]).run P w).andThen fun v w' => .ok (.value v) w' := by
            simp only [resolve, Sem.run_bind, Sem.run_pure, Result.andThen_ok, invoke, builtin]
            simp
          split at h
          · rename_i z hz
            cases h
            refine ⟨?_, fun _ _ h => (by cases h), fun _ _ h => (by cases h)⟩
            have := xcopyK_sound (P := P) (ty := type) hH hz
            rw [← hev _ _ hx', ← hev _ _ hy'] at this
            simp only [Does]
            rw [he]; exact this
          · obtain ⟨⟨ns', j', ct', v'⟩, hz, hee⟩ := Option.map_eq_some_iff.1 h; cases hee
            refine ⟨?_, fun _ _ h => (by cases h), fun _ _ h => (by cases h)⟩
            have := xcopyR_sound (P := P) (ty := type) hH hz hn
            rw [← hev _ _ hx', ← hev _ _ hy'] at this
            simp only [Does]
            rw [he]; exact this
        · cases h
      · cases h
    · rename_i t p x _
      split at h
      · rename_i id off s hp hx
        split at h
        · rename_i cs cty sz ho hsz
          cases hb : (Nat.beq sz s.cells.length && Nat.ble (off + s.cells.length) cs.length)
          · rw [hb] at h; cases h
          · rw [hb] at h; simp only [cond_true] at h; cases h
            simp only [Bool.and_eq_true, Nat.beq_eq, Nat.ble_eq] at hb
            refine ⟨?_, fun _ _ h => (by cases h), fun _ _ h => (by cases h)⟩
            have := run_store_x (P := P) hH ho off (t := t) (s := s) (by rw [hsz, hb.1]) hb.2
            have hp' : e p = .pointer (some ⟨κ.o id, off, none⟩) := by have := hev _ _ hp; simpa only [SV.den, SA.den, SC.den] using this
            have hx' : e x = s.den ρ κ := hev _ _ hx
            obtain ⟨f1, f2⟩ := hH.store ho off s.cells hb.2
            refine ⟨_, .inr ⟨?_, sundef_den ρ κ⟩, f1, f2⟩
            simp only [hp', hx']
            rw [Sem.run_bind, this]; rfl
        · cases h
      · rename_i p' s hne hp hx
        obtain ⟨⟨ns', j', ct'⟩, hz, hee⟩ := Option.map_eq_some_iff.1 h; cases hee
        refine ⟨?_, fun _ _ h => (by cases h), fun _ _ h => (by cases h)⟩
        obtain ⟨c, pat, E, q1, w', q2, q3⟩ := xset_sound (P := P) hH hz hn
        refine ⟨c, pat, E, q1, w', .inr ⟨?_, sundef_den ρ κ⟩, q3⟩
        have hp' : e p = p'.den ρ κ := hev _ _ hp
        have hx' : e x = s.den ρ κ := hev _ _ hx
        simp only [hp', hx']
        rw [Sem.run_bind, q2]; rfl
      · cases h
    · rename_i t _
      obtain ⟨⟨k, kt, vt⟩, hk, he⟩ := Option.map_eq_some_iff.1 h; cases he
      refine ⟨?_, fun _ _ h => (by cases h), fun _ _ h => (by cases h)⟩
      have := xmkmap_sound (P := P) hH hbase t k
      simp only [Does, Option.map_none]
      rw [Sem.run_bind]; exact this
    · rename_i t m k x _
      split at h
      · rename_i m' k' x' hm hk hx
        obtain ⟨⟨id, ob⟩, hq, he⟩ := Option.map_eq_some_iff.1 h; cases he
        refine ⟨?_, fun _ _ h => (by cases h), fun _ _ h => (by cases h)⟩
        obtain ⟨w', g1, g2, g3⟩ := xput_sound (P := P) hH hq
        refine ⟨w', .inr ⟨?_, sundef_den ρ κ⟩, g2, g3⟩
        simp only [hev _ _ hm, hev _ _ hk, hev _ _ hx]
        rw [Sem.run_bind, g1]; rfl
      · cases h
    · rename_i t m k x _
      split at h
      · rename_i m' k' x' hm hk hx
        obtain ⟨⟨id, ob⟩, hq, he⟩ := Option.map_eq_some_iff.1 h; cases he
        refine ⟨?_, fun _ _ h => (by cases h), fun _ _ h => (by cases h)⟩
        obtain ⟨w', g1, g2, g3⟩ := xput_sound (P := P) hH hq
        refine ⟨w', .inr ⟨?_, sundef_den ρ κ⟩, g2, g3⟩
        simp only [hev _ _ hm, hev _ _ hk, hev _ _ hx]
        rw [Sem.run_bind, g1]; rfl
      · cases h
    · rename_i t m i ok _
      split at h
      · rename_i m' i' hm hi
        obtain ⟨⟨l, v⟩, hq, he⟩ := Option.map_eq_some_iff.1 h; cases he
        refine ⟨?_, fun _ _ h => (by cases h), fun _ _ h => (by cases h)⟩
        have := xlook_sound (P := P) hH hq
        simp only [Does, hev _ _ hm, hev _ _ hi]
        rw [Sem.run_bind, this]; rfl
      · cases h
    · rename_i f args _ _
      split at h
      · rename_i f' first cap args' hf ha
        cases hb : callable P f'
        · rw [hb] at h; cases h
        · rw [hb] at h; simp only [cond_true] at h; cases h
          refine ⟨?_, fun _ _ h => (by cases h; exact hb), fun _ _ h => (by cases h)⟩
          have e1 : args.map e = (args'.map (SV.den ρ κ)).toArray := by rw [← evs_den hev ha, mapArr]
          have e2 := hev _ _ hf
          simp only [SV.den, SA.den, SC.den, SC.denL_eq] at e2
          have e3 : ∀ (l : List SC), (l.map SV.c).map (SV.den ρ κ) = l.map (SC.den ρ κ) := fun l => by
            rw [List.map_map]; rfl
          simp only [Does, resolve, e2, e1, Deferred.ofValue, Sem.run_bind, Sem.run_pure, Result.andThen_ok, invoke, run_callFunc hb, List.map_append, e3]
          simp
      · rename_i l args' hf ha
        split at h
        · rename_i rc hrc
          cases h
          refine ⟨?_, fun _ _ h => (by cases h), fun _ _ h => (by cases h; exact ⟨rc, hrc⟩)⟩
          have e1 : args.map e = (args'.map (SV.den ρ κ)).toArray := by rw [← evs_den hev ha, mapArr]
          have e2 := hev _ _ hf
          simp only [SV.den, SA.den, SC.den] at e2
          refine ⟨rc, hrc, fun b hb2 hbs => ?_⟩
          simp only [resolve, e2, e1, Deferred.ofValue, Sem.run_bind, Sem.run_pure, Result.andThen_ok, invoke]
          have := run_yield (P := P) (args := (args'.map (SV.den ρ κ)).toArray) hb2 (by simp [hbs])
          simpa using this
        · cases h
      · cases h
    · cases h
/-! ### the same, by small pieces: quick in the kernel -/
section
variable (P : Program) (H : Heap) (ev : Operand → Option SV)
def xv_pick (c a b : Operand) : XV := match ev c, ev a, ev b with
    | some (.a (.c (.bool c))), some a, some b => some ([], SV.pick c a b)
    | _, _, _ => none
def xv_bin (op : BinOp) (t : TypeId) (x y : Operand) : XV := match ev x, ev y with
    | some x, some y => match xbin P op t x y with
      | some r => some r
      | none => xbinS op x y
    | _, _ => none
def xv_un (op : UnOp) (x : Operand) : XV := (ev x).bind fun x => nons (xun op x)
def xv_conv (s d : TypeId) (x : Operand) : XV := (ev x).bind fun x => match xconv P s d x with
    | some v => some ([], v)
    | none => xstr P H s d x
def xv_fa (t : TypeId) (x : Operand) (f : Nat) : XV := (ev x).bind fun x => xfieldAddr P t x f
def xv_f (t : TypeId) (x : Operand) (f : Nat) : XV := (ev x).bind fun x => xfield P t x f
def xv_ia (t : TypeId) (x i : Operand) : XV := match ev x, ev i with
    | some x, some i => xindexAddr P H t x i
    | _, _ => none
def xv_i (t : TypeId) (x i : Operand) : XV := match ev x, ev i with
    | some x, some i => xindex P t x i
    | _, _ => none
def xv_load (t : TypeId) (x : Operand) : XV := (ev x).bind fun x => xload P H t x
def xv_ext (x : Operand) (i : Nat) : XV := (ev x).bind fun x => xextract x i
def xv_build (t : TypeId) (ps : Array (Nat × Operand)) : XV := xbuild P ev t ps.toList
def xv_slice (t : TypeId) (x : Operand) (lo hi mx : Option Operand) : XV := match ev x, evo ev lo, evo ev hi, evo ev mx with
    | some x, some lo, some hi, some mx => xslice P H t x lo hi mx
    | _, _, _, _ => none
def xv_fn (f : Fn) (a b : Array Operand) : XV := match (evs ev a.toList).bind xcellsOf, (evs ev b.toList).bind xcellsOf with
    | some a, some b => some ([], .c (.fn f a b))
    | _, _ => none
def xv_len (args : Array Operand) (argTypes : Array TypeId) : XV := match args.toList, argTypes.toList with
    | [x], [t] => (ev x).bind fun x => nons (xlen P t x)
    | _, _ => none
def xv_min (args : Array Operand) : XV := match evs ev args.toList with
    | some [.a (.c (.int k x)), .a (.c (.int _ y))] => some ([], .c (.int k (mkCs .lss y x y x)))
    | _ => none
def xv_max (args : Array Operand) : XV := match evs ev args.toList with
    | some [.a (.c (.int k x)), .a (.c (.int _ y))] => some ([], .c (.int k (mkCs .gtr y x y x)))
    | _ => none
def xv_blt (b : Builtin) (args : Array Operand) (argTypes : Array TypeId) : XV := match b with
  | .len => xv_len P ev args argTypes
  | .min => xv_min ev args
  | .max => xv_max ev args
  | _ => none
def xv_call (c : Call) : XV := match c with
  | { callee := c, args, argTypes } => match c with
    | .builtin b => xv_blt P ev b args argTypes
    | _ => none
def xv_nil (x : Operand) : XV := match ev x with
    | some (.a (.c s)) => match s with
      | .ptr .. | .aptr .. => some ([], .c s)
      | .fn (.func f) a b => some ([], .c (.fn (.func f) a b))
      | _ => none
    | _ => none
def xvalF (o : Op) : XV :=
  match o with
  | .move x => nons (ev x)
  | .assign x => nons (ev x)
  | .pick c a b => xv_pick ev c a b
  | .binOp op t x y _ => xv_bin P ev op t x y
  | .unOp op _ x => xv_un ev op x
  | .convert s d x => xv_conv P H ev s d x
  | .fieldAddr t x f => xv_fa P ev t x f
  | .field t x f => xv_f P ev t x f
  | .indexAddr t x i => xv_ia P H ev t x i
  | .index t x i => xv_i P ev t x i
  | .load t x => xv_load P H ev t x
  | .extract x i => xv_ext ev x i
  | .build t ps => xv_build P ev t ps
  | .slice t x lo hi mx => xv_slice P H ev t x lo hi mx
  | .makeFunc f a b => xv_fn ev f a b
  | .call c => xv_call P ev c
  | .nilCheck x => xv_nil ev x
  | _ => none
theorem xvalF_eq (o : Op) : xvalF P H ev o = xval P H ev o := by
  cases o <;> first | rfl | skip
  rename_i c
  obtain ⟨c, a, ts⟩ := c
  cases c <;> first | rfl | skip
  rename_i b
  cases b <;> rfl
def xo_new (s : Option SA) (t : TypeId) : Option (List BE × ORes) := s.map fun z => ([], .new (.cells z.cells t none) .ptr none)
def xo_box (t : TypeId) (x : Operand) : Option (List BE × ORes) := match ev x with
      | some (.a s) => some ([], .new (.cells s.cells t none) .ptr none)
      | _ => none
def xo_bs (t : TypeId) (len : Nat) (ps : Array (Nat × Operand)) : Option (List BE × ORes) := match P.underlying t with
      | some (.slice e) => match sizeP P e, zeroP P e, xparts ev ps.toList with
        | some sz, some z, some ps => bif Nat.ble (len * sz) 16777216 && (Nat.beq (len * sz) 0 || Nat.blt 0 z.cells.length) then (xfill (fun i => some (i * sz, sz)) (rep z.cells (len * sz)) ps).map fun cs => ([], .new (.cells cs e none) (.os len len) none) else none
        | _, _, _ => none
      | _ => none
def xo_ms (t : TypeId) (l c : Operand) : Option (List BE × ORes) := match ev l, ev c with
      | some l, some c => match xmakeK P t l c with
        | some (cs, e, L) => some ([], .new (.cells cs e none) (.os L L) none)
        | none => (xmake P t l c).map fun x => (x.1, .row x.2)
      | _, _ => none
def xo_app (args : Array Operand) (argTypes : Array TypeId) : Option (List BE × ORes) := match args.toList, argTypes.toList with
      | [x, y], [t, u] => match ev x, ev y with
        | some x, some y => match xappK P H t u x y with
          | some r => some ([], r)
          | none => bif Nat.beq t u then (xappend P H t x y).map fun x => (x.1, .row x.2) else (xappZ P t u x y).map fun r => ([], r)
        | _, _ => none
      | _, _ => none
def xo_slice (t : TypeId) (x : Operand) (lo hi mx : Option Operand) : Option (List BE × ORes) := match ev x, evo ev lo, evo ev hi, evo ev mx with
      | some x, some lo, some hi, some mx => (xsliceN P t x lo hi mx).map fun v => ([], .val v)
      | _, _, _, _ => none
def xo_cap (args : Array Operand) (argTypes : Array TypeId) : Option (List BE × ORes) := match args.toList, argTypes.toList with
      | [x], [t] => (ev x).bind fun x => (xcap P t x).map fun v => ([], .val v)
      | _, _ => none
def xo_copy (args : Array Operand) (argTypes : Array TypeId) : Option (List BE × ORes) := match args.toList, argTypes.toList with
      | [x, y], [t, u] => match ev x, ev y with
        | some x, some y => match xcopyK P H t u x y with
          | some r => some ([], .upd r.1 r.2)
          | none => (xcopyR P H t u x y).map fun r => (r.1, .turn r.2.1 r.2.2.1 r.2.2.2)
        | _, _ => none
      | _, _ => none
def xo_store (t : TypeId) (p x : Operand) : Option (List BE × ORes) := match ev p, ev x with
      | some (.a (.c (.ptr id off))), some (.a s) => match H.own? id, sizeP P t with
        | some (cs, _), some sz => bif Nat.beq sz s.cells.length && Nat.ble (off + s.cells.length) cs.length then some ([], .upd (H.setOwn id (setMany cs off s.cells)) sundef) else none
        | _, _ => none
      | some (.a (.c p)), some (.a s) => (xset P H t p s).map fun r => (r.1, .turn r.2.1 r.2.2 sundef)
      | _, _ => none
def xo_mm (t : TypeId) (r : Option Operand) : Option (List BE × ORes) := match r with
  | none => (mapP P t).map fun x => ([], .new (.map x.1 []) .mref none)
  | some _ => none
def xo_put (t : TypeId) (m k x : Operand) : Option (List BE × ORes) := match ev m, ev k, ev x with
      | some m, some k, some x => (xput P H t m k x).map fun r => ([], .upd (H.setObj r.1 r.2) sundef)
      | _, _, _ => none
def xo_look (t : TypeId) (m i : Operand) (ok : Bool) : Option (List BE × ORes) := match ev m, ev i with
      | some m, some i => (xlook P H t m i ok).map fun r => ([], .alts r.1 r.2)
      | _, _ => none
def xo_val (f : Operand) (args : Array Operand) : Option (List BE × ORes) := match ev f, evs ev args.toList with
      | some (.a (.c (.fn (.func f) first cap))), some args => bif callable P f then some ([], .call f (first.map SV.c ++ (args ++ cap.map SV.c))) else none
      | some (.a (.c (.yld l))), some args => match H.obj? l with
        | some (.loop _) => some ([], .yld l args)
        | _ => none
      | _, _ => none
def xo_blt (b : Builtin) (args : Array Operand) (argTypes : Array TypeId) : Option (List BE × ORes) := match b with
  | .append => xo_app P H ev args argTypes
  | .cap => xo_cap P ev args argTypes
  | .copy => xo_copy P H ev args argTypes
  | _ => none
def xo_call (c : Call) : Option (List BE × ORes) := match c with
  | { callee := c, args, argTypes } => match c with
    | .builtin b => xo_blt P H ev b args argTypes
    | .value f => xo_val P H ev f args
    | _ => none
def xoneE (o : Op) : Option (List BE × ORes) := match o with
    | .alloc t => xo_new (zeroP P t) t
    | .box t x => xo_box ev t x
    | .buildSlice t len ps => xo_bs P ev t len ps
    | .makeSlice t l c => xo_ms P ev t l c
    | .call c => xo_call P H ev c
    | .slice t x lo hi mx => xo_slice P ev t x lo hi mx
    | .store t p x => xo_store P H ev t p x
    | .makeMap t r => xo_mm P t r
    | .mapUpdate t m k x => xo_put P H ev t m k x
    | .insert t m k x => xo_put P H ev t m k x
    | .lookup t m i ok => xo_look P H ev t m i ok
    | _ => none
def xoneF (o : Op) : Option (List BE × ORes) :=
  match xvalF P H ev o with
  | some r => some (r.1, .val r.2)
  | none => xoneE P H ev o
theorem xoneF_eq (o : Op) : xoneF P H ev o = xone P H ev o := by
  unfold xoneF xone
  rw [xvalF_eq]
  cases xval P H ev o with
  | some r => rfl
  | none =>
    cases o <;> first | rfl | skip
    · rename_i t r; cases r <;> rfl
    · rename_i c
      obtain ⟨c, a, ts⟩ := c
      cases c <;> first | rfl | skip
      rename_i b
      cases b <;> rfl
end
end Go.SX
