/- A part of the proof: see the text that states the theorem. -/
import Derived.Test.YtjclacagbifgmaaA0
import Derived.Test.YtjclacagbifgmaaA1
import Derived.Test.YtjclacagbifgmaaA3
import Derived.Test.YtjclacagbifgmaaA4
set_option linter.unusedSimpArgs false
set_option linter.unusedVariables false
set_option linter.unusedSectionVars false
noncomputable section
namespace Go.Proofs.Y10
open Go Go.SX Go.RowKit
structure M where
  (kd dom cor sid sp seq tim ppb rid rp p1 cl ac va p2 mid st : Int)
abbrev vI (n : Int) : Value := .int .i64 n
abbrev vB (b : Bool) : Value := .bool b
def M.l (m : M) : List Int := [m.kd, m.dom, m.cor, m.sid, m.sp, m.seq, m.tim, m.ppb, m.rid, m.rp, m.p1, m.cl, m.ac, m.va, m.p2, m.mid, m.st]
abbrev vM (m : M) : Value := .agg #[vI m.kd, vI m.dom, vI m.cor, vI m.sid, vI m.sp, vI m.seq, vI m.tim, vI m.ppb, vI m.rid, vI m.rp, vI m.p1, vI m.cl, vI m.ac, vI m.va, vI m.p2, vI m.mid, vI m.st]
abbrev M.env (m : M) : List Dat := [.i m.kd, .i m.dom, .i m.cor, .i m.sid, .i m.sp, .i m.seq, .i m.tim, .i m.ppb, .i m.rid, .i m.rp, .i m.p1, .i m.cl, .i m.ac, .i m.va, .i m.p2, .i m.mid, .i m.st]
def headP (dom cor sid sp seq : Int) : Prop := (0 ≤ dom ∧ dom ≤ 127) ∧ (-4398046511104 ≤ cor ∧ cor ≤ 4398046511104) ∧ (0 ≤ sid ∧ sid ≤ 281474976710655) ∧ (1 ≤ sp ∧ sp ≤ 65535) ∧ (0 ≤ seq ∧ seq ≤ 65535)
def noM (m : M) : Prop := m.p1 = 0 ∧ m.cl = 0 ∧ m.ac = 0 ∧ m.va = 0 ∧ m.p2 = 0 ∧ m.mid = 0 ∧ m.st = 0
def timP (m : M) : Prop := -4398046511104 ≤ m.tim ∧ m.tim ≤ 4398046511104
def masterP (p1 cl ac va p2 mid : Int) : Prop := (0 ≤ p1 ∧ p1 ≤ 255) ∧ (0 ≤ cl ∧ cl ≤ 255) ∧ (0 ≤ ac ∧ ac ≤ 255) ∧ (0 ≤ va ∧ va ≤ 65535) ∧ (0 ≤ p2 ∧ p2 ≤ 255) ∧ (0 ≤ mid ∧ mid ≤ 281474976710655)
def tailP (m : M) : Prop :=
  (m.kd = 0 ∨ m.kd = 2) ∧ m.tim = 0 ∧ m.ppb = 0 ∧ (m.rid = 0 ∧ m.rp = 0) ∧ noM m ∨
  m.kd = 8 ∧ timP m ∧ (-8388608 ≤ m.ppb ∧ m.ppb ≤ 8388608) ∧ (m.rid = 0 ∧ m.rp = 0) ∧ noM m ∨
  (m.kd = 3 ∨ m.kd = 10) ∧ timP m ∧ m.ppb = 0 ∧ ((0 ≤ m.rid ∧ m.rid ≤ 281474976710655) ∧ 1 ≤ m.rp ∧ m.rp ≤ 65535) ∧ noM m ∨
  m.kd = 11 ∧ m.tim = 0 ∧ m.ppb = 0 ∧ (m.rid = 0 ∧ m.rp = 0) ∧ masterP m.p1 m.cl m.ac m.va m.p2 m.mid ∧ (0 ≤ m.st ∧ m.st ≤ 65535)
def right (m : M) : Prop := headP m.dom m.cor m.sid m.sp m.seq ∧ tailP m
noncomputable instance (m : M) : Decidable (right m) := Classical.propDecidable _
instance (a b c d e f : Int) : Decidable (masterP a b c d e f) := by unfold masterP; infer_instance
def szOf (k : Int) : Int := if k = 0 ∨ k = 2 then 22 else if k = 3 ∨ k = 10 then 38 else if k = 8 then 34 else if k = 11 then 36 else 0
theorem c_Size (k : Int) : Ret Try.prog 13 #[vI k] (vI (szOf k)) := by
  refine ret_of t_Size (mkEnv [.i k]) (fun w => ?_)
  simp [szOf]
  grind
theorem c_refSize (k : Int) : Ret Try.prog 14 #[vI k] (vI (szOf k)) := by
  refine ret_of t_refSize (mkEnv [.i k]) (fun w => ?_)
  simp [szOf]
  grind
theorem c_Master (p1 cl ac va p2 mid : Int) : Ret Try.prog 11 #[.agg #[vI p1, vI cl, vI ac, vI va, vI p2, vI mid]] (vB (decide (masterP p1 cl ac va p2 mid))) := by
  refine ret_of t_Master (mkEnv [.i p1, .i cl, .i ac, .i va, .i p2, .i mid]) (fun w => ?_)
  simp [masterP]
  grind
theorem c_CheckMaster (p1 cl ac va p2 mid : Int) : Ret Try.prog 12 #[.agg #[vI p1, vI cl, vI ac, vI va, vI p2, vI mid]] (vI (if masterP p1 cl ac va p2 mid then 0 else 201)) := by
  refine ret_of t_CheckMaster (mkEnv [.i p1, .i cl, .i ac, .i va, .i p2, .i mid]) (fun w => ?_)
  simp [masterP]
  grind
theorem c_Check1 (m : M) (h : right m) : Ret Try.prog 24 #[vM m] (vI 0) := by
  obtain ⟨kd, dom, cor, sid, sp, seq, tim, ppb, rid, rp, p1, cl, ac, va, p2, mid, st⟩ := m
  obtain ⟨⟨⟨a1, a2⟩, ⟨a3, a4⟩, ⟨a5, a6⟩, ⟨a7, a8⟩, ⟨a9, a10⟩⟩, ht⟩ := h
  simp only [] at *
  rcases ht with ⟨hk, b1, b2, ⟨b3, b4⟩, b5, b6, b7, b8, b9, b10, b11⟩ | ⟨hk, ⟨b1, b2⟩, ⟨b3, b4⟩, ⟨b12, b13⟩, b5, b6, b7, b8, b9, b10, b11⟩ | ⟨hk, ⟨b1, b2⟩, b3, ⟨⟨b12, b13⟩, b14, b15⟩, b5, b6, b7, b8, b9, b10, b11⟩ | ⟨hk, b1, b2, ⟨b3, b4⟩, ⟨⟨c1, c2⟩, ⟨c3, c4⟩, ⟨c5, c6⟩, ⟨c7, c8⟩, ⟨c9, c10⟩, ⟨c11, c12⟩⟩, c13, c14⟩
  · rcases hk with hk | hk
    · simp only [] at *; subst hk; exact ret_of t_Check0 (mkEnv (M.env ⟨0, dom, cor, sid, sp, seq, tim, ppb, rid, rp, p1, cl, ac, va, p2, mid, st⟩)) fun w => by simp [*]
    · simp only [] at *; subst hk; exact ret_of t_Check2 (mkEnv (M.env ⟨2, dom, cor, sid, sp, seq, tim, ppb, rid, rp, p1, cl, ac, va, p2, mid, st⟩)) fun w => by simp [*]
  · simp only [] at *; subst hk; exact ret_of t_Check8 (mkEnv (M.env ⟨8, dom, cor, sid, sp, seq, tim, ppb, rid, rp, p1, cl, ac, va, p2, mid, st⟩)) fun w => by simp [*]
  · rcases hk with hk | hk
    · simp only [] at *; subst hk; exact ret_of t_Check3 (mkEnv (M.env ⟨3, dom, cor, sid, sp, seq, tim, ppb, rid, rp, p1, cl, ac, va, p2, mid, st⟩)) fun w => by simp [*]
    · simp only [] at *; subst hk; exact ret_of t_Check10 (mkEnv (M.env ⟨10, dom, cor, sid, sp, seq, tim, ppb, rid, rp, p1, cl, ac, va, p2, mid, st⟩)) fun w => by simp [*]
  · simp only [] at *; subst hk; exact ret_of t_Check11 (mkEnv (M.env ⟨11, dom, cor, sid, sp, seq, tim, ppb, rid, rp, p1, cl, ac, va, p2, mid, st⟩)) fun w => by simp [*]
theorem c_Check0 (m : M) (h : ¬right m) : Ret Try.prog 24 #[vM m] (vI 200) := by
  obtain ⟨kd, dom, cor, sid, sp, seq, tim, ppb, rid, rp, p1, cl, ac, va, p2, mid, st⟩ := m
  simp only [right, headP, tailP, noM, timP, masterP] at h
  by_cases k0 : kd = 0
  · subst k0; refine ret_of t_Check0 (mkEnv (M.env ⟨0, dom, cor, sid, sp, seq, tim, ppb, rid, rp, p1, cl, ac, va, p2, mid, st⟩)) fun w => ?_; simp at h ⊢; grind
  by_cases k2 : kd = 2
  · subst k2; refine ret_of t_Check2 (mkEnv (M.env ⟨2, dom, cor, sid, sp, seq, tim, ppb, rid, rp, p1, cl, ac, va, p2, mid, st⟩)) fun w => ?_; simp at h ⊢; grind
  by_cases k8 : kd = 8
  · subst k8; refine ret_of t_Check8 (mkEnv (M.env ⟨8, dom, cor, sid, sp, seq, tim, ppb, rid, rp, p1, cl, ac, va, p2, mid, st⟩)) fun w => ?_; simp at h ⊢; grind
  by_cases k3 : kd = 3
  · subst k3; refine ret_of t_Check3 (mkEnv (M.env ⟨3, dom, cor, sid, sp, seq, tim, ppb, rid, rp, p1, cl, ac, va, p2, mid, st⟩)) fun w => ?_; simp at h ⊢; grind
  by_cases k10 : kd = 10
  · subst k10; refine ret_of t_Check10 (mkEnv (M.env ⟨10, dom, cor, sid, sp, seq, tim, ppb, rid, rp, p1, cl, ac, va, p2, mid, st⟩)) fun w => ?_; simp at h ⊢; grind
  by_cases k11 : kd = 11
  · subst k11; refine ret_of t_Check11 (mkEnv (M.env ⟨11, dom, cor, sid, sp, seq, tim, ppb, rid, rp, p1, cl, ac, va, p2, mid, st⟩)) fun w => ?_; simp at h ⊢; grind
  refine ret_of t_CheckE (mkEnv (M.env ⟨kd, dom, cor, sid, sp, seq, tim, ppb, rid, rp, p1, cl, ac, va, p2, mid, st⟩)) fun w => ?_
  simp [k0, k2, k3, k8, k10, k11]
theorem c_Right1 (m : M) (h : right m) : Ret Try.prog 19 #[vM m] (vB true) := by
  refine ret_of t_Right (mkEnv m.env) (fun w => ?_)
  obtain ⟨kd, dom, cor, sid, sp, seq, tim, ppb, rid, rp, p1, cl, ac, va, p2, mid, st⟩ := m
  obtain ⟨⟨⟨a1, a2⟩, ⟨a3, a4⟩, ⟨a5, a6⟩, ⟨a7, a8⟩, ⟨a9, a10⟩⟩, ht⟩ := h
  simp only [] at *
  rcases ht with ⟨hk, b1, b2, ⟨b3, b4⟩, b5, b6, b7, b8, b9, b10, b11⟩ | ⟨hk, ⟨b1, b2⟩, ⟨b3, b4⟩, ⟨b12, b13⟩, b5, b6, b7, b8, b9, b10, b11⟩ | ⟨hk, ⟨b1, b2⟩, b3, ⟨⟨b12, b13⟩, b14, b15⟩, b5, b6, b7, b8, b9, b10, b11⟩ | ⟨hk, b1, b2, ⟨b3, b4⟩, ⟨⟨c1, c2⟩, ⟨c3, c4⟩, ⟨c5, c6⟩, ⟨c7, c8⟩, ⟨c9, c10⟩, ⟨c11, c12⟩⟩, c13, c14⟩
  · rcases hk with hk | hk <;> · simp only [] at *; subst hk; simp [*]
  · simp only [] at *; subst hk; simp [*]
  · rcases hk with hk | hk <;> · simp only [] at *; subst hk; simp [*]
  · simp only [] at *; subst hk; simp [*]
theorem c_Right0 (m : M) (h : ¬right m) : Ret Try.prog 19 #[vM m] (vB false) := by
  refine ret_of t_Right (mkEnv m.env) (fun w => ?_)
  obtain ⟨kd, dom, cor, sid, sp, seq, tim, ppb, rid, rp, p1, cl, ac, va, p2, mid, st⟩ := m
  simp only [right, headP, tailP, noM, timP, masterP] at h
  by_cases k0 : kd = 0
  · subst k0; simp at h ⊢; grind
  by_cases k1 : kd = 2
  · subst k1; simp at h ⊢; grind
  by_cases k2 : kd = 8
  · subst k2; simp at h ⊢; grind
  by_cases k3 : kd = 3
  · subst k3; simp at h ⊢; grind
  by_cases k4 : kd = 10
  · subst k4; simp at h ⊢; grind
  by_cases k5 : kd = 11
  · subst k5; simp at h ⊢; grind
  simp [k0, k1, k2, k3, k4, k5]
theorem c_Check (m : M) : Ret Try.prog 24 #[vM m] (vI (if right m then 0 else 200)) := by
  by_cases h : right m
  · rw [if_pos h]; exact c_Check1 m h
  · rw [if_neg h]; exact c_Check0 m h
theorem c_Right (m : M) : Ret Try.prog 19 #[vM m] (vB (decide (right m))) := by
  by_cases h : right m
  · rw [decide_eq_true h]; exact c_Right1 m h
  · rw [decide_eq_false h]; exact c_Right0 m h
theorem c_checks (m : M) : Ret Try.prog 17 #[vM m] (vB true) := by
  refine ret_of t_checks (mkEnv m.env) (fun w => ?_)
  have k1 := c_Right m
  have k2 := c_Check m
  by_cases h : right m <;> simp only [h, decide_true, decide_false, if_true, if_false] at k1 k2 <;> simp [-Bool.exists_bool] <;> (with_reducible repeat' first | (intro _) | assumption | (apply Exists.intro; apply And.intro; assumption) | (apply Exists.intro; assumption) | (apply Exists.intro; apply Exists.intro; apply Exists.intro; apply Exists.intro; apply Exists.intro; apply Exists.intro; apply Exists.intro; apply And.intro; assumption) | (apply Exists.intro; apply Exists.intro; apply Exists.intro; apply Exists.intro; apply Exists.intro; apply Exists.intro; apply And.intro; assumption) | apply And.intro) <;> contradiction
structure Dr where
  (k dom : Int) (cor tim : Int) (id oth : Int) (port seq st : Int) (ppb : Int) (r0 r1 r2 r3 : Int) (va : Int)
abbrev vD (d : Dr) : Value := .agg #[.int .u8 d.k, .int .u8 d.dom, vI d.cor, vI d.tim, .int .u64 d.id, .int .u64 d.oth, .int .u16 d.port, .int .u16 d.seq, .int .u16 d.st, .int .i32 d.ppb, .int .u8 d.r0, .int .u8 d.r1, .int .u8 d.r2, .int .u8 d.r3, .int .u16 d.va]
abbrev Dr.env (d : Dr) : List Dat := [.i d.k, .i d.dom, .i d.cor, .i d.tim, .i d.id, .i d.oth, .i d.port, .i d.seq, .i d.st, .i d.ppb, .i d.r0, .i d.r1, .i d.r2, .i d.r3, .i d.va]
structure Dr.ok (d : Dr) : Prop where
  k : 0 ≤ d.k ∧ d.k < 256
  dom : 0 ≤ d.dom ∧ d.dom < 256
  id : 0 ≤ d.id ∧ d.id < 18446744073709551616
  oth : 0 ≤ d.oth ∧ d.oth < 18446744073709551616
  port : 0 ≤ d.port ∧ d.port < 65536
  seq : 0 ≤ d.seq ∧ d.seq < 65536
  st : 0 ≤ d.st ∧ d.st < 65536
  r0 : 0 ≤ d.r0 ∧ d.r0 < 256
  r1 : 0 ≤ d.r1 ∧ d.r1 < 256
  r2 : 0 ≤ d.r2 ∧ d.r2 < 256
  r3 : 0 ≤ d.r3 ∧ d.r3 < 256
  va : 0 ≤ d.va ∧ d.va < 65536
def msgOf (d : Dr) : M :=
  let b : M := ⟨0, d.dom % 128, d.cor.tmod 4398046511105, d.id % 281474976710656, 1 + d.port % 65535, d.seq, 0, 0, 0, 0, 0, 0, 0, 0, 0, 0, 0⟩
  let t := d.tim.tmod 4398046511105
  let r := d.oth % 281474976710656
  let q := 1 + d.st % 65535
  if d.k % 6 = 0 then b else if d.k % 6 = 1 then { b with kd := 2 } else if d.k % 6 = 2 then { b with kd := 3, tim := t, rid := r, rp := q }
  else if d.k % 6 = 3 then { b with kd := 8, tim := t, ppb := d.ppb.tmod 8388609 } else if d.k % 6 = 4 then { b with kd := 10, tim := t, rid := r, rp := q }
  else { b with kd := 11, p1 := d.r0, cl := d.r1, ac := d.r2, va := d.va, p2 := d.r3, mid := r, st := d.st }
theorem tmod_bd {a m : Int} (h : 0 < m) : -m < a.tmod m ∧ a.tmod m < m := by
  have h1 := Int.emod_nonneg a (show m ≠ 0 by omega)
  have h2 := Int.emod_lt_of_pos a h
  rw [Int.tmod_eq_emod]
  split
  · omega
  · rename_i hd
    have hne : a % m ≠ 0 := fun e => hd (.inr (Int.dvd_of_emod_eq_zero e))
    omega
theorem tmod_nn {a m : Int} (h : 0 ≤ a) : a.tmod m = a % m := Int.tmod_eq_emod_of_nonneg h
theorem c_Message (d : Dr) (h : d.ok) : Ret Try.prog 16 #[vD d] (vM (msgOf d)) := by
  refine ret_of t_Message (mkEnv d.env) (fun w => ?_)
  obtain ⟨k, dom, cor, tim, id, oth, port, seq, st, ppb, r0, r1, r2, r3, va⟩ := d
  obtain ⟨h1, h2, h3, h4, h5, h6, h7, h8, h9, h10, h11, h12⟩ := h
  simp only [] at *
  have e0 := tmod_nn (m := 6) h1.1
  have e1 : IntKind.i64.wrap (dom.tmod 128) = dom % 128 := by rw [tmod_nn h2.1, wrap64 (by omega) (by omega)]
  have e2 : IntKind.i64.wrap (id.tmod 281474976710656) = id % 281474976710656 := by rw [tmod_nn h3.1, wrap64 (by omega) (by omega)]
  have e3 : IntKind.i64.wrap (oth.tmod 281474976710656) = oth % 281474976710656 := by rw [tmod_nn h4.1, wrap64 (by omega) (by omega)]
  have e4 : IntKind.i64.wrap (1 + IntKind.i64.wrap (port.tmod 65535)) = 1 + port % 65535 := by rw [tmod_nn h5.1, wrap64 (x := port % 65535) (by omega) (by omega), wrap64 (by omega) (by omega)]
  have e5 : IntKind.i64.wrap (1 + IntKind.i64.wrap (st.tmod 65535)) = 1 + st % 65535 := by rw [tmod_nn h7.1, wrap64 (x := st % 65535) (by omega) (by omega), wrap64 (by omega) (by omega)]
  have e6 : IntKind.i64.wrap seq = seq := wrap64 (by omega) (by omega)
  have e7 : IntKind.i64.wrap st = st := wrap64 (by omega) (by omega)
  have e8 : IntKind.i64.wrap r0 = r0 := wrap64 (by omega) (by omega)
  have e9 : IntKind.i64.wrap r1 = r1 := wrap64 (by omega) (by omega)
  have e10 : IntKind.i64.wrap r2 = r2 := wrap64 (by omega) (by omega)
  have e11 : IntKind.i64.wrap r3 = r3 := wrap64 (by omega) (by omega)
  have e12 : IntKind.i64.wrap va = va := wrap64 (by omega) (by omega)
  have e13 : IntKind.i64.wrap (ppb.tmod 8388609) = ppb.tmod 8388609 := by have := tmod_bd (a := ppb) (m := 8388609) (by omega); exact wrap64 (by omega) (by omega)
  have hk : k % 6 = 0 ∨ k % 6 = 1 ∨ k % 6 = 2 ∨ k % 6 = 3 ∨ k % 6 = 4 ∨ k % 6 = 5 := by omega
  rcases hk with hk | hk | hk | hk | hk | hk <;> simp [e0, e1, e2, e3, e4, e5, e6, e7, e8, e9, e10, e11, e12, e13, hk, msgOf]
theorem right_msgOf (d : Dr) (h : d.ok) : right (msgOf d) := by
  obtain ⟨k, dom, cor, tim, id, oth, port, seq, st, ppb, r0, r1, r2, r3, va⟩ := d
  obtain ⟨h1, h2, h3, h4, h5, h6, h7, h8, h9, h10, h11, h12⟩ := h
  simp only [] at *
  have b1 := tmod_bd (a := cor) (m := 4398046511105) (by omega)
  have b2 := tmod_bd (a := tim) (m := 4398046511105) (by omega)
  have b3 := tmod_bd (a := ppb) (m := 8388609) (by omega)
  have hk : k % 6 = 0 ∨ k % 6 = 1 ∨ k % 6 = 2 ∨ k % 6 = 3 ∨ k % 6 = 4 ∨ k % 6 = 5 := by omega
  rcases hk with hk | hk | hk | hk | hk | hk <;> simp [hk, msgOf, right, headP, tailP, noM, timP, masterP] <;> omega
end Go.Proofs.Y10
