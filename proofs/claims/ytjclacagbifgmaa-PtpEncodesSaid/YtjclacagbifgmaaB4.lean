/- A part of the proof: see the text that states the theorem. -/
import Derived.Test.YtjclacagbifgmaaB2da
import Derived.Test.YtjclacagbifgmaaB2da
import Derived.Test.YtjclacagbifgmaaB2db
import Derived.Test.YtjclacagbifgmaaB2dc
import Derived.Test.YtjclacagbifgmaaB2db
import Derived.Test.YtjclacagbifgmaaB2dc
import Derived.Test.YtjclacagbifgmaaB3ra
import Derived.Test.YtjclacagbifgmaaB3ra
import Derived.Test.YtjclacagbifgmaaB3rb
import Derived.Test.YtjclacagbifgmaaB3r8
import Derived.Test.YtjclacagbifgmaaB3rb
import Derived.Test.YtjclacagbifgmaaB3ra
set_option linter.unusedSimpArgs false
set_option linter.unusedVariables false
set_option linter.unusedSectionVars false
noncomputable section
set_option maxHeartbeats 4000000
namespace Go.Proofs.Y10
open Go Go.SX Go.RowKit
/-- bytes that are the encoding of a message -/
def decP (l : List Int) : Prop := 22 ≤ l.length ∧ szOf (l.getD 0 0) = l.length ∧ l.getD 2 0 * 256 + l.getD 3 0 = l.length ∧ right (parse l)
noncomputable instance (l : List Int) : Decidable (decP l) := Classical.propDecidable _
noncomputable def decM (l : List Int) : M := if decP l then parse l else M0
theorem kinds {k : Int} (h : szOf k ≠ 0) : k = 0 ∧ szOf k = 22 ∨ k = 2 ∧ szOf k = 22 ∨ k = 3 ∧ szOf k = 38 ∨ k = 8 ∧ szOf k = 34 ∨ k = 10 ∧ szOf k = 38 ∨ k = 11 ∧ szOf k = 36 := by
  unfold szOf at *; grind
theorem decP_of {l : List Int} {n : Nat} (hn : l.length = n) (h22 : 22 ≤ n) (hs : szOf (l.getD 0 0) = n) : decP l ↔ l.getD 2 0 * 256 + l.getD 3 0 = (n : Int) ∧ right (parse l) := by
  unfold decP; rw [hn]; exact ⟨fun h => h.2.2, fun h => ⟨h22, hs, h⟩⟩
theorem c_Decode (l : List Int) (hl : ∀ x ∈ l, 0 ≤ x ∧ x < 256) (v : Value) (w : World) (h : BSlice w l v) : Calls Try.prog 22 #[v] w fun e w' => e = .returned (.tuple #[vM (decM l), vI (if decP l then 0 else 5)]) ∧ Below w.heap.size w w' := by
  by_cases hk : 22 ≤ l.length ∧ szOf (l.getD 0 0) = l.length
  · obtain ⟨hk1, hk2⟩ := hk
    have hne : szOf (l.getD 0 0) ≠ 0 := by omega
    rcases kinds hne with ⟨k1, k2⟩ | ⟨k1, k2⟩ | ⟨k1, k2⟩ | ⟨k1, k2⟩ | ⟨k1, k2⟩ | ⟨k1, k2⟩
    · have hn : l.length = 22 := by omega
      have e := decP_of hn (by decide) k2
      exact d_Decode0 l hl v w h hn k1 _ _ ⟨by unfold decM; simp only [e]; rfl, by simp only [e]; rfl⟩
    · have hn : l.length = 22 := by omega
      have e := decP_of hn (by decide) k2
      exact d_Decode2 l hl v w h hn k1 _ _ ⟨by unfold decM; simp only [e]; rfl, by simp only [e]; rfl⟩
    · have hn : l.length = 38 := by omega
      have e := decP_of hn (by decide) k2
      exact d_Decode3 l hl v w h hn k1 _ _ ⟨by unfold decM; simp only [e]; rfl, by simp only [e]; rfl⟩
    · have hn : l.length = 34 := by omega
      have e := decP_of hn (by decide) k2
      exact d_Decode8 l hl v w h hn k1 _ _ ⟨by unfold decM; simp only [e]; rfl, by simp only [e]; rfl⟩
    · have hn : l.length = 38 := by omega
      have e := decP_of hn (by decide) k2
      exact d_Decode10 l hl v w h hn k1 _ _ ⟨by unfold decM; simp only [e]; rfl, by simp only [e]; rfl⟩
    · have hn : l.length = 36 := by omega
      have e := decP_of hn (by decide) k2
      exact d_Decode11 l hl v w h hn k1 _ _ ⟨by unfold decM; simp only [e]; rfl, by simp only [e]; rfl⟩
  · have e : ¬decP l := fun h => hk ⟨h.1, h.2.1⟩
    unfold decM
    rw [if_neg e, if_neg e]
    obtain ⟨⟨nl, b, o, cap, rfl, h1, h2⟩, hc⟩ := h
    have hc := hc _ _ _ rfl
    rw [rowsB, List.length_map] at hc
    have := calls_of t_DecodeE (ρ := mkEnv [.l (rowsB l), .n nl, .i cap]) (κ := kap1 b o) (w := w) (res := .tuple #[vM M0, vI 5]) (heapOk_slice h1 h2) ?_
    · simp only [List.map_cons, List.map_nil] at this
      rw [slArg_den (rows := rowsB l) (nl := nl) (cap := cap) rfl rfl rfl] at this
      exact this
    clear h1 h2
    by_cases hlen : l.length < 22
    · simp [-Bool.exists_bool, hlen, rowsB]
      exact ⟨.inl (by omega), fun h => absurd h (by omega)⟩
    · have hs : szOf (l.getD 0 0) ≠ l.length := fun h => hk ⟨by omega, h⟩
      cases l with
      | nil => simp at hlen
      | cons a l =>
        simp only [List.getD_cons_zero, List.length_cons] at hs
        have k := c_Size a
        have ha := hl a (by simp)
        have ew : IntKind.i64.wrap a = a := wi (by omega) (by omega)
        simp [-Bool.exists_bool, hlen, rowsB, ew]
        exact fun _ => ⟨_, k, by simpa using hs⟩
theorem c_Read (l : List Int) (hl : ∀ x ∈ l, 0 ≤ x ∧ x < 256) (v : Value) (w : World) (h : BSlice w l v) : Calls Try.prog 23 #[v] w fun e w' => e = .returned (.tuple #[vM (decM l), vB (decide (decP l))]) ∧ Below w.heap.size w w' := by
  by_cases hk : 22 ≤ l.length ∧ szOf (l.getD 0 0) = l.length
  · obtain ⟨hk1, hk2⟩ := hk
    have hne : szOf (l.getD 0 0) ≠ 0 := by omega
    rcases kinds hne with ⟨k1, k2⟩ | ⟨k1, k2⟩ | ⟨k1, k2⟩ | ⟨k1, k2⟩ | ⟨k1, k2⟩ | ⟨k1, k2⟩
    · have hn : l.length = 22 := by omega
      have e := decP_of hn (by decide) k2
      exact d_Read0 l hl v w h hn k1 _ _ ⟨by unfold decM; simp only [e]; rfl, by simp only [e]; rfl⟩
    · have hn : l.length = 22 := by omega
      have e := decP_of hn (by decide) k2
      exact d_Read2 l hl v w h hn k1 _ _ ⟨by unfold decM; simp only [e]; rfl, by simp only [e]; rfl⟩
    · have hn : l.length = 38 := by omega
      have e := decP_of hn (by decide) k2
      exact d_Read3 l hl v w h hn k1 _ _ ⟨by unfold decM; simp only [e]; rfl, by simp only [e]; rfl⟩
    · have hn : l.length = 34 := by omega
      have e := decP_of hn (by decide) k2
      exact d_Read8 l hl v w h hn k1 _ _ ⟨by unfold decM; simp only [e]; rfl, by simp only [e]; rfl⟩
    · have hn : l.length = 38 := by omega
      have e := decP_of hn (by decide) k2
      exact d_Read10 l hl v w h hn k1 _ _ ⟨by unfold decM; simp only [e]; rfl, by simp only [e]; rfl⟩
    · have hn : l.length = 36 := by omega
      have e := decP_of hn (by decide) k2
      exact d_Read11 l hl v w h hn k1 _ _ ⟨by unfold decM; simp only [e]; rfl, by simp only [e]; rfl⟩
  · have e : ¬decP l := fun h => hk ⟨h.1, h.2.1⟩
    unfold decM
    rw [if_neg e, decide_eq_false e]
    obtain ⟨⟨nl, b, o, cap, rfl, h1, h2⟩, hc⟩ := h
    have hc := hc _ _ _ rfl
    rw [rowsB, List.length_map] at hc
    have := calls_of t_ReadE (ρ := mkEnv [.l (rowsB l), .n nl, .i cap]) (κ := kap1 b o) (w := w) (res := .tuple #[vM M0, vB false]) (heapOk_slice h1 h2) ?_
    · simp only [List.map_cons, List.map_nil] at this
      rw [slArg_den (rows := rowsB l) (nl := nl) (cap := cap) rfl rfl rfl] at this
      exact this
    clear h1 h2
    by_cases hlen : l.length < 22
    · simp [-Bool.exists_bool, hlen, rowsB]
      exact ⟨.inl (by omega), fun h => absurd h (by omega)⟩
    · have hs : szOf (l.getD 0 0) ≠ l.length := fun h => hk ⟨by omega, h⟩
      cases l with
      | nil => simp at hlen
      | cons a l =>
        simp only [List.getD_cons_zero, List.length_cons] at hs
        have k := c_refSize a
        have ha := hl a (by simp)
        have ew : IntKind.i64.wrap a = a := wi (by omega) (by omega)
        simp [-Bool.exists_bool, hlen, rowsB, ew]
        refine fun _ => ⟨_, k, fun h => absurd h (by simpa using hs)⟩

theorem num_eq8 {x : Int} (h : -9223372036854775808 ≤ x) (h' : x < 9223372036854775808) : num [byt x 7, byt x 6, byt x 5, byt x 4, byt x 3, byt x 2, byt x 1, byt x 0] (sg (byt x 7)) = x := by
  by_cases c : byt x 7 < 128 <;> simp only [num, sg, c, if_true, if_false] <;> simp only [byt] at * <;> omega
theorem num_eq4 {x : Int} (h : -2147483648 ≤ x) (h' : x < 2147483648) : num [byt x 3, byt x 2, byt x 1, byt x 0] (sg (byt x 3)) = x := by
  by_cases c : byt x 3 < 128 <;> simp only [num, sg, c, if_true, if_false] <;> simp only [byt] at * <;> omega
theorem num_eq6 {x : Int} (h : 0 ≤ x) (h' : x < 281474976710656) : num [byt x 5, byt x 4, byt x 3, byt x 2, byt x 1, byt x 0] 0 = x := by
  simp only [num, byt]; omega
theorem num_eq2 {x : Int} (h : 0 ≤ x) (h' : x < 65536) : num [byt x 1, byt x 0] 0 = x := by
  simp only [num, byt]; omega
theorem num_eq1 {x : Int} (h : 0 ≤ x) (h' : x < 256) : byt x 0 = x := by
  simp only [byt]; omega
theorem parse_bytesM (m : M) (h : right m) : parse (bytesM m) = m ∧ decP (bytesM m) := by
  have hp : parse (bytesM m) = m := by
    obtain ⟨kd, dom, cor, sid, sp, seq, tim, ppb, rid, rp, p1, cl, ac, va, p2, mid, st⟩ := m
    obtain ⟨⟨⟨a1, a2⟩, ⟨a3, a4⟩, ⟨a5, a6⟩, ⟨a7, a8⟩, ⟨a9, a10⟩⟩, ht⟩ := h
    simp only [] at *
    have f1 := num_eq8 (x := cor) (by omega) (by omega)
    have f2 := num_eq6 (x := sid) (by omega) (by omega)
    have f3 := num_eq2 (x := sp) (by omega) (by omega)
    have f4 := num_eq2 (x := seq) (by omega) (by omega)
    rcases ht with ⟨hk, b1, b2, ⟨b3, b4⟩, b5, b6, b7, b8, b9, b10, b11⟩ | ⟨hk, ⟨b1, b2⟩, ⟨b3, b4⟩, ⟨b12, b13⟩, b5, b6, b7, b8, b9, b10, b11⟩ | ⟨hk, ⟨b1, b2⟩, b3, ⟨⟨b12, b13⟩, b14, b15⟩, b5, b6, b7, b8, b9, b10, b11⟩ | ⟨hk, b1, b2, ⟨b3, b4⟩, ⟨⟨c1, c2⟩, ⟨c3, c4⟩, ⟨c5, c6⟩, ⟨c7, c8⟩, ⟨c9, c10⟩, ⟨c11, c12⟩⟩, c13, c14⟩ <;> simp only [] at *
    · rcases hk with hk | hk <;> subst hk <;> simp [parse, bytesM, headL, tailL, be, szOf, f1, f2, f3, f4, *]
    · have f5 := num_eq8 (x := tim) (by omega) (by omega)
      have f6 := num_eq4 (x := ppb) (by omega) (by omega)
      subst hk; simp [parse, bytesM, headL, tailL, be, szOf, f1, f2, f3, f4, f5, f6, *]
    · have f5 := num_eq8 (x := tim) (by omega) (by omega)
      have f6 := num_eq6 (x := rid) (by omega) (by omega)
      have f7 := num_eq2 (x := rp) (by omega) (by omega)
      rcases hk with hk | hk <;> subst hk <;> simp [parse, bytesM, headL, tailL, be, szOf, f1, f2, f3, f4, f5, f6, f7, *]
    · have f5 := num_eq1 (x := p1) (by omega) (by omega)
      have f6 := num_eq1 (x := cl) (by omega) (by omega)
      have f7 := num_eq1 (x := ac) (by omega) (by omega)
      have f8 := num_eq2 (x := va) (by omega) (by omega)
      have f9 := num_eq1 (x := p2) (by omega) (by omega)
      have f10 := num_eq6 (x := mid) (by omega) (by omega)
      have f11 := num_eq2 (x := st) (by omega) (by omega)
      subst hk; simp [parse, bytesM, headL, tailL, be, szOf, f1, f2, f3, f4, f5, f6, f7, f8, f9, f10, f11, *]
  refine ⟨hp, ?_, ?_, ?_, by rw [hp]; exact h⟩
  all_goals
    have hk := h.2
    obtain ⟨kd, dom, cor, sid, sp, seq, tim, ppb, rid, rp, p1, cl, ac, va, p2, mid, st⟩ := m
    have hk : kd = 0 ∨ kd = 2 ∨ kd = 3 ∨ kd = 8 ∨ kd = 10 ∨ kd = 11 := by
      rcases hk with ⟨hk, _⟩ | ⟨hk, _⟩ | ⟨hk, _⟩ | ⟨hk, _⟩ <;> simp only [] at hk <;> omega
    rcases hk with hk | hk | hk | hk | hk | hk <;> subst hk <;> simp [bytesM, headL, tailL, be, szOf, byt]
theorem byt_s {Y h : Int} {k : Nat} (h1 : 0 ≤ h) (h2 : h < 256) : byt (Y * 256 + h) (k + 1) = byt Y k := by
  have e : (256 : Int) ^ (k + 1) = 256 * 256 ^ k := by rw [Int.pow_succ]; exact Int.mul_comm ..
  have e2 : (Y * 256 + h) / 256 = Y := by omega
  rw [byt, byt, e, ← Int.ediv_ediv_of_nonneg (by decide), e2]
theorem byt_0 {Y h : Int} (h1 : 0 ≤ h) (h2 : h < 256) : byt (Y * 256 + h) 0 = h := by
  simp only [byt]; omega
theorem byt_n {h : Int} (h1 : 0 ≤ h) (h2 : h < 256) : byt (-256 + h) 0 = h := by
  simp only [byt]; omega
theorem bytesM_parse (l : List Int) (hl : ∀ x ∈ l, 0 ≤ x ∧ x < 256) (h : decP l) : bytesM (parse l) = l := by
  obtain ⟨h1, h2, h3, -⟩ := h
  have hne : szOf (l.getD 0 0) ≠ 0 := by omega
  rcases kinds hne with ⟨k1, k2⟩ | ⟨k1, k2⟩ | ⟨k1, k2⟩ | ⟨k1, k2⟩ | ⟨k1, k2⟩ | ⟨k1, k2⟩
  · have hn : l.length = 22 := by omega
    obtain ⟨a0, a1, a2, a3, a4, a5, a6, a7, a8, a9, a10, a11, a12, a13, a14, a15, a16, a17, a18, a19, a20, a21, rfl⟩ := l22 hn
    simp at k1 h3
    subst k1
    clear h1 h2 hne k2
    simp only [List.forall_mem_cons, List.not_mem_nil, false_implies, implies_true, and_true] at hl
    obtain ⟨-, ⟨p1, q1⟩, ⟨p2, q2⟩, ⟨p3, q3⟩, ⟨p4, q4⟩, ⟨p5, q5⟩, ⟨p6, q6⟩, ⟨p7, q7⟩, ⟨p8, q8⟩, ⟨p9, q9⟩, ⟨p10, q10⟩, ⟨p11, q11⟩, ⟨p12, q12⟩, ⟨p13, q13⟩, ⟨p14, q14⟩, ⟨p15, q15⟩, ⟨p16, q16⟩, ⟨p17, q17⟩, ⟨p18, q18⟩, ⟨p19, q19⟩, ⟨p20, q20⟩, p21, q21⟩ := hl
    have x2 : a2 = 0 := by omega
    have x3 : a3 = 22 := by omega
    subst x2 x3
    by_cases b4 : 128 ≤ a4
    · have n4 : ¬a4 < 128 := by omega
      simp [b4, n4, parse, num, sg, bytesM, headL, tailL, be, szOf]
      simp (disch := omega) only [byt_s, byt_0, byt_n, num_eq1, true_and, and_true, and_self]
      try decide
    · have n4 : a4 < 128 := by omega
      simp [b4, n4, parse, num, sg, bytesM, headL, tailL, be, szOf]
      simp (disch := omega) only [byt_s, byt_0, byt_n, num_eq1, true_and, and_true, and_self]
      try decide
  · have hn : l.length = 22 := by omega
    obtain ⟨a0, a1, a2, a3, a4, a5, a6, a7, a8, a9, a10, a11, a12, a13, a14, a15, a16, a17, a18, a19, a20, a21, rfl⟩ := l22 hn
    simp at k1 h3
    subst k1
    clear h1 h2 hne k2
    simp only [List.forall_mem_cons, List.not_mem_nil, false_implies, implies_true, and_true] at hl
    obtain ⟨-, ⟨p1, q1⟩, ⟨p2, q2⟩, ⟨p3, q3⟩, ⟨p4, q4⟩, ⟨p5, q5⟩, ⟨p6, q6⟩, ⟨p7, q7⟩, ⟨p8, q8⟩, ⟨p9, q9⟩, ⟨p10, q10⟩, ⟨p11, q11⟩, ⟨p12, q12⟩, ⟨p13, q13⟩, ⟨p14, q14⟩, ⟨p15, q15⟩, ⟨p16, q16⟩, ⟨p17, q17⟩, ⟨p18, q18⟩, ⟨p19, q19⟩, ⟨p20, q20⟩, p21, q21⟩ := hl
    have x2 : a2 = 0 := by omega
    have x3 : a3 = 22 := by omega
    subst x2 x3
    by_cases b4 : 128 ≤ a4
    · have n4 : ¬a4 < 128 := by omega
      simp [b4, n4, parse, num, sg, bytesM, headL, tailL, be, szOf]
      simp (disch := omega) only [byt_s, byt_0, byt_n, num_eq1, true_and, and_true, and_self]
      try decide
    · have n4 : a4 < 128 := by omega
      simp [b4, n4, parse, num, sg, bytesM, headL, tailL, be, szOf]
      simp (disch := omega) only [byt_s, byt_0, byt_n, num_eq1, true_and, and_true, and_self]
      try decide
  · have hn : l.length = 38 := by omega
    obtain ⟨a0, a1, a2, a3, a4, a5, a6, a7, a8, a9, a10, a11, a12, a13, a14, a15, a16, a17, a18, a19, a20, a21, a22, a23, a24, a25, a26, a27, a28, a29, a30, a31, a32, a33, a34, a35, a36, a37, rfl⟩ := l38 hn
    simp at k1 h3
    subst k1
    clear h1 h2 hne k2
    simp only [List.forall_mem_cons, List.not_mem_nil, false_implies, implies_true, and_true] at hl
    obtain ⟨-, ⟨p1, q1⟩, ⟨p2, q2⟩, ⟨p3, q3⟩, ⟨p4, q4⟩, ⟨p5, q5⟩, ⟨p6, q6⟩, ⟨p7, q7⟩, ⟨p8, q8⟩, ⟨p9, q9⟩, ⟨p10, q10⟩, ⟨p11, q11⟩, ⟨p12, q12⟩, ⟨p13, q13⟩, ⟨p14, q14⟩, ⟨p15, q15⟩, ⟨p16, q16⟩, ⟨p17, q17⟩, ⟨p18, q18⟩, ⟨p19, q19⟩, ⟨p20, q20⟩, ⟨p21, q21⟩, ⟨p22, q22⟩, ⟨p23, q23⟩, ⟨p24, q24⟩, ⟨p25, q25⟩, ⟨p26, q26⟩, ⟨p27, q27⟩, ⟨p28, q28⟩, ⟨p29, q29⟩, ⟨p30, q30⟩, ⟨p31, q31⟩, ⟨p32, q32⟩, ⟨p33, q33⟩, ⟨p34, q34⟩, ⟨p35, q35⟩, ⟨p36, q36⟩, p37, q37⟩ := hl
    have x2 : a2 = 0 := by omega
    have x3 : a3 = 38 := by omega
    subst x2 x3
    by_cases b4 : 128 ≤ a4
    · have n4 : ¬a4 < 128 := by omega
      by_cases b22 : 128 ≤ a22
      · have n22 : ¬a22 < 128 := by omega
        simp [b4, n4, b22, n22, parse, num, sg, bytesM, headL, tailL, be, szOf]
        simp (disch := omega) only [byt_s, byt_0, byt_n, num_eq1, true_and, and_true, and_self]
        try decide
      · have n22 : a22 < 128 := by omega
        simp [b4, n4, b22, n22, parse, num, sg, bytesM, headL, tailL, be, szOf]
        simp (disch := omega) only [byt_s, byt_0, byt_n, num_eq1, true_and, and_true, and_self]
        try decide
    · have n4 : a4 < 128 := by omega
      by_cases b22 : 128 ≤ a22
      · have n22 : ¬a22 < 128 := by omega
        simp [b4, n4, b22, n22, parse, num, sg, bytesM, headL, tailL, be, szOf]
        simp (disch := omega) only [byt_s, byt_0, byt_n, num_eq1, true_and, and_true, and_self]
        try decide
      · have n22 : a22 < 128 := by omega
        simp [b4, n4, b22, n22, parse, num, sg, bytesM, headL, tailL, be, szOf]
        simp (disch := omega) only [byt_s, byt_0, byt_n, num_eq1, true_and, and_true, and_self]
        try decide
  · have hn : l.length = 34 := by omega
    obtain ⟨a0, a1, a2, a3, a4, a5, a6, a7, a8, a9, a10, a11, a12, a13, a14, a15, a16, a17, a18, a19, a20, a21, a22, a23, a24, a25, a26, a27, a28, a29, a30, a31, a32, a33, rfl⟩ := l34 hn
    simp at k1 h3
    subst k1
    clear h1 h2 hne k2
    simp only [List.forall_mem_cons, List.not_mem_nil, false_implies, implies_true, and_true] at hl
    obtain ⟨-, ⟨p1, q1⟩, ⟨p2, q2⟩, ⟨p3, q3⟩, ⟨p4, q4⟩, ⟨p5, q5⟩, ⟨p6, q6⟩, ⟨p7, q7⟩, ⟨p8, q8⟩, ⟨p9, q9⟩, ⟨p10, q10⟩, ⟨p11, q11⟩, ⟨p12, q12⟩, ⟨p13, q13⟩, ⟨p14, q14⟩, ⟨p15, q15⟩, ⟨p16, q16⟩, ⟨p17, q17⟩, ⟨p18, q18⟩, ⟨p19, q19⟩, ⟨p20, q20⟩, ⟨p21, q21⟩, ⟨p22, q22⟩, ⟨p23, q23⟩, ⟨p24, q24⟩, ⟨p25, q25⟩, ⟨p26, q26⟩, ⟨p27, q27⟩, ⟨p28, q28⟩, ⟨p29, q29⟩, ⟨p30, q30⟩, ⟨p31, q31⟩, ⟨p32, q32⟩, p33, q33⟩ := hl
    have x2 : a2 = 0 := by omega
    have x3 : a3 = 34 := by omega
    subst x2 x3
    by_cases b4 : 128 ≤ a4
    · have n4 : ¬a4 < 128 := by omega
      by_cases b22 : 128 ≤ a22
      · have n22 : ¬a22 < 128 := by omega
        by_cases b30 : 128 ≤ a30
        · have n30 : ¬a30 < 128 := by omega
          simp [b4, n4, b22, n22, b30, n30, parse, num, sg, bytesM, headL, tailL, be, szOf]
          simp (disch := omega) only [byt_s, byt_0, byt_n, num_eq1, true_and, and_true, and_self]
          try decide
        · have n30 : a30 < 128 := by omega
          simp [b4, n4, b22, n22, b30, n30, parse, num, sg, bytesM, headL, tailL, be, szOf]
          simp (disch := omega) only [byt_s, byt_0, byt_n, num_eq1, true_and, and_true, and_self]
          try decide
      · have n22 : a22 < 128 := by omega
        by_cases b30 : 128 ≤ a30
        · have n30 : ¬a30 < 128 := by omega
          simp [b4, n4, b22, n22, b30, n30, parse, num, sg, bytesM, headL, tailL, be, szOf]
          simp (disch := omega) only [byt_s, byt_0, byt_n, num_eq1, true_and, and_true, and_self]
          try decide
        · have n30 : a30 < 128 := by omega
          simp [b4, n4, b22, n22, b30, n30, parse, num, sg, bytesM, headL, tailL, be, szOf]
          simp (disch := omega) only [byt_s, byt_0, byt_n, num_eq1, true_and, and_true, and_self]
          try decide
    · have n4 : a4 < 128 := by omega
      by_cases b22 : 128 ≤ a22
      · have n22 : ¬a22 < 128 := by omega
        by_cases b30 : 128 ≤ a30
        · have n30 : ¬a30 < 128 := by omega
          simp [b4, n4, b22, n22, b30, n30, parse, num, sg, bytesM, headL, tailL, be, szOf]
          simp (disch := omega) only [byt_s, byt_0, byt_n, num_eq1, true_and, and_true, and_self]
          try decide
        · have n30 : a30 < 128 := by omega
          simp [b4, n4, b22, n22, b30, n30, parse, num, sg, bytesM, headL, tailL, be, szOf]
          simp (disch := omega) only [byt_s, byt_0, byt_n, num_eq1, true_and, and_true, and_self]
          try decide
      · have n22 : a22 < 128 := by omega
        by_cases b30 : 128 ≤ a30
        · have n30 : ¬a30 < 128 := by omega
          simp [b4, n4, b22, n22, b30, n30, parse, num, sg, bytesM, headL, tailL, be, szOf]
          simp (disch := omega) only [byt_s, byt_0, byt_n, num_eq1, true_and, and_true, and_self]
          try decide
        · have n30 : a30 < 128 := by omega
          simp [b4, n4, b22, n22, b30, n30, parse, num, sg, bytesM, headL, tailL, be, szOf]
          simp (disch := omega) only [byt_s, byt_0, byt_n, num_eq1, true_and, and_true, and_self]
          try decide
  · have hn : l.length = 38 := by omega
    obtain ⟨a0, a1, a2, a3, a4, a5, a6, a7, a8, a9, a10, a11, a12, a13, a14, a15, a16, a17, a18, a19, a20, a21, a22, a23, a24, a25, a26, a27, a28, a29, a30, a31, a32, a33, a34, a35, a36, a37, rfl⟩ := l38 hn
    simp at k1 h3
    subst k1
    clear h1 h2 hne k2
    simp only [List.forall_mem_cons, List.not_mem_nil, false_implies, implies_true, and_true] at hl
    obtain ⟨-, ⟨p1, q1⟩, ⟨p2, q2⟩, ⟨p3, q3⟩, ⟨p4, q4⟩, ⟨p5, q5⟩, ⟨p6, q6⟩, ⟨p7, q7⟩, ⟨p8, q8⟩, ⟨p9, q9⟩, ⟨p10, q10⟩, ⟨p11, q11⟩, ⟨p12, q12⟩, ⟨p13, q13⟩, ⟨p14, q14⟩, ⟨p15, q15⟩, ⟨p16, q16⟩, ⟨p17, q17⟩, ⟨p18, q18⟩, ⟨p19, q19⟩, ⟨p20, q20⟩, ⟨p21, q21⟩, ⟨p22, q22⟩, ⟨p23, q23⟩, ⟨p24, q24⟩, ⟨p25, q25⟩, ⟨p26, q26⟩, ⟨p27, q27⟩, ⟨p28, q28⟩, ⟨p29, q29⟩, ⟨p30, q30⟩, ⟨p31, q31⟩, ⟨p32, q32⟩, ⟨p33, q33⟩, ⟨p34, q34⟩, ⟨p35, q35⟩, ⟨p36, q36⟩, p37, q37⟩ := hl
    have x2 : a2 = 0 := by omega
    have x3 : a3 = 38 := by omega
    subst x2 x3
    by_cases b4 : 128 ≤ a4
    · have n4 : ¬a4 < 128 := by omega
      by_cases b22 : 128 ≤ a22
      · have n22 : ¬a22 < 128 := by omega
        simp [b4, n4, b22, n22, parse, num, sg, bytesM, headL, tailL, be, szOf]
        simp (disch := omega) only [byt_s, byt_0, byt_n, num_eq1, true_and, and_true, and_self]
        try decide
      · have n22 : a22 < 128 := by omega
        simp [b4, n4, b22, n22, parse, num, sg, bytesM, headL, tailL, be, szOf]
        simp (disch := omega) only [byt_s, byt_0, byt_n, num_eq1, true_and, and_true, and_self]
        try decide
    · have n4 : a4 < 128 := by omega
      by_cases b22 : 128 ≤ a22
      · have n22 : ¬a22 < 128 := by omega
        simp [b4, n4, b22, n22, parse, num, sg, bytesM, headL, tailL, be, szOf]
        simp (disch := omega) only [byt_s, byt_0, byt_n, num_eq1, true_and, and_true, and_self]
        try decide
      · have n22 : a22 < 128 := by omega
        simp [b4, n4, b22, n22, parse, num, sg, bytesM, headL, tailL, be, szOf]
        simp (disch := omega) only [byt_s, byt_0, byt_n, num_eq1, true_and, and_true, and_self]
        try decide
  · have hn : l.length = 36 := by omega
    obtain ⟨a0, a1, a2, a3, a4, a5, a6, a7, a8, a9, a10, a11, a12, a13, a14, a15, a16, a17, a18, a19, a20, a21, a22, a23, a24, a25, a26, a27, a28, a29, a30, a31, a32, a33, a34, a35, rfl⟩ := l36 hn
    simp at k1 h3
    subst k1
    clear h1 h2 hne k2
    simp only [List.forall_mem_cons, List.not_mem_nil, false_implies, implies_true, and_true] at hl
    obtain ⟨-, ⟨p1, q1⟩, ⟨p2, q2⟩, ⟨p3, q3⟩, ⟨p4, q4⟩, ⟨p5, q5⟩, ⟨p6, q6⟩, ⟨p7, q7⟩, ⟨p8, q8⟩, ⟨p9, q9⟩, ⟨p10, q10⟩, ⟨p11, q11⟩, ⟨p12, q12⟩, ⟨p13, q13⟩, ⟨p14, q14⟩, ⟨p15, q15⟩, ⟨p16, q16⟩, ⟨p17, q17⟩, ⟨p18, q18⟩, ⟨p19, q19⟩, ⟨p20, q20⟩, ⟨p21, q21⟩, ⟨p22, q22⟩, ⟨p23, q23⟩, ⟨p24, q24⟩, ⟨p25, q25⟩, ⟨p26, q26⟩, ⟨p27, q27⟩, ⟨p28, q28⟩, ⟨p29, q29⟩, ⟨p30, q30⟩, ⟨p31, q31⟩, ⟨p32, q32⟩, ⟨p33, q33⟩, ⟨p34, q34⟩, p35, q35⟩ := hl
    have x2 : a2 = 0 := by omega
    have x3 : a3 = 36 := by omega
    subst x2 x3
    by_cases b4 : 128 ≤ a4
    · have n4 : ¬a4 < 128 := by omega
      simp [b4, n4, parse, num, sg, bytesM, headL, tailL, be, szOf]
      simp (disch := omega) only [byt_s, byt_0, byt_n, num_eq1, true_and, and_true, and_self]
      try decide
    · have n4 : a4 < 128 := by omega
      simp [b4, n4, parse, num, sg, bytesM, headL, tailL, be, szOf]
      simp (disch := omega) only [byt_s, byt_0, byt_n, num_eq1, true_and, and_true, and_self]
      try decide
end Go.Proofs.Y10
