/- A part of the proof: see the text that states the theorem. -/
import Derived.Test.YtjclacagbifgmaaB3
import Derived.Test.YtjclacagbifgmaaARb
import Derived.Test.YtjclacagbifgmaaARa
set_option linter.unusedSimpArgs false
set_option linter.unusedVariables false
set_option linter.unusedSectionVars false
noncomputable section
set_option maxHeartbeats 4000000
namespace Go.Proofs.Y10
open Go Go.SX Go.RowKit
theorem d_Read10 (l : List Int) (hl : ∀ x ∈ l, 0 ≤ x ∧ x < 256) (v : Value) (w : World) (h : BSlice w l v) (hn : l.length = 38) (h0 : l.getD 0 0 = 10) (m' : M) (e' : Bool)
   (hh : m' = (if l.getD 2 0 * 256 + l.getD 3 0 = 38 ∧ right (parse l) then parse l else M0) ∧ e' = decide (l.getD 2 0 * 256 + l.getD 3 0 = 38 ∧ right (parse l))) : Calls Try.prog 23 #[v] w fun e w' => e = .returned (.tuple #[vM m', vB e']) ∧ Below w.heap.size w w' := by
  obtain ⟨⟨nl, b, o, cap, rfl, h1, h2⟩, hc⟩ := h
  have hc := hc _ _ _ rfl
  rw [rowsB, List.length_map, hn] at hc
  have := calls_ofF t_Read10 (ρ := mkEnv [.l (rowsB l), .n nl, .i cap]) (κ := kap1 b o) (w := w) (res := .tuple #[vM m', vB e']) ?_ (heapOk_slice h1 h2) ?_
  · simp only [List.map_cons, List.map_nil] at this
    rw [slArg_den (rows := rowsB l) (nl := nl) (cap := cap) rfl rfl rfl] at this
    exact this
  · clear hh h1 h2
    obtain ⟨a0, a1, a2, a3, a4, a5, a6, a7, a8, a9, a10, a11, a12, a13, a14, a15, a16, a17, a18, a19, a20, a21, a22, a23, a24, a25, a26, a27, a28, a29, a30, a31, a32, a33, a34, a35, a36, a37, rfl⟩ := l38 hn
    simp at h0
    subst h0
    intro p hp
    simp only [List.mem_cons, List.not_mem_nil, or_false] at hp
    rcases hp with rfl | rfl <;> simp [rowsB, wz, wz0]
  clear h1 h2
  have k := c_Right (parse l)
  have ks := c_refSize 10
  rw [show szOf 10 = 38 from rfl] at ks
  have hcase : decide (right (parse l)) = true ∨ decide (right (parse l)) = false := by cases decide (right (parse l)) <;> simp
  obtain ⟨a0, a1, a2, a3, a4, a5, a6, a7, a8, a9, a10, a11, a12, a13, a14, a15, a16, a17, a18, a19, a20, a21, a22, a23, a24, a25, a26, a27, a28, a29, a30, a31, a32, a33, a34, a35, a36, a37, rfl⟩ := l38 hn
  simp at h0
  subst h0
  simp only [List.forall_mem_cons, List.not_mem_nil, false_implies, implies_true, and_true] at hl
  obtain ⟨-, ⟨p1, q1⟩, ⟨p2, q2⟩, ⟨p3, q3⟩, ⟨p4, q4⟩, ⟨p5, q5⟩, ⟨p6, q6⟩, ⟨p7, q7⟩, ⟨p8, q8⟩, ⟨p9, q9⟩, ⟨p10, q10⟩, ⟨p11, q11⟩, ⟨p12, q12⟩, ⟨p13, q13⟩, ⟨p14, q14⟩, ⟨p15, q15⟩, ⟨p16, q16⟩, ⟨p17, q17⟩, ⟨p18, q18⟩, ⟨p19, q19⟩, ⟨p20, q20⟩, ⟨p21, q21⟩, ⟨p22, q22⟩, ⟨p23, q23⟩, ⟨p24, q24⟩, ⟨p25, q25⟩, ⟨p26, q26⟩, ⟨p27, q27⟩, ⟨p28, q28⟩, ⟨p29, q29⟩, ⟨p30, q30⟩, ⟨p31, q31⟩, ⟨p32, q32⟩, ⟨p33, q33⟩, ⟨p34, q34⟩, ⟨p35, q35⟩, ⟨p36, q36⟩, p37, q37⟩ := hl
  have hc1 : 1 ≤ (cap : Int) := by omega
  have hc2 : 22 ≤ (cap : Int) := by omega
  have hc3 : 38 ≤ (cap : Int) := by omega
  clear hc hn
  have hz : (a2 * 256 + a3 = 38) ↔ (a2 = 0 ∧ a3 = 38) := by omega
  have e1 : IntKind.u8.wrap ((38 : Int).fdiv (2 ^ min 8 IntKind.i64.bits)) = 0 := by decide
  have e2 : IntKind.u8.wrap 38 = 38 := by decide
  simp [-Bool.exists_bool, rowsB, hc1, hc2, hc3]
  simp at hh
  refine ⟨_, ks, fun h => absurd rfl h, fun _ => ?_⟩
  by_cases b4 : 128 ≤ a4
  · have n4 : ¬a4 < 128 := by omega
    by_cases b22 : 128 ≤ a22
    · have n22 : ¬a22 < 128 := by omega
      simp (disch := omega) only [wi, wu, wn, fd56, fd48, fd40, fd32, fd24, fd16, fd8, u8h, u8n, u8s]
      simp [b4, n4, b22, n22, parse, num, sg] at k hh hcase
      rcases hcase with hr | hr
      · rw [decide_eq_true hr] at k
        simp only [hr, and_true, decide_true, Bool.and_true] at hh
        refine ⟨_, k, fun _ => ⟨_, ks, by and_intros <;> assumption, ?_⟩, fun h => by simp at h⟩
        simp only [e1, e2]
        by_cases c : a2 = 0 ∧ a3 = 38
        · obtain ⟨rfl, rfl⟩ := c
          simp at hh
          obtain ⟨rfl, rfl⟩ := hh
          simp
        · simp only [hz, c, if_false, decide_false] at hh
          obtain ⟨rfl, rfl⟩ := hh
          simp
          intro c1 c2
          exact absurd ⟨c1.symm, c2.symm⟩ c
      · rw [decide_eq_false hr] at k
        simp [hr] at hh
        obtain ⟨rfl, rfl⟩ := hh
        exact ⟨_, k, by simp, by simp⟩
    · have n22 : a22 < 128 := by omega
      simp (disch := omega) only [wi, wu, wn, fd56, fd48, fd40, fd32, fd24, fd16, fd8, u8h, u8n, u8s]
      simp [b4, n4, b22, n22, parse, num, sg] at k hh hcase
      rcases hcase with hr | hr
      · rw [decide_eq_true hr] at k
        simp only [hr, and_true, decide_true, Bool.and_true] at hh
        refine ⟨_, k, fun _ => ⟨_, ks, by and_intros <;> assumption, ?_⟩, fun h => by simp at h⟩
        simp only [e1, e2]
        by_cases c : a2 = 0 ∧ a3 = 38
        · obtain ⟨rfl, rfl⟩ := c
          simp at hh
          obtain ⟨rfl, rfl⟩ := hh
          simp
        · simp only [hz, c, if_false, decide_false] at hh
          obtain ⟨rfl, rfl⟩ := hh
          simp
          intro c1 c2
          exact absurd ⟨c1.symm, c2.symm⟩ c
      · rw [decide_eq_false hr] at k
        simp [hr] at hh
        obtain ⟨rfl, rfl⟩ := hh
        exact ⟨_, k, by simp, by simp⟩
  · have n4 : a4 < 128 := by omega
    by_cases b22 : 128 ≤ a22
    · have n22 : ¬a22 < 128 := by omega
      simp (disch := omega) only [wi, wu, wn, fd56, fd48, fd40, fd32, fd24, fd16, fd8, u8h, u8n, u8s]
      simp [b4, n4, b22, n22, parse, num, sg] at k hh hcase
      rcases hcase with hr | hr
      · rw [decide_eq_true hr] at k
        simp only [hr, and_true, decide_true, Bool.and_true] at hh
        refine ⟨_, k, fun _ => ⟨_, ks, by and_intros <;> assumption, ?_⟩, fun h => by simp at h⟩
        simp only [e1, e2]
        by_cases c : a2 = 0 ∧ a3 = 38
        · obtain ⟨rfl, rfl⟩ := c
          simp at hh
          obtain ⟨rfl, rfl⟩ := hh
          simp
        · simp only [hz, c, if_false, decide_false] at hh
          obtain ⟨rfl, rfl⟩ := hh
          simp
          intro c1 c2
          exact absurd ⟨c1.symm, c2.symm⟩ c
      · rw [decide_eq_false hr] at k
        simp [hr] at hh
        obtain ⟨rfl, rfl⟩ := hh
        exact ⟨_, k, by simp, by simp⟩
    · have n22 : a22 < 128 := by omega
      simp (disch := omega) only [wi, wu, wn, fd56, fd48, fd40, fd32, fd24, fd16, fd8, u8h, u8n, u8s]
      simp [b4, n4, b22, n22, parse, num, sg] at k hh hcase
      rcases hcase with hr | hr
      · rw [decide_eq_true hr] at k
        simp only [hr, and_true, decide_true, Bool.and_true] at hh
        refine ⟨_, k, fun _ => ⟨_, ks, by and_intros <;> assumption, ?_⟩, fun h => by simp at h⟩
        simp only [e1, e2]
        by_cases c : a2 = 0 ∧ a3 = 38
        · obtain ⟨rfl, rfl⟩ := c
          simp at hh
          obtain ⟨rfl, rfl⟩ := hh
          simp
        · simp only [hz, c, if_false, decide_false] at hh
          obtain ⟨rfl, rfl⟩ := hh
          simp
          intro c1 c2
          exact absurd ⟨c1.symm, c2.symm⟩ c
      · rw [decide_eq_false hr] at k
        simp [hr] at hh
        obtain ⟨rfl, rfl⟩ := hh
        exact ⟨_, k, by simp, by simp⟩
end Go.Proofs.Y10

set_option linter.unusedSimpArgs false
set_option linter.unusedVariables false
set_option linter.unusedSectionVars false
noncomputable section
set_option maxHeartbeats 4000000
namespace Go.Proofs.Y10
open Go Go.SX Go.RowKit
theorem d_Read3 (l : List Int) (hl : ∀ x ∈ l, 0 ≤ x ∧ x < 256) (v : Value) (w : World) (h : BSlice w l v) (hn : l.length = 38) (h0 : l.getD 0 0 = 3) (m' : M) (e' : Bool)
   (hh : m' = (if l.getD 2 0 * 256 + l.getD 3 0 = 38 ∧ right (parse l) then parse l else M0) ∧ e' = decide (l.getD 2 0 * 256 + l.getD 3 0 = 38 ∧ right (parse l))) : Calls Try.prog 23 #[v] w fun e w' => e = .returned (.tuple #[vM m', vB e']) ∧ Below w.heap.size w w' := by
  obtain ⟨⟨nl, b, o, cap, rfl, h1, h2⟩, hc⟩ := h
  have hc := hc _ _ _ rfl
  rw [rowsB, List.length_map, hn] at hc
  have := calls_ofF t_Read3 (ρ := mkEnv [.l (rowsB l), .n nl, .i cap]) (κ := kap1 b o) (w := w) (res := .tuple #[vM m', vB e']) ?_ (heapOk_slice h1 h2) ?_
  · simp only [List.map_cons, List.map_nil] at this
    rw [slArg_den (rows := rowsB l) (nl := nl) (cap := cap) rfl rfl rfl] at this
    exact this
  · clear hh h1 h2
    obtain ⟨a0, a1, a2, a3, a4, a5, a6, a7, a8, a9, a10, a11, a12, a13, a14, a15, a16, a17, a18, a19, a20, a21, a22, a23, a24, a25, a26, a27, a28, a29, a30, a31, a32, a33, a34, a35, a36, a37, rfl⟩ := l38 hn
    simp at h0
    subst h0
    intro p hp
    simp only [List.mem_cons, List.not_mem_nil, or_false] at hp
    rcases hp with rfl | rfl <;> simp [rowsB, wz, wz0]
  clear h1 h2
  have k := c_Right (parse l)
  have ks := c_refSize 3
  rw [show szOf 3 = 38 from rfl] at ks
  have hcase : decide (right (parse l)) = true ∨ decide (right (parse l)) = false := by cases decide (right (parse l)) <;> simp
  obtain ⟨a0, a1, a2, a3, a4, a5, a6, a7, a8, a9, a10, a11, a12, a13, a14, a15, a16, a17, a18, a19, a20, a21, a22, a23, a24, a25, a26, a27, a28, a29, a30, a31, a32, a33, a34, a35, a36, a37, rfl⟩ := l38 hn
  simp at h0
  subst h0
  simp only [List.forall_mem_cons, List.not_mem_nil, false_implies, implies_true, and_true] at hl
  obtain ⟨-, ⟨p1, q1⟩, ⟨p2, q2⟩, ⟨p3, q3⟩, ⟨p4, q4⟩, ⟨p5, q5⟩, ⟨p6, q6⟩, ⟨p7, q7⟩, ⟨p8, q8⟩, ⟨p9, q9⟩, ⟨p10, q10⟩, ⟨p11, q11⟩, ⟨p12, q12⟩, ⟨p13, q13⟩, ⟨p14, q14⟩, ⟨p15, q15⟩, ⟨p16, q16⟩, ⟨p17, q17⟩, ⟨p18, q18⟩, ⟨p19, q19⟩, ⟨p20, q20⟩, ⟨p21, q21⟩, ⟨p22, q22⟩, ⟨p23, q23⟩, ⟨p24, q24⟩, ⟨p25, q25⟩, ⟨p26, q26⟩, ⟨p27, q27⟩, ⟨p28, q28⟩, ⟨p29, q29⟩, ⟨p30, q30⟩, ⟨p31, q31⟩, ⟨p32, q32⟩, ⟨p33, q33⟩, ⟨p34, q34⟩, ⟨p35, q35⟩, ⟨p36, q36⟩, p37, q37⟩ := hl
  have hc1 : 1 ≤ (cap : Int) := by omega
  have hc2 : 22 ≤ (cap : Int) := by omega
  have hc3 : 38 ≤ (cap : Int) := by omega
  clear hc hn
  have hz : (a2 * 256 + a3 = 38) ↔ (a2 = 0 ∧ a3 = 38) := by omega
  have e1 : IntKind.u8.wrap ((38 : Int).fdiv (2 ^ min 8 IntKind.i64.bits)) = 0 := by decide
  have e2 : IntKind.u8.wrap 38 = 38 := by decide
  simp [-Bool.exists_bool, rowsB, hc1, hc2, hc3]
  simp at hh
  refine ⟨_, ks, fun h => absurd rfl h, fun _ => ?_⟩
  by_cases b4 : 128 ≤ a4
  · have n4 : ¬a4 < 128 := by omega
    by_cases b22 : 128 ≤ a22
    · have n22 : ¬a22 < 128 := by omega
      simp (disch := omega) only [wi, wu, wn, fd56, fd48, fd40, fd32, fd24, fd16, fd8, u8h, u8n, u8s]
      simp [b4, n4, b22, n22, parse, num, sg] at k hh hcase
      rcases hcase with hr | hr
      · rw [decide_eq_true hr] at k
        simp only [hr, and_true, decide_true, Bool.and_true] at hh
        refine ⟨_, k, fun _ => ⟨_, ks, by and_intros <;> assumption, ?_⟩, fun h => by simp at h⟩
        simp only [e1, e2]
        by_cases c : a2 = 0 ∧ a3 = 38
        · obtain ⟨rfl, rfl⟩ := c
          simp at hh
          obtain ⟨rfl, rfl⟩ := hh
          simp
        · simp only [hz, c, if_false, decide_false] at hh
          obtain ⟨rfl, rfl⟩ := hh
          simp
          intro c1 c2
          exact absurd ⟨c1.symm, c2.symm⟩ c
      · rw [decide_eq_false hr] at k
        simp [hr] at hh
        obtain ⟨rfl, rfl⟩ := hh
        exact ⟨_, k, by simp, by simp⟩
    · have n22 : a22 < 128 := by omega
      simp (disch := omega) only [wi, wu, wn, fd56, fd48, fd40, fd32, fd24, fd16, fd8, u8h, u8n, u8s]
      simp [b4, n4, b22, n22, parse, num, sg] at k hh hcase
      rcases hcase with hr | hr
      · rw [decide_eq_true hr] at k
        simp only [hr, and_true, decide_true, Bool.and_true] at hh
        refine ⟨_, k, fun _ => ⟨_, ks, by and_intros <;> assumption, ?_⟩, fun h => by simp at h⟩
        simp only [e1, e2]
        by_cases c : a2 = 0 ∧ a3 = 38
        · obtain ⟨rfl, rfl⟩ := c
          simp at hh
          obtain ⟨rfl, rfl⟩ := hh
          simp
        · simp only [hz, c, if_false, decide_false] at hh
          obtain ⟨rfl, rfl⟩ := hh
          simp
          intro c1 c2
          exact absurd ⟨c1.symm, c2.symm⟩ c
      · rw [decide_eq_false hr] at k
        simp [hr] at hh
        obtain ⟨rfl, rfl⟩ := hh
        exact ⟨_, k, by simp, by simp⟩
  · have n4 : a4 < 128 := by omega
    by_cases b22 : 128 ≤ a22
    · have n22 : ¬a22 < 128 := by omega
      simp (disch := omega) only [wi, wu, wn, fd56, fd48, fd40, fd32, fd24, fd16, fd8, u8h, u8n, u8s]
      simp [b4, n4, b22, n22, parse, num, sg] at k hh hcase
      rcases hcase with hr | hr
      · rw [decide_eq_true hr] at k
        simp only [hr, and_true, decide_true, Bool.and_true] at hh
        refine ⟨_, k, fun _ => ⟨_, ks, by and_intros <;> assumption, ?_⟩, fun h => by simp at h⟩
        simp only [e1, e2]
        by_cases c : a2 = 0 ∧ a3 = 38
        · obtain ⟨rfl, rfl⟩ := c
          simp at hh
          obtain ⟨rfl, rfl⟩ := hh
          simp
        · simp only [hz, c, if_false, decide_false] at hh
          obtain ⟨rfl, rfl⟩ := hh
          simp
          intro c1 c2
          exact absurd ⟨c1.symm, c2.symm⟩ c
      · rw [decide_eq_false hr] at k
        simp [hr] at hh
        obtain ⟨rfl, rfl⟩ := hh
        exact ⟨_, k, by simp, by simp⟩
    · have n22 : a22 < 128 := by omega
      simp (disch := omega) only [wi, wu, wn, fd56, fd48, fd40, fd32, fd24, fd16, fd8, u8h, u8n, u8s]
      simp [b4, n4, b22, n22, parse, num, sg] at k hh hcase
      rcases hcase with hr | hr
      · rw [decide_eq_true hr] at k
        simp only [hr, and_true, decide_true, Bool.and_true] at hh
        refine ⟨_, k, fun _ => ⟨_, ks, by and_intros <;> assumption, ?_⟩, fun h => by simp at h⟩
        simp only [e1, e2]
        by_cases c : a2 = 0 ∧ a3 = 38
        · obtain ⟨rfl, rfl⟩ := c
          simp at hh
          obtain ⟨rfl, rfl⟩ := hh
          simp
        · simp only [hz, c, if_false, decide_false] at hh
          obtain ⟨rfl, rfl⟩ := hh
          simp
          intro c1 c2
          exact absurd ⟨c1.symm, c2.symm⟩ c
      · rw [decide_eq_false hr] at k
        simp [hr] at hh
        obtain ⟨rfl, rfl⟩ := hh
        exact ⟨_, k, by simp, by simp⟩
end Go.Proofs.Y10
