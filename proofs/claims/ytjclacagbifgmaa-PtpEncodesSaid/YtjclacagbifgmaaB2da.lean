/- A part of the proof: see the text that states the theorem. -/
import Derived.Test.YtjclacagbifgmaaB2
import Derived.Test.YtjclacagbifgmaaADa
import Derived.Test.YtjclacagbifgmaaADb
set_option linter.unusedSimpArgs false
set_option linter.unusedVariables false
set_option linter.unusedSectionVars false
noncomputable section
set_option maxHeartbeats 4000000
namespace Go.Proofs.Y10
open Go Go.SX Go.RowKit
theorem d_Decode0 (l : List Int) (hl : ∀ x ∈ l, 0 ≤ x ∧ x < 256) (v : Value) (w : World) (h : BSlice w l v) (hn : l.length = 22) (h0 : l.getD 0 0 = 0) (m' : M) (e' : Int)
   (hh : m' = (if l.getD 2 0 * 256 + l.getD 3 0 = 22 ∧ right (parse l) then parse l else M0) ∧ e' = if l.getD 2 0 * 256 + l.getD 3 0 = 22 ∧ right (parse l) then 0 else 5) : Calls Try.prog 22 #[v] w fun e w' => e = .returned (.tuple #[vM m', vI e']) ∧ Below w.heap.size w w' := by
  obtain ⟨⟨nl, b, o, cap, rfl, h1, h2⟩, hc⟩ := h
  have hc := hc _ _ _ rfl
  rw [rowsB, List.length_map, hn] at hc
  have := calls_ofF t_Decode0 (ρ := mkEnv [.l (rowsB l), .n nl, .i cap]) (κ := kap1 b o) (w := w) (res := .tuple #[vM m', vI e']) ?_ (heapOk_slice h1 h2) ?_
  · simp only [List.map_cons, List.map_nil] at this
    rw [slArg_den (rows := rowsB l) (nl := nl) (cap := cap) rfl rfl rfl] at this
    exact this
  · clear hh h1 h2
    obtain ⟨a0, a1, a2, a3, a4, a5, a6, a7, a8, a9, a10, a11, a12, a13, a14, a15, a16, a17, a18, a19, a20, a21, rfl⟩ := l22 hn
    simp at h0
    subst h0
    intro p hp
    simp only [List.mem_cons, List.not_mem_nil, or_false] at hp
    rcases hp with rfl | rfl <;> simp [rowsB, wz, wz0]
  clear h1 h2
  have k := c_Check (parse l)
  obtain ⟨a0, a1, a2, a3, a4, a5, a6, a7, a8, a9, a10, a11, a12, a13, a14, a15, a16, a17, a18, a19, a20, a21, rfl⟩ := l22 hn
  simp at h0
  subst h0
  simp only [List.forall_mem_cons, List.not_mem_nil, false_implies, implies_true, and_true] at hl
  obtain ⟨-, ⟨p1, q1⟩, ⟨p2, q2⟩, ⟨p3, q3⟩, ⟨p4, q4⟩, ⟨p5, q5⟩, ⟨p6, q6⟩, ⟨p7, q7⟩, ⟨p8, q8⟩, ⟨p9, q9⟩, ⟨p10, q10⟩, ⟨p11, q11⟩, ⟨p12, q12⟩, ⟨p13, q13⟩, ⟨p14, q14⟩, ⟨p15, q15⟩, ⟨p16, q16⟩, ⟨p17, q17⟩, ⟨p18, q18⟩, ⟨p19, q19⟩, ⟨p20, q20⟩, p21, q21⟩ := hl
  have hc1 : 1 ≤ (cap : Int) := by omega
  have hc2 : 22 ≤ (cap : Int) := by omega
  have hc3 : 22 ≤ (cap : Int) := by omega
  clear hc hn
  simp [-Bool.exists_bool, rowsB, hc1, hc2, hc3]
  simp at hh
  by_cases b4 : 128 ≤ a4
  · have n4 : ¬a4 < 128 := by omega
    simp (disch := omega) only [or8, or0, orm]
    simp [b4, n4, parse, num, sg] at k hh
    by_cases hz : a2 * 256 + a3 = 22
    · split at k
      · rename_i hr
        simp [hz, hr] at hh
        obtain ⟨rfl, rfl⟩ := hh
        simp [b4, n4, hz, -Bool.exists_bool]
        first | exact k | exact ⟨_, k, by simp⟩
      · rename_i hr
        simp [hz, hr] at hh
        obtain ⟨rfl, rfl⟩ := hh
        simp [b4, n4, hz, -Bool.exists_bool]
        first | exact k | exact ⟨_, k, by simp⟩
    · simp [hz] at hh
      obtain ⟨rfl, rfl⟩ := hh
      simp [b4, n4, hz, -Bool.exists_bool]
  · have n4 : a4 < 128 := by omega
    simp (disch := omega) only [or8, or0, orm]
    simp [b4, n4, parse, num, sg] at k hh
    by_cases hz : a2 * 256 + a3 = 22
    · split at k
      · rename_i hr
        simp [hz, hr] at hh
        obtain ⟨rfl, rfl⟩ := hh
        simp [b4, n4, hz, -Bool.exists_bool]
        first | exact k | exact ⟨_, k, by simp⟩
      · rename_i hr
        simp [hz, hr] at hh
        obtain ⟨rfl, rfl⟩ := hh
        simp [b4, n4, hz, -Bool.exists_bool]
        first | exact k | exact ⟨_, k, by simp⟩
    · simp [hz] at hh
      obtain ⟨rfl, rfl⟩ := hh
      simp [b4, n4, hz, -Bool.exists_bool]
end Go.Proofs.Y10

set_option linter.unusedSimpArgs false
set_option linter.unusedVariables false
set_option linter.unusedSectionVars false
noncomputable section
set_option maxHeartbeats 4000000
namespace Go.Proofs.Y10
open Go Go.SX Go.RowKit
theorem d_Decode2 (l : List Int) (hl : ∀ x ∈ l, 0 ≤ x ∧ x < 256) (v : Value) (w : World) (h : BSlice w l v) (hn : l.length = 22) (h0 : l.getD 0 0 = 2) (m' : M) (e' : Int)
   (hh : m' = (if l.getD 2 0 * 256 + l.getD 3 0 = 22 ∧ right (parse l) then parse l else M0) ∧ e' = if l.getD 2 0 * 256 + l.getD 3 0 = 22 ∧ right (parse l) then 0 else 5) : Calls Try.prog 22 #[v] w fun e w' => e = .returned (.tuple #[vM m', vI e']) ∧ Below w.heap.size w w' := by
  obtain ⟨⟨nl, b, o, cap, rfl, h1, h2⟩, hc⟩ := h
  have hc := hc _ _ _ rfl
  rw [rowsB, List.length_map, hn] at hc
  have := calls_ofF t_Decode2 (ρ := mkEnv [.l (rowsB l), .n nl, .i cap]) (κ := kap1 b o) (w := w) (res := .tuple #[vM m', vI e']) ?_ (heapOk_slice h1 h2) ?_
  · simp only [List.map_cons, List.map_nil] at this
    rw [slArg_den (rows := rowsB l) (nl := nl) (cap := cap) rfl rfl rfl] at this
    exact this
  · clear hh h1 h2
    obtain ⟨a0, a1, a2, a3, a4, a5, a6, a7, a8, a9, a10, a11, a12, a13, a14, a15, a16, a17, a18, a19, a20, a21, rfl⟩ := l22 hn
    simp at h0
    subst h0
    intro p hp
    simp only [List.mem_cons, List.not_mem_nil, or_false] at hp
    rcases hp with rfl | rfl <;> simp [rowsB, wz, wz0]
  clear h1 h2
  have k := c_Check (parse l)
  obtain ⟨a0, a1, a2, a3, a4, a5, a6, a7, a8, a9, a10, a11, a12, a13, a14, a15, a16, a17, a18, a19, a20, a21, rfl⟩ := l22 hn
  simp at h0
  subst h0
  simp only [List.forall_mem_cons, List.not_mem_nil, false_implies, implies_true, and_true] at hl
  obtain ⟨-, ⟨p1, q1⟩, ⟨p2, q2⟩, ⟨p3, q3⟩, ⟨p4, q4⟩, ⟨p5, q5⟩, ⟨p6, q6⟩, ⟨p7, q7⟩, ⟨p8, q8⟩, ⟨p9, q9⟩, ⟨p10, q10⟩, ⟨p11, q11⟩, ⟨p12, q12⟩, ⟨p13, q13⟩, ⟨p14, q14⟩, ⟨p15, q15⟩, ⟨p16, q16⟩, ⟨p17, q17⟩, ⟨p18, q18⟩, ⟨p19, q19⟩, ⟨p20, q20⟩, p21, q21⟩ := hl
  have hc1 : 1 ≤ (cap : Int) := by omega
  have hc2 : 22 ≤ (cap : Int) := by omega
  have hc3 : 22 ≤ (cap : Int) := by omega
  clear hc hn
  simp [-Bool.exists_bool, rowsB, hc1, hc2, hc3]
  simp at hh
  by_cases b4 : 128 ≤ a4
  · have n4 : ¬a4 < 128 := by omega
    simp (disch := omega) only [or8, or0, orm]
    simp [b4, n4, parse, num, sg] at k hh
    by_cases hz : a2 * 256 + a3 = 22
    · split at k
      · rename_i hr
        simp [hz, hr] at hh
        obtain ⟨rfl, rfl⟩ := hh
        simp [b4, n4, hz, -Bool.exists_bool]
        first | exact k | exact ⟨_, k, by simp⟩
      · rename_i hr
        simp [hz, hr] at hh
        obtain ⟨rfl, rfl⟩ := hh
        simp [b4, n4, hz, -Bool.exists_bool]
        first | exact k | exact ⟨_, k, by simp⟩
    · simp [hz] at hh
      obtain ⟨rfl, rfl⟩ := hh
      simp [b4, n4, hz, -Bool.exists_bool]
  · have n4 : a4 < 128 := by omega
    simp (disch := omega) only [or8, or0, orm]
    simp [b4, n4, parse, num, sg] at k hh
    by_cases hz : a2 * 256 + a3 = 22
    · split at k
      · rename_i hr
        simp [hz, hr] at hh
        obtain ⟨rfl, rfl⟩ := hh
        simp [b4, n4, hz, -Bool.exists_bool]
        first | exact k | exact ⟨_, k, by simp⟩
      · rename_i hr
        simp [hz, hr] at hh
        obtain ⟨rfl, rfl⟩ := hh
        simp [b4, n4, hz, -Bool.exists_bool]
        first | exact k | exact ⟨_, k, by simp⟩
    · simp [hz] at hh
      obtain ⟨rfl, rfl⟩ := hh
      simp [b4, n4, hz, -Bool.exists_bool]
end Go.Proofs.Y10
