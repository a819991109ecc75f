/- A part of the proof: see the text that states the theorem. -/
import Derived.Test.YtjclacagbifgmaaB4
import Derived.Lib.Strings
import Derived.Lib.Slices
import Derived.Lib.Walk
import Derived.Lib.Bytes
set_option linter.unusedSimpArgs false
set_option linter.unusedVariables false
set_option linter.unusedSectionVars false
noncomputable section
namespace Go.Proofs.Y10
open Go Go.SX Go.RowKit
set_option maxHeartbeats 1000000 in
theorem equal_raw (v1 v2 : Value) (xs ys : List Int) (w : World)
    (h1 : (convert 44 9 v1).run Try.prog w = .ok (.string (strOfNums xs)) w) (h2 : (convert 44 9 v2).run Try.prog w = .ok (.string (strOfNums ys)) w) :
    Calls Try.prog 20 #[v1, v2] w fun e w' => e = .returned (.bool (Lib.bytesOf xs == Lib.bytesOf ys)) ∧ w' = w := by
  rw [← Lib.strOfNums_toList, ← Lib.strOfNums_toList]
  go_enter Try.func20, Try.ntmps20
  go_wp2
  go_ret
  exact ⟨rfl, rfl⟩
theorem conv_bytes {w : World} {l : List Int} {v : Value} (h : SliceIs w pu (rowsB l) v) : (convert 44 9 v).run Try.prog w = .ok (.string (strOfNums l)) w := by
  obtain ⟨nl, b, o, cap, rfl, h1, h2⟩ := h
  cases nl
  · refine run_convert_bytes_arg w 44 5 Try.underlying44 Try.underlying5 b o _ cap l (by simp [rowsB]) (fun i hi => ?_) 9 Try.underlying9
    have hi' : i < l.length := by simpa [rowsB] using hi
    have := h2 i 0 [.i l[i]] (.int .u8) (by simp [rowsB, hi']) rfl
    simpa [pu, CK.den, hi'] using this
  · have hl : l = [] := by simpa [rowsB] using h1 rfl
    subst hl
    exact run_convert_bytes_nil w 44 5 Try.underlying44 Try.underlying5 _ cap 9 Try.underlying9
theorem bytesOf_inj {l l' : List Int} (h : ∀ x ∈ l, 0 ≤ x ∧ x < 256) (h' : ∀ x ∈ l', 0 ≤ x ∧ x < 256) : Lib.bytesOf l = Lib.bytesOf l' ↔ l = l' := by
  refine ⟨fun e => ?_, fun e => by rw [e]⟩
  induction l generalizing l' with
  | nil => cases l' with
    | nil => rfl
    | cons b l' => cases e
  | cons a l ih => cases l' with
    | nil => cases e
    | cons b l' =>
      simp only [Lib.bytesOf, List.map_cons, List.cons.injEq] at e
      have ha := h a (by simp)
      have hb := h' b (by simp)
      have e1 : a = b := by
        have := congrArg UInt8.toNat e.1
        simp only [UInt8.toNat_ofNat'] at this
        omega
      rw [e1, ih (fun x hx => h x (by simp [hx])) (fun x hx => h' x (by simp [hx])) e.2]
theorem c_Equal (l l' : List Int) (hl : ∀ x ∈ l, 0 ≤ x ∧ x < 256) (hl' : ∀ x ∈ l', 0 ≤ x ∧ x < 256) (v v' : Value) (w : World) (h : SliceIs w pu (rowsB l) v) (h' : SliceIs w pu (rowsB l') v') :
    Calls Try.prog 20 #[v, v'] w fun e w' => e = .returned (vB (decide (l = l'))) ∧ Below w.heap.size w w' := by
  refine Calls.mono (equal_raw v v' l l' w (conv_bytes h) (conv_bytes h')) fun e w' ⟨h1, h2⟩ => ⟨?_, by subst h2; exact Below.refl _ _⟩
  rw [h1]
  congr 1
  have := bytesOf_inj hl hl'
  by_cases c : l = l'
  · simp [c]
  · have c' : Lib.bytesOf l ≠ Lib.bytesOf l' := fun e => c (this.1 e)
    simp [c, c']
end Go.Proofs.Y10
