/- A part of the proof: see the text that states the theorem. -/
import Derived.Test.YtaomijkjdkimcaaD2
set_option linter.unusedSimpArgs false
set_option linter.unusedVariables false
set_option linter.unusedSectionVars false
namespace Go.Proofs.Y18
open Go Go.SX Go.RowKit
def modB (y q : Int) : Int := (y + (1 + q % 255) % 256) % 256
theorem dec_mod {A B C D E F G q : Int} (ok : okV A B C D E F G) (hq : 0 ≤ q ∧ q < 256) (j : Nat) (hj : j < 12) {ρ : Env} {κ : Kap} {base : Bk} {id : Nat} {cs : List SC} {ty : TypeId} {w : World} (h : HeapOk ρ κ base [.obj id (.cells cs ty (some 1))] w)
    (hcs : cs.map (SC.den ρ κ) = ((encL A B C D E F G).set j (modB ((encL A B C D E F G).getD j 0) q)).map (fun n => Value.int .u8 n)) :
    Calls Try.prog 23 #[.slice (some ⟨κ.o id, 0, none⟩) 12 (κ.cap id)] w fun e w' => e = .returned (.tuple #[vH 0 0 0 0 0 0 0, vI 5]) ∧ Below w.heap.size w w' := by
  have hbd := encL_bd ok
  have hy : 0 ≤ (encL A B C D E F G).getD j 0 ∧ (encL A B C D E F G).getD j 0 < 256 := by
    rw [List.getD_eq_getElem?_getD, List.getElem?_eq_getElem (by simpa [encL] using hj)]
    exact hbd _ (List.getElem_mem _)
  have hm : 0 ≤ modB ((encL A B C D E F G).getD j 0) q ∧ modB ((encL A B C D E F G).getD j 0) q < 256 := by unfold modB; omega
  have hne : modB ((encL A B C D E F G).getD j 0) q ≠ (encL A B C D E F G).getD j 0 := by unfold modB; omega
  have hbad := dec_bad ok j hj _ hne hm
  have := dec_obj h _ hcs 12 (by simp [encL]) (fun n hn => by
    rcases List.mem_or_eq_of_mem_set hn with hn | rfl
    · exact hbd n hn
    · exact hm)
  have hV : decV (rowsOf ((encL A B C D E F G).set j (modB ((encL A B C D E F G).getD j 0) q))) = vH 0 0 0 0 0 0 0 := by rw [decV, if_neg (by rw [hbad]; simp)]
  rw [List.take_of_length_le (by simp [encL]), hV, hbad] at this
  simpa using this
set_option maxHeartbeats 16000000 in
set_option maxRecDepth 100000 in
theorem l_VectorBack (a b c d e f g i q : Int) (hg : 0 ≤ g ∧ g < 256) (hi : 0 ≤ i ∧ i < 256) (hq : 0 ≤ q ∧ q < 256) : Ret Try.prog 8 #[vR a b c d e f, .int .u8 g, .int .u8 i, .int .u8 q] (vB true) := by
  have k5 := c_wakes
  refine ret_of t_VectorBack (mkEnv [.i a, .i b, .i c, .i d, .i e, .i f, .i g, .i i, .i q]) (fun w => ?_)
  have hG : (IntKind.i64.wrap g).tmod 21 = g % 21 := by rw [SX.wrap64 (by omega) (by omega), Int.tmod_eq_emod_of_nonneg (by omega)]
  have hI : (IntKind.i64.wrap i).tmod 12 = i % 12 := by rw [SX.wrap64 (by omega) (by omega), Int.tmod_eq_emod_of_nonneg (by omega)]
  have hQ : q.tmod 255 = q % 255 := Int.tmod_eq_emod_of_nonneg (by omega)
  have ok : okV (mk a 16) (mk b 12) (mk c 1000001) (mk d 16) (mk e 12) (mk f 48) (g % 21) := by
    obtain ⟨a0, a1⟩ := mk_bd a 16 (by decide) (by decide)
    obtain ⟨b0, b1⟩ := mk_bd b 12 (by decide) (by decide)
    obtain ⟨c0, c1⟩ := mk_bd c 1000001 (by decide) (by decide)
    obtain ⟨d0, d1⟩ := mk_bd d 16 (by decide) (by decide)
    obtain ⟨e0, e1⟩ := mk_bd e 12 (by decide) (by decide)
    obtain ⟨f0, f1⟩ := mk_bd f 48 (by decide) (by decide)
    unfold okV; omega
  have hbd := encL_bd ok
  obtain ⟨hD, hV⟩ := dec_enc ok
  have hbad := dec_bad ok
  have kc := c_CheckHello (mk a 16) (mk b 12) (mk c 1000001) (mk d 16) (mk e 12) (mk f 48) (g % 21)
  have hok : okH (mk a 16) (mk b 12) (mk c 1000001) (mk d 16) (mk e 12) (mk f 48) (g % 21) = true := by
    unfold okV at ok; simp [okH, okR, okB]; omega
  rw [hok] at kc
  simp only [if_true] at kc
  simp (config := { maxSteps := 20000000 }) [-Bool.exists_bool]
  simp only [← mk.eq_1, hG, hI, hQ]
  refine ⟨_, k5, rfl, fun _ => ⟨_, kc, rfl, fun _ => ⟨mk a 16, mk b 12, mk c 1000001, mk d 16, mk e 12, mk f 48, g % 21, 0, fun κ w' hh _ _ => ?_, ?_⟩⟩⟩
  · have := dec_obj hh (encL (mk a 16) (mk b 12) (mk c 1000001) (mk d 16) (mk e 12) (mk f 48) (g % 21)) ?_ 12 (by simp [encL]) hbd
    · rw [List.take_of_length_le (by simp [encL]), hD, hV] at this
      simpa using this
    · clear kc hok
      have w8 : (2 : Int) ^ min 8 IntKind.i64.bits = 256 := by decide
      have w16 : (2 : Int) ^ min 16 IntKind.i64.bits = 65536 := by decide
      have w24 : (2 : Int) ^ min 24 IntKind.i64.bits = 16777216 := by decide
      clear hh hbad hV hD hbd
      simp [encL, sumB, modB]
      simp only [← mk.eq_1, hG, hQ, w8, w16, w24, u8m]
      unfold okV at ok
      generalize mk a 16 = A, mk b 12 = B, mk c 1000001 = C, mk d 16 = D, mk e 12 = E, mk f 48 = F, g % 21 = G at *
      simp (disch := omega) only [SX.wrap64, Int.fdiv_eq_ediv_of_nonneg]
      have e3 : (16 * A + B) % 256 = 16 * A + B := by omega
      have e8 : (16 * D + E) % 256 = 16 * D + E := by omega
      have e9 : F % 256 = F := by omega
      have e10 : G % 256 = G := by omega
      simp only [e3, e8, e9, e10, Int.emod_add_emod, and_self, and_true, true_and]
  · clear kc hok
    refine ⟨⟨rfl, ?_⟩, ?_⟩
    · simp
    intro _ _ _ _ _ _ _ _
    refine ⟨fun hj => ?_, fun _ => ?_⟩
    · refine ⟨0, 0, 0, 0, 0, 0, 0, 5, fun κ w' hh _ _ => ?_, 0, 0, 0, 0, 0, 0, 0, 5, fun κ w' hh _ _ => ?_, ⟨0, 0, 0, 0, 0, 0, 0, fun κ w' hh _ _ => ?_⟩, rfl, rfl⟩
      · refine dec_mod ok hq 0 (by decide) hh ?_
        have w8 : (2 : Int) ^ min 8 IntKind.i64.bits = 256 := by decide
        have w16 : (2 : Int) ^ min 16 IntKind.i64.bits = 65536 := by decide
        have w24 : (2 : Int) ^ min 24 IntKind.i64.bits = 16777216 := by decide
        clear hh hbad hV hD hbd
        simp [encL, sumB, modB]
        simp only [← mk.eq_1, hG, hQ, w8, w16, w24, u8m]
        unfold okV at ok
        generalize mk a 16 = A, mk b 12 = B, mk c 1000001 = C, mk d 16 = D, mk e 12 = E, mk f 48 = F, g % 21 = G at *
        simp (disch := omega) only [SX.wrap64, Int.fdiv_eq_ediv_of_nonneg]
        have e3 : (16 * A + B) % 256 = 16 * A + B := by omega
        have e8 : (16 * D + E) % 256 = 16 * D + E := by omega
        have e9 : F % 256 = F := by omega
        have e10 : G % 256 = G := by omega
        simp only [e3, e8, e9, e10, Int.emod_add_emod, and_self, and_true, true_and]
        all_goals omega
      · exact dec_len hh (by rfl) 11 (by simp) (by decide)
      · exact dec_len hh (by rfl) 13 (by simp) (by decide)
    refine ⟨fun hj => ?_, fun _ => ?_⟩
    · refine ⟨0, 0, 0, 0, 0, 0, 0, 5, fun κ w' hh _ _ => ?_, 0, 0, 0, 0, 0, 0, 0, 5, fun κ w' hh _ _ => ?_, ⟨0, 0, 0, 0, 0, 0, 0, fun κ w' hh _ _ => ?_⟩, rfl, rfl⟩
      · refine dec_mod ok hq 1 (by decide) hh ?_
        have w8 : (2 : Int) ^ min 8 IntKind.i64.bits = 256 := by decide
        have w16 : (2 : Int) ^ min 16 IntKind.i64.bits = 65536 := by decide
        have w24 : (2 : Int) ^ min 24 IntKind.i64.bits = 16777216 := by decide
        clear hh hbad hV hD hbd
        simp [encL, sumB, modB]
        simp only [← mk.eq_1, hG, hQ, w8, w16, w24, u8m]
        unfold okV at ok
        generalize mk a 16 = A, mk b 12 = B, mk c 1000001 = C, mk d 16 = D, mk e 12 = E, mk f 48 = F, g % 21 = G at *
        simp (disch := omega) only [SX.wrap64, Int.fdiv_eq_ediv_of_nonneg]
        have e3 : (16 * A + B) % 256 = 16 * A + B := by omega
        have e8 : (16 * D + E) % 256 = 16 * D + E := by omega
        have e9 : F % 256 = F := by omega
        have e10 : G % 256 = G := by omega
        simp only [e3, e8, e9, e10, Int.emod_add_emod, and_self, and_true, true_and]
        all_goals omega
      · exact dec_len hh (by rfl) 11 (by simp) (by decide)
      · exact dec_len hh (by rfl) 13 (by simp) (by decide)
    refine ⟨fun hj => ?_, fun _ => ?_⟩
    · refine ⟨0, 0, 0, 0, 0, 0, 0, 5, fun κ w' hh _ _ => ?_, 0, 0, 0, 0, 0, 0, 0, 5, fun κ w' hh _ _ => ?_, ⟨0, 0, 0, 0, 0, 0, 0, fun κ w' hh _ _ => ?_⟩, rfl, rfl⟩
      · refine dec_mod ok hq 2 (by decide) hh ?_
        have w8 : (2 : Int) ^ min 8 IntKind.i64.bits = 256 := by decide
        have w16 : (2 : Int) ^ min 16 IntKind.i64.bits = 65536 := by decide
        have w24 : (2 : Int) ^ min 24 IntKind.i64.bits = 16777216 := by decide
        clear hh hbad hV hD hbd
        simp [encL, sumB, modB]
        simp only [← mk.eq_1, hG, hQ, w8, w16, w24, u8m]
        unfold okV at ok
        generalize mk a 16 = A, mk b 12 = B, mk c 1000001 = C, mk d 16 = D, mk e 12 = E, mk f 48 = F, g % 21 = G at *
        simp (disch := omega) only [SX.wrap64, Int.fdiv_eq_ediv_of_nonneg]
        have e3 : (16 * A + B) % 256 = 16 * A + B := by omega
        have e8 : (16 * D + E) % 256 = 16 * D + E := by omega
        have e9 : F % 256 = F := by omega
        have e10 : G % 256 = G := by omega
        simp only [e3, e8, e9, e10, Int.emod_add_emod, and_self, and_true, true_and]
        all_goals omega
      · exact dec_len hh (by rfl) 11 (by simp) (by decide)
      · exact dec_len hh (by rfl) 13 (by simp) (by decide)
    refine ⟨fun hj => ?_, fun _ => ?_⟩
    · refine ⟨0, 0, 0, 0, 0, 0, 0, 5, fun κ w' hh _ _ => ?_, 0, 0, 0, 0, 0, 0, 0, 5, fun κ w' hh _ _ => ?_, ⟨0, 0, 0, 0, 0, 0, 0, fun κ w' hh _ _ => ?_⟩, rfl, rfl⟩
      · refine dec_mod ok hq 3 (by decide) hh ?_
        have w8 : (2 : Int) ^ min 8 IntKind.i64.bits = 256 := by decide
        have w16 : (2 : Int) ^ min 16 IntKind.i64.bits = 65536 := by decide
        have w24 : (2 : Int) ^ min 24 IntKind.i64.bits = 16777216 := by decide
        clear hh hbad hV hD hbd
        simp [encL, sumB, modB]
        simp only [← mk.eq_1, hG, hQ, w8, w16, w24, u8m]
        unfold okV at ok
        generalize mk a 16 = A, mk b 12 = B, mk c 1000001 = C, mk d 16 = D, mk e 12 = E, mk f 48 = F, g % 21 = G at *
        simp (disch := omega) only [SX.wrap64, Int.fdiv_eq_ediv_of_nonneg]
        have e3 : (16 * A + B) % 256 = 16 * A + B := by omega
        have e8 : (16 * D + E) % 256 = 16 * D + E := by omega
        have e9 : F % 256 = F := by omega
        have e10 : G % 256 = G := by omega
        simp only [e3, e8, e9, e10, Int.emod_add_emod, and_self, and_true, true_and]
        all_goals omega
      · exact dec_len hh (by rfl) 11 (by simp) (by decide)
      · exact dec_len hh (by rfl) 13 (by simp) (by decide)
    refine ⟨fun hj => ?_, fun _ => ?_⟩
    · refine ⟨0, 0, 0, 0, 0, 0, 0, 5, fun κ w' hh _ _ => ?_, 0, 0, 0, 0, 0, 0, 0, 5, fun κ w' hh _ _ => ?_, ⟨0, 0, 0, 0, 0, 0, 0, fun κ w' hh _ _ => ?_⟩, rfl, rfl⟩
      · refine dec_mod ok hq 4 (by decide) hh ?_
        have w8 : (2 : Int) ^ min 8 IntKind.i64.bits = 256 := by decide
        have w16 : (2 : Int) ^ min 16 IntKind.i64.bits = 65536 := by decide
        have w24 : (2 : Int) ^ min 24 IntKind.i64.bits = 16777216 := by decide
        clear hh hbad hV hD hbd
        simp [encL, sumB, modB]
        simp only [← mk.eq_1, hG, hQ, w8, w16, w24, u8m]
        unfold okV at ok
        generalize mk a 16 = A, mk b 12 = B, mk c 1000001 = C, mk d 16 = D, mk e 12 = E, mk f 48 = F, g % 21 = G at *
        simp (disch := omega) only [SX.wrap64, Int.fdiv_eq_ediv_of_nonneg]
        have e3 : (16 * A + B) % 256 = 16 * A + B := by omega
        have e8 : (16 * D + E) % 256 = 16 * D + E := by omega
        have e9 : F % 256 = F := by omega
        have e10 : G % 256 = G := by omega
        simp only [e3, e8, e9, e10, Int.emod_add_emod, and_self, and_true, true_and]
        all_goals omega
      · exact dec_len hh (by rfl) 11 (by simp) (by decide)
      · exact dec_len hh (by rfl) 13 (by simp) (by decide)
    refine ⟨fun hj => ?_, fun _ => ?_⟩
    · refine ⟨0, 0, 0, 0, 0, 0, 0, 5, fun κ w' hh _ _ => ?_, 0, 0, 0, 0, 0, 0, 0, 5, fun κ w' hh _ _ => ?_, ⟨0, 0, 0, 0, 0, 0, 0, fun κ w' hh _ _ => ?_⟩, rfl, rfl⟩
      · refine dec_mod ok hq 5 (by decide) hh ?_
        have w8 : (2 : Int) ^ min 8 IntKind.i64.bits = 256 := by decide
        have w16 : (2 : Int) ^ min 16 IntKind.i64.bits = 65536 := by decide
        have w24 : (2 : Int) ^ min 24 IntKind.i64.bits = 16777216 := by decide
        clear hh hbad hV hD hbd
        simp [encL, sumB, modB]
        simp only [← mk.eq_1, hG, hQ, w8, w16, w24, u8m]
        unfold okV at ok
        generalize mk a 16 = A, mk b 12 = B, mk c 1000001 = C, mk d 16 = D, mk e 12 = E, mk f 48 = F, g % 21 = G at *
        simp (disch := omega) only [SX.wrap64, Int.fdiv_eq_ediv_of_nonneg]
        have e3 : (16 * A + B) % 256 = 16 * A + B := by omega
        have e8 : (16 * D + E) % 256 = 16 * D + E := by omega
        have e9 : F % 256 = F := by omega
        have e10 : G % 256 = G := by omega
        simp only [e3, e8, e9, e10, Int.emod_add_emod, and_self, and_true, true_and]
        all_goals omega
      · exact dec_len hh (by rfl) 11 (by simp) (by decide)
      · exact dec_len hh (by rfl) 13 (by simp) (by decide)
    refine ⟨fun hj => ?_, fun _ => ?_⟩
    · refine ⟨0, 0, 0, 0, 0, 0, 0, 5, fun κ w' hh _ _ => ?_, 0, 0, 0, 0, 0, 0, 0, 5, fun κ w' hh _ _ => ?_, ⟨0, 0, 0, 0, 0, 0, 0, fun κ w' hh _ _ => ?_⟩, rfl, rfl⟩
      · refine dec_mod ok hq 6 (by decide) hh ?_
        have w8 : (2 : Int) ^ min 8 IntKind.i64.bits = 256 := by decide
        have w16 : (2 : Int) ^ min 16 IntKind.i64.bits = 65536 := by decide
        have w24 : (2 : Int) ^ min 24 IntKind.i64.bits = 16777216 := by decide
        clear hh hbad hV hD hbd
        simp [encL, sumB, modB]
        simp only [← mk.eq_1, hG, hQ, w8, w16, w24, u8m]
        unfold okV at ok
        generalize mk a 16 = A, mk b 12 = B, mk c 1000001 = C, mk d 16 = D, mk e 12 = E, mk f 48 = F, g % 21 = G at *
        simp (disch := omega) only [SX.wrap64, Int.fdiv_eq_ediv_of_nonneg]
        have e3 : (16 * A + B) % 256 = 16 * A + B := by omega
        have e8 : (16 * D + E) % 256 = 16 * D + E := by omega
        have e9 : F % 256 = F := by omega
        have e10 : G % 256 = G := by omega
        simp only [e3, e8, e9, e10, Int.emod_add_emod, and_self, and_true, true_and]
        all_goals omega
      · exact dec_len hh (by rfl) 11 (by simp) (by decide)
      · exact dec_len hh (by rfl) 13 (by simp) (by decide)
    refine ⟨fun hj => ?_, fun _ => ?_⟩
    · refine ⟨0, 0, 0, 0, 0, 0, 0, 5, fun κ w' hh _ _ => ?_, 0, 0, 0, 0, 0, 0, 0, 5, fun κ w' hh _ _ => ?_, ⟨0, 0, 0, 0, 0, 0, 0, fun κ w' hh _ _ => ?_⟩, rfl, rfl⟩
      · refine dec_mod ok hq 7 (by decide) hh ?_
        have w8 : (2 : Int) ^ min 8 IntKind.i64.bits = 256 := by decide
        have w16 : (2 : Int) ^ min 16 IntKind.i64.bits = 65536 := by decide
        have w24 : (2 : Int) ^ min 24 IntKind.i64.bits = 16777216 := by decide
        clear hh hbad hV hD hbd
        simp [encL, sumB, modB]
        simp only [← mk.eq_1, hG, hQ, w8, w16, w24, u8m]
        unfold okV at ok
        generalize mk a 16 = A, mk b 12 = B, mk c 1000001 = C, mk d 16 = D, mk e 12 = E, mk f 48 = F, g % 21 = G at *
        simp (disch := omega) only [SX.wrap64, Int.fdiv_eq_ediv_of_nonneg]
        have e3 : (16 * A + B) % 256 = 16 * A + B := by omega
        have e8 : (16 * D + E) % 256 = 16 * D + E := by omega
        have e9 : F % 256 = F := by omega
        have e10 : G % 256 = G := by omega
        simp only [e3, e8, e9, e10, Int.emod_add_emod, and_self, and_true, true_and]
        all_goals omega
      · exact dec_len hh (by rfl) 11 (by simp) (by decide)
      · exact dec_len hh (by rfl) 13 (by simp) (by decide)
    refine ⟨fun hj => ?_, fun _ => ?_⟩
    · refine ⟨0, 0, 0, 0, 0, 0, 0, 5, fun κ w' hh _ _ => ?_, 0, 0, 0, 0, 0, 0, 0, 5, fun κ w' hh _ _ => ?_, ⟨0, 0, 0, 0, 0, 0, 0, fun κ w' hh _ _ => ?_⟩, rfl, rfl⟩
      · refine dec_mod ok hq 8 (by decide) hh ?_
        have w8 : (2 : Int) ^ min 8 IntKind.i64.bits = 256 := by decide
        have w16 : (2 : Int) ^ min 16 IntKind.i64.bits = 65536 := by decide
        have w24 : (2 : Int) ^ min 24 IntKind.i64.bits = 16777216 := by decide
        clear hh hbad hV hD hbd
        simp [encL, sumB, modB]
        simp only [← mk.eq_1, hG, hQ, w8, w16, w24, u8m]
        unfold okV at ok
        generalize mk a 16 = A, mk b 12 = B, mk c 1000001 = C, mk d 16 = D, mk e 12 = E, mk f 48 = F, g % 21 = G at *
        simp (disch := omega) only [SX.wrap64, Int.fdiv_eq_ediv_of_nonneg]
        have e3 : (16 * A + B) % 256 = 16 * A + B := by omega
        have e8 : (16 * D + E) % 256 = 16 * D + E := by omega
        have e9 : F % 256 = F := by omega
        have e10 : G % 256 = G := by omega
        simp only [e3, e8, e9, e10, Int.emod_add_emod, and_self, and_true, true_and]
        all_goals omega
      · exact dec_len hh (by rfl) 11 (by simp) (by decide)
      · exact dec_len hh (by rfl) 13 (by simp) (by decide)
    refine ⟨fun hj => ?_, fun _ => ?_⟩
    · refine ⟨0, 0, 0, 0, 0, 0, 0, 5, fun κ w' hh _ _ => ?_, 0, 0, 0, 0, 0, 0, 0, 5, fun κ w' hh _ _ => ?_, ⟨0, 0, 0, 0, 0, 0, 0, fun κ w' hh _ _ => ?_⟩, rfl, rfl⟩
      · refine dec_mod ok hq 9 (by decide) hh ?_
        have w8 : (2 : Int) ^ min 8 IntKind.i64.bits = 256 := by decide
        have w16 : (2 : Int) ^ min 16 IntKind.i64.bits = 65536 := by decide
        have w24 : (2 : Int) ^ min 24 IntKind.i64.bits = 16777216 := by decide
        clear hh hbad hV hD hbd
        simp [encL, sumB, modB]
        simp only [← mk.eq_1, hG, hQ, w8, w16, w24, u8m]
        unfold okV at ok
        generalize mk a 16 = A, mk b 12 = B, mk c 1000001 = C, mk d 16 = D, mk e 12 = E, mk f 48 = F, g % 21 = G at *
        simp (disch := omega) only [SX.wrap64, Int.fdiv_eq_ediv_of_nonneg]
        have e3 : (16 * A + B) % 256 = 16 * A + B := by omega
        have e8 : (16 * D + E) % 256 = 16 * D + E := by omega
        have e9 : F % 256 = F := by omega
        have e10 : G % 256 = G := by omega
        simp only [e3, e8, e9, e10, Int.emod_add_emod, and_self, and_true, true_and]
        all_goals omega
      · exact dec_len hh (by rfl) 11 (by simp) (by decide)
      · exact dec_len hh (by rfl) 13 (by simp) (by decide)
    refine ⟨fun hj => ?_, fun _ => ?_⟩
    · refine ⟨0, 0, 0, 0, 0, 0, 0, 5, fun κ w' hh _ _ => ?_, 0, 0, 0, 0, 0, 0, 0, 5, fun κ w' hh _ _ => ?_, ⟨0, 0, 0, 0, 0, 0, 0, fun κ w' hh _ _ => ?_⟩, rfl, rfl⟩
      · refine dec_mod ok hq 10 (by decide) hh ?_
        have w8 : (2 : Int) ^ min 8 IntKind.i64.bits = 256 := by decide
        have w16 : (2 : Int) ^ min 16 IntKind.i64.bits = 65536 := by decide
        have w24 : (2 : Int) ^ min 24 IntKind.i64.bits = 16777216 := by decide
        clear hh hbad hV hD hbd
        simp [encL, sumB, modB]
        simp only [← mk.eq_1, hG, hQ, w8, w16, w24, u8m]
        unfold okV at ok
        generalize mk a 16 = A, mk b 12 = B, mk c 1000001 = C, mk d 16 = D, mk e 12 = E, mk f 48 = F, g % 21 = G at *
        simp (disch := omega) only [SX.wrap64, Int.fdiv_eq_ediv_of_nonneg]
        have e3 : (16 * A + B) % 256 = 16 * A + B := by omega
        have e8 : (16 * D + E) % 256 = 16 * D + E := by omega
        have e9 : F % 256 = F := by omega
        have e10 : G % 256 = G := by omega
        simp only [e3, e8, e9, e10, Int.emod_add_emod, and_self, and_true, true_and]
        all_goals omega
      · exact dec_len hh (by rfl) 11 (by simp) (by decide)
      · exact dec_len hh (by rfl) 13 (by simp) (by decide)
    refine ⟨by omega, ?_⟩
    · refine ⟨0, 0, 0, 0, 0, 0, 0, 5, fun κ w' hh _ _ => ?_, 0, 0, 0, 0, 0, 0, 0, 5, fun κ w' hh _ _ => ?_, ⟨0, 0, 0, 0, 0, 0, 0, fun κ w' hh _ _ => ?_⟩, rfl, rfl⟩
      · refine dec_mod ok hq 11 (by decide) hh ?_
        have w8 : (2 : Int) ^ min 8 IntKind.i64.bits = 256 := by decide
        have w16 : (2 : Int) ^ min 16 IntKind.i64.bits = 65536 := by decide
        have w24 : (2 : Int) ^ min 24 IntKind.i64.bits = 16777216 := by decide
        clear hh hbad hV hD hbd
        simp [encL, sumB, modB]
        simp only [← mk.eq_1, hG, hQ, w8, w16, w24, u8m]
        unfold okV at ok
        generalize mk a 16 = A, mk b 12 = B, mk c 1000001 = C, mk d 16 = D, mk e 12 = E, mk f 48 = F, g % 21 = G at *
        simp (disch := omega) only [SX.wrap64, Int.fdiv_eq_ediv_of_nonneg]
        have e3 : (16 * A + B) % 256 = 16 * A + B := by omega
        have e8 : (16 * D + E) % 256 = 16 * D + E := by omega
        have e9 : F % 256 = F := by omega
        have e10 : G % 256 = G := by omega
        simp only [e3, e8, e9, e10, Int.emod_add_emod, and_self, and_true, true_and]
        all_goals omega
      · exact dec_len hh (by rfl) 11 (by simp) (by decide)
      · exact dec_len hh (by rfl) 13 (by simp) (by decide)
end Go.Proofs.Y18
