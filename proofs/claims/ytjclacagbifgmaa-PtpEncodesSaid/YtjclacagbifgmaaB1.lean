/- A part of the proof: see the text that states the theorem. -/
import Derived.Test.YtjclacagbifgmaaB0
import Derived.Test.YtjclacagbifgmaaA2
import Derived.Test.YtjclacagbifgmaaA5
import Derived.Test.YtjclacagbifgmaaAEa
import Derived.Test.YtjclacagbifgmaaAEa
import Derived.Test.YtjclacagbifgmaaAEa
import Derived.Test.YtjclacagbifgmaaAEb
import Derived.Test.YtjclacagbifgmaaAEb
import Derived.Test.YtjclacagbifgmaaAEb
set_option linter.unusedSimpArgs false
set_option linter.unusedVariables false
set_option linter.unusedSectionVars false
noncomputable section
namespace Go.Proofs.Y10
open Go Go.SX Go.RowKit
theorem OwnRow.of_obj {P : Program} {ρ : Env} {κ : Kap} {w w' : World} {H : Heap} {id n : Nat} {cs : List SC} {pat : List CK} {E : TypeId} {rows : List (List Dat)} (h : HeapOk ρ κ (Bk.at P w.heap.size) H w')
    (ho : H.obj? id = some (.cells cs E (some pat.length))) (hp : 0 < pat.length) (hn : rows.length = n) (hc : cs.map (SC.den ρ κ) = arrCells pat rows) : OwnRow w w' E pat rows false ((SC.gslice id 0 n 0).den ρ κ) := by
  obtain ⟨⟨b, h1, sp, h2, h3, h4⟩, h5, _⟩ := h.obj id _ ho
  have hl : cs.length = n * pat.length := by rw [← hn, ← arrCells_length pat rows, ← hc, List.length_map]
  subst hn
  refine ⟨⟨arrCells_length pat rows, .inr ⟨κ.o id, κ.cap id, _, by simp only [SC.den]; rfl, h5, by rw [h1, h2], ?_, h4, ?_, ?_⟩⟩, by simp [SC.den]⟩
  · have : rows.length * pat.length ≤ κ.cap id * pat.length := by omega
    exact Nat.le_of_mul_le_mul_right this hp
  · simp only [List.size_toArray, List.length_append, List.length_map]; exact h3
  · simp only [hc]
    rw [List.take_left' (by rw [arrCells_length])]
def byt (x : Int) (k : Nat) : Int := x / 256 ^ k % 256
def be (x : Int) : Nat → List Int
  | 0 => []
  | k + 1 => byt x k :: be x k
theorem u8w (x : Int) : IntKind.u8.wrap x = x % 256 := by
  simp only [IntKind.wrap, IntKind.bits, IntKind.signed]; simp
theorem sh7 (x : Int) : byt (x.fdiv (2 ^ min 56 IntKind.i64.bits)) 0 = byt x 7 := by rw [byt, byt, Int.fdiv_eq_ediv_of_nonneg _ (by decide)]; simp [IntKind.bits]
theorem sh6 (x : Int) : byt (x.fdiv (2 ^ min 48 IntKind.i64.bits)) 0 = byt x 6 := by rw [byt, byt, Int.fdiv_eq_ediv_of_nonneg _ (by decide)]; simp [IntKind.bits]
theorem sh5 (x : Int) : byt (x.fdiv (2 ^ min 40 IntKind.i64.bits)) 0 = byt x 5 := by rw [byt, byt, Int.fdiv_eq_ediv_of_nonneg _ (by decide)]; simp [IntKind.bits]
theorem sh4 (x : Int) : byt (x.fdiv (2 ^ min 32 IntKind.i64.bits)) 0 = byt x 4 := by rw [byt, byt, Int.fdiv_eq_ediv_of_nonneg _ (by decide)]; simp [IntKind.bits]
theorem sh3 (x : Int) : byt (x.fdiv (2 ^ min 24 IntKind.i64.bits)) 0 = byt x 3 := by rw [byt, byt, Int.fdiv_eq_ediv_of_nonneg _ (by decide)]; simp [IntKind.bits]
theorem sh2 (x : Int) : byt (x.fdiv (2 ^ min 16 IntKind.i64.bits)) 0 = byt x 2 := by rw [byt, byt, Int.fdiv_eq_ediv_of_nonneg _ (by decide)]; simp [IntKind.bits]
theorem sh1 (x : Int) : byt (x.fdiv (2 ^ min 8 IntKind.i64.bits)) 0 = byt x 1 := by rw [byt, byt, Int.fdiv_eq_ediv_of_nonneg _ (by decide)]; simp [IntKind.bits]
theorem sh0 (x : Int) : IntKind.u8.wrap x = byt x 0 := by rw [u8w, byt]; simp
def headL (m : M) (sz : Int) : List Int := [m.kd, m.dom] ++ be sz 2 ++ be m.cor 8 ++ be m.sid 6 ++ be m.sp 2 ++ be m.seq 2
def tailL (m : M) : List Int :=
  if m.kd = 8 then be m.tim 8 ++ be m.ppb 4 else if m.kd = 3 ∨ m.kd = 10 then be m.tim 8 ++ be m.rid 6 ++ be m.rp 2
  else if m.kd = 11 then be m.p1 1 ++ be m.cl 1 ++ be m.ac 1 ++ be m.va 2 ++ be m.p2 1 ++ be m.mid 6 ++ be m.st 2 else []
def bytesM (m : M) : List Int := headL m (szOf m.kd) ++ tailL m
def rowsB (l : List Int) : List (List Dat) := l.map fun x => [.i x]
abbrev vE (v : Value) (e : Int) : Value := .tuple #[v, vI e]
theorem c_Bytes (m : M) (h : right m) (w : World) : Calls Try.prog 21 #[vM m] w fun e w' => ∃ v, e = .returned v ∧ OwnRow w w' 5 pu (rowsB (bytesM m)) false v ∧ Below w.heap.size w w' := by
  have := calls_of_tree t_Bytes (ρ := mkEnv m.env) (κ := kap0) (w := w)
    (Φ := fun l _ ρ => ∃ id n cs, l.v = .a (.c (.gslice id 0 n 0)) ∧ l.st.H.obj? id = some (.cells cs 5 (some 1)) ∧ n = (bytesM m).length ∧ ∀ κ, cs.map (SC.den ρ κ) = arrCells pu (rowsB (bytesM m))) (heapOk_nil ..) ?_
  · refine Calls.mono this fun e w' ⟨l, L', ρ', κ', he, ⟨id, n, cs, e1, e2, e3, e4⟩, _, hh, hb⟩ => ?_
    have ho := OwnRow.of_obj (w := w) (pat := pu) (n := n) hh e2 (by decide) (by rw [e3]; simp [rowsB]) (e4 κ')
    rw [e1] at he
    exact ⟨_, he, ho, hb⟩
  obtain ⟨kd, dom, cor, sid, sp, seq, tim, ppb, rid, rp, p1, cl, ac, va, p2, mid, st⟩ := m
  obtain ⟨⟨⟨a1, a2⟩, ⟨a3, a4⟩, ⟨a5, a6⟩, ⟨a7, a8⟩, ⟨a9, a10⟩⟩, ht⟩ := h
  simp only [] at *
  have hk : kd = 0 ∨ kd = 2 ∨ kd = 3 ∨ kd = 8 ∨ kd = 10 ∨ kd = 11 := by
    rcases ht with ⟨hk, _⟩ | ⟨hk, _⟩ | ⟨hk, _⟩ | ⟨hk, _⟩ <;> simp only [] at hk <;> omega
  clear ht
  have ed : byt dom 0 = dom := by simp [byt]; omega
  rcases hk with hk | hk | hk | hk | hk | hk <;> subst hk <;> simp <;> refine ⟨_, _, ⟨rfl, rfl⟩, _, rfl, by simp [bytesM, headL, tailL, be, szOf], fun κ => ?_⟩ <;>
    simp [arrCells, rowCells, pu, rowsB, CK.den, bytesM, headL, tailL, be, szOf, sh0, sh1, sh2, sh3, sh4, sh5, sh6, sh7, ed] <;> decide
theorem c_Encode (m : M) (h : right m) (w : World) : Calls Try.prog 18 #[vM m] w fun e w' => ∃ v, e = .returned (vE v 0) ∧ OwnRow w w' 5 pu (rowsB (bytesM m)) false v ∧ Below w.heap.size w w' := by
  have key : ∀ (k : Int) (t : T) (hk : m.kd = k) (ht : callTreeF C3 300 [.cmp .eql (.v 0) (.lit k)] 18 [msg 0] [] 20 = some t)
    (hd : Den C3.P (Bk.at C3.P w.heap.size) w t [] (mkEnv m.env) (fun l _ ρ => ∃ id n cs, l.v = .tup [.c (.gslice id 0 n 0), .c (.int .i64 (.lit 0))] ∧ l.st.H.obj? id = some (.cells cs 5 (some 1)) ∧ n = (bytesM m).length ∧ ∀ κ, cs.map (SC.den ρ κ) = arrCells pu (rowsB (bytesM m)))),
      Calls Try.prog 18 #[vM m] w fun e w' => ∃ v, e = .returned (vE v 0) ∧ OwnRow w w' 5 pu (rowsB (bytesM m)) false v ∧ Below w.heap.size w w' := by
    intro k t hk ht hd
    have := calls_of_treeF ht (ρ := mkEnv m.env) (κ := kap0) (w := w) (fun p hp => ?_) (heapOk_nil ..) hd
    · refine Calls.mono this fun e w' ⟨l, L', ρ', κ', he, ⟨id, n, cs, e1, e2, e3, e4⟩, _, hh, hb⟩ => ?_
      have ho := OwnRow.of_obj (w := w) (pat := pu) (n := n) hh e2 (by decide) (by rw [e3]; simp [rowsB]) (e4 κ')
      rw [e1] at he
      exact ⟨_, he, ho, hb⟩
    · simp only [List.mem_singleton] at hp; subst hp; simp [hk]
  have hr := h
  obtain ⟨kd, dom, cor, sid, sp, seq, tim, ppb, rid, rp, p1, cl, ac, va, p2, mid, st⟩ := m
  obtain ⟨⟨⟨a1, a2⟩, ⟨a3, a4⟩, ⟨a5, a6⟩, ⟨a7, a8⟩, ⟨a9, a10⟩⟩, ht⟩ := h
  simp only [] at *
  have ed : byt dom 0 = dom := by simp [byt]; omega
  have hk : kd = 0 ∨ kd = 2 ∨ kd = 3 ∨ kd = 8 ∨ kd = 10 ∨ kd = 11 := by
    rcases ht with ⟨hk, _⟩ | ⟨hk, _⟩ | ⟨hk, _⟩ | ⟨hk, _⟩ <;> simp only [] at hk <;> omega
  clear ht
  rcases hk with hk | hk | hk | hk | hk | hk <;> subst hk
  · exact key 0 _ rfl t_Encode0 (by simp [-Bool.exists_bool]; refine ⟨0, fun _ w1 _ _ _ => c_Check1 _ hr w1, rfl, fun _ => ⟨_, fun _ w1 _ _ _ => c_Size 0 w1, _, _, ⟨rfl, rfl⟩, _, rfl, by simp [bytesM, headL, tailL, be, szOf], fun κ => ?_⟩⟩; simp [arrCells, rowCells, pu, rowsB, CK.den, bytesM, headL, tailL, be, szOf, sh0, sh1, sh2, sh3, sh4, sh5, sh6, sh7, ed])
  · exact key 2 _ rfl t_Encode2 (by simp [-Bool.exists_bool]; refine ⟨0, fun _ w1 _ _ _ => c_Check1 _ hr w1, rfl, fun _ => ⟨_, fun _ w1 _ _ _ => c_Size 2 w1, _, _, ⟨rfl, rfl⟩, _, rfl, by simp [bytesM, headL, tailL, be, szOf], fun κ => ?_⟩⟩; simp [arrCells, rowCells, pu, rowsB, CK.den, bytesM, headL, tailL, be, szOf, sh0, sh1, sh2, sh3, sh4, sh5, sh6, sh7, ed])
  · exact key 3 _ rfl t_Encode3 (by simp [-Bool.exists_bool]; refine ⟨0, fun _ w1 _ _ _ => c_Check1 _ hr w1, rfl, fun _ => ⟨_, fun _ w1 _ _ _ => c_Size 3 w1, _, _, ⟨rfl, rfl⟩, _, rfl, by simp [bytesM, headL, tailL, be, szOf], fun κ => ?_⟩⟩; simp [arrCells, rowCells, pu, rowsB, CK.den, bytesM, headL, tailL, be, szOf, sh0, sh1, sh2, sh3, sh4, sh5, sh6, sh7, ed])
  · exact key 8 _ rfl t_Encode8 (by simp [-Bool.exists_bool]; refine ⟨0, fun _ w1 _ _ _ => c_Check1 _ hr w1, rfl, fun _ => ⟨_, fun _ w1 _ _ _ => c_Size 8 w1, _, _, ⟨rfl, rfl⟩, _, rfl, by simp [bytesM, headL, tailL, be, szOf], fun κ => ?_⟩⟩; simp [arrCells, rowCells, pu, rowsB, CK.den, bytesM, headL, tailL, be, szOf, sh0, sh1, sh2, sh3, sh4, sh5, sh6, sh7, ed])
  · exact key 10 _ rfl t_Encode10 (by simp [-Bool.exists_bool]; refine ⟨0, fun _ w1 _ _ _ => c_Check1 _ hr w1, rfl, fun _ => ⟨_, fun _ w1 _ _ _ => c_Size 10 w1, _, _, ⟨rfl, rfl⟩, _, rfl, by simp [bytesM, headL, tailL, be, szOf], fun κ => ?_⟩⟩; simp [arrCells, rowCells, pu, rowsB, CK.den, bytesM, headL, tailL, be, szOf, sh0, sh1, sh2, sh3, sh4, sh5, sh6, sh7, ed])
  · exact key 11 _ rfl t_Encode11 (by simp [-Bool.exists_bool]; refine ⟨0, fun _ w1 _ _ _ => c_Check1 _ hr w1, rfl, fun _ => ⟨_, fun _ w1 _ _ _ => c_Size 11 w1, _, _, ⟨rfl, rfl⟩, _, rfl, by simp [bytesM, headL, tailL, be, szOf], fun κ => ?_⟩⟩; simp [arrCells, rowCells, pu, rowsB, CK.den, bytesM, headL, tailL, be, szOf, sh0, sh1, sh2, sh3, sh4, sh5, sh6, sh7, ed])
theorem c_Encode0 (m : M) (h : ¬right m) (w : World) : Calls Try.prog 18 #[vM m] w fun e w' => e = .returned (vE (.slice none 0 0) 200) ∧ Below w.heap.size w w' := by
  refine calls_of t_EncodeE (ρ := mkEnv m.env) (κ := kap0) (w := w) (heapOk_nil ..) ?_
  have k := c_Check0 m h
  obtain ⟨kd, dom, cor, sid, sp, seq, tim, ppb, rid, rp, p1, cl, ac, va, p2, mid, st⟩ := m
  simp [-Bool.exists_bool]
  refine ⟨200, k, fun _ => ⟨rfl, rfl⟩, by decide⟩
end Go.Proofs.Y10
