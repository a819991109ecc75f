/- A part of the proof: see the text that states the theorem. -/
import Derived.Test.YtjclacagbifgmaaBA
set_option linter.unusedSimpArgs false
set_option linter.unusedVariables false
set_option linter.unusedSectionVars false
noncomputable section
namespace Go.Proofs.Y10
open Go Go.SX Go.RowKit
/-- a slice of bytes, whose capacity is no less than its length -/
def BSlice (w : World) (l : List Int) (v : Value) : Prop := SliceIs w pu (rowsB l) v ∧ ∀ p n c, v = .slice p n c → n ≤ c
theorem or8 {X y : Int} (h1 : -36028797018963968 ≤ X) (h2 : X < 36028797018963968) (h3 : 0 ≤ y) (h4 : y < 256) : bits .or .i64 (IntKind.i64.wrap (X * 2 ^ min 8 IntKind.i64.bits)) (IntKind.i64.wrap y) = X * 256 + y := by
  have := ow_eq h1 h2 h3 h4
  rw [ow] at this
  exact this
theorem or0 {y : Int} (h3 : 0 ≤ y) (h4 : y < 256) : bits .or .i64 0 (IntKind.i64.wrap y) = y := by
  have := or8 (X := 0) (by decide) (by decide) h3 h4
  have e : IntKind.i64.wrap (0 * 2 ^ min 8 IntKind.i64.bits) = 0 := by decide
  rw [e] at this
  omega
theorem orm {y : Int} (h3 : 0 ≤ y) (h4 : y < 256) : bits .or .i64 (-256) (IntKind.i64.wrap y) = -256 + y := by
  have := or8 (X := -1) (by decide) (by decide) h3 h4
  have e : IntKind.i64.wrap ((-1) * 2 ^ min 8 IntKind.i64.bits) = -256 := by decide
  rw [e] at this
  omega
theorem calls_ofF {C : Cfg} {fuel : Nat} {F : List BE} {f : FuncId} {args : List SV} {H : Heap} {n : Nat} {t : T} (h : callTreeF C fuel F f args H n = some t) {ρ : Env} {κ : Kap} {w : World} {res : Value} (hF : ∀ p ∈ F, p.den ρ = true)
    (hH : HeapOk ρ κ (Bk.at C.P w.heap.size) H w) (hd : DenV C.P (Bk.at C.P w.heap.size) w (fun v => v = res) t [] ρ) : Calls C.P f (args.map (SV.den ρ κ)).toArray w fun e w' => e = .returned res ∧ Below w.heap.size w w' :=
  (calls_of_treeF h hF hH (den_of_denV _ _ _ hd)).mono fun e w' ⟨l, _, _, κ', h1, h2, _, _, h3⟩ => ⟨by rw [h1, h2 κ'], h3⟩
def num : List Int → Int → Int
  | [], a => a
  | x :: l, a => num l (a * 256 + x)
def sg (x : Int) : Int := if x < 128 then 0 else -1
/-- the message that some bytes tell -/
def parse (l : List Int) : M :=
  let b : M := ⟨l.getD 0 0, l.getD 1 0, num ((l.drop 4).take 8) (sg (l.getD 4 0)), num ((l.drop 12).take 6) 0, num ((l.drop 18).take 2) 0, num ((l.drop 20).take 2) 0, 0, 0, 0, 0, 0, 0, 0, 0, 0, 0, 0⟩
  let t := num ((l.drop 22).take 8) (sg (l.getD 22 0))
  if l.getD 0 0 = 8 then { b with tim := t, ppb := num ((l.drop 30).take 4) (sg (l.getD 30 0)) }
  else if l.getD 0 0 = 3 ∨ l.getD 0 0 = 10 then { b with tim := t, rid := num ((l.drop 30).take 6) 0, rp := num ((l.drop 36).take 2) 0 }
  else if l.getD 0 0 = 11 then { b with p1 := l.getD 22 0, cl := l.getD 23 0, ac := l.getD 24 0, va := num ((l.drop 25).take 2) 0, p2 := l.getD 27 0, mid := num ((l.drop 28).take 6) 0, st := num ((l.drop 34).take 2) 0 }
  else b
abbrev M0 : M := ⟨0, 0, 0, 0, 0, 0, 0, 0, 0, 0, 0, 0, 0, 0, 0, 0, 0⟩
theorem wz (k : Int) (h : k = 0 ∨ k = 2 ∨ k = 3 ∨ k = 8 ∨ k = 10 ∨ k = 11) : IntKind.i64.wrap k = k := by
  rcases h with rfl | rfl | rfl | rfl | rfl | rfl <;> decide
theorem wz0 : IntKind.i64.wrap 0 = 0 := by decide
theorem l22 {l : List Int} (h : l.length = 22) : ∃ a0 a1 a2 a3 a4 a5 a6 a7 a8 a9 a10 a11 a12 a13 a14 a15 a16 a17 a18 a19 a20 a21, l = a0 :: a1 :: a2 :: a3 :: a4 :: a5 :: a6 :: a7 :: a8 :: a9 :: a10 :: a11 :: a12 :: a13 :: a14 :: a15 :: a16 :: a17 :: a18 :: a19 :: a20 :: a21 :: [] := by
  match l, h with
  | a0 :: a1 :: a2 :: a3 :: a4 :: a5 :: a6 :: a7 :: a8 :: a9 :: a10 :: a11 :: a12 :: a13 :: a14 :: a15 :: a16 :: a17 :: a18 :: a19 :: a20 :: a21 :: [], _ => exact ⟨_, _, _, _, _, _, _, _, _, _, _, _, _, _, _, _, _, _, _, _, _, _, rfl⟩
theorem l38 {l : List Int} (h : l.length = 38) : ∃ a0 a1 a2 a3 a4 a5 a6 a7 a8 a9 a10 a11 a12 a13 a14 a15 a16 a17 a18 a19 a20 a21 a22 a23 a24 a25 a26 a27 a28 a29 a30 a31 a32 a33 a34 a35 a36 a37, l = a0 :: a1 :: a2 :: a3 :: a4 :: a5 :: a6 :: a7 :: a8 :: a9 :: a10 :: a11 :: a12 :: a13 :: a14 :: a15 :: a16 :: a17 :: a18 :: a19 :: a20 :: a21 :: a22 :: a23 :: a24 :: a25 :: a26 :: a27 :: a28 :: a29 :: a30 :: a31 :: a32 :: a33 :: a34 :: a35 :: a36 :: a37 :: [] := by
  match l, h with
  | a0 :: a1 :: a2 :: a3 :: a4 :: a5 :: a6 :: a7 :: a8 :: a9 :: a10 :: a11 :: a12 :: a13 :: a14 :: a15 :: a16 :: a17 :: a18 :: a19 :: a20 :: a21 :: a22 :: a23 :: a24 :: a25 :: a26 :: a27 :: a28 :: a29 :: a30 :: a31 :: a32 :: a33 :: a34 :: a35 :: a36 :: a37 :: [], _ => exact ⟨_, _, _, _, _, _, _, _, _, _, _, _, _, _, _, _, _, _, _, _, _, _, _, _, _, _, _, _, _, _, _, _, _, _, _, _, _, _, rfl⟩
theorem l34 {l : List Int} (h : l.length = 34) : ∃ a0 a1 a2 a3 a4 a5 a6 a7 a8 a9 a10 a11 a12 a13 a14 a15 a16 a17 a18 a19 a20 a21 a22 a23 a24 a25 a26 a27 a28 a29 a30 a31 a32 a33, l = a0 :: a1 :: a2 :: a3 :: a4 :: a5 :: a6 :: a7 :: a8 :: a9 :: a10 :: a11 :: a12 :: a13 :: a14 :: a15 :: a16 :: a17 :: a18 :: a19 :: a20 :: a21 :: a22 :: a23 :: a24 :: a25 :: a26 :: a27 :: a28 :: a29 :: a30 :: a31 :: a32 :: a33 :: [] := by
  match l, h with
  | a0 :: a1 :: a2 :: a3 :: a4 :: a5 :: a6 :: a7 :: a8 :: a9 :: a10 :: a11 :: a12 :: a13 :: a14 :: a15 :: a16 :: a17 :: a18 :: a19 :: a20 :: a21 :: a22 :: a23 :: a24 :: a25 :: a26 :: a27 :: a28 :: a29 :: a30 :: a31 :: a32 :: a33 :: [], _ => exact ⟨_, _, _, _, _, _, _, _, _, _, _, _, _, _, _, _, _, _, _, _, _, _, _, _, _, _, _, _, _, _, _, _, _, _, rfl⟩
theorem l36 {l : List Int} (h : l.length = 36) : ∃ a0 a1 a2 a3 a4 a5 a6 a7 a8 a9 a10 a11 a12 a13 a14 a15 a16 a17 a18 a19 a20 a21 a22 a23 a24 a25 a26 a27 a28 a29 a30 a31 a32 a33 a34 a35, l = a0 :: a1 :: a2 :: a3 :: a4 :: a5 :: a6 :: a7 :: a8 :: a9 :: a10 :: a11 :: a12 :: a13 :: a14 :: a15 :: a16 :: a17 :: a18 :: a19 :: a20 :: a21 :: a22 :: a23 :: a24 :: a25 :: a26 :: a27 :: a28 :: a29 :: a30 :: a31 :: a32 :: a33 :: a34 :: a35 :: [] := by
  match l, h with
  | a0 :: a1 :: a2 :: a3 :: a4 :: a5 :: a6 :: a7 :: a8 :: a9 :: a10 :: a11 :: a12 :: a13 :: a14 :: a15 :: a16 :: a17 :: a18 :: a19 :: a20 :: a21 :: a22 :: a23 :: a24 :: a25 :: a26 :: a27 :: a28 :: a29 :: a30 :: a31 :: a32 :: a33 :: a34 :: a35 :: [], _ => exact ⟨_, _, _, _, _, _, _, _, _, _, _, _, _, _, _, _, _, _, _, _, _, _, _, _, _, _, _, _, _, _, _, _, _, _, _, _, rfl⟩
end Go.Proofs.Y10
