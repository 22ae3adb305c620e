/-
  A grid as an argument: opened, copied, compared, marked.
-/
import Derived.Test.YtknppcgoooaaaaaGridP
import Derived.Lib.SmallJoins
namespace Go.Proofs.Ytknppcgoooaaaaa
open Go.ChangeShapes Go.WideShapes Go.ChangeAt Go.RowKit Go.Deep
set_option linter.unusedVariables false

def GridA (w : World) (R C S : Int) (A : Option Addr) (n : Nat) (xs : List Int) : Prop :=
  Ints w A n xs ∧ (-9223372036854775808 ≤ R ∧ R ≤ 9223372036854775807) ∧ (-9223372036854775808 ≤ C ∧ C ≤ 9223372036854775807) ∧ (-9223372036854775808 ≤ S ∧ S ≤ 9223372036854775807)
theorem GridA.below {w w' : World} {R C S : Int} {A : Option Addr} {n : Nat} {xs : List Int} (h : GridA w R C S A n xs) (hb : Below w.heap.size w w') : GridA w' R C S A n xs := ⟨h.1.below hb, h.2⟩
theorem GridA.to {w w' : World} {R C S : Int} {A B : Option Addr} {n : Nat} {xs : List Int} (h : GridA w R C S A n xs) (hi : Ints w' B n xs) : GridA w' R C S B n xs := ⟨hi, h.2⟩
theorem GridA.old {W w w' : World} {R C S : Int} {A : Option Addr} {n : Nat} {xs : List Int} (h : GridA w R C S A n xs) {r : Option Nat} (hg : w.grownBy w' r) (hW : GridA W R C S A n xs) (hr : ∀ g, r = some g → W.heap.size ≤ g) : GridA w' R C S A n xs :=
  ⟨h.1.old hg hW.1 hr, h.2⟩
/-- The cells of a grid that is boxed. -/
def BoxG (w : World) (b : Nat) (R C S : Int) (A : Option Addr) (n c : Nat) : Prop :=
  w.cell? ⟨b, 0, none⟩ = some (.int .i64 R) ∧ w.cell? ⟨b, 1, none⟩ = some (.int .i64 C) ∧ w.cell? ⟨b, 2, none⟩ = some (.int .i64 S) ∧ w.cell? ⟨b, 3, none⟩ = some (.slice A n c)
theorem boxG_of (w : World) (R C S : Int) (A : Option Addr) (n c : Nat) (T : TypeId) : BoxG (w.alloc (.cells #[.int .i64 R, .int .i64 C, .int .i64 S, .slice A n c] T)) w.heap.size R C S A n c :=
  ⟨by go_simp, by go_simp, by go_simp, by go_simp⟩
theorem BoxG.below {w w' : World} {b : Nat} {R C S : Int} {A : Option Addr} {n c : Nat} (h : BoxG w b R C S A n c) (hb : Below w.heap.size w w') : BoxG w' b R C S A n c :=
  ⟨cell_kept hb h.1, cell_kept hb h.2.1, cell_kept hb h.2.2.1, cell_kept hb h.2.2.2⟩
theorem BoxG.grow {w w' : World} {b : Nat} {R C S : Int} {A : Option Addr} {n c : Nat} {r : Option Nat} (h : BoxG w b R C S A n c) (hg : w.grownBy w' r) (hne : ∀ g, r = some g → b ≠ g) : BoxG w' b R C S A n c :=
  ⟨hg.cell h.1 (fun e => hne b e.symm rfl), hg.cell h.2.1 (fun e => hne b e.symm rfl), hg.cell h.2.2.1 (fun e => hne b e.symm rfl), hg.cell h.2.2.2 (fun e => hne b e.symm rfl)⟩
theorem below_held {w w' : World} (h : ∃ q, w' = w.drewN q) : Below w.heap.size w w' := by
  obtain ⟨q, rfl⟩ := h
  exact below_drewN (Below.refl _ _) q
theorem below_of_drew {w w' : World} (h : Below w.drew.heap.size w.drew w') : Below w.heap.size w w' := ⟨h.os, h.tape, h.output, h.size, h.block⟩
/-- An argument that is a grid. -/
theorem grid_open {H : Type} {enc : TypeId × Value → H} {P : Program} {w : World} {t q s : TypeId} {f0 f1 f2 f3 : Field} {v : Value} {d : DataW H} {p : List MemPlace} {held : Bool} {r : Reach} {b0 : Nat}
    (ht : P.underlying t = some (.struct #[f0, f1, f2, f3])) (hq : P.underlying q = some (.int .i64)) (hs : P.underlying s = some (.slice q)) (hone : oneCellFields P #[f0, f1, f2, f3] = true) (hC : P.cellsOf t = 4) (hCq : P.cellsOf q = 1)
    (hty : f0.type = q ∧ f1.type = q ∧ f2.type = q ∧ f3.type = s) (hv : Value.okWide P w r b0 t v) (h : DataW.Trod enc P w 0 (fun _ => true) held t v d p) :
    ∃ (R C S : Int) (A : Option Addr) (n c : Nat) (xs : List Int), v = .agg #[.int .i64 R, .int .i64 C, .int .i64 S, .slice A n c] ∧ GridA w R C S A n xs := by
  obtain ⟨v0, v1, v2, v3, y0, y1, y2, y3, m, rfl, rfl, rfl, h0, h1, h2, h3⟩ := Go.Joins.open_agg4 ht hone hC hv h
  rw [hty.1] at h0
  rw [hty.2.1] at h1
  rw [hty.2.2.1] at h2
  rw [hty.2.2.2] at h3
  obtain ⟨u0, e0, _, w0⟩ := DataW.trod_int hq h0
  obtain ⟨u1, e1, _, w1⟩ := DataW.trod_int hq h1
  obtain ⟨u2, e2, _, w2⟩ := DataW.trod_int hq h2
  simp at e0 e1 e2
  subst e0 e1 e2
  obtain ⟨A, n, c, rfl⟩ : ∃ A n c, v3 = .slice A n c := by
    rcases open_slice hs h3 with ⟨hcs, _⟩ | ⟨a, len, cap, m, n', D, Pl, hcs, _⟩
    · simp at hcs; exact ⟨_, _, _, hcs⟩
    · simp at hcs; exact ⟨_, _, _, hcs⟩
  obtain ⟨xs, hx⟩ := ints_open (enc := enc) (d := y3.1) (p := y3.2) (held := held) (A := A) (n := n) (c := c) hs hq hCq ⟨m, by simpa [Value.cells] using h3⟩
  refine ⟨u0, u1, u2, A, n, c, xs, rfl, hx, ?_, ?_, ?_⟩
  · simpa [Lit.wf, IntKind.min, IntKind.max, IntKind.signed, IntKind.bits] using w0
  · simpa [Lit.wf, IntKind.min, IntKind.max, IntKind.signed, IntKind.bits] using w1
  · simpa [Lit.wf, IntKind.min, IntKind.max, IntKind.signed, IntKind.bits] using w2
end Go.Proofs.Ytknppcgoooaaaaa
