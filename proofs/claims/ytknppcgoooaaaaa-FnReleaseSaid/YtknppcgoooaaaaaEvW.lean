/-
  The contracts of the law's helpers over events: sizes, copies, comparisons.
-/
import Derived.Test.YtknppcgoooaaaaaEvM
namespace Go.Proofs.Ytknppcgoooaaaaa
open Go.ChangeShapes Go.WideShapes Go.ChangeAt Go.RowKit Go.Deep
set_option linter.unusedVariables false


/-! ### Copies -/
theorem own_lt {w : World} {base e size n g c : Nat} {xs : List Value} (h : w.ownsRow base e size (.slice (some ⟨g, 0, none⟩) n c) n xs) : g < w.heap.size := by
  obtain ⟨A, c', e, hA⟩ := own_form h
  injection e with e1 e2 e3
  exact (hA _ e1.symm).2
theorem own_setCell {w : World} {base e size n g c : Nat} {xs : List Value} (h : w.ownsRow base e size (.slice (some ⟨g, 0, none⟩) n c) n xs) {p : Addr} (hp : p.block ≠ g) (v : Value) :
    (w.setCell p v).ownsRow base e size (.slice (some ⟨g, 0, none⟩) n c) n xs := by
  refine ⟨h.1, ?_⟩
  rcases h.2 with ⟨hv, h0⟩ | ⟨g', cap, cur, hv, hb, hg, rest⟩
  · simp at hv
  · simp only [Value.slice.injEq, Option.some.injEq, Addr.mk.injEq, and_true, true_and] at hv
    obtain ⟨rfl, rfl⟩ := hv
    exact .inr ⟨g, c, cur, rfl, hb, (Below.heap_setCell w p v g (fun e => hp e.symm)).trans hg, rest⟩
/-! ### Marks -/
/-- Blocks from lo up to hi may have been written, no others. -/
def Win (lo hi : Nat) (w w' : World) : Prop :=
  w'.os = w.os ∧ w'.tape = w.tape ∧ w'.output = w.output ∧ w.heap.size ≤ w'.heap.size ∧ ∀ k, k < w.heap.size → k < lo ∨ hi ≤ k → w'.heap[k]? = w.heap[k]?
theorem Win.refl (lo hi : Nat) (w : World) : Win lo hi w w := ⟨rfl, rfl, rfl, Nat.le_refl _, fun _ _ _ => rfl⟩
theorem Win.trans {lo hi : Nat} {a b c : World} (h : Win lo hi a b) (k : Win lo hi b c) : Win lo hi a c :=
  ⟨k.1.trans h.1, k.2.1.trans h.2.1, k.2.2.1.trans h.2.2.1, Nat.le_trans h.2.2.2.1 k.2.2.2.1, fun i hi hr => (k.2.2.2.2 i (Nat.lt_of_lt_of_le hi h.2.2.2.1) hr).trans (h.2.2.2.2 i hi hr)⟩
theorem Win.grown {lo hi : Nat} {w w' : World} {r : Option Nat} (h : w.grownBy w' r) (hr : ∀ g, r = some g → lo ≤ g ∧ g < hi) : Win lo hi w w' :=
  ⟨h.os, h.tape, h.output, h.size, fun k hk hk2 => h.block k hk (fun e => by have := hr k e.symm; omega)⟩
theorem Win.setCell {lo hi : Nat} {a w : World} (h : Win lo hi a w) {p : Addr} (hp : lo ≤ p.block ∧ p.block < hi) (v : Value) : Win lo hi a (w.setCell p v) :=
  h.trans ⟨rfl, rfl, rfl, by simp [World.setCell], fun k hk hk2 => Below.heap_setCell _ _ _ _ (by omega)⟩
theorem Win.below {B lo hi : Nat} {a w w' : World} (h : Below B a w) (hw : Win lo hi w w') (hB : B ≤ w.heap.size) (hlo : B ≤ lo) : Below B a w' :=
  h.trans ⟨hw.1, hw.2.1, hw.2.2.1, hw.2.2.2.1, fun k hk => hw.2.2.2.2 k (by omega) (.inl (by omega))⟩
theorem own_win {lo hi : Nat} {w w' : World} {base e size n g c : Nat} {xs : List Value} (h : w.ownsRow base e size (.slice (some ⟨g, 0, none⟩) n c) n xs) (hw : Win lo hi w w') (hr : g < lo ∨ hi ≤ g) :
    w'.ownsRow base e size (.slice (some ⟨g, 0, none⟩) n c) n xs := by
  have hlt := own_lt h
  refine ⟨h.1, ?_⟩
  rcases h.2 with ⟨hv, h0⟩ | ⟨g', cap, cur, hv, hb, hg, rest⟩
  · simp at hv
  · simp only [Value.slice.injEq, Option.some.injEq, Addr.mk.injEq, and_true, true_and] at hv
    obtain ⟨rfl, rfl⟩ := hv
    exact .inr ⟨g, c, cur, rfl, hb, (hw.2.2.2.2 g hlt hr).trans hg, rest⟩
theorem Fresh.win {lo hi : Nat} {w w' : World} {base e size n c : Nat} {A : Option Addr} {xs : List Value} (h : Fresh w base e size A n c xs) (hw : Win lo hi w w') (hr : 0 < n → ∀ g, A = some ⟨g, 0, none⟩ → base ≤ g → g < lo ∨ hi ≤ g) :
    Fresh w' base e size A n c xs := by
  refine ⟨h.1, fun h0 => ?_⟩
  have ho := h.2 h0
  rcases ho.2 with ⟨hv, h00⟩ | ⟨g, cap, cur, hv, hb, hgg, rest⟩
  · omega
  · simp only [Value.slice.injEq] at hv
    obtain ⟨rfl, _, rfl⟩ := hv
    exact own_win ho hw (hr h0 g rfl hb)
end Go.Proofs.Ytknppcgoooaaaaa
