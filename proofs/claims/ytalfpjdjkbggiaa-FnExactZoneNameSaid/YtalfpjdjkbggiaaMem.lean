/-
  What memory holds, for walks: a slice of numbers that reads as a list; draws and new blocks leave it as it is; an argument opened to it.
-/
import Derived.Test.YtalfpjdjkbggiaaBase
import Derived.ProofKit
import Derived.OpenShut
import Derived.ShutString
import Derived.ChangeOld
import Derived.Below
import Derived.Carry
import Derived.Deep.Slices
import Derived.Deep.Fields
import Derived.ChangeSame
import Derived.Lib.SmallJoins
import Derived.Laws.OwnMore
import Derived.Laws.MakeOwn
import Derived.Deep.Draws
import Derived.Deep.OwnRows
namespace Go.Proofs.Ytalfpjdjkbggiaa
open Go.ChangeShapes Go.WideShapes Go.ChangeAt Go.RowKit Go.Deep

/-! ### Worlds -/
theorem below_drewN {B : Nat} {a w : World} (h : Below B a w) (n : Nat) : Below B a (w.drewN n) := ⟨h.os, h.tape, h.output, h.size, h.block⟩
theorem cell_lt {w : World} {b o : Nat} {v : Value} (h : w.cell? ⟨b, o, none⟩ = some v) : b < w.heap.size := World.block_lt_of_cell? w _ h
/-- All cells of old blocks read as they did; for a walk. -/
theorem bcell {W w1 : World} (hb : Below W.heap.size W w1) : (∀ b o, b < W.heap.size → w1.cell? ⟨b, o, none⟩ = W.cell? ⟨b, o, none⟩) ∧ (∀ b o, b < W.heap.size → w1.frozen? ⟨b, o, none⟩ = W.frozen? ⟨b, o, none⟩) :=
  ⟨fun b o h => hb.cell (p := ⟨b, o, none⟩) h, fun b o h => hb.frozen (p := ⟨b, o, none⟩) h⟩

/-! ### A slice of numbers that reads as a list -/
def Ints (w : World) (A : Option Addr) (n : Nat) (xs : List Int) : Prop :=
  xs.length = n ∧ n ≤ 9223372036854775807 ∧ (∀ x ∈ xs, -9223372036854775808 ≤ x ∧ x ≤ 9223372036854775807) ∧
  (0 < n → ∃ b off, A = some ⟨b, off, none⟩ ∧ ∀ k, k < n → w.cell? ⟨b, off + k, none⟩ = some (.int .i64 (xs.getD k 0)))

theorem Ints.nil (w : World) (A : Option Addr) : Ints w A 0 [] := ⟨rfl, by omega, by simp, fun h => absurd h (by omega)⟩
theorem Ints.at_ {w : World} {A : Option Addr} {n : Nat} {xs : List Int} (h : Ints w A n xs) {k : Nat} (hk : k < n) :
    ∃ b off x, A = some ⟨b, off, none⟩ ∧ Hid (xs[k]? = some x) ∧ w.cell? ⟨b, off + k, none⟩ = some (.int .i64 x) ∧ -9223372036854775808 ≤ x ∧ x ≤ 9223372036854775807 := by
  obtain ⟨hl, _, hb, hc⟩ := h
  obtain ⟨b, off, hA, hcell⟩ := hc (by omega)
  have hk' : k < xs.length := by omega
  refine ⟨b, off, xs[k], hA, List.getElem?_eq_getElem hk', ?_, hb _ (List.getElem_mem hk')⟩
  rw [hcell k hk, List.getD_eq_getElem?_getD, List.getElem?_eq_getElem hk']
  rfl
theorem Ints.below {w w' : World} {A : Option Addr} {n : Nat} {xs : List Int} (h : Ints w A n xs) (hb : Below w.heap.size w w') : Ints w' A n xs := by
  obtain ⟨hl, hn, hx, hc⟩ := h
  refine ⟨hl, hn, hx, fun h0 => ?_⟩
  obtain ⟨b, off, hA, hcell⟩ := hc h0
  refine ⟨b, off, hA, fun k hk => ?_⟩
  have := hcell k hk
  rw [hb.cell (p := ⟨b, off + k, none⟩) (cell_lt this)]
  exact this
/-- A slice is kept by whatever leaves its own block alone. -/
theorem Ints.keep {w w' : World} {A : Option Addr} {n : Nat} {xs : List Int} (h : Ints w A n xs) {row : Option Nat} (hg : w.grownBy w' row) (hne : ∀ b off, A = some ⟨b, off, none⟩ → some b ≠ row) : Ints w' A n xs := by
  obtain ⟨hl, hn, hx, hc⟩ := h
  refine ⟨hl, hn, hx, fun h0 => ?_⟩
  obtain ⟨b, off, hA, hcell⟩ := hc h0
  exact ⟨b, off, hA, fun k hk => hg.cell (hcell k hk) (hne b off hA)⟩
theorem Ints.drewN {w : World} {A : Option Addr} {n : Nat} {xs : List Int} (h : Ints w A n xs) (k : Nat) : Ints (w.drewN k) A n xs := h
theorem Ints.of_own {w : World} {base e : Nat} {A : Option Addr} {n c : Nat} {xs : List Int} (h : w.ownsRow base e 1 (.slice A n c) n (xs.map (.int .i64))) (hx : ∀ x ∈ xs, -9223372036854775808 ≤ x ∧ x ≤ 9223372036854775807) : Ints w A n xs := by
  have hl : xs.length = n := by have := h.1; simpa using this
  rcases h.2 with ⟨hv, h0⟩ | ⟨g, cap, cur, hv, hg, hh, hnc, hcm, hs, ht⟩
  · subst h0
    exact ⟨hl, by omega, hx, fun h => absurd h (by omega)⟩
  · simp only [Value.slice.injEq] at hv
    obtain ⟨rfl, _, rfl⟩ := hv
    refine ⟨hl, by unfold maxLen at hcm; omega, hx, fun _ => ⟨g, 0, rfl, fun k hk => ?_⟩⟩
    have hk' : k < xs.length := by omega
    rw [cell_of_row w g (0 + k) cur e (0, 0) hh, Nat.zero_add]
    have h1 : (cur.toList.take (n * 1))[k]? = some (.int .i64 xs[k]) := by rw [ht]; simp [hk']
    rw [List.getElem?_take, if_pos (by omega)] at h1
    rw [List.getD_eq_getElem?_getD, List.getElem?_eq_getElem hk']
    simpa using h1

/-- An argument that is a slice of numbers. -/
theorem ints_open {H : Type} {enc : TypeId × Value → H} {P : Program} {w : World} {t e : TypeId} {A : Option Addr} {n c : Nat} {d : DataW H} {p : List MemPlace} {held : Bool}
    (ht : P.underlying t = some (.slice e)) (he : P.underlying e = some (.int .i64)) (hc : P.cellsOf e = 1) (h : DataW.Trod enc P w 0 (fun _ => true) held t (.slice A n c) d p) :
    ∃ xs, Ints w A n xs := by
  obtain ⟨fuel, hf⟩ := h
  rcases open_ints ht he hc hf with ⟨hcs, _⟩ | ⟨x, l, c', zs, hcs, _, hl, hm, hz, _, hcell, hwz⟩
  · simp [Value.cells] at hcs
    obtain ⟨rfl, rfl, rfl⟩ := hcs
    exact ⟨[], Ints.nil _ _⟩
  · simp [Value.cells] at hcs
    obtain ⟨rfl, rfl, rfl⟩ := hcs
    have hz' : zs.length = c := by simpa using hz
    refine ⟨zs.take n, by rw [List.length_take]; omega, by unfold maxLen at hm; omega, fun y hy => ?_, fun h0 => ?_⟩
    · have h1 := hwz y (List.mem_of_mem_take hy)
      simpa [Lit.wf, IntKind.min, IntKind.max, IntKind.signed, IntKind.bits] using h1
    · obtain ⟨b, off, spot⟩ := x
      have hc0 := hcell 0 (by omega)
      have hspot : spot = none := by simpa [Addr.add] using World.cell?_spot hc0
      subst hspot
      refine ⟨b, off, rfl, fun k hk => ?_⟩
      have h1 := hcell k (by omega)
      rw [Go.Addr.add_lit] at h1
      rw [h1, List.getD_eq_getElem?_getD, List.getD_eq_getElem?_getD, List.getElem?_take, if_pos hk]
end Go.Proofs.Ytalfpjdjkbggiaa
