/-
  Draws: a source that has read at most so many bytes; picks and choices among literal numbers.
-/
import Derived.Test.YtknppcgoooaaaaaGreatDoorSrc
namespace Go.Proofs.YtknppcgoooaaaaaGreatDoor
open Go.ChangeShapes Go.WideShapes Go.ChangeAt Go.RowKit Go.Deep
set_option linter.unusedVariables false

def SrcP (w : World) (q m : Nat) : Prop := ∃ (A : Option Addr) (n c p : Nat), SrcAt w q A n c (p : Nat) ∧ p ≤ m ∧ (0 < n → ∀ b off, A = some ⟨b, off, none⟩ → b < q)
theorem SrcP.lt {w : World} {q m : Nat} (h : SrcP w q m) : q < w.heap.size := by
  obtain ⟨A, n, c, p, ⟨s, hq, _⟩, _⟩ := h
  rcases Nat.lt_or_ge q w.heap.size with h | h
  · exact h
  · rw [Array.getElem?_eq_none h] at hq; simp at hq
theorem SrcP.below {w w' : World} {q m : Nat} (h : SrcP w q m) (hb : Below w.heap.size w w') : SrcP w' q m := by
  obtain ⟨A, n, c, p, h1, h2, h3⟩ := h
  exact ⟨A, n, c, p, h1.below hb, h2, h3⟩
theorem SrcP.grow {w w' : World} {q m : Nat} {row : Option Nat} (h : SrcP w q m) (hg : w.grownBy w' row) (hr : ∀ g, row = some g → q < g) : SrcP w' q m := by
  obtain ⟨A, n, c, p, h1, h2, h3⟩ := h
  exact ⟨A, n, c, p, h1.grow hg (fun e => by have := hr q e.symm; omega) (fun h0 b off e e2 => by have := h3 h0 b off e; have := hr b e2.symm; omega), h2, h3⟩
theorem SrcP.drewN {w : World} {q m : Nat} (h : SrcP w q m) (k : Nat) : SrcP (w.drewN k) q m := h
theorem SrcP.mono {w : World} {q m m' : Nat} (h : SrcP w q m) (hm : m ≤ m') : SrcP w q m' := by
  obtain ⟨A, n, c, p, h1, h2, h3⟩ := h
  exact ⟨A, n, c, p, h1, by omega, h3⟩
theorem from_p (A : Option Addr) (n c : Nat) (w : World) (h : Byts w A n) :
    Calls Tryz.prog 34 #[.slice A n c] w fun e w' => e = .returned (.pointer (some ⟨w.heap.size, 0, none⟩)) ∧ SrcP w' w.heap.size 0 ∧ Below w.heap.size w w' := by
  refine (from_s A n c w h).mono fun e w' ⟨he, h1, h2⟩ => ⟨he, ⟨A, n, c, 0, h1, Nat.le_refl _, fun h0 b off e => ?_⟩, h2⟩
  obtain ⟨b', off', e', hc⟩ := h.2 h0
  obtain ⟨x, hx, _⟩ := hc 0 h0
  rw [e] at e'
  injection e' with e'
  injection e' with e1 _ _
  subst e1
  exact cell_lt hx
theorem pick_p (q m : Nat) (k : Int) (w : World) (h : SrcP w q m) (hm : m ≤ 100000000000) (hk : -9223372036854775808 ≤ k ∧ k ≤ 9223372036854775807) :
    Calls Tryz.prog 71 #[.pointer (some ⟨q, 0, none⟩), .int .i64 k] w fun e w' => (∃ x : Int, e = .returned (.int .i64 x) ∧ 0 ≤ x ∧ (x < k ∨ x = 0)) ∧ SrcP w' q (m + 2) ∧ w.grownBy w' (some q) := by
  obtain ⟨A, n, c, p, h1, h2, h3⟩ := h
  refine (pick_s q A n c p k w h1 (by omega) hk).mono ?_
  rintro e w' ⟨he, ⟨p', hp1, hp2, hs⟩, hg⟩
  exact ⟨he, ⟨A, n, c, p', hs, by omega, h3⟩, hg⟩
theorem next_p (q m : Nat) (w : World) (h : SrcP w q m) (hm : m ≤ 100000000000) :
    Calls Tryz.prog 94 #[.pointer (some ⟨q, 0, none⟩)] w fun e w' => (∃ x : Int, e = .returned (.int .i64 x) ∧ 0 ≤ x ∧ x ≤ 255) ∧ SrcP w' q (m + 2) ∧ w.grownBy w' (some q) := by
  obtain ⟨A, n, c, p, h1, h2, h3⟩ := h
  refine (next_s q A n c p w h1 (by omega)).mono ?_
  rintro e w' ⟨he, hs, hg⟩
  exact ⟨he, ⟨A, n, c, p + 1, hs, by omega, h3⟩, hg⟩
theorem one_p (q m : Nat) (k : Int) (w : World) (h : SrcP w q m) (hm : m ≤ 100000000000) (hk : -9223372036854775808 ≤ k ∧ k ≤ 9223372036854775807) :
    Calls Tryz.prog 73 #[.pointer (some ⟨q, 0, none⟩), .int .i64 k] w fun e w' => (∃ x : Bool, e = .returned (.bool x)) ∧ SrcP w' q (m + 2) ∧ w.grownBy w' (some q) := by
  obtain ⟨A, n, c, p, h1, h2, h3⟩ := h
  refine (one_s q A n c p k w h1 (by omega) hk).mono ?_
  rintro e w' ⟨he, ⟨p', hp1, hp2, hs⟩, hg⟩
  exact ⟨he, ⟨A, n, c, p', hs, by omega, h3⟩, hg⟩
theorem ints_lit (w : World) (ls : List Int) (cs : Array Value) (T : TypeId) (hcs : cs = (ls.map (.int .i64)).toArray) (hl : ls.length ≤ 1000) (hb : ∀ x ∈ ls, -9223372036854775808 ≤ x ∧ x ≤ 9223372036854775807) :
    Ints (w.alloc (.cells cs T)) (some ⟨w.heap.size, 0, none⟩) ls.length ls := by
  refine ⟨rfl, by omega, hb, fun h0 => ⟨w.heap.size, 0, rfl, fun k hk => ?_⟩⟩
  have hr := World.rowIs_alloc w cs T (fun j => .int .i64 (ls.getD j 0)) (fun i hi => by
    subst hcs
    have hi' : i < ls.length := by simpa using hi
    simp [hi'])
  have := hr.cell (i := k) (by rw [hcs]; simpa using hk)
  rw [Nat.zero_add]
  exact this
/-- A new block between: what changed only the source's own block before and behind it. -/
theorem grown_alloc {w w' : World} {o : Obj} {q : Nat} (h : (w.alloc o).grownBy w' (some q)) : w.grownBy w' (some q) :=
  ⟨h.os, h.tape, h.output, Nat.le_trans (by simp) h.size, fun k hk hne => (h.block k (by simp; omega) hne).trans (Below.heap_alloc w o k hk)⟩
theorem among_lit (q m : Nat) (ls : List Int) (cs : Array Value) (T : TypeId) (k d : Nat) (w : World) (h : SrcP w q m) (hm : m ≤ 100000000000) (hcs : cs = (ls.map (.int .i64)).toArray) (hk : k = ls.length) (h0 : 0 < k) (hl : ls.length ≤ 1000) (hb : ∀ x ∈ ls, -9223372036854775808 ≤ x ∧ x ≤ 9223372036854775807) :
    Calls Tryz.prog 72 #[.pointer (some ⟨q, 0, none⟩), .slice (some ⟨w.heap.size, 0, none⟩) k d] (w.alloc (.cells cs T)) fun e w' => (∃ x ∈ ls, e = .returned (.int .i64 x)) ∧ SrcP w' q (m + 2) ∧ w.grownBy w' (some q) := by
  have hq := h.lt
  obtain ⟨A, n, c, p, h1, h2, h3⟩ := h
  subst hk
  refine (among_s q A n c p _ _ d ls _ (h1.below ((Below.refl _ _).alloc (Nat.le_refl _) _)) (by omega) (ints_lit w ls cs T hcs hl hb) h0 (fun b off e => ?_)).mono ?_
  · injection e with e
    injection e with e _ _
    omega
  · rintro e w' ⟨he, ⟨p', hp1, hp2, hs⟩, hg⟩
    exact ⟨he, ⟨A, n, c, p', hs, by omega, h3⟩, grown_alloc hg⟩
end Go.Proofs.YtknppcgoooaaaaaGreatDoor
