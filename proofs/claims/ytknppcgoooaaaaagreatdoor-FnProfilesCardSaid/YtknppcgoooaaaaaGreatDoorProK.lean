/-
  A struct stored into a block of its own, in whatever order with two calls.
-/
import Derived.Test.YtknppcgoooaaaaaGreatDoorProH
namespace Go.Proofs.YtknppcgoooaaaaaGreatDoor
open Go.ChangeShapes Go.WideShapes Go.ChangeAt Go.RowKit Go.Deep
set_option linter.unusedVariables false

theorem gen_w {p : World → Prop} {W : World} {q : World → Prop} (h : q W) (k : ∀ W', q W' → p W') : p W := k W h
theorem two_grow {wd W W' : World} {x y B : Nat} {f i v d g h a f' i' v' d' g' h' a' : Int} (H : (W.cell? ⟨x, 0, none⟩ = some (.int .i64 f) ∧ W.cell? ⟨x, 1, none⟩ = some (.int .i64 i) ∧ W.cell? ⟨x, 2, none⟩ = some (.int .i64 v) ∧ W.cell? ⟨x, 3, none⟩ = some (.int .i64 d) ∧ W.cell? ⟨x, 4, none⟩ = some (.int .i64 g) ∧ W.cell? ⟨x, 5, none⟩ = some (.int .i64 h) ∧ W.cell? ⟨x, 6, none⟩ = some (.int .i64 a)) ∧ (W.cell? ⟨y, 0, none⟩ = some (.int .i64 f') ∧ W.cell? ⟨y, 1, none⟩ = some (.int .i64 i') ∧ W.cell? ⟨y, 2, none⟩ = some (.int .i64 v') ∧ W.cell? ⟨y, 3, none⟩ = some (.int .i64 d') ∧ W.cell? ⟨y, 4, none⟩ = some (.int .i64 g') ∧ W.cell? ⟨y, 5, none⟩ = some (.int .i64 h') ∧ W.cell? ⟨y, 6, none⟩ = some (.int .i64 a')) ∧ Below wd.heap.size wd W) (hg : W.grownBy W' (some B)) (hx : x ≠ B) (hy : y ≠ B) (hB : wd.heap.size ≤ B) : (W'.cell? ⟨x, 0, none⟩ = some (.int .i64 f) ∧ W'.cell? ⟨x, 1, none⟩ = some (.int .i64 i) ∧ W'.cell? ⟨x, 2, none⟩ = some (.int .i64 v) ∧ W'.cell? ⟨x, 3, none⟩ = some (.int .i64 d) ∧ W'.cell? ⟨x, 4, none⟩ = some (.int .i64 g) ∧ W'.cell? ⟨x, 5, none⟩ = some (.int .i64 h) ∧ W'.cell? ⟨x, 6, none⟩ = some (.int .i64 a)) ∧ (W'.cell? ⟨y, 0, none⟩ = some (.int .i64 f') ∧ W'.cell? ⟨y, 1, none⟩ = some (.int .i64 i') ∧ W'.cell? ⟨y, 2, none⟩ = some (.int .i64 v') ∧ W'.cell? ⟨y, 3, none⟩ = some (.int .i64 d') ∧ W'.cell? ⟨y, 4, none⟩ = some (.int .i64 g') ∧ W'.cell? ⟨y, 5, none⟩ = some (.int .i64 h') ∧ W'.cell? ⟨y, 6, none⟩ = some (.int .i64 a')) ∧ Below wd.heap.size wd W' := by
  obtain ⟨⟨c0, c1, c2, c3, c4, c5, c6⟩, ⟨e0, e1, e2, e3, e4, e5, e6⟩, hb⟩ := H
  have k1 : ∀ (n : Nat) (u : Value), W.cell? ⟨x, n, none⟩ = some u → W'.cell? ⟨x, n, none⟩ = some u := fun n u hc => hg.cell (a := ⟨x, n, none⟩) hc (fun e => by injection e with e; exact hx e)
  have k2 : ∀ (n : Nat) (u : Value), W.cell? ⟨y, n, none⟩ = some u → W'.cell? ⟨y, n, none⟩ = some u := fun n u hc => hg.cell (a := ⟨y, n, none⟩) hc (fun e => by injection e with e; exact hy e)
  exact ⟨⟨k1 _ _ c0, k1 _ _ c1, k1 _ _ c2, k1 _ _ c3, k1 _ _ c4, k1 _ _ c5, k1 _ _ c6⟩, ⟨k2 _ _ e0, k2 _ _ e1, k2 _ _ e2, k2 _ _ e3, k2 _ _ e4, k2 _ _ e5, k2 _ _ e6⟩, hb.grown hg hb.size (fun k hk => by injection hk with e; omega)⟩
theorem set7_grown (W : World) (B : Nat) (a0 a1 a2 a3 a4 a5 a6 : Value) : W.grownBy (((((((W.setCell ⟨B, 0, none⟩ (a0)).setCell ⟨B, 1, none⟩ (a1)).setCell ⟨B, 2, none⟩ (a2)).setCell ⟨B, 3, none⟩ (a3)).setCell ⟨B, 4, none⟩ (a4)).setCell ⟨B, 5, none⟩ (a5)).setCell ⟨B, 6, none⟩ (a6)) (some B) := (grown_setCell (p := ⟨B, 6, none⟩) (grown_setCell (p := ⟨B, 5, none⟩) (grown_setCell (p := ⟨B, 4, none⟩) (grown_setCell (p := ⟨B, 3, none⟩) (grown_setCell (p := ⟨B, 2, none⟩) (grown_setCell (p := ⟨B, 1, none⟩) (grown_setCell (p := ⟨B, 0, none⟩) (World.grownBy.refl W (some B)) rfl _) rfl _) rfl _) rfl _) rfl _) rfl _) rfl _)
theorem set7_at {W : World} {B : Nat} (h : W.heap[B]? = some (.cells (lyArr 0 0 0 0 0 0 0) 44 (0, 0))) (a0 a1 a2 a3 a4 a5 a6 : Int) : LyAt (((((((W.setCell ⟨B, 0, none⟩ (.int .i64 a0)).setCell ⟨B, 1, none⟩ (.int .i64 a1)).setCell ⟨B, 2, none⟩ (.int .i64 a2)).setCell ⟨B, 3, none⟩ (.int .i64 a3)).setCell ⟨B, 4, none⟩ (.int .i64 a4)).setCell ⟨B, 5, none⟩ (.int .i64 a5)).setCell ⟨B, 6, none⟩ (.int .i64 a6)) B 0 a0 a1 a2 a3 a4 a5 a6 := by
  have h0 : (W.setCell ⟨B, 0, none⟩ (.int .i64 a0)).heap[B]? = some (.cells (lyArr a0 0 0 0 0 0 0) 44 (0, 0)) := by
    have := Go.Joins.block_setCell (i := 0) h (.int .i64 a0)
    rwa [show (lyArr 0 0 0 0 0 0 0).setIfInBounds 0 (.int .i64 a0) = lyArr a0 0 0 0 0 0 0 from rfl] at this
  have h1 : ((W.setCell ⟨B, 0, none⟩ (.int .i64 a0)).setCell ⟨B, 1, none⟩ (.int .i64 a1)).heap[B]? = some (.cells (lyArr a0 a1 0 0 0 0 0) 44 (0, 0)) := by
    have := Go.Joins.block_setCell (i := 1) h0 (.int .i64 a1)
    rwa [show (lyArr a0 0 0 0 0 0 0).setIfInBounds 1 (.int .i64 a1) = lyArr a0 a1 0 0 0 0 0 from rfl] at this
  have h2 : (((W.setCell ⟨B, 0, none⟩ (.int .i64 a0)).setCell ⟨B, 1, none⟩ (.int .i64 a1)).setCell ⟨B, 2, none⟩ (.int .i64 a2)).heap[B]? = some (.cells (lyArr a0 a1 a2 0 0 0 0) 44 (0, 0)) := by
    have := Go.Joins.block_setCell (i := 2) h1 (.int .i64 a2)
    rwa [show (lyArr a0 a1 0 0 0 0 0).setIfInBounds 2 (.int .i64 a2) = lyArr a0 a1 a2 0 0 0 0 from rfl] at this
  have h3 : ((((W.setCell ⟨B, 0, none⟩ (.int .i64 a0)).setCell ⟨B, 1, none⟩ (.int .i64 a1)).setCell ⟨B, 2, none⟩ (.int .i64 a2)).setCell ⟨B, 3, none⟩ (.int .i64 a3)).heap[B]? = some (.cells (lyArr a0 a1 a2 a3 0 0 0) 44 (0, 0)) := by
    have := Go.Joins.block_setCell (i := 3) h2 (.int .i64 a3)
    rwa [show (lyArr a0 a1 a2 0 0 0 0).setIfInBounds 3 (.int .i64 a3) = lyArr a0 a1 a2 a3 0 0 0 from rfl] at this
  have h4 : (((((W.setCell ⟨B, 0, none⟩ (.int .i64 a0)).setCell ⟨B, 1, none⟩ (.int .i64 a1)).setCell ⟨B, 2, none⟩ (.int .i64 a2)).setCell ⟨B, 3, none⟩ (.int .i64 a3)).setCell ⟨B, 4, none⟩ (.int .i64 a4)).heap[B]? = some (.cells (lyArr a0 a1 a2 a3 a4 0 0) 44 (0, 0)) := by
    have := Go.Joins.block_setCell (i := 4) h3 (.int .i64 a4)
    rwa [show (lyArr a0 a1 a2 a3 0 0 0).setIfInBounds 4 (.int .i64 a4) = lyArr a0 a1 a2 a3 a4 0 0 from rfl] at this
  have h5 : ((((((W.setCell ⟨B, 0, none⟩ (.int .i64 a0)).setCell ⟨B, 1, none⟩ (.int .i64 a1)).setCell ⟨B, 2, none⟩ (.int .i64 a2)).setCell ⟨B, 3, none⟩ (.int .i64 a3)).setCell ⟨B, 4, none⟩ (.int .i64 a4)).setCell ⟨B, 5, none⟩ (.int .i64 a5)).heap[B]? = some (.cells (lyArr a0 a1 a2 a3 a4 a5 0) 44 (0, 0)) := by
    have := Go.Joins.block_setCell (i := 5) h4 (.int .i64 a5)
    rwa [show (lyArr a0 a1 a2 a3 a4 0 0).setIfInBounds 5 (.int .i64 a5) = lyArr a0 a1 a2 a3 a4 a5 0 from rfl] at this
  have h6 : (((((((W.setCell ⟨B, 0, none⟩ (.int .i64 a0)).setCell ⟨B, 1, none⟩ (.int .i64 a1)).setCell ⟨B, 2, none⟩ (.int .i64 a2)).setCell ⟨B, 3, none⟩ (.int .i64 a3)).setCell ⟨B, 4, none⟩ (.int .i64 a4)).setCell ⟨B, 5, none⟩ (.int .i64 a5)).setCell ⟨B, 6, none⟩ (.int .i64 a6)).heap[B]? = some (.cells (lyArr a0 a1 a2 a3 a4 a5 a6) 44 (0, 0)) := by
    have := Go.Joins.block_setCell (i := 6) h5 (.int .i64 a6)
    rwa [show (lyArr a0 a1 a2 a3 a4 a5 0).setIfInBounds 6 (.int .i64 a6) = lyArr a0 a1 a2 a3 a4 a5 a6 from rfl] at this
  clear h h0 h1 h2 h3 h4 h5
  generalize (((((((W.setCell ⟨B, 0, none⟩ (.int .i64 a0)).setCell ⟨B, 1, none⟩ (.int .i64 a1)).setCell ⟨B, 2, none⟩ (.int .i64 a2)).setCell ⟨B, 3, none⟩ (.int .i64 a3)).setCell ⟨B, 4, none⟩ (.int .i64 a4)).setCell ⟨B, 5, none⟩ (.int .i64 a5)).setCell ⟨B, 6, none⟩ (.int .i64 a6)) = WW at h6 ⊢
  have c0 := Go.Joins.cell_of_block h6 0
  have c1 := Go.Joins.cell_of_block h6 1
  have c2 := Go.Joins.cell_of_block h6 2
  have c3 := Go.Joins.cell_of_block h6 3
  have c4 := Go.Joins.cell_of_block h6 4
  have c5 := Go.Joins.cell_of_block h6 5
  have c6 := Go.Joins.cell_of_block h6 6
  simp only [List.getElem?_toArray, List.getElem?_cons_zero, List.getElem?_cons_succ] at c0 c1 c2 c3 c4 c5 c6
  exact ⟨c0, c1, c2, c3, c4, c5, c6⟩
end Go.Proofs.YtknppcgoooaaaaaGreatDoor
