/-
  A drawn layer.
-/
import Derived.Test.YtknppcgoooaaaaaGreatDoorLyX
namespace Go.Proofs.YtknppcgoooaaaaaGreatDoor
open Go.ChangeShapes Go.WideShapes Go.ChangeAt Go.RowKit Go.Deep
set_option linter.unusedVariables false

theorem below_alloc1 (w : World) (o : Obj) : Below w.heap.size w (w.alloc o) := (Below.refl _ _).alloc (Nat.le_refl _) _
theorem below_set7 {w w' : World} (hb : Below w.heap.size w w') {b : Nat} (h : w.heap.size ≤ b) (a0 a1 a2 a3 a4 a5 a6 : Value) :
    Below w.heap.size w (((((((w'.setCell ⟨b, 0, none⟩ a0).setCell ⟨b, 1, none⟩ a1).setCell ⟨b, 2, none⟩ a2).setCell ⟨b, 3, none⟩ a3).setCell ⟨b, 4, none⟩ a4).setCell ⟨b, 5, none⟩ a5).setCell ⟨b, 6, none⟩ a6) :=
  ((((((hb.setCell (p := ⟨b, 0, none⟩) h a0).setCell (p := ⟨b, 1, none⟩) h a1).setCell (p := ⟨b, 2, none⟩) h a2).setCell (p := ⟨b, 3, none⟩) h a3).setCell (p := ⟨b, 4, none⟩) h a4).setCell (p := ⟨b, 5, none⟩) h a5).setCell (p := ⟨b, 6, none⟩) h a6
set_option maxRecDepth 100000 in
set_option maxHeartbeats 2000000 in
theorem R8Layer_d (A : Option Addr) (n c : Nat) (w : World) (h : Byts w A n) :
    Calls Tryz.prog 19 #[.slice A n c] w fun e w' => (∃ f i v d t h a, e = .returned (Lyv f i v d t h a) ∧ Lb f i v d t h a) ∧ Below w.heap.size w w' := by
  have hba : Below w.heap.size w (w.alloc (.cells (lyArr 0 0 0 0 0 0 0) 44)) := below_alloc1 w _
  have HH := Lib.hid (And.intro (h.below hba) hba)
  clear h hba
  go_enter Tryz.func19, Tryz.ntmps19
  go_wp2_with fail
  refine (from_p _ _ _ _ HH.out.1).mono ?_
  rintro e w1 ⟨rfl, hs1, hb1⟩
  rw [show (w.alloc (.cells (lyArr 0 0 0 0 0 0 0) 44)).heap.size = w.heap.size + 1 by simp] at hs1
  have hz1 : w.heap.size < w1.heap.size := by have := hb1.size; simp at this; omega
  have HR := Lib.hid ((hb1.block w.heap.size (by simp)).trans (blk_alloc_new w (.cells (lyArr 0 0 0 0 0 0 0) 44)))
  have H1 := Lib.hid (And.intro hs1 (HH.out.2.trans (hb1.mono HH.out.2.size)))
  clear hs1 hb1
  go_wp2_with fail
  refine (l03DrawOne_d _ _ _ H1.out.1 (by omega)).mono ?_
  rintro e w2 ⟨⟨f, i, v, d, t, h, a, rfl, hB⟩, hs2, hg2⟩
  have hne : some w.heap.size ≠ some (w.heap.size + 1) := by simp
  have hr0 := hg2.block w.heap.size hz1 hne
  have hr := hr0.trans HR.out
  clear hr0 hne
  have r0 := Go.Joins.unfrozen_of_block hr 0
  have r1 := Go.Joins.unfrozen_of_block hr 1
  have r2 := Go.Joins.unfrozen_of_block hr 2
  have r3 := Go.Joins.unfrozen_of_block hr 3
  have r4 := Go.Joins.unfrozen_of_block hr 4
  have r5 := Go.Joins.unfrozen_of_block hr 5
  have r6 := Go.Joins.unfrozen_of_block hr 6
  have k0 := Go.Joins.cell_of_block hr 0
  have k1 := Go.Joins.cell_of_block hr 1
  have k2 := Go.Joins.cell_of_block hr 2
  have k3 := Go.Joins.cell_of_block hr 3
  have k4 := Go.Joins.cell_of_block hr 4
  have k5 := Go.Joins.cell_of_block hr 5
  have k6 := Go.Joins.cell_of_block hr 6
  simp only [List.getElem?_toArray, List.getElem?_cons_zero, List.getElem?_cons_succ] at k0 k1 k2 k3 k4 k5 k6
  have HG := Lib.hid (below_set7 (H1.out.2.grown hg2 H1.out.2.size (fun k hk => by injection hk with e; omega)) (Nat.le_refl _) (.int .i64 f) (.int .i64 i) (.int .i64 v) (.int .i64 d) (.int .i64 t) (.int .i64 h) (.int .i64 a))
  clear hs2 hg2 hr
  go_wp2_with fail
  exact bodyPost_ret (v := Lyv f i v d t h a) (by simp [results, Tryz.results19, go_sem, *]) rfl ⟨⟨_, _, _, _, _, _, _, rfl, hB⟩, HG.out⟩
end Go.Proofs.YtknppcgoooaaaaaGreatDoor
