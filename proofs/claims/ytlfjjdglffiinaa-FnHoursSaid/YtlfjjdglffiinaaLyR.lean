/-
  Draws of layers and profiles: whatever is drawn is valid.
-/
import Derived.Test.YtlfjjdglffiinaaLyI
namespace Go.Proofs.Ytlfjjdglffiinaa
open Go.ChangeShapes Go.WideShapes Go.ChangeAt Go.RowKit Go.Deep
set_option linter.unusedVariables false

abbrev lyArr (f i v d t h a : Int) : Array Value := #[.int .i64 f, .int .i64 i, .int .i64 v, .int .i64 d, .int .i64 t, .int .i64 h, .int .i64 a]
/-- A layer under way in a block of its own, beside the source and the place of the result. -/
structure DS (w wr : World) (q m rb xb : Nat) (f i v d t h a : Int) : Prop where
  src : SrcP wr q m
  grow : w.grownBy wr (some q)
  blk : wr.heap[xb]? = some (.cells (lyArr f i v d t h a) 35 (0, 0))
  res : wr.heap[rb]? = some (.cells (lyArr 0 0 0 0 0 0 0) 35 (0, 0))
  hq : q < rb
  hr : rb < xb
theorem DS.call {w wr w2 : World} {q m m' rb xb : Nat} {f i v d t h a : Int} (H : DS w wr q m rb xb f i v d t h a) (hs : SrcP w2 q m') (hg : wr.grownBy w2 (some q)) : DS w w2 q m' rb xb f i v d t h a := by
  have h1 := (Array.getElem?_eq_some_iff.1 H.blk).1
  have h2 := (Array.getElem?_eq_some_iff.1 H.res).1
  have hq := H.hq
  have hr := H.hr
  exact ⟨hs, H.grow.trans hg, (hg.block xb h1 (fun e => by injection e; omega)).trans H.blk, (hg.block rb h2 (fun e => by injection e; omega)).trans H.res, hq, hr⟩
theorem DS.set {w wr : World} {q m rb xb : Nat} {f i v d t h a f' i' v' d' t' h' a' : Int} (H : DS w wr q m rb xb f i v d t h a) (hB : w.heap.size ≤ xb) (n : Nat) (z : Int)
    (e : (lyArr f i v d t h a).setIfInBounds n (.int .i64 z) = lyArr f' i' v' d' t' h' a') : DS w (wr.setCell ⟨xb, n, none⟩ (.int .i64 z)) q m rb xb f' i' v' d' t' h' a' := by
  have hgs : wr.grownBy (wr.setCell ⟨xb, n, none⟩ (.int .i64 z)) (some xb) := grown_setCell (World.grownBy.refl wr (some xb)) rfl _
  have hq := H.hq
  have hr := H.hr
  refine ⟨H.src.grow hgs (fun g e => by injection e; omega), ?_, ?_, ?_, hq, hr⟩
  · exact ⟨hgs.os.trans H.grow.os, hgs.tape.trans H.grow.tape, hgs.output.trans H.grow.output, Nat.le_trans H.grow.size hgs.size, fun k hk hne => (hgs.block k (Nat.lt_of_lt_of_le hk H.grow.size) (fun e => by injection e; omega)).trans (H.grow.block k hk hne)⟩
  · rw [← e]; exact Go.Joins.block_setCell (i := n) H.blk (.int .i64 z)
  · exact (hgs.block rb (Array.getElem?_eq_some_iff.1 H.res).1 (fun e => by injection e; omega)).trans H.res
theorem DS.cell {w wr : World} {q m rb xb : Nat} {f i v d t h a : Int} (H : DS w wr q m rb xb f i v d t h a) (n : Nat) : wr.cell? ⟨xb, n, none⟩ = (lyArr f i v d t h a)[n]? := by
  have := Go.Joins.cell_of_block H.blk n
  simpa using this
theorem DS.free {w wr : World} {q m rb xb : Nat} {f i v d t h a : Int} (H : DS w wr q m rb xb f i v d t h a) (n : Nat) : wr.frozen? ⟨xb, n, none⟩ = false := Go.Joins.unfrozen_of_block H.blk n
theorem grown_belowL {w wr w' : World} {r : Option Nat} (h : w.grownBy wr r) (hb : Below wr.heap.size wr w') : w.grownBy w' r :=
  ⟨hb.os.trans h.os, hb.tape.trans h.tape, hb.output.trans h.output, Nat.le_trans h.size hb.size, fun k hk hne => (hb.block k (Nat.lt_of_lt_of_le hk h.size)).trans (h.block k hk hne)⟩
theorem rb_keep {w wr : World} {q m rb : Nat} (hs : SrcP wr q m) (hg : w.grownBy wr (some q)) (hq : q < rb) (hB : w.heap.size ≤ rb) (a0 a1 a2 a3 a4 a5 a6 : Value) :
    SrcP (((((((wr.setCell ⟨rb, 0, none⟩ a0).setCell ⟨rb, 1, none⟩ a1).setCell ⟨rb, 2, none⟩ a2).setCell ⟨rb, 3, none⟩ a3).setCell ⟨rb, 4, none⟩ a4).setCell ⟨rb, 5, none⟩ a5).setCell ⟨rb, 6, none⟩ a6) q m ∧ w.grownBy (((((((wr.setCell ⟨rb, 0, none⟩ a0).setCell ⟨rb, 1, none⟩ a1).setCell ⟨rb, 2, none⟩ a2).setCell ⟨rb, 3, none⟩ a3).setCell ⟨rb, 4, none⟩ a4).setCell ⟨rb, 5, none⟩ a5).setCell ⟨rb, 6, none⟩ a6) (some q) := by
  have hgs : wr.grownBy (((((((wr.setCell ⟨rb, 0, none⟩ a0).setCell ⟨rb, 1, none⟩ a1).setCell ⟨rb, 2, none⟩ a2).setCell ⟨rb, 3, none⟩ a3).setCell ⟨rb, 4, none⟩ a4).setCell ⟨rb, 5, none⟩ a5).setCell ⟨rb, 6, none⟩ a6) (some rb) := grown_setCell (p := ⟨rb, 6, none⟩) (grown_setCell (p := ⟨rb, 5, none⟩) (grown_setCell (p := ⟨rb, 4, none⟩) (grown_setCell (p := ⟨rb, 3, none⟩) (grown_setCell (p := ⟨rb, 2, none⟩) (grown_setCell (p := ⟨rb, 1, none⟩) (grown_setCell (p := ⟨rb, 0, none⟩) (World.grownBy.refl wr (some rb)) rfl a0) rfl a1) rfl a2) rfl a3) rfl a4) rfl a5) rfl a6
  refine ⟨hs.grow hgs (fun g e => by injection e; omega), ?_⟩
  exact ⟨hgs.os.trans hg.os, hgs.tape.trans hg.tape, hgs.output.trans hg.output, Nat.le_trans hg.size hgs.size, fun k hk hne => (hgs.block k (Nat.lt_of_lt_of_le hk hg.size) (fun e => by injection e; omega)).trans (hg.block k hk hne)⟩
theorem lt_of_pick {x k : Int} (h0 : 0 ≤ x) (h : x < k ∨ x = 0) (hk : 0 < k) : x < k := by omega
set_option maxRecDepth 100000 in
set_option maxHeartbeats 2000000 in
theorem l03DrawOne_d (q m : Nat) (w : World) (H : SrcP w q m) (hm : m ≤ 10000000000) :
    Calls Try.prog 48 #[.pointer (some ⟨q, 0, none⟩)] w fun e w' => (∃ f i v d t h a, e = .returned (Lyv f i v d t h a) ∧ Lb f i v d t h a) ∧ SrcP w' q (m + 20) ∧ w.grownBy w' (some q) := by
  have hq := H.lt
  have hb0 : Below w.heap.size w (w.alloc (.cells (lyArr 0 0 0 0 0 0 0) 35)) := (Below.refl _ _).alloc (Nat.le_refl _) _
  have H0 := Lib.hid (And.intro (H.below hb0) hb0)
  clear H hb0
  go_enter Try.func48, Try.ntmps48
  go_wp2_with fail
  refine (pick_p _ _ 6 _ H0.out.1 (by omega) (by omega)).mono ?_
  rintro e w1 ⟨⟨x1, rfl, hx1, hx1'⟩, hs1, hg1⟩
  replace hx1' := lt_of_pick hx1 hx1' (by omega)
  have hz1 : w.heap.size < w1.heap.size := by have := hg1.size; simp at this; omega
  have hba : Below w1.heap.size w1 (w1.alloc (.cells (lyArr (1 + x1) 0 0 0 0 0 0) 35)) := (Below.refl _ _).alloc (Nat.le_refl _) _
  have H1 := Lib.hid (show DS w (w1.alloc (.cells (lyArr (1 + x1) 0 0 0 0 0 0) 35)) q (m + 2) w.heap.size w1.heap.size (1 + x1) 0 0 0 0 0 0 from
    ⟨hs1.below hba, grown_belowL (grown_alloc hg1) hba, blk_alloc_new _ _, (hba.block _ hz1).trans ((hg1.block _ (by simp) (fun e => by injection e; omega)).trans (blk_alloc_new _ _)), hq, hz1⟩)
  clear hs1 hg1 hba
  go_wp2_with fail
  refine (pick_p _ _ 120 _ H1.out.src (by omega) (by omega)).mono ?_
  rintro e w2 ⟨⟨x2, rfl, hx2, hx2'⟩, hs2, hg2⟩
  replace hx2' := lt_of_pick hx2 hx2' (by omega)
  have HA2 := Lib.hid (H1.out.call hs2 hg2)
  have c2 := HA2.out.cell 1
  simp only [List.getElem?_toArray, List.getElem?_cons_zero, List.getElem?_cons_succ] at c2
  have u2 := HA2.out.free 1
  have HB2 := Lib.hid (HA2.out.set (by omega) 1 (1000 + 500 * x2) rfl)
  clear hs2 hg2
  go_wp2_with fail
  rw [show w2.heap.size = (w2.setCell ⟨w1.heap.size, 1, none⟩ (.int .i64 (1000 + 500 * x2))).heap.size by simp [World.setCell]]
  refine (among_lit _ _ [0, 0, 0, 100, 700, 3000] _ _ _ _ _ HB2.out.src (by omega) rfl rfl (by decide) (by decide) (by decide)).mono ?_
  rintro e w3 ⟨⟨x3, hx3, rfl⟩, hs3, hg3⟩
  replace hx3 : 0 ≤ x3 ∧ x3 ≤ 3000 := by
    simp only [List.mem_cons, List.not_mem_nil, or_false] at hx3
    omega
  have HA3 := Lib.hid (HB2.out.call hs3 hg3)
  have c3 := HA3.out.cell 2
  simp only [List.getElem?_toArray, List.getElem?_cons_zero, List.getElem?_cons_succ] at c3
  have u3 := HA3.out.free 2
  have HB3 := Lib.hid (HA3.out.set (by omega) 2 (x3) rfl)
  clear hs3 hg3
  clear c2 u2
  go_wp2_with fail
  refine (pick_p _ _ 40 _ HB3.out.src (by omega) (by omega)).mono ?_
  rintro e w4 ⟨⟨x4, rfl, hx4, hx4'⟩, hs4, hg4⟩
  replace hx4' := lt_of_pick hx4 hx4' (by omega)
  have HA4 := Lib.hid (HB3.out.call hs4 hg4)
  have c4 := HA4.out.cell 3
  simp only [List.getElem?_toArray, List.getElem?_cons_zero, List.getElem?_cons_succ] at c4
  have u4 := HA4.out.free 3
  have HB4 := Lib.hid (HA4.out.set (by omega) 3 (60 + 10 * x4) rfl)
  clear hs4 hg4
  clear c3 u3
  go_wp2_with fail
  refine (pick_p _ _ 30 _ HB4.out.src (by omega) (by omega)).mono ?_
  rintro e w5 ⟨⟨x5, rfl, hx5, hx5'⟩, hs5, hg5⟩
  replace hx5' := lt_of_pick hx5 hx5' (by omega)
  have HA5 := Lib.hid (HB4.out.call hs5 hg5)
  have c5 := HA5.out.cell 4
  simp only [List.getElem?_toArray, List.getElem?_cons_zero, List.getElem?_cons_succ] at c5
  have u5 := HA5.out.free 4
  have HB5 := Lib.hid (HA5.out.set (by omega) 4 (-50 * x5) rfl)
  clear hs5 hg5
  clear c4 u4
  have cw := HA5.out.cell 2
  simp only [List.getElem?_toArray, List.getElem?_cons_zero, List.getElem?_cons_succ] at cw
  have hz5 : w.heap.size < w1.heap.size := hz1
  by_cases hw : 0 < x3
  · have HC := Lib.hid (HB5.out.set (by omega) 4 0 rfl)
    go_wp2_with fail
    refine (pick_p _ _ 6 _ HC.out.src (by omega) (by omega)).mono ?_
    rintro e w6 ⟨⟨x6, rfl, hx6, hx6'⟩, hs6, hg6⟩
    replace hx6' := lt_of_pick hx6 hx6' (by omega)
    have HA6 := Lib.hid (HC.out.call hs6 hg6)
    have c6 := HA6.out.cell 5
    simp only [List.getElem?_toArray, List.getElem?_cons_zero, List.getElem?_cons_succ] at c6
    have u6 := HA6.out.free 5
    have HB6 := Lib.hid (HA6.out.set (by omega) 5 (1 + x6) rfl)
    clear hs6 hg6
    go_wp2_with fail
    refine (pick_p _ _ 400 _ HB6.out.src (by omega) (by omega)).mono ?_
    rintro e w7 ⟨⟨x7, rfl, hx7, hx7'⟩, hs7, hg7⟩
    replace hx7' := lt_of_pick hx7 hx7' (by omega)
    have HA7 := Lib.hid (HB6.out.call hs7 hg7)
    have c7 := HA7.out.cell 6
    simp only [List.getElem?_toArray, List.getElem?_cons_zero, List.getElem?_cons_succ] at c7
    have u7 := HA7.out.free 6
    have HB7 := Lib.hid (HA7.out.set (by omega) 6 (x7) rfl)
    clear hs7 hg7
    clear c6 u6 c7
    have d0 := HA7.out.cell 0
    have d1 := HA7.out.cell 1
    have d2 := HA7.out.cell 2
    have d3 := HA7.out.cell 3
    have d4 := HA7.out.cell 4
    have d5 := HA7.out.cell 5
    have d6 := HA7.out.cell 6
    simp only [List.getElem?_toArray, List.getElem?_cons_zero, List.getElem?_cons_succ] at d0 d1 d2 d3 d4 d5 d6
    have r0 := Go.Joins.unfrozen_of_block HA7.out.res 0
    have r1 := Go.Joins.unfrozen_of_block HA7.out.res 1
    have r2 := Go.Joins.unfrozen_of_block HA7.out.res 2
    have r3 := Go.Joins.unfrozen_of_block HA7.out.res 3
    have r4 := Go.Joins.unfrozen_of_block HA7.out.res 4
    have r5 := Go.Joins.unfrozen_of_block HA7.out.res 5
    have r6 := Go.Joins.unfrozen_of_block HA7.out.res 6
    have k0 := Go.Joins.cell_of_block HA7.out.res 0
    have k1 := Go.Joins.cell_of_block HA7.out.res 1
    have k2 := Go.Joins.cell_of_block HA7.out.res 2
    have k3 := Go.Joins.cell_of_block HA7.out.res 3
    have k4 := Go.Joins.cell_of_block HA7.out.res 4
    have k5 := Go.Joins.cell_of_block HA7.out.res 5
    have k6 := Go.Joins.cell_of_block HA7.out.res 6
    simp only [List.getElem?_toArray, List.getElem?_cons_zero, List.getElem?_cons_succ] at k0 k1 k2 k3 k4 k5 k6
    have hne : w.heap.size ≠ w1.heap.size := by omega
    have HE := Lib.hid (rb_keep (rb := w.heap.size) HB7.out.src HB7.out.grow hq (Nat.le_refl _) (.int .i64 (1 + x1)) (.int .i64 (1000 + 500 * x2)) (.int .i64 x3) (.int .i64 (60 + 10 * x4)) (.int .i64 (0)) (.int .i64 (1 + x6)) (.int .i64 x7))
    go_wp2_with fail
    exact bodyPost_ret (v := Lyv (1 + x1) (1000 + 500 * x2) x3 (60 + 10 * x4) (0) (1 + x6) x7) (by simp [results, Try.results48, go_sem, *]) rfl ⟨⟨_, _, _, _, _, _, _, rfl, by omega, by omega, by omega, by omega, by omega, by omega, by omega⟩, HE.out.1.mono (by omega), HE.out.2⟩
  · go_wp2_with fail
    refine (pick_p _ _ 6 _ HB5.out.src (by omega) (by omega)).mono ?_
    rintro e w6 ⟨⟨x6, rfl, hx6, hx6'⟩, hs6, hg6⟩
    replace hx6' := lt_of_pick hx6 hx6' (by omega)
    have HA6 := Lib.hid (HB5.out.call hs6 hg6)
    have c6 := HA6.out.cell 5
    simp only [List.getElem?_toArray, List.getElem?_cons_zero, List.getElem?_cons_succ] at c6
    have u6 := HA6.out.free 5
    have HB6 := Lib.hid (HA6.out.set (by omega) 5 (1 + x6) rfl)
    clear hs6 hg6
    go_wp2_with fail
    refine (pick_p _ _ 400 _ HB6.out.src (by omega) (by omega)).mono ?_
    rintro e w7 ⟨⟨x7, rfl, hx7, hx7'⟩, hs7, hg7⟩
    replace hx7' := lt_of_pick hx7 hx7' (by omega)
    have HA7 := Lib.hid (HB6.out.call hs7 hg7)
    have c7 := HA7.out.cell 6
    simp only [List.getElem?_toArray, List.getElem?_cons_zero, List.getElem?_cons_succ] at c7
    have u7 := HA7.out.free 6
    have HB7 := Lib.hid (HA7.out.set (by omega) 6 (x7) rfl)
    clear hs7 hg7
    clear c6 u6 c7
    have d0 := HA7.out.cell 0
    have d1 := HA7.out.cell 1
    have d2 := HA7.out.cell 2
    have d3 := HA7.out.cell 3
    have d4 := HA7.out.cell 4
    have d5 := HA7.out.cell 5
    have d6 := HA7.out.cell 6
    simp only [List.getElem?_toArray, List.getElem?_cons_zero, List.getElem?_cons_succ] at d0 d1 d2 d3 d4 d5 d6
    have r0 := Go.Joins.unfrozen_of_block HA7.out.res 0
    have r1 := Go.Joins.unfrozen_of_block HA7.out.res 1
    have r2 := Go.Joins.unfrozen_of_block HA7.out.res 2
    have r3 := Go.Joins.unfrozen_of_block HA7.out.res 3
    have r4 := Go.Joins.unfrozen_of_block HA7.out.res 4
    have r5 := Go.Joins.unfrozen_of_block HA7.out.res 5
    have r6 := Go.Joins.unfrozen_of_block HA7.out.res 6
    have k0 := Go.Joins.cell_of_block HA7.out.res 0
    have k1 := Go.Joins.cell_of_block HA7.out.res 1
    have k2 := Go.Joins.cell_of_block HA7.out.res 2
    have k3 := Go.Joins.cell_of_block HA7.out.res 3
    have k4 := Go.Joins.cell_of_block HA7.out.res 4
    have k5 := Go.Joins.cell_of_block HA7.out.res 5
    have k6 := Go.Joins.cell_of_block HA7.out.res 6
    simp only [List.getElem?_toArray, List.getElem?_cons_zero, List.getElem?_cons_succ] at k0 k1 k2 k3 k4 k5 k6
    have hne : w.heap.size ≠ w1.heap.size := by omega
    have HE := Lib.hid (rb_keep (rb := w.heap.size) HB7.out.src HB7.out.grow hq (Nat.le_refl _) (.int .i64 (1 + x1)) (.int .i64 (1000 + 500 * x2)) (.int .i64 x3) (.int .i64 (60 + 10 * x4)) (.int .i64 (-50 * x5)) (.int .i64 (1 + x6)) (.int .i64 x7))
    go_wp2_with fail
    exact bodyPost_ret (v := Lyv (1 + x1) (1000 + 500 * x2) x3 (60 + 10 * x4) (-50 * x5) (1 + x6) x7) (by simp [results, Try.results48, go_sem, *]) rfl ⟨⟨_, _, _, _, _, _, _, rfl, by omega, by omega, by omega, by omega, by omega, by omega, by omega⟩, HE.out.1.mono (by omega), HE.out.2⟩
end Go.Proofs.Ytlfjjdglffiinaa
