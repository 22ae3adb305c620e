/-
  Proves: for every input the law FnExactLargestPart returns true, and its arguments read as before. No condition.
-/
import Derived.Test.YtdmfapdnepdibaaLift
import Derived.Test.YtdmfapdnepdibaaPartL
namespace Go.Proofs.Ytdmfapdnepdibaa.fnExactLargestPart
open Go.ChangeShapes Go.WideShapes Go.ChangeAt Go.RowKit Go.Deep
set_option linter.unusedVariables false

set_option maxRecDepth 100000 in
set_option maxHeartbeats 4000000 in
theorem walk (R0 C0 S0 : Int) (A0 : Option Addr) (n0 c0 : Nat) (x0 : List Int) (A1 : Option Addr) (n1 c1 : Nat) (x1 : List Int) (w : World) (h0 : GridA w R0 C0 S0 A0 n0 x0) (h1 : Ints w A1 n1 x1) :
    Calls Try.prog 5 #[.agg #[.int .i64 R0, .int .i64 C0, .int .i64 S0, .slice A0 n0 c0], .slice A1 n1 c1] w fun e w' => e = .returned (.bool true) ∧ Below w.heap.size w w' := by
  have hm0 := h0.1.2.1
  have hm1 := h1.2.1
  by_cases hn1 : n1 ≤ 1048576
  rotate_left
  · go_enter Try.func5, Try.ntmps5
    go_wp2_with fail
    go_ret
    exact ⟨rfl, ((Below.refl _ _).alloc (Nat.le_refl _) (.cells #[.int .i64 R0, .int .i64 C0, .int .i64 S0, .slice A0 n0 c0] 34))⟩
  by_cases hn0 : n0 ≤ 1048576
  rotate_left
  · go_enter Try.func5, Try.ntmps5
    go_wp2_with (go_at_call 17; refine (szGrid_no _ _ _ _ _ _ _ _ hm0 (by omega) (by omega) (by omega)).mono ?_; rintro e w' ⟨rfl, hbz⟩)
    go_ret
    exact ⟨rfl, ((Below.refl _ _).alloc (Nat.le_refl _) (.cells #[.int .i64 R0, .int .i64 C0, .int .i64 S0, .slice A0 n0 c0] 34)).trans (hbz.mono (by simp))⟩
  have OK := Lib.hid (bigR_ok R0 C0 S0 x0 x1)
  obtain ⟨Y, hY⟩ : ∃ Y, Y = bigR (cellsC R0 C0 S0 x0 x1) R0 C0 x1 := ⟨_, rfl⟩
  obtain ⟨C, hC⟩ : ∃ C, C = bigC (cellsC R0 C0 S0 x0 x1) R0 C0 x1 := ⟨_, rfl⟩
  rw [← hY] at OK
  have HY := Lib.hid hY
  have HC := Lib.hid hC
  clear hY hC
  have hYl := OK.out.2
  have H00 := Lib.hid h0
  have H01 := Lib.hid h1
  have z0 : w.heap.size + 1 ≤ (w.alloc (.cells #[.int .i64 R0, .int .i64 C0, .int .i64 S0, .slice A0 n0 c0] 34)).heap.size := by simp
  have B : Below w.heap.size w _ := ((Below.refl _ _).alloc (Nat.le_refl _) (.cells #[.int .i64 R0, .int .i64 C0, .int .i64 S0, .slice A0 n0 c0] 34))
  replace h0 := h0.below B
  replace h1 := h1.below B
  have X := Lib.hid (boxG_of w R0 C0 S0 A0 n0 c0 34)
  go_enter Try.func5, Try.ntmps5
  obtain ⟨p0, p1, p2, p3⟩ := X.out
  go_wp2_with fail
  clear p0 p1 p2 p3
  refine (szGrid_ok _ _ _ _ _ _ _ _ (by omega) (by omega)).mono ?_
  rintro e w1 ⟨rfl, hb1⟩
  replace h0 := h0.below hb1
  replace h1 := h1.below hb1
  replace X := Lib.hid (X.out.below hb1)
  replace B := B.trans (hb1.mono B.size)
  have z1 := hb1.size
  clear hb1
  obtain ⟨p0, p1, p2, p3⟩ := X.out
  go_wp2_with fail
  clear p0 p1 p2 p3
  refine (toGrid_any _ _ _ _ _ _ x0 _ h0 hn0).mono ?_
  rintro e w2 ⟨ga2, rfl, ho2, hb2⟩
  have s0 := Fresh.of_own ho2
  clear ho2
  replace h0 := h0.below hb2
  replace h1 := h1.below hb2
  replace X := Lib.hid (X.out.below hb2)
  replace B := B.trans (hb2.mono B.size)
  have z2 := hb2.size
  clear hb2
  have us0 := s0.upper
  obtain ⟨p0, p1, p2, p3⟩ := X.out
  go_wp2_with fail
  clear p0 p1 p2 p3
  refine (toInt64S_any _ _ _ x1 _ h1 hn1).mono ?_
  rintro e w3 ⟨rfl, ho3, hb3, hz3⟩
  have s1 := Fresh.of_own ho3
  clear ho3 hz3
  replace h0 := h0.below hb3
  replace h1 := h1.below hb3
  replace s0 := s0.below hb3
  replace X := Lib.hid (X.out.below hb3)
  replace B := B.trans (hb3.mono B.size)
  have z3 := hb3.size
  clear hb3
  have us1 := s1.upper
  obtain ⟨p0, p1, p2, p3⟩ := X.out
  go_wp2_with fail
  clear p0 p1 p2 p3
  refine (LargestPart_s _ _ _ _ _ _ _ _ _ x0 x1 _ (h0.to (s0.ints h0.1.2.2.1)) (s1.ints h1.2.2.1)).mono ?_
  rintro e w4 ⟨A4, c4, rfl, fw, hb4⟩
  rw [← HY.out] at fw ⊢
  rw [← HC.out]
  replace h0 := h0.below hb4
  replace h1 := h1.below hb4
  replace s0 := s0.below hb4
  replace s1 := s1.below hb4
  replace X := Lib.hid (X.out.below hb4)
  replace B := B.trans (hb4.mono B.size)
  have z4 := hb4.size
  clear hb4
  have ufw := fw.upper
  clear s0 us0
  clear s1 us1
  obtain ⟨p0, p1, p2, p3⟩ := X.out
  go_wp2_with fail
  clear p0 p1 p2 p3
  refine (toGrid_any _ _ _ _ _ _ x0 _ h0 hn0).mono ?_
  rintro e w5 ⟨ga5, rfl, ho5, hb5⟩
  have g0 := Fresh.of_own ho5
  clear ho5
  replace h0 := h0.below hb5
  replace h1 := h1.below hb5
  replace fw := fw.below hb5
  replace X := Lib.hid (X.out.below hb5)
  replace B := B.trans (hb5.mono B.size)
  have z5 := hb5.size
  clear hb5
  have ug0 := g0.upper
  have hx5 : Below w5.heap.size w5 _ := (Below.refl _ _).alloc (Nat.le_refl _) (.cells #[.int .i64 R0, .int .i64 C0, .int .i64 S0, .slice (some ⟨ga5, 0, none⟩) n0 n0] 26)
  have zx5 : w5.heap.size + 1 ≤ (w5.alloc (.cells #[.int .i64 R0, .int .i64 C0, .int .i64 S0, .slice (some ⟨ga5, 0, none⟩) n0 n0] 26)).heap.size := by simp
  have Y5 := Lib.hid (boxG_of w5 R0 C0 S0 (some ⟨ga5, 0, none⟩) n0 n0 26)
  replace h0 := h0.below hx5
  replace h1 := h1.below hx5
  replace fw := fw.below hx5
  replace g0 := g0.below hx5
  replace X := Lib.hid (X.out.below hx5)
  replace B := B.trans (hx5.mono B.size)
  clear hx5
  obtain ⟨p0, p1, p2, p3⟩ := X.out
  obtain ⟨Y50, Y51, Y52, Y53⟩ := Y5.out
  go_wp2_with fail
  clear p0 p1 p2 p3
  clear Y50 Y51 Y52 Y53
  refine (toInt64S_any _ _ _ x1 _ h1 hn1).mono ?_
  rintro e w6 ⟨rfl, ho6, hb6, hz6⟩
  rw [show (w5.alloc (.cells #[.int .i64 R0, .int .i64 C0, .int .i64 S0, .slice (some ⟨ga5, 0, none⟩) n0 n0] 26)).heap.size = w5.heap.size + 1 by simp] at ho6
  have g1 := Fresh.of_own ho6
  clear ho6 hz6
  replace h0 := h0.below hb6
  replace h1 := h1.below hb6
  replace fw := fw.below hb6
  replace g0 := g0.below hb6
  replace X := Lib.hid (X.out.below hb6)
  replace Y5 := Lib.hid (Y5.out.below hb6)
  replace B := B.trans (hb6.mono B.size)
  have z6 := hb6.size
  clear hb6
  have ug1 := g1.upper
  obtain ⟨p0, p1, p2, p3⟩ := X.out
  obtain ⟨Y50, Y51, Y52, Y53⟩ := Y5.out
  go_wp2_with fail
  clear p0 p1 p2 p3
  clear Y50 Y51 Y52 Y53
  refine (LargestPart_i _ _ _ _ _ _ _ _ _ x0 x1 _ (h0.to (g0.ints h0.1.2.2.1)) (g1.ints h1.2.2.1)).mono ?_
  rintro e w7 ⟨A7, c7, rfl, fg, hb7⟩
  rw [← HY.out] at fg ⊢
  rw [← HC.out]
  replace h0 := h0.below hb7
  replace h1 := h1.below hb7
  replace fw := fw.below hb7
  replace g0 := g0.below hb7
  replace g1 := g1.below hb7
  replace X := Lib.hid (X.out.below hb7)
  replace Y5 := Lib.hid (Y5.out.below hb7)
  replace B := B.trans (hb7.mono B.size)
  have z7 := hb7.size
  clear hb7
  have ufg := fg.upper
  obtain ⟨p0, p1, p2, p3⟩ := X.out
  obtain ⟨Y50, Y51, Y52, Y53⟩ := Y5.out
  go_wp2_with fail
  clear p0 p1 p2 p3
  clear Y50 Y51 Y52 Y53
  refine (eqInt64S_same _ _ _ _ _ Y _ (fg.ints OK.out.1) (fw.ints OK.out.1)).mono ?_
  rintro e w8 ⟨rfl, hb8⟩
  replace h0 := h0.below hb8
  replace h1 := h1.below hb8
  replace fw := fw.below hb8
  replace g0 := g0.below hb8
  replace g1 := g1.below hb8
  replace fg := fg.below hb8
  replace X := Lib.hid (X.out.below hb8)
  replace Y5 := Lib.hid (Y5.out.below hb8)
  replace B := B.trans (hb8.mono B.size)
  have z8 := hb8.size
  clear hb8
  obtain ⟨p0, p1, p2, p3⟩ := X.out
  obtain ⟨Y50, Y51, Y52, Y53⟩ := Y5.out
  go_wp2_with fail
  go_region_held3 (fun w' => w'.cell? ⟨w.heap.size, 0, none⟩ = some (.int .i64 R0) ∧ w'.cell? ⟨w.heap.size, 1, none⟩ = some (.int .i64 C0) ∧ w'.cell? ⟨w.heap.size, 2, none⟩ = some (.int .i64 S0) ∧ w'.cell? ⟨w.heap.size, 3, none⟩ = some (.slice A0 n0 c0) ∧ w'.cell? ⟨w5.heap.size, 0, none⟩ = some (.int .i64 R0) ∧ w'.cell? ⟨w5.heap.size, 1, none⟩ = some (.int .i64 C0) ∧ w'.cell? ⟨w5.heap.size, 2, none⟩ = some (.int .i64 S0) ∧ w'.cell? ⟨w5.heap.size, 3, none⟩ = some (.slice (some ⟨ga5, 0, none⟩) n0 n0))
    (first | go_keep | exact HS10 | exact HS9)
    ((first | (go_at_call 19; refine (toGrid_any _ _ _ _ _ _ x0 _ (h0.below (Below.refl _ _).drew) hn0).mono ?_; rintro e w9 ⟨ga9, rfl, ho9, hc9⟩; have hb9 := below_of_drew hc9; have r9 := Ints.of_own ho9 h0.1.2.2.1; have v9 := ((h0.to (g0.ints h0.1.2.2.1))).below hb9; have X9 := X.out.below hb9; have V9 := Y5.out.below hb9; have HS9 := (And.intro X9.1 (And.intro X9.2.1 (And.intro X9.2.2.1 (And.intro X9.2.2.2 (And.intro V9.1 (And.intro V9.2.1 (And.intro V9.2.2.1 V9.2.2.2)))))))) | (go_at_call 22; refine (eqGrid_same _ _ _ _ _ _ _ _ x0 _ v9.1 r9).mono ?_; rintro e w10 ⟨rfl, hb10⟩; have X10 := X9.below hb10; have V10 := V9.below hb10; have HS10 := (And.intro X10.1 (And.intro X10.2.1 (And.intro X10.2.2.1 (And.intro X10.2.2.2 (And.intro V10.1 (And.intro V10.2.1 (And.intro V10.2.2.1 V10.2.2.2))))))))))
  clear p0 p1 p2 p3
  clear Y50 Y51 Y52 Y53
  clear HS9 HS10 X9 V9 X10 V10 r9 v9 ho9 hc9
  replace h0 := h0.below hb9
  replace h1 := h1.below hb9
  replace fw := fw.below hb9
  replace g0 := g0.below hb9
  replace g1 := g1.below hb9
  replace fg := fg.below hb9
  replace X := Lib.hid (X.out.below hb9)
  replace Y5 := Lib.hid (Y5.out.below hb9)
  replace B := B.trans (hb9.mono B.size)
  have z9 := hb9.size
  clear hb9
  replace h0 := h0.below hb10
  replace h1 := h1.below hb10
  replace fw := fw.below hb10
  replace g0 := g0.below hb10
  replace g1 := g1.below hb10
  replace fg := fg.below hb10
  replace X := Lib.hid (X.out.below hb10)
  replace Y5 := Lib.hid (Y5.out.below hb10)
  replace B := B.trans (hb10.mono B.size)
  have z10 := hb10.size
  clear hb10
  obtain ⟨p0, p1, p2, p3⟩ := X.out
  obtain ⟨Y50, Y51, Y52, Y53⟩ := Y5.out
  go_wp2_with fail
  clear p0 p1 p2 p3
  clear Y50 Y51 Y52 Y53
  refine (toInt64S_any _ _ _ x1 _ h1 hn1).mono ?_
  rintro e w11 ⟨rfl, ho11, hb11, hz11⟩
  have t1 := Fresh.of_own ho11
  clear ho11 hz11
  replace h0 := h0.below hb11
  replace h1 := h1.below hb11
  replace fw := fw.below hb11
  replace g0 := g0.below hb11
  replace g1 := g1.below hb11
  replace fg := fg.below hb11
  replace X := Lib.hid (X.out.below hb11)
  replace Y5 := Lib.hid (Y5.out.below hb11)
  replace B := B.trans (hb11.mono B.size)
  have z11 := hb11.size
  clear hb11
  have ut1 := t1.upper
  obtain ⟨p0, p1, p2, p3⟩ := X.out
  obtain ⟨Y50, Y51, Y52, Y53⟩ := Y5.out
  go_wp2_with fail
  clear p0 p1 p2 p3
  clear Y50 Y51 Y52 Y53
  refine (eqInt64S_same _ _ _ _ _ x1 _ (g1.ints h1.2.2.1) (t1.ints h1.2.2.1)).mono ?_
  rintro e w12 ⟨rfl, hb12⟩
  replace h0 := h0.below hb12
  replace h1 := h1.below hb12
  replace fw := fw.below hb12
  replace g0 := g0.below hb12
  replace g1 := g1.below hb12
  replace fg := fg.below hb12
  replace t1 := t1.below hb12
  replace X := Lib.hid (X.out.below hb12)
  replace Y5 := Lib.hid (Y5.out.below hb12)
  replace B := B.trans (hb12.mono B.size)
  have z12 := hb12.size
  clear hb12
  clear t1 ut1
  obtain ⟨p0, p1, p2, p3⟩ := X.out
  obtain ⟨Y50, Y51, Y52, Y53⟩ := Y5.out
  go_wp2_with fail
  clear p0 p1 p2 p3
  clear Y50 Y51 Y52 Y53
  refine (markGrid_fresh _ _ _ _ _ _ _ _ _ _ g0 hn0 (by omega) (by omega)).mono ?_
  rintro e w13 ⟨rfl, r13, fm13, hgr13, hr13⟩
  have z13 := hgr13.size
  replace h0 := h0.old hgr13 H00.out (fun g hg => by have := (hr13 g hg).1; omega)
  replace h1 := h1.old hgr13 H01.out (fun g hg => by have := (hr13 g hg).1; omega)
  replace fw := fw.keep hgr13 (fun h0 g hA hb e => by have e1 := hr13 g e.symm; have e2 := ufw.out h0 g hA; have e3 := ug0.out e1.2.1 g e1.2.2; omega)
  replace g1 := g1.keep hgr13 (fun h0 g hA hb e => by have e1 := hr13 g e.symm; have e2 := ug1.out h0 g hA; have e3 := ug0.out e1.2.1 g e1.2.2; omega)
  replace fg := fg.keep hgr13 (fun h0 g hA hb e => by have e1 := hr13 g e.symm; have e2 := ufg.out h0 g hA; have e3 := ug0.out e1.2.1 g e1.2.2; omega)
  replace X := Lib.hid (X.out.grow hgr13 (fun g hg e => by have := (hr13 g hg).1; omega))
  replace Y5 := Lib.hid (Y5.out.grow hgr13 (fun g hg e => by have e1 := hr13 g hg; have e2 := ug0.out e1.2.1 g e1.2.2; omega))
  replace B := B.grown hgr13 B.size (fun g hg => by have := (hr13 g hg).1; omega)
  replace g0 := fm13
  clear hgr13 hr13 fm13
  obtain ⟨p0, p1, p2, p3⟩ := X.out
  obtain ⟨Y50, Y51, Y52, Y53⟩ := Y5.out
  go_wp2_with fail
  clear p0 p1 p2 p3
  clear Y50 Y51 Y52 Y53
  refine (markInt64S_fresh _ _ _ _ _ _ _ g1 hn1 (by omega) (by omega)).mono ?_
  rintro e w14 ⟨rfl, r14, fm14, hgr14, hr14⟩
  have z14 := hgr14.size
  replace h0 := h0.old hgr14 H00.out (fun g hg => by have := (hr14 g hg).1; omega)
  replace h1 := h1.old hgr14 H01.out (fun g hg => by have := (hr14 g hg).1; omega)
  replace fw := fw.keep hgr14 (fun h0 g hA hb e => by have e1 := hr14 g e.symm; have e2 := ufw.out h0 g hA; have e3 := ug1.out e1.2.1 g e1.2.2; omega)
  replace g0 := g0.keep hgr14 (fun h0 g hA hb e => by have e1 := hr14 g e.symm; have e2 := ug0.out h0 g hA; have e3 := ug1.out e1.2.1 g e1.2.2; omega)
  replace fg := fg.keep hgr14 (fun h0 g hA hb e => by have e1 := hr14 g e.symm; have e2 := ufg.out h0 g hA; have e3 := ug1.out e1.2.1 g e1.2.2; omega)
  replace X := Lib.hid (X.out.grow hgr14 (fun g hg e => by have := (hr14 g hg).1; omega))
  replace Y5 := Lib.hid (Y5.out.grow hgr14 (fun g hg e => by have e1 := hr14 g hg; have e2 := ug1.out e1.2.1 g e1.2.2; omega))
  replace B := B.grown hgr14 B.size (fun g hg => by have := (hr14 g hg).1; omega)
  replace g1 := fm14
  clear hgr14 hr14 fm14
  obtain ⟨p0, p1, p2, p3⟩ := X.out
  obtain ⟨Y50, Y51, Y52, Y53⟩ := Y5.out
  go_wp2_with fail
  clear p0 p1 p2 p3
  clear Y50 Y51 Y52 Y53
  refine (eqInt64S_same _ _ _ _ _ Y _ (fg.ints OK.out.1) (fw.ints OK.out.1)).mono ?_
  rintro e w15 ⟨rfl, hb15⟩
  replace h0 := h0.below hb15
  replace h1 := h1.below hb15
  replace fw := fw.below hb15
  replace g0 := g0.below hb15
  replace g1 := g1.below hb15
  replace fg := fg.below hb15
  replace X := Lib.hid (X.out.below hb15)
  replace Y5 := Lib.hid (Y5.out.below hb15)
  replace B := B.trans (hb15.mono B.size)
  have z15 := hb15.size
  clear hb15
  obtain ⟨p0, p1, p2, p3⟩ := X.out
  obtain ⟨Y50, Y51, Y52, Y53⟩ := Y5.out
  go_wp2_with fail
  clear p0 p1 p2 p3
  clear Y50 Y51 Y52 Y53
  refine (markInt64S_fresh _ _ _ _ _ _ _ fg OK.out.2 (by omega) (by omega)).mono ?_
  rintro e w16 ⟨rfl, r16, fm16, hgr16, hr16⟩
  have z16 := hgr16.size
  replace h0 := h0.old hgr16 H00.out (fun g hg => by have := (hr16 g hg).1; omega)
  replace h1 := h1.old hgr16 H01.out (fun g hg => by have := (hr16 g hg).1; omega)
  replace fw := fw.keep hgr16 (fun h0 g hA hb e => by have e1 := hr16 g e.symm; have e2 := ufw.out h0 g hA; have e3 := ufg.out e1.2.1 g e1.2.2; omega)
  replace g0 := g0.keep hgr16 (fun h0 g hA hb e => by have e1 := hr16 g e.symm; have e2 := ug0.out h0 g hA; have e3 := ufg.out e1.2.1 g e1.2.2; omega)
  replace g1 := g1.keep hgr16 (fun h0 g hA hb e => by have e1 := hr16 g e.symm; have e2 := ug1.out h0 g hA; have e3 := ufg.out e1.2.1 g e1.2.2; omega)
  replace X := Lib.hid (X.out.grow hgr16 (fun g hg e => by have := (hr16 g hg).1; omega))
  replace Y5 := Lib.hid (Y5.out.grow hgr16 (fun g hg e => by have e1 := hr16 g hg; have e2 := ufg.out e1.2.1 g e1.2.2; omega))
  replace B := B.grown hgr16 B.size (fun g hg => by have := (hr16 g hg).1; omega)
  replace fg := fm16
  clear hgr16 hr16 fm16
  obtain ⟨p0, p1, p2, p3⟩ := X.out
  obtain ⟨Y50, Y51, Y52, Y53⟩ := Y5.out
  go_wp2_with fail
  clear p0 p1 p2 p3
  clear Y50 Y51 Y52 Y53
  refine (heldInt64S_any _ _ _ _ _ (fg.ints (marks_bd (by omega) (by omega) (by omega))) OK.out.2 (by omega) (by omega)).mono ?_
  rintro e w17 ⟨rfl, q17, hq17⟩
  have hb17 := below_held ⟨_, hq17⟩
  clear hq17
  replace h0 := h0.below hb17
  replace h1 := h1.below hb17
  replace fw := fw.below hb17
  replace g0 := g0.below hb17
  replace g1 := g1.below hb17
  replace fg := fg.below hb17
  replace X := Lib.hid (X.out.below hb17)
  replace Y5 := Lib.hid (Y5.out.below hb17)
  replace B := B.trans (hb17.mono B.size)
  have z17 := hb17.size
  clear hb17
  obtain ⟨p0, p1, p2, p3⟩ := X.out
  obtain ⟨Y50, Y51, Y52, Y53⟩ := Y5.out
  go_wp2_with fail
  clear p0 p1 p2 p3
  clear Y50 Y51 Y52 Y53
  refine (toGrid_any _ _ _ _ _ _ x0 _ h0 hn0).mono ?_
  rintro e w18 ⟨ga18, rfl, ho18, hb18⟩
  have k0 := Fresh.of_own ho18
  clear ho18
  replace h0 := h0.below hb18
  replace h1 := h1.below hb18
  replace fw := fw.below hb18
  replace g0 := g0.below hb18
  replace g1 := g1.below hb18
  replace fg := fg.below hb18
  replace X := Lib.hid (X.out.below hb18)
  replace Y5 := Lib.hid (Y5.out.below hb18)
  replace B := B.trans (hb18.mono B.size)
  have z18 := hb18.size
  clear hb18
  have uk0 := k0.upper
  obtain ⟨p0, p1, p2, p3⟩ := X.out
  obtain ⟨Y50, Y51, Y52, Y53⟩ := Y5.out
  go_wp2_with fail
  clear p0 p1 p2 p3
  clear Y50 Y51 Y52 Y53
  refine (toInt64S_any _ _ _ x1 _ h1 hn1).mono ?_
  rintro e w19 ⟨rfl, ho19, hb19, hz19⟩
  have k1 := Fresh.of_own ho19
  clear ho19 hz19
  replace h0 := h0.below hb19
  replace h1 := h1.below hb19
  replace fw := fw.below hb19
  replace g0 := g0.below hb19
  replace g1 := g1.below hb19
  replace fg := fg.below hb19
  replace k0 := k0.below hb19
  replace X := Lib.hid (X.out.below hb19)
  replace Y5 := Lib.hid (Y5.out.below hb19)
  replace B := B.trans (hb19.mono B.size)
  have z19 := hb19.size
  clear hb19
  have uk1 := k1.upper
  obtain ⟨p0, p1, p2, p3⟩ := X.out
  obtain ⟨Y50, Y51, Y52, Y53⟩ := Y5.out
  go_wp2_with fail
  clear p0 p1 p2 p3
  clear Y50 Y51 Y52 Y53
  refine (LargestPart_i _ _ _ _ _ _ _ _ _ x0 x1 _ (h0.to (k0.ints h0.1.2.2.1)) (k1.ints h1.2.2.1)).mono ?_
  rintro e w20 ⟨A20, c20, rfl, fh, hb20⟩
  rw [← HY.out] at fh ⊢
  rw [← HC.out]
  replace h0 := h0.below hb20
  replace h1 := h1.below hb20
  replace fw := fw.below hb20
  replace g0 := g0.below hb20
  replace g1 := g1.below hb20
  replace fg := fg.below hb20
  replace k0 := k0.below hb20
  replace k1 := k1.below hb20
  replace X := Lib.hid (X.out.below hb20)
  replace Y5 := Lib.hid (Y5.out.below hb20)
  replace B := B.trans (hb20.mono B.size)
  have z20 := hb20.size
  clear hb20
  have ufh := fh.upper
  obtain ⟨p0, p1, p2, p3⟩ := X.out
  obtain ⟨Y50, Y51, Y52, Y53⟩ := Y5.out
  go_wp2_with fail
  clear p0 p1 p2 p3
  clear Y50 Y51 Y52 Y53
  refine (eqInt64S_same _ _ _ _ _ Y _ (fh.ints OK.out.1) (fw.ints OK.out.1)).mono ?_
  rintro e w21 ⟨rfl, hb21⟩
  replace h0 := h0.below hb21
  replace h1 := h1.below hb21
  replace fw := fw.below hb21
  replace g0 := g0.below hb21
  replace g1 := g1.below hb21
  replace fg := fg.below hb21
  replace k0 := k0.below hb21
  replace k1 := k1.below hb21
  replace fh := fh.below hb21
  replace X := Lib.hid (X.out.below hb21)
  replace Y5 := Lib.hid (Y5.out.below hb21)
  replace B := B.trans (hb21.mono B.size)
  have z21 := hb21.size
  clear hb21
  obtain ⟨p0, p1, p2, p3⟩ := X.out
  obtain ⟨Y50, Y51, Y52, Y53⟩ := Y5.out
  go_wp2_with fail
  clear p0 p1 p2 p3
  clear Y50 Y51 Y52 Y53
  refine (heldInt64S_any _ _ _ _ _ (fg.ints (marks_bd (by omega) (by omega) (by omega))) OK.out.2 (by omega) (by omega)).mono ?_
  rintro e w22 ⟨rfl, q22, hq22⟩
  have hb22 := below_held ⟨_, hq22⟩
  clear hq22
  replace h0 := h0.below hb22
  replace h1 := h1.below hb22
  replace fw := fw.below hb22
  replace g0 := g0.below hb22
  replace g1 := g1.below hb22
  replace fg := fg.below hb22
  replace k0 := k0.below hb22
  replace k1 := k1.below hb22
  replace fh := fh.below hb22
  replace X := Lib.hid (X.out.below hb22)
  replace Y5 := Lib.hid (Y5.out.below hb22)
  replace B := B.trans (hb22.mono B.size)
  have z22 := hb22.size
  clear hb22
  obtain ⟨p0, p1, p2, p3⟩ := X.out
  obtain ⟨Y50, Y51, Y52, Y53⟩ := Y5.out
  go_wp2_with fail
  clear p0 p1 p2 p3
  clear Y50 Y51 Y52 Y53
  go_ret
  exact ⟨rfl, B⟩

set_option maxRecDepth 100000 in
theorem lifted (os : Os) (started : os.Started) (H : Type) (enc : TypeId × Value → H) :
    ReturnsInHanded {} Try.checked os 5 .any (Rows.fnExactLargestPartSpec.pre6 enc Try.prog Try.f5 Rows.fnExactLargestPartRow.domain false) (Rows.fnExactLargestPartSpec.post enc Try.prog Try.f5 false true false false) := by
  refine returnsInHanded_of_change (C := Try.checked) own started (by kernel_rfl) Try.func5
    (ChangeSpec.witness6 (enc := enc) (C := Try.checked) false ⟨#[], #[.agg #[.int .i64 0, .int .i64 0, .int .i64 0, .slice none 0 0], .slice none 0 0], []⟩ 8 (by kernel_rfl) (by kernel_rfl) (by kernel_rfl) (by kernel_rfl)) ?_
  intro W base args ds gs before hval0 hW hcnd _
  have hval : ∀ (j : Nat) t v, Try.f5.params[j]? = some t → args[j]? = some v → Value.okWide Try.prog W .any base t v := hval0
  have hW' := hW
  obtain ⟨p, q, hA0, hV, rfl, hfz, hnd⟩ := hW
  have hA : DataW.TrodAll enc Try.prog W 0 (fun _ => true) true Try.f5.params.toList args.toList ds p := hA0
  rw [Try.params5] at hA hval
  obtain ⟨v0, vs0, d0, ds0, p0, q0, hargs, rfl, rfl, h0, r0⟩ := trodAll_cons hA
  obtain ⟨v1, vs1, d1, ds1, p1, q1, rfl, rfl, rfl, h1, r1⟩ := trodAll_cons r0
  obtain ⟨rfl, rfl, rfl⟩ := trodAll_nil r1
  obtain rfl : args = #[v0, v1] := by cases args; simp_all
  obtain ⟨rfl, rfl⟩ := trodVars_none hV
  have k0 := h0
  have lt0 : ∀ x ∈ p0, x.block < W.heap.size := by obtain ⟨m, hm⟩ := k0; exact DataW.trod_lt m _ _ _ hm
  obtain ⟨R0, G0, S0, a0, n0, c0, z0, rfl, w0⟩ := grid_open Try.underlying34 Try.underlying2 Try.underlying24 (by kernel_rfl) (by kernel_rfl) (by kernel_rfl) ⟨rfl, rfl, rfl, rfl⟩ (hval 0 34 v0 rfl rfl) h0
  have k1 := h1
  have lt1 : ∀ x ∈ p1, x.block < W.heap.size := by obtain ⟨m, hm⟩ := k1; exact DataW.trod_lt m _ _ _ hm
  obtain ⟨a1, n1, c1, rfl⟩ := okWide_slice Try.underlying24 (hval 1 24 v1 rfl rfl)
  obtain ⟨z1, w1⟩ := ints_open Try.underlying24 Try.underlying2 (by kernel_rfl) h1
  clear hA0 hval0
  refine (walk R0 G0 S0 a0 n0 c0 z0 a1 n1 c1 z1 W w0 w1).mono fun e W' ⟨he, bel⟩ => ?_
  subst he
  exact ⟨_, rfl, _, _, _, [], _, [], hW', trodAll_mk1 (shut_bool Try.underlying4 _), (trodAll_cons_mk (Below.trod laidOut (by kernel_rfl) (of_decide_eq_true (by kernel_rfl)) k0 bel lt0) (trodAll_cons_mk (Below.trod laidOut (by kernel_rfl) (of_decide_eq_true (by kernel_rfl)) k1 bel lt1) trodAll_mk0)), rfl, bel.frame _, fun h => by cases h⟩

theorem over : Rows.fnExactLargestPartRow.holds Try.pinned (OpenSpec.ofChange Rows.fnExactLargestPartSpec) :=
  OpenClaim.holds_of_wide 5 Try.f5 rfl rfl rfl rfl rfl rfl rfl ⟨rfl, rfl, rfl, rfl, rfl⟩ rfl rfl rfl rfl rfl (by kernel_rfl) Try.func5 (by kernel_rfl)
    (of_decide_eq_true (by kernel_rfl)) (by unfold Func.isWrapper; first | (rw [if_pos (by decide +kernel)]; kernel_rfl) | (rw [if_neg (by decide +kernel)]; exact ⟨rfl, rfl⟩))
    (fun os started H enc _ => lifted os started H enc)

/-- The statement. -/
theorem proved : Rows.FnExactLargestPartSaid := over
end Go.Proofs.Ytdmfapdnepdibaa.fnExactLargestPart
