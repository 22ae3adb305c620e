/-
  Proves: for every input the law FnExactPeaksOf returns true, and its arguments read as before. No condition.
-/
import Derived.Test.YtmcaokbnbbmhhaaLift
import Derived.Test.YtmcaokbnbbmhhaaGridM
namespace Go.Proofs.Ytmcaokbnbbmhhaa.fnExactPeaksOf
open Go.ChangeShapes Go.WideShapes Go.ChangeAt Go.RowKit Go.Deep
set_option linter.unusedVariables false

set_option maxRecDepth 100000 in
set_option maxHeartbeats 4000000 in
theorem walk (R0 C0 S0 : Int) (A0 : Option Addr) (n0 c0 : Nat) (x0 : List Int) (w : World) (h0 : GridA w R0 C0 S0 A0 n0 x0) :
    Calls Try.prog 6 #[.agg #[.int .i64 R0, .int .i64 C0, .int .i64 S0, .slice A0 n0 c0]] w fun e w' => e = .returned (.bool true) ∧ Below w.heap.size w w' := by
  have hm0 := h0.1.2.1
  by_cases hn0 : n0 ≤ 1048576
  rotate_left
  · go_enter Try.func6, Try.ntmps6
    go_wp2_with (go_at_call 14; refine (szGrid_no _ _ _ _ _ _ _ _ hm0 (by omega) (by omega) (by omega)).mono ?_; rintro e w' ⟨rfl, hbz⟩)
    go_ret
    exact ⟨rfl, ((Below.refl _ _).alloc (Nat.le_refl _) (.cells #[.int .i64 R0, .int .i64 C0, .int .i64 S0, .slice A0 n0 c0] 24)).trans (hbz.mono (by simp))⟩
  have OK := Lib.hid (cellsR_ok (gridK R0 C0 S0 x0) (fun h => grid_len h0.1.1 h) (peakP R0 C0 x0))
  obtain ⟨Y, hY⟩ : ∃ Y, Y = cellsR (gridK R0 C0 S0 x0) n0 (peakP R0 C0 x0) := ⟨_, rfl⟩
  obtain ⟨C, hC⟩ : ∃ C, C = gridK R0 C0 S0 x0 := ⟨_, rfl⟩
  rw [← hY] at OK
  have HY := Lib.hid hY
  have HC := Lib.hid hC
  clear hY hC
  have hYl := OK.out.2
  have H00 := Lib.hid h0
  have z0 : w.heap.size + 1 ≤ (w.alloc (.cells #[.int .i64 R0, .int .i64 C0, .int .i64 S0, .slice A0 n0 c0] 24)).heap.size := by simp
  have B : Below w.heap.size w _ := ((Below.refl _ _).alloc (Nat.le_refl _) (.cells #[.int .i64 R0, .int .i64 C0, .int .i64 S0, .slice A0 n0 c0] 24))
  replace h0 := h0.below B
  have X := Lib.hid (boxG_of w R0 C0 S0 A0 n0 c0 24)
  go_enter Try.func6, Try.ntmps6
  obtain ⟨p0, p1, p2, p3⟩ := X.out
  go_wp2_with fail
  clear p0 p1 p2 p3
  refine (szGrid_ok _ _ _ _ _ _ _ _ (by omega) (by omega)).mono ?_
  rintro e w1 ⟨rfl, hb1⟩
  replace h0 := h0.below hb1
  replace X := Lib.hid (X.out.below hb1)
  replace B := B.trans (hb1.mono B.size)
  have z1 := hb1.size
  clear hb1
  obtain ⟨p0, p1, p2, p3⟩ := X.out
  go_wp2_with fail
  clear p0 p1 p2 p3
  refine (toGrid_any _ _ _ _ _ _ x0 _ h0 hn0).mono ?_
  rintro e w2 ⟨ga2, rfl, ho2, hb2⟩
  have s0 := Fresh.of_own ho2
  clear ho2
  replace h0 := h0.below hb2
  replace X := Lib.hid (X.out.below hb2)
  replace B := B.trans (hb2.mono B.size)
  have z2 := hb2.size
  clear hb2
  have us0 := s0.upper
  obtain ⟨p0, p1, p2, p3⟩ := X.out
  go_wp2_with fail
  clear p0 p1 p2 p3
  refine (PeaksOf_s _ _ _ _ _ _ x0 _ (h0.to (s0.ints h0.1.2.2.1))).mono ?_
  rintro e w3 ⟨A3, c3, rfl, fw, hb3⟩
  rw [← HY.out] at fw ⊢
  rw [← HC.out]
  replace h0 := h0.below hb3
  replace s0 := s0.below hb3
  replace X := Lib.hid (X.out.below hb3)
  replace B := B.trans (hb3.mono B.size)
  have z3 := hb3.size
  clear hb3
  have ufw := fw.upper
  clear s0 us0
  obtain ⟨p0, p1, p2, p3⟩ := X.out
  go_wp2_with fail
  clear p0 p1 p2 p3
  refine (toGrid_any _ _ _ _ _ _ x0 _ h0 hn0).mono ?_
  rintro e w4 ⟨ga4, rfl, ho4, hb4⟩
  have g0 := Fresh.of_own ho4
  clear ho4
  replace h0 := h0.below hb4
  replace fw := fw.below hb4
  replace X := Lib.hid (X.out.below hb4)
  replace B := B.trans (hb4.mono B.size)
  have z4 := hb4.size
  clear hb4
  have ug0 := g0.upper
  have hx4 : Below w4.heap.size w4 _ := (Below.refl _ _).alloc (Nat.le_refl _) (.cells #[.int .i64 R0, .int .i64 C0, .int .i64 S0, .slice (some ⟨ga4, 0, none⟩) n0 n0] 28)
  have zx4 : w4.heap.size + 1 ≤ (w4.alloc (.cells #[.int .i64 R0, .int .i64 C0, .int .i64 S0, .slice (some ⟨ga4, 0, none⟩) n0 n0] 28)).heap.size := by simp
  have Y4 := Lib.hid (boxG_of w4 R0 C0 S0 (some ⟨ga4, 0, none⟩) n0 n0 28)
  replace h0 := h0.below hx4
  replace fw := fw.below hx4
  replace g0 := g0.below hx4
  replace X := Lib.hid (X.out.below hx4)
  replace B := B.trans (hx4.mono B.size)
  clear hx4
  obtain ⟨p0, p1, p2, p3⟩ := X.out
  obtain ⟨Y40, Y41, Y42, Y43⟩ := Y4.out
  go_wp2_with fail
  clear p0 p1 p2 p3
  clear Y40 Y41 Y42 Y43
  refine (PeaksOf_i _ _ _ _ _ _ x0 _ (h0.to (g0.ints h0.1.2.2.1))).mono ?_
  rintro e w5 ⟨A5, c5, rfl, fg, hb5⟩
  rw [← HY.out] at fg ⊢
  rw [← HC.out]
  replace h0 := h0.below hb5
  replace fw := fw.below hb5
  replace g0 := g0.below hb5
  replace X := Lib.hid (X.out.below hb5)
  replace Y4 := Lib.hid (Y4.out.below hb5)
  replace B := B.trans (hb5.mono B.size)
  have z5 := hb5.size
  clear hb5
  have ufg := fg.upper
  obtain ⟨p0, p1, p2, p3⟩ := X.out
  obtain ⟨Y40, Y41, Y42, Y43⟩ := Y4.out
  go_wp2_with fail
  clear p0 p1 p2 p3
  clear Y40 Y41 Y42 Y43
  refine (eqInt64S_same _ _ _ _ _ Y _ (fg.ints OK.out.1) (fw.ints OK.out.1)).mono ?_
  rintro e w6 ⟨rfl, hb6⟩
  replace h0 := h0.below hb6
  replace fw := fw.below hb6
  replace g0 := g0.below hb6
  replace fg := fg.below hb6
  replace X := Lib.hid (X.out.below hb6)
  replace Y4 := Lib.hid (Y4.out.below hb6)
  replace B := B.trans (hb6.mono B.size)
  have z6 := hb6.size
  clear hb6
  obtain ⟨p0, p1, p2, p3⟩ := X.out
  obtain ⟨Y40, Y41, Y42, Y43⟩ := Y4.out
  go_wp2_with fail
  go_region_held3 (fun w' => w'.cell? ⟨w.heap.size, 0, none⟩ = some (.int .i64 R0) ∧ w'.cell? ⟨w.heap.size, 1, none⟩ = some (.int .i64 C0) ∧ w'.cell? ⟨w.heap.size, 2, none⟩ = some (.int .i64 S0) ∧ w'.cell? ⟨w.heap.size, 3, none⟩ = some (.slice A0 n0 c0) ∧ w'.cell? ⟨w4.heap.size, 0, none⟩ = some (.int .i64 R0) ∧ w'.cell? ⟨w4.heap.size, 1, none⟩ = some (.int .i64 C0) ∧ w'.cell? ⟨w4.heap.size, 2, none⟩ = some (.int .i64 S0) ∧ w'.cell? ⟨w4.heap.size, 3, none⟩ = some (.slice (some ⟨ga4, 0, none⟩) n0 n0))
    (first | go_keep | exact HS8 | exact HS7)
    ((first | (go_at_call 16; refine (toGrid_any _ _ _ _ _ _ x0 _ (h0.below (Below.refl _ _).drew) hn0).mono ?_; rintro e w7 ⟨ga7, rfl, ho7, hc7⟩; have hb7 := below_of_drew hc7; have r7 := Ints.of_own ho7 h0.1.2.2.1; have v7 := ((h0.to (g0.ints h0.1.2.2.1))).below hb7; have X7 := X.out.below hb7; have V7 := Y4.out.below hb7; have HS7 := (And.intro X7.1 (And.intro X7.2.1 (And.intro X7.2.2.1 (And.intro X7.2.2.2 (And.intro V7.1 (And.intro V7.2.1 (And.intro V7.2.2.1 V7.2.2.2)))))))) | (go_at_call 18; refine (eqGrid_same _ _ _ _ _ _ _ _ x0 _ v7.1 r7).mono ?_; rintro e w8 ⟨rfl, hb8⟩; have X8 := X7.below hb8; have V8 := V7.below hb8; have HS8 := (And.intro X8.1 (And.intro X8.2.1 (And.intro X8.2.2.1 (And.intro X8.2.2.2 (And.intro V8.1 (And.intro V8.2.1 (And.intro V8.2.2.1 V8.2.2.2))))))))))
  clear p0 p1 p2 p3
  clear Y40 Y41 Y42 Y43
  clear HS7 HS8 X7 V7 X8 V8 r7 v7 ho7 hc7
  replace h0 := h0.below hb7
  replace fw := fw.below hb7
  replace g0 := g0.below hb7
  replace fg := fg.below hb7
  replace X := Lib.hid (X.out.below hb7)
  replace Y4 := Lib.hid (Y4.out.below hb7)
  replace B := B.trans (hb7.mono B.size)
  have z7 := hb7.size
  clear hb7
  replace h0 := h0.below hb8
  replace fw := fw.below hb8
  replace g0 := g0.below hb8
  replace fg := fg.below hb8
  replace X := Lib.hid (X.out.below hb8)
  replace Y4 := Lib.hid (Y4.out.below hb8)
  replace B := B.trans (hb8.mono B.size)
  have z8 := hb8.size
  clear hb8
  obtain ⟨p0, p1, p2, p3⟩ := X.out
  obtain ⟨Y40, Y41, Y42, Y43⟩ := Y4.out
  go_wp2_with fail
  clear p0 p1 p2 p3
  clear Y40 Y41 Y42 Y43
  refine (markGrid_fresh _ _ _ _ _ _ _ _ _ _ g0 hn0 (by omega) (by omega)).mono ?_
  rintro e w9 ⟨rfl, r9, fm9, hgr9, hr9⟩
  have z9 := hgr9.size
  replace h0 := h0.old hgr9 H00.out (fun g hg => by have := (hr9 g hg).1; omega)
  replace fw := fw.keep hgr9 (fun h0 g hA hb e => by have e1 := hr9 g e.symm; have e2 := ufw.out h0 g hA; have e3 := ug0.out e1.2.1 g e1.2.2; omega)
  replace fg := fg.keep hgr9 (fun h0 g hA hb e => by have e1 := hr9 g e.symm; have e2 := ufg.out h0 g hA; have e3 := ug0.out e1.2.1 g e1.2.2; omega)
  replace X := Lib.hid (X.out.grow hgr9 (fun g hg e => by have := (hr9 g hg).1; omega))
  replace Y4 := Lib.hid (Y4.out.grow hgr9 (fun g hg e => by have e1 := hr9 g hg; have e2 := ug0.out e1.2.1 g e1.2.2; omega))
  replace B := B.grown hgr9 B.size (fun g hg => by have := (hr9 g hg).1; omega)
  replace g0 := fm9
  clear hgr9 hr9 fm9
  obtain ⟨p0, p1, p2, p3⟩ := X.out
  obtain ⟨Y40, Y41, Y42, Y43⟩ := Y4.out
  go_wp2_with fail
  clear p0 p1 p2 p3
  clear Y40 Y41 Y42 Y43
  refine (eqInt64S_same _ _ _ _ _ Y _ (fg.ints OK.out.1) (fw.ints OK.out.1)).mono ?_
  rintro e w10 ⟨rfl, hb10⟩
  replace h0 := h0.below hb10
  replace fw := fw.below hb10
  replace g0 := g0.below hb10
  replace fg := fg.below hb10
  replace X := Lib.hid (X.out.below hb10)
  replace Y4 := Lib.hid (Y4.out.below hb10)
  replace B := B.trans (hb10.mono B.size)
  have z10 := hb10.size
  clear hb10
  obtain ⟨p0, p1, p2, p3⟩ := X.out
  obtain ⟨Y40, Y41, Y42, Y43⟩ := Y4.out
  go_wp2_with fail
  clear p0 p1 p2 p3
  clear Y40 Y41 Y42 Y43
  refine (markInt64S_fresh _ _ _ _ _ _ _ fg OK.out.2 (by omega) (by omega)).mono ?_
  rintro e w11 ⟨rfl, r11, fm11, hgr11, hr11⟩
  have z11 := hgr11.size
  replace h0 := h0.old hgr11 H00.out (fun g hg => by have := (hr11 g hg).1; omega)
  replace fw := fw.keep hgr11 (fun h0 g hA hb e => by have e1 := hr11 g e.symm; have e2 := ufw.out h0 g hA; have e3 := ufg.out e1.2.1 g e1.2.2; omega)
  replace g0 := g0.keep hgr11 (fun h0 g hA hb e => by have e1 := hr11 g e.symm; have e2 := ug0.out h0 g hA; have e3 := ufg.out e1.2.1 g e1.2.2; omega)
  replace X := Lib.hid (X.out.grow hgr11 (fun g hg e => by have := (hr11 g hg).1; omega))
  replace Y4 := Lib.hid (Y4.out.grow hgr11 (fun g hg e => by have e1 := hr11 g hg; have e2 := ufg.out e1.2.1 g e1.2.2; omega))
  replace B := B.grown hgr11 B.size (fun g hg => by have := (hr11 g hg).1; omega)
  replace fg := fm11
  clear hgr11 hr11 fm11
  obtain ⟨p0, p1, p2, p3⟩ := X.out
  obtain ⟨Y40, Y41, Y42, Y43⟩ := Y4.out
  go_wp2_with fail
  clear p0 p1 p2 p3
  clear Y40 Y41 Y42 Y43
  refine (heldInt64S_any _ _ _ _ _ (fg.ints (marks_bd (by omega) (by omega) (by omega))) OK.out.2 (by omega) (by omega)).mono ?_
  rintro e w12 ⟨rfl, q12, hq12⟩
  have hb12 := below_held ⟨_, hq12⟩
  clear hq12
  replace h0 := h0.below hb12
  replace fw := fw.below hb12
  replace g0 := g0.below hb12
  replace fg := fg.below hb12
  replace X := Lib.hid (X.out.below hb12)
  replace Y4 := Lib.hid (Y4.out.below hb12)
  replace B := B.trans (hb12.mono B.size)
  have z12 := hb12.size
  clear hb12
  obtain ⟨p0, p1, p2, p3⟩ := X.out
  obtain ⟨Y40, Y41, Y42, Y43⟩ := Y4.out
  go_wp2_with fail
  clear p0 p1 p2 p3
  clear Y40 Y41 Y42 Y43
  refine (toGrid_any _ _ _ _ _ _ x0 _ h0 hn0).mono ?_
  rintro e w13 ⟨ga13, rfl, ho13, hb13⟩
  have k0 := Fresh.of_own ho13
  clear ho13
  replace h0 := h0.below hb13
  replace fw := fw.below hb13
  replace g0 := g0.below hb13
  replace fg := fg.below hb13
  replace X := Lib.hid (X.out.below hb13)
  replace Y4 := Lib.hid (Y4.out.below hb13)
  replace B := B.trans (hb13.mono B.size)
  have z13 := hb13.size
  clear hb13
  have uk0 := k0.upper
  obtain ⟨p0, p1, p2, p3⟩ := X.out
  obtain ⟨Y40, Y41, Y42, Y43⟩ := Y4.out
  go_wp2_with fail
  clear p0 p1 p2 p3
  clear Y40 Y41 Y42 Y43
  refine (PeaksOf_i _ _ _ _ _ _ x0 _ (h0.to (k0.ints h0.1.2.2.1))).mono ?_
  rintro e w14 ⟨A14, c14, rfl, fh, hb14⟩
  rw [← HY.out] at fh ⊢
  rw [← HC.out]
  replace h0 := h0.below hb14
  replace fw := fw.below hb14
  replace g0 := g0.below hb14
  replace fg := fg.below hb14
  replace k0 := k0.below hb14
  replace X := Lib.hid (X.out.below hb14)
  replace Y4 := Lib.hid (Y4.out.below hb14)
  replace B := B.trans (hb14.mono B.size)
  have z14 := hb14.size
  clear hb14
  have ufh := fh.upper
  obtain ⟨p0, p1, p2, p3⟩ := X.out
  obtain ⟨Y40, Y41, Y42, Y43⟩ := Y4.out
  go_wp2_with fail
  clear p0 p1 p2 p3
  clear Y40 Y41 Y42 Y43
  refine (eqInt64S_same _ _ _ _ _ Y _ (fh.ints OK.out.1) (fw.ints OK.out.1)).mono ?_
  rintro e w15 ⟨rfl, hb15⟩
  replace h0 := h0.below hb15
  replace fw := fw.below hb15
  replace g0 := g0.below hb15
  replace fg := fg.below hb15
  replace k0 := k0.below hb15
  replace fh := fh.below hb15
  replace X := Lib.hid (X.out.below hb15)
  replace Y4 := Lib.hid (Y4.out.below hb15)
  replace B := B.trans (hb15.mono B.size)
  have z15 := hb15.size
  clear hb15
  obtain ⟨p0, p1, p2, p3⟩ := X.out
  obtain ⟨Y40, Y41, Y42, Y43⟩ := Y4.out
  go_wp2_with fail
  clear p0 p1 p2 p3
  clear Y40 Y41 Y42 Y43
  refine (heldInt64S_any _ _ _ _ _ (fg.ints (marks_bd (by omega) (by omega) (by omega))) OK.out.2 (by omega) (by omega)).mono ?_
  rintro e w16 ⟨rfl, q16, hq16⟩
  have hb16 := below_held ⟨_, hq16⟩
  clear hq16
  replace h0 := h0.below hb16
  replace fw := fw.below hb16
  replace g0 := g0.below hb16
  replace fg := fg.below hb16
  replace k0 := k0.below hb16
  replace fh := fh.below hb16
  replace X := Lib.hid (X.out.below hb16)
  replace Y4 := Lib.hid (Y4.out.below hb16)
  replace B := B.trans (hb16.mono B.size)
  have z16 := hb16.size
  clear hb16
  obtain ⟨p0, p1, p2, p3⟩ := X.out
  obtain ⟨Y40, Y41, Y42, Y43⟩ := Y4.out
  go_wp2_with fail
  clear p0 p1 p2 p3
  clear Y40 Y41 Y42 Y43
  go_ret
  exact ⟨rfl, B⟩

set_option maxRecDepth 100000 in
theorem lifted (os : Os) (started : os.Started) (H : Type) (enc : TypeId × Value → H) :
    ReturnsInHanded {} Try.checked os 6 .any (Rows.fnExactPeaksOfSpec.pre6 enc Try.prog Try.f6 Rows.fnExactPeaksOfRow.domain false) (Rows.fnExactPeaksOfSpec.post enc Try.prog Try.f6 false true false false) := by
  refine returnsInHanded_of_change (C := Try.checked) own started (by kernel_rfl) Try.func6
    (ChangeSpec.witness6 (enc := enc) (C := Try.checked) false ⟨#[], #[.agg #[.int .i64 0, .int .i64 0, .int .i64 0, .slice none 0 0]], []⟩ 8 (by kernel_rfl) (by kernel_rfl) (by kernel_rfl) (by kernel_rfl)) ?_
  intro W base args ds gs before hval0 hW hcnd _
  have hval : ∀ (j : Nat) t v, Try.f6.params[j]? = some t → args[j]? = some v → Value.okWide Try.prog W .any base t v := hval0
  have hW' := hW
  obtain ⟨p, q, hA0, hV, rfl, hfz, hnd⟩ := hW
  have hA : DataW.TrodAll enc Try.prog W 0 (fun _ => true) true Try.f6.params.toList args.toList ds p := hA0
  rw [Try.params6] at hA hval
  obtain ⟨v0, vs0, d0, ds0, p0, q0, hargs, rfl, rfl, h0, r0⟩ := trodAll_cons hA
  obtain ⟨rfl, rfl, rfl⟩ := trodAll_nil r0
  obtain rfl : args = #[v0] := by cases args; simp_all
  obtain ⟨rfl, rfl⟩ := trodVars_none hV
  have k0 := h0
  have lt0 : ∀ x ∈ p0, x.block < W.heap.size := by obtain ⟨m, hm⟩ := k0; exact DataW.trod_lt m _ _ _ hm
  obtain ⟨R0, G0, S0, a0, n0, c0, z0, rfl, w0⟩ := grid_open Try.underlying24 Try.underlying2 Try.underlying22 (by kernel_rfl) (by kernel_rfl) (by kernel_rfl) ⟨rfl, rfl, rfl, rfl⟩ (hval 0 24 v0 rfl rfl) h0
  clear hA0 hval0
  refine (walk R0 G0 S0 a0 n0 c0 z0 W w0).mono fun e W' ⟨he, bel⟩ => ?_
  subst he
  exact ⟨_, rfl, _, _, _, [], _, [], hW', trodAll_mk1 (shut_bool Try.underlying4 _), (trodAll_cons_mk (Below.trod laidOut (by kernel_rfl) (of_decide_eq_true (by kernel_rfl)) k0 bel lt0) trodAll_mk0), rfl, bel.frame _, fun h => by cases h⟩

theorem over : Rows.fnExactPeaksOfRow.holds Try.pinned (OpenSpec.ofChange Rows.fnExactPeaksOfSpec) :=
  OpenClaim.holds_of_wide 6 Try.f6 rfl rfl rfl rfl rfl rfl rfl ⟨rfl, rfl, rfl, rfl, rfl⟩ rfl rfl rfl rfl rfl (by kernel_rfl) Try.func6 (by kernel_rfl)
    (of_decide_eq_true (by kernel_rfl)) (by unfold Func.isWrapper; first | (rw [if_pos (by decide +kernel)]; kernel_rfl) | (rw [if_neg (by decide +kernel)]; exact ⟨rfl, rfl⟩))
    (fun os started H enc _ => lifted os started H enc)

/-- The statement. -/
theorem proved : Rows.FnExactPeaksOfSaid := over
end Go.Proofs.Ytmcaokbnbbmhhaa.fnExactPeaksOf
