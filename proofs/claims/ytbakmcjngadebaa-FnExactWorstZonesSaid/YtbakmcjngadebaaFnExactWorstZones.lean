/-
  Proves: for every input the law FnExactWorstZones returns true, and its arguments read as before. No condition.
-/
import Derived.Test.YtbakmcjngadebaaLift
import Derived.Test.YtbakmcjngadebaaZoneY
namespace Go.Proofs.Ytbakmcjngadebaa.fnExactWorstZones
open Go.ChangeShapes Go.WideShapes Go.ChangeAt Go.RowKit Go.Deep
set_option linter.unusedVariables false

set_option maxHeartbeats 2000000 in
theorem walk (A0 : Option Addr) (n0 c0 : Nat) (x0 : List Int) (A1 : Option Addr) (n1 c1 : Nat) (x1 : List Int) (w : World) (h0 : Ints w A0 n0 x0) (h1 : Ints w A1 n1 x1) :
    Calls Try.prog 4 #[.slice A0 n0 c0, .slice A1 n1 c1] w fun e w' => e = .returned (.bool true) ∧ Below w.heap.size w w' := by
  have hm0 := h0.2.1
  have hm1 := h1.2.1
  by_cases hn0 : n0 ≤ 1048576
  rotate_left
  · go_enter Try.func4, Try.ntmps4
    go_wp2_with fail
    go_ret
    exact ⟨rfl, Below.refl _ _⟩
  by_cases hn1 : n1 ≤ 1048576
  rotate_left
  · go_enter Try.func4, Try.ntmps4
    go_wp2_with fail
    go_ret
    exact ⟨rfl, Below.refl _ _⟩
  have OK := Lib.hid (worstR_ok x0 x1)
  obtain ⟨Y, hY⟩ : ∃ Y, Y = worstR x0 x1 := ⟨_, rfl⟩
  obtain ⟨C, hC⟩ : ∃ C, C = worstC x0 x1 := ⟨_, rfl⟩
  rw [← hY] at OK
  have HY := Lib.hid hY
  have HC := Lib.hid hC
  clear hY hC
  have hYl := OK.out.2
  have H00 := Lib.hid h0
  have H01 := Lib.hid h1
  have z0 : w.heap.size ≤ w.heap.size := Nat.le_refl _
  have B := Below.refl w.heap.size w
  go_enter Try.func4, Try.ntmps4
  go_wp2_with fail
  refine (toInt64S_any _ _ _ x0 _ h0 hn0).mono ?_
  rintro e w1 ⟨rfl, ho1, hb1, hz1⟩
  have s0 := Fresh.of_own ho1
  clear ho1 hz1
  replace h0 := h0.below hb1
  replace h1 := h1.below hb1
  replace B := B.trans (hb1.mono B.size)
  have z1 := hb1.size
  clear hb1
  have us0 := s0.upper
  go_wp2_with fail
  refine (toInt64S_any _ _ _ x1 _ h1 hn1).mono ?_
  rintro e w2 ⟨rfl, ho2, hb2, hz2⟩
  have s1 := Fresh.of_own ho2
  clear ho2 hz2
  replace h0 := h0.below hb2
  replace h1 := h1.below hb2
  replace s0 := s0.below hb2
  replace B := B.trans (hb2.mono B.size)
  have z2 := hb2.size
  clear hb2
  have us1 := s1.upper
  go_wp2_with fail
  refine (WorstZones_s _ _ _ _ _ _ x0 x1 _ (s0.ints h0.2.2.1) (s1.ints h1.2.2.1)).mono ?_
  rintro e w3 ⟨A3, c3, rfl, fw, hb3⟩
  rw [← HY.out] at fw ⊢
  rw [← HC.out]
  replace h0 := h0.below hb3
  replace h1 := h1.below hb3
  replace s0 := s0.below hb3
  replace s1 := s1.below hb3
  replace B := B.trans (hb3.mono B.size)
  have z3 := hb3.size
  clear hb3
  have ufw := fw.upper
  clear s0 us0
  clear s1 us1
  go_wp2_with fail
  refine (toInt64S_any _ _ _ x0 _ h0 hn0).mono ?_
  rintro e w4 ⟨rfl, ho4, hb4, hz4⟩
  have g0 := Fresh.of_own ho4
  clear ho4 hz4
  replace h0 := h0.below hb4
  replace h1 := h1.below hb4
  replace fw := fw.below hb4
  replace B := B.trans (hb4.mono B.size)
  have z4 := hb4.size
  clear hb4
  have ug0 := g0.upper
  go_wp2_with fail
  refine (toInt64S_any _ _ _ x1 _ h1 hn1).mono ?_
  rintro e w5 ⟨rfl, ho5, hb5, hz5⟩
  have g1 := Fresh.of_own ho5
  clear ho5 hz5
  replace h0 := h0.below hb5
  replace h1 := h1.below hb5
  replace fw := fw.below hb5
  replace g0 := g0.below hb5
  replace B := B.trans (hb5.mono B.size)
  have z5 := hb5.size
  clear hb5
  have ug1 := g1.upper
  go_wp2_with fail
  refine (WorstZones_i _ _ _ _ _ _ x0 x1 _ (g0.ints h0.2.2.1) (g1.ints h1.2.2.1) ⟨_, rfl⟩).mono ?_
  rintro e w6 ⟨A6, c6, rfl, fg, hb6⟩
  rw [← HY.out] at fg ⊢
  rw [← HC.out]
  replace h0 := h0.below hb6
  replace h1 := h1.below hb6
  replace fw := fw.below hb6
  replace g0 := g0.below hb6
  replace g1 := g1.below hb6
  replace B := B.trans (hb6.mono B.size)
  have z6 := hb6.size
  clear hb6
  have ufg := fg.upper
  go_wp2_with fail
  refine (eqInt64S_same _ _ _ _ _ Y _ (fg.ints OK.out.1) (fw.ints OK.out.1)).mono ?_
  rintro e w7 ⟨rfl, hb7⟩
  replace h0 := h0.below hb7
  replace h1 := h1.below hb7
  replace fw := fw.below hb7
  replace g0 := g0.below hb7
  replace g1 := g1.below hb7
  replace fg := fg.below hb7
  replace B := B.trans (hb7.mono B.size)
  have z7 := hb7.size
  clear hb7
  go_wp2_with fail
  refine (toInt64S_any _ _ _ x0 _ h0 hn0).mono ?_
  rintro e w8 ⟨rfl, ho8, hb8, hz8⟩
  have t0 := Fresh.of_own ho8
  clear ho8 hz8
  replace h0 := h0.below hb8
  replace h1 := h1.below hb8
  replace fw := fw.below hb8
  replace g0 := g0.below hb8
  replace g1 := g1.below hb8
  replace fg := fg.below hb8
  replace B := B.trans (hb8.mono B.size)
  have z8 := hb8.size
  clear hb8
  have ut0 := t0.upper
  go_wp2_with fail
  refine (eqInt64S_same _ _ _ _ _ x0 _ (g0.ints h0.2.2.1) (t0.ints h0.2.2.1)).mono ?_
  rintro e w9 ⟨rfl, hb9⟩
  replace h0 := h0.below hb9
  replace h1 := h1.below hb9
  replace fw := fw.below hb9
  replace g0 := g0.below hb9
  replace g1 := g1.below hb9
  replace fg := fg.below hb9
  replace t0 := t0.below hb9
  replace B := B.trans (hb9.mono B.size)
  have z9 := hb9.size
  clear hb9
  clear t0 ut0
  go_wp2_with fail
  refine (toInt64S_any _ _ _ x1 _ h1 hn1).mono ?_
  rintro e w10 ⟨rfl, ho10, hb10, hz10⟩
  have t1 := Fresh.of_own ho10
  clear ho10 hz10
  replace h0 := h0.below hb10
  replace h1 := h1.below hb10
  replace fw := fw.below hb10
  replace g0 := g0.below hb10
  replace g1 := g1.below hb10
  replace fg := fg.below hb10
  replace B := B.trans (hb10.mono B.size)
  have z10 := hb10.size
  clear hb10
  have ut1 := t1.upper
  go_wp2_with fail
  refine (eqInt64S_same _ _ _ _ _ x1 _ (g1.ints h1.2.2.1) (t1.ints h1.2.2.1)).mono ?_
  rintro e w11 ⟨rfl, hb11⟩
  replace h0 := h0.below hb11
  replace h1 := h1.below hb11
  replace fw := fw.below hb11
  replace g0 := g0.below hb11
  replace g1 := g1.below hb11
  replace fg := fg.below hb11
  replace t1 := t1.below hb11
  replace B := B.trans (hb11.mono B.size)
  have z11 := hb11.size
  clear hb11
  clear t1 ut1
  go_wp2_with fail
  refine (markInt64S_fresh _ _ _ _ _ _ _ g0 hn0 (by omega) (by omega)).mono ?_
  rintro e w12 ⟨rfl, r12, fm12, hgr12, hr12⟩
  have z12 := hgr12.size
  replace h0 := h0.old hgr12 H00.out (fun g hg => by have := (hr12 g hg).1; omega)
  replace h1 := h1.old hgr12 H01.out (fun g hg => by have := (hr12 g hg).1; omega)
  replace fw := fw.keep hgr12 (fun h0 g hA hb e => by have e1 := hr12 g e.symm; have e2 := ufw.out h0 g hA; have e3 := ug0.out e1.2.1 g e1.2.2; omega)
  replace g1 := g1.keep hgr12 (fun h0 g hA hb e => by have e1 := hr12 g e.symm; have e2 := ug1.out h0 g hA; have e3 := ug0.out e1.2.1 g e1.2.2; omega)
  replace fg := fg.keep hgr12 (fun h0 g hA hb e => by have e1 := hr12 g e.symm; have e2 := ufg.out h0 g hA; have e3 := ug0.out e1.2.1 g e1.2.2; omega)
  replace B := B.grown hgr12 B.size (fun g hg => by have := (hr12 g hg).1; omega)
  replace g0 := fm12
  clear hgr12 hr12 fm12
  go_wp2_with fail
  refine (markInt64S_fresh _ _ _ _ _ _ _ g1 hn1 (by omega) (by omega)).mono ?_
  rintro e w13 ⟨rfl, r13, fm13, hgr13, hr13⟩
  have z13 := hgr13.size
  replace h0 := h0.old hgr13 H00.out (fun g hg => by have := (hr13 g hg).1; omega)
  replace h1 := h1.old hgr13 H01.out (fun g hg => by have := (hr13 g hg).1; omega)
  replace fw := fw.keep hgr13 (fun h0 g hA hb e => by have e1 := hr13 g e.symm; have e2 := ufw.out h0 g hA; have e3 := ug1.out e1.2.1 g e1.2.2; omega)
  replace g0 := g0.keep hgr13 (fun h0 g hA hb e => by have e1 := hr13 g e.symm; have e2 := ug0.out h0 g hA; have e3 := ug1.out e1.2.1 g e1.2.2; omega)
  replace fg := fg.keep hgr13 (fun h0 g hA hb e => by have e1 := hr13 g e.symm; have e2 := ufg.out h0 g hA; have e3 := ug1.out e1.2.1 g e1.2.2; omega)
  replace B := B.grown hgr13 B.size (fun g hg => by have := (hr13 g hg).1; omega)
  replace g1 := fm13
  clear hgr13 hr13 fm13
  go_wp2_with fail
  refine (eqInt64S_same _ _ _ _ _ Y _ (fg.ints OK.out.1) (fw.ints OK.out.1)).mono ?_
  rintro e w14 ⟨rfl, hb14⟩
  replace h0 := h0.below hb14
  replace h1 := h1.below hb14
  replace fw := fw.below hb14
  replace g0 := g0.below hb14
  replace g1 := g1.below hb14
  replace fg := fg.below hb14
  replace B := B.trans (hb14.mono B.size)
  have z14 := hb14.size
  clear hb14
  go_wp2_with fail
  refine (markInt64S_fresh _ _ _ _ _ _ _ fg OK.out.2 (by omega) (by omega)).mono ?_
  rintro e w15 ⟨rfl, r15, fm15, hgr15, hr15⟩
  have z15 := hgr15.size
  replace h0 := h0.old hgr15 H00.out (fun g hg => by have := (hr15 g hg).1; omega)
  replace h1 := h1.old hgr15 H01.out (fun g hg => by have := (hr15 g hg).1; omega)
  replace fw := fw.keep hgr15 (fun h0 g hA hb e => by have e1 := hr15 g e.symm; have e2 := ufw.out h0 g hA; have e3 := ufg.out e1.2.1 g e1.2.2; omega)
  replace g0 := g0.keep hgr15 (fun h0 g hA hb e => by have e1 := hr15 g e.symm; have e2 := ug0.out h0 g hA; have e3 := ufg.out e1.2.1 g e1.2.2; omega)
  replace g1 := g1.keep hgr15 (fun h0 g hA hb e => by have e1 := hr15 g e.symm; have e2 := ug1.out h0 g hA; have e3 := ufg.out e1.2.1 g e1.2.2; omega)
  replace B := B.grown hgr15 B.size (fun g hg => by have := (hr15 g hg).1; omega)
  replace fg := fm15
  clear hgr15 hr15 fm15
  go_wp2_with fail
  refine (heldInt64S_any _ _ _ _ _ (fg.ints (marks_bd (by omega) (by omega) (by omega))) OK.out.2 (by omega) (by omega)).mono ?_
  rintro e w16 ⟨rfl, q16, hq16⟩
  have hb16 := below_q ⟨_, hq16⟩
  clear hq16
  replace h0 := h0.below hb16
  replace h1 := h1.below hb16
  replace fw := fw.below hb16
  replace g0 := g0.below hb16
  replace g1 := g1.below hb16
  replace fg := fg.below hb16
  replace B := B.trans (hb16.mono B.size)
  have z16 := hb16.size
  clear hb16
  go_wp2_with fail
  refine (toInt64S_any _ _ _ x0 _ h0 hn0).mono ?_
  rintro e w17 ⟨rfl, ho17, hb17, hz17⟩
  have k0 := Fresh.of_own ho17
  clear ho17 hz17
  replace h0 := h0.below hb17
  replace h1 := h1.below hb17
  replace fw := fw.below hb17
  replace g0 := g0.below hb17
  replace g1 := g1.below hb17
  replace fg := fg.below hb17
  replace B := B.trans (hb17.mono B.size)
  have z17 := hb17.size
  clear hb17
  have uk0 := k0.upper
  go_wp2_with fail
  refine (toInt64S_any _ _ _ x1 _ h1 hn1).mono ?_
  rintro e w18 ⟨rfl, ho18, hb18, hz18⟩
  have k1 := Fresh.of_own ho18
  clear ho18 hz18
  replace h0 := h0.below hb18
  replace h1 := h1.below hb18
  replace fw := fw.below hb18
  replace g0 := g0.below hb18
  replace g1 := g1.below hb18
  replace fg := fg.below hb18
  replace k0 := k0.below hb18
  replace B := B.trans (hb18.mono B.size)
  have z18 := hb18.size
  clear hb18
  have uk1 := k1.upper
  go_wp2_with fail
  refine (WorstZones_i _ _ _ _ _ _ x0 x1 _ (k0.ints h0.2.2.1) (k1.ints h1.2.2.1) ⟨_, rfl⟩).mono ?_
  rintro e w19 ⟨A19, c19, rfl, fh, hb19⟩
  rw [← HY.out] at fh ⊢
  rw [← HC.out]
  replace h0 := h0.below hb19
  replace h1 := h1.below hb19
  replace fw := fw.below hb19
  replace g0 := g0.below hb19
  replace g1 := g1.below hb19
  replace fg := fg.below hb19
  replace k0 := k0.below hb19
  replace k1 := k1.below hb19
  replace B := B.trans (hb19.mono B.size)
  have z19 := hb19.size
  clear hb19
  have ufh := fh.upper
  go_wp2_with fail
  refine (eqInt64S_same _ _ _ _ _ Y _ (fh.ints OK.out.1) (fw.ints OK.out.1)).mono ?_
  rintro e w20 ⟨rfl, hb20⟩
  replace h0 := h0.below hb20
  replace h1 := h1.below hb20
  replace fw := fw.below hb20
  replace g0 := g0.below hb20
  replace g1 := g1.below hb20
  replace fg := fg.below hb20
  replace k0 := k0.below hb20
  replace k1 := k1.below hb20
  replace fh := fh.below hb20
  replace B := B.trans (hb20.mono B.size)
  have z20 := hb20.size
  clear hb20
  go_wp2_with fail
  refine (heldInt64S_any _ _ _ _ _ (fg.ints (marks_bd (by omega) (by omega) (by omega))) OK.out.2 (by omega) (by omega)).mono ?_
  rintro e w21 ⟨rfl, q21, hq21⟩
  have hb21 := below_q ⟨_, hq21⟩
  clear hq21
  replace h0 := h0.below hb21
  replace h1 := h1.below hb21
  replace fw := fw.below hb21
  replace g0 := g0.below hb21
  replace g1 := g1.below hb21
  replace fg := fg.below hb21
  replace k0 := k0.below hb21
  replace k1 := k1.below hb21
  replace fh := fh.below hb21
  replace B := B.trans (hb21.mono B.size)
  have z21 := hb21.size
  clear hb21
  go_wp2_with fail
  go_ret
  exact ⟨rfl, B⟩

set_option maxRecDepth 100000 in
theorem lifted (os : Os) (started : os.Started) (H : Type) (enc : TypeId × Value → H) :
    ReturnsInHanded {} Try.checked os 4 .any (Rows.fnExactWorstZonesSpec.pre6 enc Try.prog Try.f4 Rows.fnExactWorstZonesRow.domain false) (Rows.fnExactWorstZonesSpec.post enc Try.prog Try.f4 false true false false) := by
  refine returnsInHanded_of_change (C := Try.checked) own started (by kernel_rfl) Try.func4
    (ChangeSpec.witness6 (enc := enc) (C := Try.checked) false ⟨#[], #[.slice none 0 0, .slice none 0 0], []⟩ 8 (by kernel_rfl) (by kernel_rfl) (by kernel_rfl) (by kernel_rfl)) ?_
  intro W base args ds gs before hval0 hW hcnd _
  have hval : ∀ (j : Nat) t v, Try.f4.params[j]? = some t → args[j]? = some v → Value.okWide Try.prog W .any base t v := hval0
  have hW' := hW
  obtain ⟨p, q, hA0, hV, rfl, hfz, hnd⟩ := hW
  have hA : DataW.TrodAll enc Try.prog W 0 (fun _ => true) true Try.f4.params.toList args.toList ds p := hA0
  rw [Try.params4] at hA hval
  obtain ⟨v0, vs0, d0, ds0, p0, q0, hargs, rfl, rfl, h0, r0⟩ := trodAll_cons hA
  obtain ⟨v1, vs1, d1, ds1, p1, q1, rfl, rfl, rfl, h1, r1⟩ := trodAll_cons r0
  obtain ⟨rfl, rfl, rfl⟩ := trodAll_nil r1
  obtain rfl : args = #[v0, v1] := by cases args; simp_all
  obtain ⟨rfl, rfl⟩ := trodVars_none hV
  have k0 := h0
  have lt0 : ∀ x ∈ p0, x.block < W.heap.size := by obtain ⟨m, hm⟩ := k0; exact DataW.trod_lt m _ _ _ hm
  obtain ⟨a0, n0, c0, rfl⟩ := okWide_slice Try.underlying22 (hval 0 22 v0 rfl rfl)
  obtain ⟨z0, w0⟩ := ints_open Try.underlying22 Try.underlying2 (by kernel_rfl) h0
  have k1 := h1
  have lt1 : ∀ x ∈ p1, x.block < W.heap.size := by obtain ⟨m, hm⟩ := k1; exact DataW.trod_lt m _ _ _ hm
  obtain ⟨a1, n1, c1, rfl⟩ := okWide_slice Try.underlying22 (hval 1 22 v1 rfl rfl)
  obtain ⟨z1, w1⟩ := ints_open Try.underlying22 Try.underlying2 (by kernel_rfl) h1
  clear hA0 hval0
  refine (walk a0 n0 c0 z0 a1 n1 c1 z1 W w0 w1).mono fun e W' ⟨he, bel⟩ => ?_
  subst he
  exact ⟨_, rfl, _, _, _, [], _, [], hW', trodAll_mk1 (shut_bool Try.underlying4 _), (trodAll_cons_mk (Below.trod laidOut (by kernel_rfl) (of_decide_eq_true (by kernel_rfl)) k0 bel lt0) (trodAll_cons_mk (Below.trod laidOut (by kernel_rfl) (of_decide_eq_true (by kernel_rfl)) k1 bel lt1) trodAll_mk0)), rfl, bel.frame _, fun h => by cases h⟩

theorem over : Rows.fnExactWorstZonesRow.holds Try.pinned (OpenSpec.ofChange Rows.fnExactWorstZonesSpec) :=
  OpenClaim.holds_of_wide 4 Try.f4 rfl rfl rfl rfl rfl rfl rfl ⟨rfl, rfl, rfl, rfl, rfl⟩ rfl rfl rfl rfl rfl (by kernel_rfl) Try.func4 (by kernel_rfl)
    (of_decide_eq_true (by kernel_rfl)) (by unfold Func.isWrapper; first | (rw [if_pos (by decide +kernel)]; kernel_rfl) | (rw [if_neg (by decide +kernel)]; exact ⟨rfl, rfl⟩))
    (fun os started H enc _ => lifted os started H enc)

/-- The statement. -/
theorem proved : Rows.FnExactWorstZonesSaid := over
end Go.Proofs.Ytbakmcjngadebaa.fnExactWorstZones
