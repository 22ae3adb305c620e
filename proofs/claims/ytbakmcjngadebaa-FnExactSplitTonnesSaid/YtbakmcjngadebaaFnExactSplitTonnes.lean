/-
  Proves: for every input the law FnExactSplitTonnes returns true, and its arguments read as before. No condition.
-/
import Derived.Test.YtbakmcjngadebaaLift
import Derived.Test.YtbakmcjngadebaaSplit
namespace Go.Proofs.Ytbakmcjngadebaa.fnExactSplitTonnes
open Go.ChangeShapes Go.WideShapes Go.ChangeAt Go.RowKit Go.Deep
set_option linter.unusedVariables false

set_option maxRecDepth 100000 in
set_option maxHeartbeats 4000000 in
theorem walk (a0 : Int) (A1 : Option Addr) (n1 c1 : Nat) (x1 : List Int) (w : World) (b0 : -9223372036854775808 ≤ a0 ∧ a0 ≤ 9223372036854775807) (h1 : Ints w A1 n1 x1) :
    Calls Try.prog 8 #[.int .i64 a0, .slice A1 n1 c1] w fun e w' => e = .returned (.bool true) ∧ Below w.heap.size w w' := by
  have hm1 := h1.2.1
  by_cases hn1 : n1 ≤ 1048576
  rotate_left
  · go_enter Try.func8, Try.ntmps8
    go_wp2_with fail
    go_ret
    exact ⟨rfl, Below.refl _ _⟩
  have OK := Lib.hid (splitR_ok a0 x1 h1.1)
  obtain ⟨Y, hY⟩ : ∃ Y, Y = splitR a0 x1 n1 := ⟨_, rfl⟩
  obtain ⟨C, hC⟩ : ∃ C, C = splitC a0 x1 := ⟨_, rfl⟩
  rw [← hY] at OK
  have HY := Lib.hid hY
  have HC := Lib.hid hC
  clear hY hC
  have hYl := OK.out.2
  have H01 := Lib.hid h1
  have z0 : w.heap.size ≤ w.heap.size := Nat.le_refl _
  have B := Below.refl w.heap.size w
  go_enter Try.func8, Try.ntmps8
  go_wp2_with fail
  refine (toInt64S_any _ _ _ x1 _ h1 hn1).mono ?_
  rintro e w1 ⟨rfl, ho1, hb1, hz1⟩
  have s1 := Fresh.of_own ho1
  clear ho1 hz1
  replace h1 := h1.below hb1
  replace B := B.trans (hb1.mono B.size)
  have z1 := hb1.size
  clear hb1
  have us1 := s1.upper
  go_wp2_with fail
  refine (SplitTonnes_s _ _ _ _ x1 _ (s1.ints h1.2.2.1)).mono ?_
  rintro e w2 ⟨A2, c2, rfl, fw, hb2⟩
  rw [← HY.out] at fw ⊢
  rw [← HC.out]
  replace h1 := h1.below hb2
  replace s1 := s1.below hb2
  replace B := B.trans (hb2.mono B.size)
  have z2 := hb2.size
  clear hb2
  have ufw := fw.upper
  clear s1 us1
  go_wp2_with fail
  refine (toInt64S_any _ _ _ x1 _ h1 hn1).mono ?_
  rintro e w3 ⟨rfl, ho3, hb3, hz3⟩
  have g1 := Fresh.of_own ho3
  clear ho3 hz3
  replace h1 := h1.below hb3
  replace fw := fw.below hb3
  replace B := B.trans (hb3.mono B.size)
  have z3 := hb3.size
  clear hb3
  have ug1 := g1.upper
  go_wp2_with fail
  refine (SplitTonnes_i _ _ _ _ x1 _ (g1.ints h1.2.2.1)).mono ?_
  rintro e w4 ⟨A4, c4, rfl, fg, hb4⟩
  rw [← HY.out] at fg ⊢
  rw [← HC.out]
  replace h1 := h1.below hb4
  replace fw := fw.below hb4
  replace g1 := g1.below hb4
  replace B := B.trans (hb4.mono B.size)
  have z4 := hb4.size
  clear hb4
  have ufg := fg.upper
  go_wp2_with fail
  refine (eqInt64S_same _ _ _ _ _ Y _ (fg.ints OK.out.1) (fw.ints OK.out.1)).mono ?_
  rintro e w5 ⟨rfl, hb5⟩
  replace h1 := h1.below hb5
  replace fw := fw.below hb5
  replace g1 := g1.below hb5
  replace fg := fg.below hb5
  replace B := B.trans (hb5.mono B.size)
  have z5 := hb5.size
  clear hb5
  go_wp2_with fail
  refine (toInt64S_any _ _ _ x1 _ h1 hn1).mono ?_
  rintro e w6 ⟨rfl, ho6, hb6, hz6⟩
  have t1 := Fresh.of_own ho6
  clear ho6 hz6
  replace h1 := h1.below hb6
  replace fw := fw.below hb6
  replace g1 := g1.below hb6
  replace fg := fg.below hb6
  replace B := B.trans (hb6.mono B.size)
  have z6 := hb6.size
  clear hb6
  have ut1 := t1.upper
  go_wp2_with fail
  refine (eqInt64S_same _ _ _ _ _ x1 _ (g1.ints h1.2.2.1) (t1.ints h1.2.2.1)).mono ?_
  rintro e w7 ⟨rfl, hb7⟩
  replace h1 := h1.below hb7
  replace fw := fw.below hb7
  replace g1 := g1.below hb7
  replace fg := fg.below hb7
  replace t1 := t1.below hb7
  replace B := B.trans (hb7.mono B.size)
  have z7 := hb7.size
  clear hb7
  clear t1 ut1
  go_wp2_with fail
  refine (markInt64S_fresh _ _ _ _ _ _ _ g1 hn1 (by omega) (by omega)).mono ?_
  rintro e w8 ⟨rfl, r8, fm8, hgr8, hr8⟩
  have z8 := hgr8.size
  replace h1 := h1.old hgr8 H01.out (fun g hg => by have := (hr8 g hg).1; omega)
  replace fw := fw.keep hgr8 (fun h0 g hA hb e => by have e1 := hr8 g e.symm; have e2 := ufw.out h0 g hA; have e3 := ug1.out e1.2.1 g e1.2.2; omega)
  replace fg := fg.keep hgr8 (fun h0 g hA hb e => by have e1 := hr8 g e.symm; have e2 := ufg.out h0 g hA; have e3 := ug1.out e1.2.1 g e1.2.2; omega)
  replace B := B.grown hgr8 B.size (fun g hg => by have := (hr8 g hg).1; omega)
  replace g1 := fm8
  clear hgr8 hr8 fm8
  go_wp2_with fail
  refine (eqInt64S_same _ _ _ _ _ Y _ (fg.ints OK.out.1) (fw.ints OK.out.1)).mono ?_
  rintro e w9 ⟨rfl, hb9⟩
  replace h1 := h1.below hb9
  replace fw := fw.below hb9
  replace g1 := g1.below hb9
  replace fg := fg.below hb9
  replace B := B.trans (hb9.mono B.size)
  have z9 := hb9.size
  clear hb9
  go_wp2_with fail
  refine (markInt64S_fresh _ _ _ _ _ _ _ fg OK.out.2 (by omega) (by omega)).mono ?_
  rintro e w10 ⟨rfl, r10, fm10, hgr10, hr10⟩
  have z10 := hgr10.size
  replace h1 := h1.old hgr10 H01.out (fun g hg => by have := (hr10 g hg).1; omega)
  replace fw := fw.keep hgr10 (fun h0 g hA hb e => by have e1 := hr10 g e.symm; have e2 := ufw.out h0 g hA; have e3 := ufg.out e1.2.1 g e1.2.2; omega)
  replace g1 := g1.keep hgr10 (fun h0 g hA hb e => by have e1 := hr10 g e.symm; have e2 := ug1.out h0 g hA; have e3 := ufg.out e1.2.1 g e1.2.2; omega)
  replace B := B.grown hgr10 B.size (fun g hg => by have := (hr10 g hg).1; omega)
  replace fg := fm10
  clear hgr10 hr10 fm10
  go_wp2_with fail
  refine (heldInt64S_any _ _ _ _ _ (fg.ints (marks_bd (by omega) (by omega) (by omega))) OK.out.2 (by omega) (by omega)).mono ?_
  rintro e w11 ⟨rfl, q11, hq11⟩
  have hb11 := below_q ⟨_, hq11⟩
  clear hq11
  replace h1 := h1.below hb11
  replace fw := fw.below hb11
  replace g1 := g1.below hb11
  replace fg := fg.below hb11
  replace B := B.trans (hb11.mono B.size)
  have z11 := hb11.size
  clear hb11
  go_wp2_with fail
  refine (toInt64S_any _ _ _ x1 _ h1 hn1).mono ?_
  rintro e w12 ⟨rfl, ho12, hb12, hz12⟩
  have k1 := Fresh.of_own ho12
  clear ho12 hz12
  replace h1 := h1.below hb12
  replace fw := fw.below hb12
  replace g1 := g1.below hb12
  replace fg := fg.below hb12
  replace B := B.trans (hb12.mono B.size)
  have z12 := hb12.size
  clear hb12
  have uk1 := k1.upper
  go_wp2_with fail
  refine (SplitTonnes_i _ _ _ _ x1 _ (k1.ints h1.2.2.1)).mono ?_
  rintro e w13 ⟨A13, c13, rfl, fh, hb13⟩
  rw [← HY.out] at fh ⊢
  rw [← HC.out]
  replace h1 := h1.below hb13
  replace fw := fw.below hb13
  replace g1 := g1.below hb13
  replace fg := fg.below hb13
  replace k1 := k1.below hb13
  replace B := B.trans (hb13.mono B.size)
  have z13 := hb13.size
  clear hb13
  have ufh := fh.upper
  go_wp2_with fail
  refine (eqInt64S_same _ _ _ _ _ Y _ (fh.ints OK.out.1) (fw.ints OK.out.1)).mono ?_
  rintro e w14 ⟨rfl, hb14⟩
  replace h1 := h1.below hb14
  replace fw := fw.below hb14
  replace g1 := g1.below hb14
  replace fg := fg.below hb14
  replace k1 := k1.below hb14
  replace fh := fh.below hb14
  replace B := B.trans (hb14.mono B.size)
  have z14 := hb14.size
  clear hb14
  go_wp2_with fail
  refine (heldInt64S_any _ _ _ _ _ (fg.ints (marks_bd (by omega) (by omega) (by omega))) OK.out.2 (by omega) (by omega)).mono ?_
  rintro e w15 ⟨rfl, q15, hq15⟩
  have hb15 := below_q ⟨_, hq15⟩
  clear hq15
  replace h1 := h1.below hb15
  replace fw := fw.below hb15
  replace g1 := g1.below hb15
  replace fg := fg.below hb15
  replace k1 := k1.below hb15
  replace fh := fh.below hb15
  replace B := B.trans (hb15.mono B.size)
  have z15 := hb15.size
  clear hb15
  go_wp2_with fail
  go_ret
  exact ⟨rfl, B⟩

set_option maxRecDepth 100000 in
theorem lifted (os : Os) (started : os.Started) (H : Type) (enc : TypeId × Value → H) :
    ReturnsInHanded {} Try.checked os 8 .any (Rows.fnExactSplitTonnesSpec.pre6 enc Try.prog Try.f8 Rows.fnExactSplitTonnesRow.domain false) (Rows.fnExactSplitTonnesSpec.post enc Try.prog Try.f8 false true false false) := by
  refine returnsInHanded_of_change (C := Try.checked) own started (by kernel_rfl) Try.func8
    (ChangeSpec.witness6 (enc := enc) (C := Try.checked) false ⟨#[], #[.int .i64 0, .slice none 0 0], []⟩ 8 (by kernel_rfl) (by kernel_rfl) (by kernel_rfl) (by kernel_rfl)) ?_
  intro W base args ds gs before hval0 hW hcnd _
  have hval : ∀ (j : Nat) t v, Try.f8.params[j]? = some t → args[j]? = some v → Value.okWide Try.prog W .any base t v := hval0
  have hW' := hW
  obtain ⟨p, q, hA0, hV, rfl, hfz, hnd⟩ := hW
  have hA : DataW.TrodAll enc Try.prog W 0 (fun _ => true) true Try.f8.params.toList args.toList ds p := hA0
  rw [Try.params8] at hA hval
  obtain ⟨v0, vs0, d0, ds0, p0, q0, hargs, rfl, rfl, h0, r0⟩ := trodAll_cons hA
  obtain ⟨v1, vs1, d1, ds1, p1, q1, rfl, rfl, rfl, h1, r1⟩ := trodAll_cons r0
  obtain ⟨rfl, rfl, rfl⟩ := trodAll_nil r1
  obtain rfl : args = #[v0, v1] := by cases args; simp_all
  obtain ⟨rfl, rfl⟩ := trodVars_none hV
  obtain ⟨a0, rfl, rfl, rfl, w0⟩ := open_int Try.underlying2 (hval 0 2 v0 rfl rfl) h0
  have b0 := wf64 w0
  have k1 := h1
  have lt1 : ∀ x ∈ p1, x.block < W.heap.size := by obtain ⟨m, hm⟩ := k1; exact DataW.trod_lt m _ _ _ hm
  obtain ⟨a1, n1, c1, rfl⟩ := okWide_slice Try.underlying22 (hval 1 22 v1 rfl rfl)
  obtain ⟨z1, w1⟩ := ints_open Try.underlying22 Try.underlying2 (by kernel_rfl) h1
  clear hA0 hval0
  refine (walk a0 a1 n1 c1 z1 W b0 w1).mono fun e W' ⟨he, bel⟩ => ?_
  subst he
  exact ⟨_, rfl, _, _, _, [], _, [], hW', trodAll_mk1 (shut_bool Try.underlying4 _), (trodAll_cons_mk (shut_int Try.underlying2 w0) (trodAll_cons_mk (Below.trod laidOut (by kernel_rfl) (of_decide_eq_true (by kernel_rfl)) k1 bel lt1) trodAll_mk0)), rfl, bel.frame _, fun h => by cases h⟩

theorem over : Rows.fnExactSplitTonnesRow.holds Try.pinned (OpenSpec.ofChange Rows.fnExactSplitTonnesSpec) :=
  OpenClaim.holds_of_wide 8 Try.f8 rfl rfl rfl rfl rfl rfl rfl ⟨rfl, rfl, rfl, rfl, rfl⟩ rfl rfl rfl rfl rfl (by kernel_rfl) Try.func8 (by kernel_rfl)
    (of_decide_eq_true (by kernel_rfl)) (by unfold Func.isWrapper; first | (rw [if_pos (by decide +kernel)]; kernel_rfl) | (rw [if_neg (by decide +kernel)]; exact ⟨rfl, rfl⟩))
    (fun os started H enc _ => lifted os started H enc)

/-- The statement. -/
theorem proved : Rows.FnExactSplitTonnesSaid := over
end Go.Proofs.Ytbakmcjngadebaa.fnExactSplitTonnes
