/-
  Proves: for every input the law FnExactZoneParts returns true, and its arguments read as before. No condition.
-/
import Derived.Test.YtbakmcjngadebaaLift
import Derived.Test.YtbakmcjngadebaaZonQ
namespace Go.Proofs.Ytbakmcjngadebaa.fnExactZoneParts
open Go.ChangeShapes Go.WideShapes Go.ChangeAt Go.RowKit Go.Deep
set_option linter.unusedVariables false

set_option maxRecDepth 100000 in
set_option maxHeartbeats 4000000 in
theorem walk (A0 : Option Addr) (n0 c0 : Nat) (x0 : List Int) (w : World) (h0 : Ints w A0 n0 x0) :
    Calls Try.prog 6 #[.slice A0 n0 c0] w fun e w' => e = .returned (.bool true) ∧ Below w.heap.size w w' := by
  have hm0 := h0.2.1
  by_cases hn0 : n0 ≤ 1048576
  rotate_left
  · go_enter Try.func6, Try.ntmps6
    go_wp2_with fail
    go_ret
    exact ⟨rfl, Below.refl _ _⟩
  have OK := Lib.hid (zonesPR_okr x0)
  obtain ⟨Y, hY⟩ : ∃ Y, Y = zonesPR x0 := ⟨_, rfl⟩
  obtain ⟨C, hC⟩ : ∃ C, C = zonesPK x0 := ⟨_, rfl⟩
  rw [← hY] at OK
  have HY := Lib.hid hY
  have HC := Lib.hid hC
  clear hY hC
  have hYl := OK.out.2.1
  have hYt := OK.out.2.2.1
  have H00 := Lib.hid h0
  have z0 : w.heap.size ≤ w.heap.size := Nat.le_refl _
  have B := Below.refl w.heap.size w
  go_enter Try.func6, Try.ntmps6
  go_wp2_with fail
  refine (toInt64S_any _ _ _ x0 _ h0 hn0).mono ?_
  rintro e w1 ⟨rfl, ho1, hb1, hz1⟩
  have s0 := Fresh.of_own ho1
  clear ho1 hz1
  replace h0 := h0.below hb1
  replace B := B.trans (hb1.mono B.size)
  have z1 := hb1.size
  clear hb1
  have us0 := s0.upper
  go_wp2_with fail
  refine (ZoneParts_s _ _ _ x0 _ (s0.ints h0.2.2.1)).mono ?_
  rintro e w2 ⟨A2, c2, rfl, fw, hb2⟩
  rw [← HY.out] at fw ⊢
  rw [← HC.out]
  replace h0 := h0.below hb2
  replace s0 := s0.below hb2
  replace B := B.trans (hb2.mono B.size)
  have z2 := hb2.size
  clear hb2
  clear s0 us0
  go_wp2_with fail
  refine (toInt64S_any _ _ _ x0 _ h0 hn0).mono ?_
  rintro e w3 ⟨rfl, ho3, hb3, hz3⟩
  have g0 := Fresh.of_own ho3
  clear ho3 hz3
  replace h0 := h0.below hb3
  replace fw := fw.below hb3
  replace B := B.trans (hb3.mono B.size)
  have z3 := hb3.size
  clear hb3
  have ug0 := g0.upper
  go_wp2_with fail
  refine (ZoneParts_i _ _ _ x0 _ (g0.ints h0.2.2.1)).mono ?_
  rintro e w4 ⟨A4, c4, rfl, fg, hb4⟩
  rw [← HY.out] at fg ⊢
  rw [← HC.out]
  replace h0 := h0.below hb4
  replace fw := fw.below hb4
  replace g0 := g0.below hb4
  replace B := B.trans (hb4.mono B.size)
  have z4 := hb4.size
  clear hb4
  go_wp2_with fail
  refine (eqInt64SS_same _ _ _ _ _ Y _ (fg.rows OK.out.1) (fw.rows OK.out.1)).mono ?_
  rintro e w5 ⟨rfl, hb5⟩
  replace h0 := h0.below hb5
  replace fw := fw.below hb5
  replace g0 := g0.below hb5
  replace fg := fg.below hb5
  replace B := B.trans (hb5.mono B.size)
  have z5 := hb5.size
  clear hb5
  go_wp2_with fail
  refine (toInt64S_any _ _ _ x0 _ h0 hn0).mono ?_
  rintro e w6 ⟨rfl, ho6, hb6, hz6⟩
  have t0 := Fresh.of_own ho6
  clear ho6 hz6
  replace h0 := h0.below hb6
  replace fw := fw.below hb6
  replace g0 := g0.below hb6
  replace fg := fg.below hb6
  replace B := B.trans (hb6.mono B.size)
  have z6 := hb6.size
  clear hb6
  have ut0 := t0.upper
  go_wp2_with fail
  refine (eqInt64S_same _ _ _ _ _ x0 _ (g0.ints h0.2.2.1) (t0.ints h0.2.2.1)).mono ?_
  rintro e w7 ⟨rfl, hb7⟩
  replace h0 := h0.below hb7
  replace fw := fw.below hb7
  replace g0 := g0.below hb7
  replace fg := fg.below hb7
  replace t0 := t0.below hb7
  replace B := B.trans (hb7.mono B.size)
  have z7 := hb7.size
  clear hb7
  clear t0 ut0
  go_wp2_with fail
  refine (markInt64S_fresh _ _ _ _ _ _ _ g0 hn0 (by omega) (by omega)).mono ?_
  rintro e w8 ⟨rfl, r8, fm8, hgr8, hr8⟩
  have z8 := hgr8.size
  replace h0 := h0.old hgr8 H00.out (fun g hg => by have := (hr8 g hg).1; omega)
  replace fw := fw.win (Win.grown (lo := w2.heap.size) (hi := w3.heap.size) hgr8 (fun g hg => by have e1 := hr8 g hg; have e2 := ug0.out e1.2.1 g e1.2.2; omega)) (by omega)
  replace fg := fg.win (Win.grown (lo := w2.heap.size) (hi := w3.heap.size) hgr8 (fun g hg => by have e1 := hr8 g hg; have e2 := ug0.out e1.2.1 g e1.2.2; omega)) (by omega)
  replace B := B.grown hgr8 B.size (fun g hg => by have := (hr8 g hg).1; omega)
  replace g0 := fm8
  clear hgr8 hr8 fm8
  go_wp2_with fail
  refine (eqInt64SS_same _ _ _ _ _ Y _ (fg.rows OK.out.1) (fw.rows OK.out.1)).mono ?_
  rintro e w9 ⟨rfl, hb9⟩
  replace h0 := h0.below hb9
  replace fw := fw.below hb9
  replace g0 := g0.below hb9
  replace fg := fg.below hb9
  replace B := B.trans (hb9.mono B.size)
  have z9 := hb9.size
  clear hb9
  clear g0 ug0
  go_wp2_with fail
  refine (markInt64SS_any _ _ _ _ _ _ Y _ fg hYt (by omega) (by omega)).mono ?_
  rintro e w10 ⟨rfl, fm10, hwn10⟩
  have z10 := hwn10.2.2.2.1
  replace B := hwn10.below B B.size (by omega)
  replace h0 := H00.out.below B
  replace fw := fw.win hwn10 (by omega)
  replace fg := fm10
  clear hwn10 fm10
  go_wp2_with fail
  refine (heldInt64SS_any _ _ _ _ Y _ (fg.rows (markR_bd (by omega) (by omega) (by omega) OK.out.2.2.2)) rfl hYt (by omega) (by omega)).mono ?_
  rintro e w11 ⟨rfl, hb11⟩
  replace h0 := h0.below hb11
  replace fw := fw.below hb11
  replace fg := fg.below hb11
  replace B := B.trans (hb11.mono B.size)
  have z11 := hb11.size
  clear hb11
  go_wp2_with fail
  refine (toInt64S_any _ _ _ x0 _ h0 hn0).mono ?_
  rintro e w12 ⟨rfl, ho12, hb12, hz12⟩
  have k0 := Fresh.of_own ho12
  clear ho12 hz12
  replace h0 := h0.below hb12
  replace fw := fw.below hb12
  replace fg := fg.below hb12
  replace B := B.trans (hb12.mono B.size)
  have z12 := hb12.size
  clear hb12
  have uk0 := k0.upper
  go_wp2_with fail
  refine (ZoneParts_i _ _ _ x0 _ (k0.ints h0.2.2.1)).mono ?_
  rintro e w13 ⟨A13, c13, rfl, fh, hb13⟩
  rw [← HY.out] at fh ⊢
  rw [← HC.out]
  replace h0 := h0.below hb13
  replace fw := fw.below hb13
  replace fg := fg.below hb13
  replace k0 := k0.below hb13
  replace B := B.trans (hb13.mono B.size)
  have z13 := hb13.size
  clear hb13
  go_wp2_with fail
  refine (eqInt64SS_same _ _ _ _ _ Y _ (fh.rows OK.out.1) (fw.rows OK.out.1)).mono ?_
  rintro e w14 ⟨rfl, hb14⟩
  replace h0 := h0.below hb14
  replace fw := fw.below hb14
  replace fg := fg.below hb14
  replace k0 := k0.below hb14
  replace fh := fh.below hb14
  replace B := B.trans (hb14.mono B.size)
  have z14 := hb14.size
  clear hb14
  go_wp2_with fail
  refine (heldInt64SS_any _ _ _ _ Y _ (fg.rows (markR_bd (by omega) (by omega) (by omega) OK.out.2.2.2)) rfl hYt (by omega) (by omega)).mono ?_
  rintro e w15 ⟨rfl, hb15⟩
  replace h0 := h0.below hb15
  replace fw := fw.below hb15
  replace fg := fg.below hb15
  replace k0 := k0.below hb15
  replace fh := fh.below hb15
  replace B := B.trans (hb15.mono B.size)
  have z15 := hb15.size
  clear hb15
  go_wp2_with fail
  go_ret
  exact ⟨rfl, B⟩

set_option maxRecDepth 100000 in
theorem lifted (os : Os) (started : os.Started) (H : Type) (enc : TypeId × Value → H) :
    ReturnsInHanded {} Try.checked os 6 .any (Rows.fnExactZonePartsSpec.pre6 enc Try.prog Try.f6 Rows.fnExactZonePartsRow.domain false) (Rows.fnExactZonePartsSpec.post enc Try.prog Try.f6 false true false false) := by
  refine returnsInHanded_of_change (C := Try.checked) own started (by kernel_rfl) Try.func6
    (ChangeSpec.witness6 (enc := enc) (C := Try.checked) false ⟨#[], #[.slice none 0 0], []⟩ 8 (by kernel_rfl) (by kernel_rfl) (by kernel_rfl) (by kernel_rfl)) ?_
  intro W base args ds gs before hval0 hW hcnd _
  have hval : ∀ (j : Nat) t v, Try.f6.params[j]? = some t → args[j]? = some v → Value.okWide Try.prog W .any base t v := hval0
  have hW' := hW
  obtain ⟨p, q, hA0, hV, rfl, hfz, hnd⟩ := hW
  have hA : DataW.TrodAll enc Try.prog W 0 (fun _ => true) true Try.f6.params.toList args.toList ds p := hA0
  rw [Try.params6] at hA hval
  obtain ⟨v0, vs0, d0, ds0, p0, q0, hargs, rfl, rfl, h0, r0⟩ := trodAll_cons hA
  obtain ⟨rfl, rfl, rfl⟩ := trodAll_nil r0
  obtain rfl : args = #[v0] := by cases args; simp_all
  obtain ⟨rfl, rfl⟩ := trodVars_none hV
  have k0 := h0
  have lt0 : ∀ x ∈ p0, x.block < W.heap.size := by obtain ⟨m, hm⟩ := k0; exact DataW.trod_lt m _ _ _ hm
  obtain ⟨a0, n0, c0, rfl⟩ := okWide_slice Try.underlying22 (hval 0 22 v0 rfl rfl)
  obtain ⟨z0, w0⟩ := ints_open Try.underlying22 Try.underlying2 (by kernel_rfl) h0
  clear hA0 hval0
  refine (walk a0 n0 c0 z0 W w0).mono fun e W' ⟨he, bel⟩ => ?_
  subst he
  exact ⟨_, rfl, _, _, _, [], _, [], hW', trodAll_mk1 (shut_bool Try.underlying4 _), (trodAll_cons_mk (Below.trod laidOut (by kernel_rfl) (of_decide_eq_true (by kernel_rfl)) k0 bel lt0) trodAll_mk0), rfl, bel.frame _, fun h => by cases h⟩

theorem over : Rows.fnExactZonePartsRow.holds Try.pinned (OpenSpec.ofChange Rows.fnExactZonePartsSpec) :=
  OpenClaim.holds_of_wide 6 Try.f6 rfl rfl rfl rfl rfl rfl rfl ⟨rfl, rfl, rfl, rfl, rfl⟩ rfl rfl rfl rfl rfl (by kernel_rfl) Try.func6 (by kernel_rfl)
    (of_decide_eq_true (by kernel_rfl)) (by unfold Func.isWrapper; first | (rw [if_pos (by decide +kernel)]; kernel_rfl) | (rw [if_neg (by decide +kernel)]; exact ⟨rfl, rfl⟩))
    (fun os started H enc _ => lifted os started H enc)

/-- The statement. -/
theorem proved : Rows.FnExactZonePartsSaid := over
end Go.Proofs.Ytbakmcjngadebaa.fnExactZoneParts
