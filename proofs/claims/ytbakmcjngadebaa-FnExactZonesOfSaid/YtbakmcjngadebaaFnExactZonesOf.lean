/-
  Proves: for every input the law FnExactZonesOf returns true, and its arguments read as before. No condition.
-/
import Derived.Test.YtbakmcjngadebaaLift
import Derived.Test.YtbakmcjngadebaaEvZ
namespace Go.Proofs.Ytbakmcjngadebaa.fnExactZonesOf
open Go.ChangeShapes Go.WideShapes Go.ChangeAt Go.RowKit Go.Deep
set_option linter.unusedVariables false

set_option maxRecDepth 100000 in
set_option maxHeartbeats 4000000 in
theorem walk (A0 : Option Addr) (n0 c0 : Nat) (x0 : List Ev) (w : World) (h0 : Evs w A0 n0 x0) :
    Calls Try.prog 13 #[.slice A0 n0 c0] w fun e w' => e = .returned (.bool true) ∧ Below w.heap.size w w' := by
  have hm0 := h0.2.1
  by_cases hn0 : n0 + totE x0 ≤ 1048576
  rotate_left
  · go_enter Try.func13, Try.ntmps13
    go_wp2_with (go_at_call 30; refine (szEventS_no _ _ _ _ x0 _ h0 (by omega) (by omega) (by omega)).mono ?_; rintro e w' ⟨rfl, hbz⟩)
    go_ret
    exact ⟨rfl, hbz⟩
  have OK := Lib.hid (zonesR_ok x0)
  obtain ⟨Y, hY⟩ : ∃ Y, Y = zonesR x0 := ⟨_, rfl⟩
  obtain ⟨C, hC⟩ : ∃ C, C = zonesC x0 := ⟨_, rfl⟩
  rw [← hY] at OK
  have HY := Lib.hid hY
  have HC := Lib.hid hC
  clear hY hC
  have hYl := OK.out.2
  have H00 := Lib.hid h0
  have z0 : w.heap.size ≤ w.heap.size := Nat.le_refl _
  have B := Below.refl w.heap.size w
  go_enter Try.func13, Try.ntmps13
  go_wp2_with fail
  refine (szEventS_ok _ _ _ _ x0 _ h0 (by omega) (by omega)).mono ?_
  rintro e w1 ⟨rfl, hb1⟩
  replace h0 := h0.below hb1
  replace B := B.trans (hb1.mono B.size)
  have z1 := hb1.size
  clear hb1
  go_wp2_with fail
  refine (toEventS_any _ _ _ x0 _ h0 hn0).mono ?_
  rintro e w2 ⟨rfl, ho2, hb2, hz2⟩
  have s0 := ho2
  clear ho2 hz2
  replace h0 := h0.below hb2
  replace B := B.trans (hb2.mono B.size)
  have z2 := hb2.size
  clear hb2
  go_wp2_with fail
  refine (ZonesOf_s _ _ _ x0 _ (s0.evs h0)).mono ?_
  rintro e w3 ⟨A3, c3, rfl, fw, hb3⟩
  rw [← HY.out] at fw ⊢
  rw [← HC.out]
  replace h0 := h0.below hb3
  replace s0 := s0.below hb3
  replace B := B.trans (hb3.mono B.size)
  have z3 := hb3.size
  clear hb3
  have ufw := fw.upper
  clear s0
  go_wp2_with fail
  refine (toEventS_any _ _ _ x0 _ h0 hn0).mono ?_
  rintro e w4 ⟨rfl, ho4, hb4, hz4⟩
  have g0 := ho4
  have Mg0 := ho4.mk
  clear ho4 hz4
  replace h0 := h0.below hb4
  replace fw := fw.below hb4
  replace B := B.trans (hb4.mono B.size)
  have z4 := hb4.size
  clear hb4
  go_wp2_with fail
  refine (ZonesOf_i _ _ _ x0 _ (g0.evs h0)).mono ?_
  rintro e w5 ⟨A5, c5, rfl, fg, hb5⟩
  rw [← HY.out] at fg ⊢
  rw [← HC.out]
  replace h0 := h0.below hb5
  replace fw := fw.below hb5
  replace g0 := g0.below hb5
  replace Mg0 := Mg0.below hb5
  replace B := B.trans (hb5.mono B.size)
  have z5 := hb5.size
  clear hb5
  have ufg := fg.upper
  go_wp2_with fail
  refine (eqInt64S_same _ _ _ _ _ Y _ (fg.ints OK.out.1) (fw.ints OK.out.1)).mono ?_
  rintro e w6 ⟨rfl, hb6⟩
  replace h0 := h0.below hb6
  replace fw := fw.below hb6
  replace g0 := g0.below hb6
  replace Mg0 := Mg0.below hb6
  replace fg := fg.below hb6
  replace B := B.trans (hb6.mono B.size)
  have z6 := hb6.size
  clear hb6
  go_wp2_with fail
  refine (toEventS_any _ _ _ x0 _ h0 hn0).mono ?_
  rintro e w7 ⟨rfl, ho7, hb7, hz7⟩
  have t0 := ho7
  clear ho7 hz7
  replace h0 := h0.below hb7
  replace fw := fw.below hb7
  replace g0 := g0.below hb7
  replace Mg0 := Mg0.below hb7
  replace fg := fg.below hb7
  replace B := B.trans (hb7.mono B.size)
  have z7 := hb7.size
  clear hb7
  go_wp2_with fail
  refine (eqEventS_same _ _ _ _ _ x0 _ (g0.evs h0) (t0.evs h0)).mono ?_
  rintro e w8 ⟨rfl, hb8⟩
  replace h0 := h0.below hb8
  replace fw := fw.below hb8
  replace g0 := g0.below hb8
  replace Mg0 := Mg0.below hb8
  replace fg := fg.below hb8
  replace t0 := t0.below hb8
  replace B := B.trans (hb8.mono B.size)
  have z8 := hb8.size
  clear hb8
  clear t0
  clear g0
  go_wp2_with fail
  refine (markEventS_any _ _ _ _ _ _ x0 _ Mg0 hn0 h0.1 (by omega) (by omega)).mono ?_
  rintro e w9 ⟨rfl, fm9, hwn9⟩
  have z9 := hwn9.2.2.2.1
  replace B := hwn9.below B B.size (by omega)
  replace h0 := H00.out.below B
  replace fw := fw.win hwn9 (fun h0 g hA hb => .inl (by have e2 := ufw.out h0 g hA; omega))
  replace fg := fg.win hwn9 (fun h0 g hA hb => .inr (by have e2 := ufg.out h0 g hA; omega))
  clear Mg0
  clear hwn9 fm9
  go_wp2_with fail
  refine (eqInt64S_same _ _ _ _ _ Y _ (fg.ints OK.out.1) (fw.ints OK.out.1)).mono ?_
  rintro e w10 ⟨rfl, hb10⟩
  replace h0 := h0.below hb10
  replace fw := fw.below hb10
  replace fg := fg.below hb10
  replace B := B.trans (hb10.mono B.size)
  have z10 := hb10.size
  clear hb10
  go_wp2_with fail
  refine (markInt64S_fresh _ _ _ _ _ _ _ fg OK.out.2 (by omega) (by omega)).mono ?_
  rintro e w11 ⟨rfl, r11, fm11, hgr11, hr11⟩
  have z11 := hgr11.size
  replace fw := fw.keep hgr11 (fun h0 g hA hb e => by have e1 := hr11 g e.symm; have e2 := ufw.out h0 g hA; have e3 := ufg.out e1.2.1 g e1.2.2; omega)
  replace B := B.grown hgr11 B.size (fun g hg => by have := (hr11 g hg).1; omega)
  replace h0 := H00.out.below B
  replace fg := fm11
  clear hgr11 hr11 fm11
  go_wp2_with fail
  refine (heldInt64S_any _ _ _ _ _ (fg.ints (marks_bd (by omega) (by omega) (by omega))) OK.out.2 (by omega) (by omega)).mono ?_
  rintro e w12 ⟨rfl, q12, hq12⟩
  have hb12 := below_q ⟨_, hq12⟩
  clear hq12
  replace h0 := h0.below hb12
  replace fw := fw.below hb12
  replace fg := fg.below hb12
  replace B := B.trans (hb12.mono B.size)
  have z12 := hb12.size
  clear hb12
  go_wp2_with fail
  refine (toEventS_any _ _ _ x0 _ h0 hn0).mono ?_
  rintro e w13 ⟨rfl, ho13, hb13, hz13⟩
  have k0 := ho13
  clear ho13 hz13
  replace h0 := h0.below hb13
  replace fw := fw.below hb13
  replace fg := fg.below hb13
  replace B := B.trans (hb13.mono B.size)
  have z13 := hb13.size
  clear hb13
  go_wp2_with fail
  refine (ZonesOf_i _ _ _ x0 _ (k0.evs h0)).mono ?_
  rintro e w14 ⟨A14, c14, rfl, fh, hb14⟩
  rw [← HY.out] at fh ⊢
  rw [← HC.out]
  replace h0 := h0.below hb14
  replace fw := fw.below hb14
  replace fg := fg.below hb14
  replace k0 := k0.below hb14
  replace B := B.trans (hb14.mono B.size)
  have z14 := hb14.size
  clear hb14
  have ufh := fh.upper
  go_wp2_with fail
  refine (eqInt64S_same _ _ _ _ _ Y _ (fh.ints OK.out.1) (fw.ints OK.out.1)).mono ?_
  rintro e w15 ⟨rfl, hb15⟩
  replace h0 := h0.below hb15
  replace fw := fw.below hb15
  replace fg := fg.below hb15
  replace k0 := k0.below hb15
  replace fh := fh.below hb15
  replace B := B.trans (hb15.mono B.size)
  have z15 := hb15.size
  clear hb15
  go_wp2_with fail
  refine (heldInt64S_any _ _ _ _ _ (fg.ints (marks_bd (by omega) (by omega) (by omega))) OK.out.2 (by omega) (by omega)).mono ?_
  rintro e w16 ⟨rfl, q16, hq16⟩
  have hb16 := below_q ⟨_, hq16⟩
  clear hq16
  replace h0 := h0.below hb16
  replace fw := fw.below hb16
  replace fg := fg.below hb16
  replace k0 := k0.below hb16
  replace fh := fh.below hb16
  replace B := B.trans (hb16.mono B.size)
  have z16 := hb16.size
  clear hb16
  go_wp2_with fail
  go_ret
  exact ⟨rfl, B⟩

set_option maxRecDepth 100000 in
theorem lifted (os : Os) (started : os.Started) (H : Type) (enc : TypeId × Value → H) :
    ReturnsInHanded {} Try.checked os 13 .any (Rows.fnExactZonesOfSpec.pre6 enc Try.prog Try.f13 Rows.fnExactZonesOfRow.domain false) (Rows.fnExactZonesOfSpec.post enc Try.prog Try.f13 false true false false) := by
  refine returnsInHanded_of_change (C := Try.checked) own started (by kernel_rfl) Try.func13
    (ChangeSpec.witness6 (enc := enc) (C := Try.checked) false ⟨#[], #[.slice none 0 0], []⟩ 8 (by kernel_rfl) (by kernel_rfl) (by kernel_rfl) (by kernel_rfl)) ?_
  intro W base args ds gs before hval0 hW hcnd _
  have hval : ∀ (j : Nat) t v, Try.f13.params[j]? = some t → args[j]? = some v → Value.okWide Try.prog W .any base t v := hval0
  have hW' := hW
  obtain ⟨p, q, hA0, hV, rfl, hfz, hnd⟩ := hW
  have hA : DataW.TrodAll enc Try.prog W 0 (fun _ => true) true Try.f13.params.toList args.toList ds p := hA0
  rw [Try.params13] at hA hval
  obtain ⟨v0, vs0, d0, ds0, p0, q0, hargs, rfl, rfl, h0, r0⟩ := trodAll_cons hA
  obtain ⟨rfl, rfl, rfl⟩ := trodAll_nil r0
  obtain rfl : args = #[v0] := by cases args; simp_all
  obtain ⟨rfl, rfl⟩ := trodVars_none hV
  have k0 := h0
  have lt0 : ∀ x ∈ p0, x.block < W.heap.size := by obtain ⟨m, hm⟩ := k0; exact DataW.trod_lt m _ _ _ hm
  obtain ⟨a0, n0, c0, rfl⟩ := okWide_slice Try.underlying39 (hval 0 39 v0 rfl rfl)
  obtain ⟨z0, w0⟩ := events_open Try.underlying39 Try.underlying79 Try.underlying2 Try.underlying22 (by kernel_rfl) (by kernel_rfl) (by kernel_rfl) ⟨rfl, rfl⟩ h0
  clear hA0 hval0
  refine (walk a0 n0 c0 z0 W w0).mono fun e W' ⟨he, bel⟩ => ?_
  subst he
  exact ⟨_, rfl, _, _, _, [], _, [], hW', trodAll_mk1 (shut_bool Try.underlying4 _), (trodAll_cons_mk (Below.trod laidOut (by kernel_rfl) (of_decide_eq_true (by kernel_rfl)) k0 bel lt0) trodAll_mk0), rfl, bel.frame _, fun h => by cases h⟩

theorem over : Rows.fnExactZonesOfRow.holds Try.pinned (OpenSpec.ofChange Rows.fnExactZonesOfSpec) :=
  OpenClaim.holds_of_wide 13 Try.f13 rfl rfl rfl rfl rfl rfl rfl ⟨rfl, rfl, rfl, rfl, rfl⟩ rfl rfl rfl rfl rfl (by kernel_rfl) Try.func13 (by kernel_rfl)
    (of_decide_eq_true (by kernel_rfl)) (by unfold Func.isWrapper; first | (rw [if_pos (by decide +kernel)]; kernel_rfl) | (rw [if_neg (by decide +kernel)]; exact ⟨rfl, rfl⟩))
    (fun os started H enc _ => lifted os started H enc)

/-- The statement. -/
theorem proved : Rows.FnExactZonesOfSaid := over
end Go.Proofs.Ytbakmcjngadebaa.fnExactZonesOf
