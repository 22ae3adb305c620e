/-
  Proves: for every input the law FnExactRiskOf returns true, and its arguments read as before. No condition.
-/
import Derived.Test.YtbakmcjngadebaaLift
import Derived.Test.YtbakmcjngadebaaEvR
namespace Go.Proofs.Ytbakmcjngadebaa.fnExactRiskOf
open Go.ChangeShapes Go.WideShapes Go.ChangeAt Go.RowKit Go.Deep
set_option linter.unusedVariables false

set_option maxRecDepth 100000 in
set_option maxHeartbeats 4000000 in
theorem walk (A0 : Option Addr) (n0 c0 : Nat) (x0 : List Ev) (a1 : Int) (a2 : Int) (w : World) (h0 : Evs w A0 n0 x0) (b1 : -9223372036854775808 ≤ a1 ∧ a1 ≤ 9223372036854775807) (b2 : -9223372036854775808 ≤ a2 ∧ a2 ≤ 9223372036854775807) :
    Calls Try.prog 11 #[.slice A0 n0 c0, .int .i64 a1, .int .i64 a2] w fun e w' => e = .returned (.bool true) ∧ Below w.heap.size w w' := by
  have hm0 := h0.2.1
  by_cases hn0 : n0 + totE x0 ≤ 1048576
  rotate_left
  · go_enter Try.func11, Try.ntmps11
    go_wp2_with (go_at_call 30; refine (szEventS_no _ _ _ _ x0 _ h0 (by omega) (by omega) (by omega)).mono ?_; rintro e w' ⟨rfl, hbz⟩)
    go_ret
    exact ⟨rfl, hbz⟩
  have B := Below.refl w.heap.size w
  go_enter Try.func11, Try.ntmps11
  go_wp2_with fail
  refine (szEventS_ok _ _ _ _ x0 _ h0 (by omega) (by omega)).mono ?_
  rintro e w1 ⟨rfl, hb1⟩
  replace h0 := h0.below hb1
  replace B := B.trans (hb1.mono B.size)
  go_wp2_with fail
  refine (toEventS_any _ _ _ x0 _ h0 hn0).mono ?_
  rintro e w2 ⟨rfl, ho2, hb2, hz2⟩
  replace h0 := h0.below hb2
  replace B := B.trans (hb2.mono B.size)
  have s0 := EvPre.evs ho2 h0
  have HZ2 := Lib.hid (And.intro ho2 hz2)
  clear ho2 hz2
  go_wp2_with fail
  refine (RiskOf_s _ _ _ _ _ x0 _ s0 b1 b2).mono ?_
  rintro e w3 ⟨rfl, hb3⟩
  replace h0 := h0.below hb3
  replace s0 := s0.below hb3
  replace B := B.trans (hb3.mono B.size)
  go_wp2_with fail
  refine (toEventS_any _ _ _ x0 _ h0 hn0).mono ?_
  rintro e w4 ⟨rfl, ho4, hb4, hz4⟩
  replace h0 := h0.below hb4
  replace B := B.trans (hb4.mono B.size)
  have g0 := EvPre.evs ho4 h0
  have HZ4 := Lib.hid (And.intro ho4 hz4)
  clear ho4 hz4
  go_wp2_with fail
  refine (RiskOf_i _ _ _ _ _ x0 _ g0 b1 b2).mono ?_
  rintro e w5 ⟨rfl, hb5⟩
  replace h0 := h0.below hb5
  replace g0 := g0.below hb5
  replace B := B.trans (hb5.mono B.size)
  go_wp2_with fail
  refine (toEventS_any _ _ _ x0 _ h0 hn0).mono ?_
  rintro e w6 ⟨rfl, ho6, hb6, hz6⟩
  replace h0 := h0.below hb6
  replace g0 := g0.below hb6
  replace B := B.trans (hb6.mono B.size)
  have t0 := EvPre.evs ho6 h0
  have HZ6 := Lib.hid (And.intro ho6 hz6)
  clear ho6 hz6
  go_wp2_with fail
  refine (eqEventS_same _ _ _ _ _ x0 _ g0 t0).mono ?_
  rintro e w7 ⟨rfl, hb7⟩
  replace h0 := h0.below hb7
  replace g0 := g0.below hb7
  replace t0 := t0.below hb7
  replace B := B.trans (hb7.mono B.size)
  go_wp2_with fail
  go_ret
  exact ⟨rfl, B⟩

set_option maxRecDepth 100000 in
theorem lifted (os : Os) (started : os.Started) (H : Type) (enc : TypeId × Value → H) :
    ReturnsInHanded {} Try.checked os 11 .any (Rows.fnExactRiskOfSpec.pre6 enc Try.prog Try.f11 Rows.fnExactRiskOfRow.domain false) (Rows.fnExactRiskOfSpec.post enc Try.prog Try.f11 false true false false) := by
  refine returnsInHanded_of_change (C := Try.checked) own started (by kernel_rfl) Try.func11
    (ChangeSpec.witness6 (enc := enc) (C := Try.checked) false ⟨#[], #[.slice none 0 0, .int .i64 0, .int .i64 0], []⟩ 8 (by kernel_rfl) (by kernel_rfl) (by kernel_rfl) (by kernel_rfl)) ?_
  intro W base args ds gs before hval0 hW hcnd _
  have hval : ∀ (j : Nat) t v, Try.f11.params[j]? = some t → args[j]? = some v → Value.okWide Try.prog W .any base t v := hval0
  have hW' := hW
  obtain ⟨p, q, hA0, hV, rfl, hfz, hnd⟩ := hW
  have hA : DataW.TrodAll enc Try.prog W 0 (fun _ => true) true Try.f11.params.toList args.toList ds p := hA0
  rw [Try.params11] at hA hval
  obtain ⟨v0, vs0, d0, ds0, p0, q0, hargs, rfl, rfl, h0, r0⟩ := trodAll_cons hA
  obtain ⟨v1, vs1, d1, ds1, p1, q1, rfl, rfl, rfl, h1, r1⟩ := trodAll_cons r0
  obtain ⟨v2, vs2, d2, ds2, p2, q2, rfl, rfl, rfl, h2, r2⟩ := trodAll_cons r1
  obtain ⟨rfl, rfl, rfl⟩ := trodAll_nil r2
  obtain rfl : args = #[v0, v1, v2] := by cases args; simp_all
  obtain ⟨rfl, rfl⟩ := trodVars_none hV
  have k0 := h0
  have lt0 : ∀ x ∈ p0, x.block < W.heap.size := by obtain ⟨m, hm⟩ := k0; exact DataW.trod_lt m _ _ _ hm
  obtain ⟨a0, n0, c0, rfl⟩ := okWide_slice Try.underlying39 (hval 0 39 v0 rfl rfl)
  obtain ⟨z0, w0⟩ := events_open Try.underlying39 Try.underlying79 Try.underlying2 Try.underlying22 (by kernel_rfl) (by kernel_rfl) (by kernel_rfl) ⟨rfl, rfl⟩ h0
  obtain ⟨a1, rfl, rfl, rfl, w1⟩ := open_int Try.underlying2 (hval 1 2 v1 rfl rfl) h1
  have b1 := wf64 w1
  obtain ⟨a2, rfl, rfl, rfl, w2⟩ := open_int Try.underlying2 (hval 2 2 v2 rfl rfl) h2
  have b2 := wf64 w2
  clear hA0 hval0
  refine (walk a0 n0 c0 z0 a1 a2 W w0 b1 b2).mono fun e W' ⟨he, bel⟩ => ?_
  subst he
  exact ⟨_, rfl, _, _, _, [], _, [], hW', trodAll_mk1 (shut_bool Try.underlying4 _), (trodAll_cons_mk (Below.trod laidOut (by kernel_rfl) (of_decide_eq_true (by kernel_rfl)) k0 bel lt0) (trodAll_cons_mk (shut_int Try.underlying2 w1) (trodAll_cons_mk (shut_int Try.underlying2 w2) trodAll_mk0))), rfl, bel.frame _, fun h => by cases h⟩

theorem over : Rows.fnExactRiskOfRow.holds Try.pinned (OpenSpec.ofChange Rows.fnExactRiskOfSpec) :=
  OpenClaim.holds_of_wide 11 Try.f11 rfl rfl rfl rfl rfl rfl rfl ⟨rfl, rfl, rfl, rfl, rfl⟩ rfl rfl rfl rfl rfl (by kernel_rfl) Try.func11 (by kernel_rfl)
    (of_decide_eq_true (by kernel_rfl)) (by unfold Func.isWrapper; first | (rw [if_pos (by decide +kernel)]; kernel_rfl) | (rw [if_neg (by decide +kernel)]; exact ⟨rfl, rfl⟩))
    (fun os started H enc _ => lifted os started H enc)

/-- The statement. -/
theorem proved : Rows.FnExactRiskOfSaid := over
end Go.Proofs.Ytbakmcjngadebaa.fnExactRiskOf
