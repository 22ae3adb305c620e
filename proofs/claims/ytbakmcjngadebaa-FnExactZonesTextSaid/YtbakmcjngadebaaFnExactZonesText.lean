/-
  Proves: for every input the law FnExactZonesText returns true, and its arguments read as before. No condition.
-/
import Derived.Test.YtbakmcjngadebaaLift
import Derived.Test.YtbakmcjngadebaaZonU
namespace Go.Proofs.Ytbakmcjngadebaa.fnExactZonesText
open Go.ChangeShapes Go.WideShapes Go.ChangeAt Go.RowKit Go.Deep
set_option linter.unusedVariables false

set_option maxRecDepth 100000 in
set_option maxHeartbeats 4000000 in
theorem walk (A0 : Option Addr) (n0 c0 : Nat) (x0 : List Int) (w : World) (h0 : Ints w A0 n0 x0) :
    Calls Try.prog 10 #[.slice A0 n0 c0] w fun e w' => e = .returned (.bool true) ∧ Below w.heap.size w w' := by
  have hm0 := h0.2.1
  by_cases hn0 : n0 ≤ 1048576
  rotate_left
  · go_enter Try.func10, Try.ntmps10
    go_wp2_with fail
    go_ret
    exact ⟨rfl, Below.refl _ _⟩
  have B := Below.refl w.heap.size w
  go_enter Try.func10, Try.ntmps10
  go_wp2_with fail
  refine (toInt64S_any _ _ _ x0 _ h0 hn0).mono ?_
  rintro e w1 ⟨rfl, ho1, hb1, hz1⟩
  replace h0 := h0.below hb1
  replace B := B.trans (hb1.mono B.size)
  have s0 := Ints.of_own ho1 h0.2.2.1
  have HZ1 := Lib.hid (And.intro ho1 hz1)
  clear ho1 hz1
  go_wp2_with fail
  refine (ZonesText_s _ _ _ x0 _ s0).mono ?_
  rintro e w2 ⟨rfl, hb2⟩
  replace h0 := h0.below hb2
  replace s0 := s0.below hb2
  replace B := B.trans (hb2.mono B.size)
  go_wp2_with fail
  refine (toInt64S_any _ _ _ x0 _ h0 hn0).mono ?_
  rintro e w3 ⟨rfl, ho3, hb3, hz3⟩
  replace h0 := h0.below hb3
  replace B := B.trans (hb3.mono B.size)
  have g0 := Ints.of_own ho3 h0.2.2.1
  have HZ3 := Lib.hid (And.intro ho3 hz3)
  clear ho3 hz3
  go_wp2_with fail
  refine (ZonesText_i _ _ _ x0 _ g0).mono ?_
  rintro e w4 ⟨rfl, hb4⟩
  replace h0 := h0.below hb4
  replace g0 := g0.below hb4
  replace B := B.trans (hb4.mono B.size)
  go_wp2_with fail
  refine (toInt64S_any _ _ _ x0 _ h0 hn0).mono ?_
  rintro e w5 ⟨rfl, ho5, hb5, hz5⟩
  replace h0 := h0.below hb5
  replace g0 := g0.below hb5
  replace B := B.trans (hb5.mono B.size)
  have t0 := Ints.of_own ho5 h0.2.2.1
  have HZ5 := Lib.hid (And.intro ho5 hz5)
  clear ho5 hz5
  go_wp2_with fail
  refine (eqInt64S_same _ _ _ _ _ x0 _ g0 t0).mono ?_
  rintro e w6 ⟨rfl, hb6⟩
  replace h0 := h0.below hb6
  replace g0 := g0.below hb6
  replace t0 := t0.below hb6
  replace B := B.trans (hb6.mono B.size)
  go_wp2_with fail
  go_ret
  exact ⟨rfl, B⟩

set_option maxRecDepth 100000 in
theorem lifted (os : Os) (started : os.Started) (H : Type) (enc : TypeId × Value → H) :
    ReturnsInHanded {} Try.checked os 10 .any (Rows.fnExactZonesTextSpec.pre6 enc Try.prog Try.f10 Rows.fnExactZonesTextRow.domain false) (Rows.fnExactZonesTextSpec.post enc Try.prog Try.f10 false true false false) := by
  refine returnsInHanded_of_change (C := Try.checked) own started (by kernel_rfl) Try.func10
    (ChangeSpec.witness6 (enc := enc) (C := Try.checked) false ⟨#[], #[.slice none 0 0], []⟩ 8 (by kernel_rfl) (by kernel_rfl) (by kernel_rfl) (by kernel_rfl)) ?_
  intro W base args ds gs before hval0 hW hcnd _
  have hval : ∀ (j : Nat) t v, Try.f10.params[j]? = some t → args[j]? = some v → Value.okWide Try.prog W .any base t v := hval0
  have hW' := hW
  obtain ⟨p, q, hA0, hV, rfl, hfz, hnd⟩ := hW
  have hA : DataW.TrodAll enc Try.prog W 0 (fun _ => true) true Try.f10.params.toList args.toList ds p := hA0
  rw [Try.params10] at hA hval
  obtain ⟨v0, vs0, d0, ds0, p0, q0, hargs, rfl, rfl, h0, r0⟩ := trodAll_cons hA
  obtain ⟨rfl, rfl, rfl⟩ := trodAll_nil r0
  obtain rfl : args = #[v0] := by cases args; simp_all
  obtain ⟨rfl, rfl⟩ := trodVars_none hV
  have k0 := h0
  have lt0 : ∀ x ∈ p0, x.block < W.heap.size := by obtain ⟨m, hm⟩ := k0; exact DataW.trod_lt m _ _ _ hm
  obtain ⟨a0, n0, c0, rfl⟩ := okWide_slice Try.underlying22 (hval 0 22 v0 rfl rfl)
  obtain ⟨z0, w0⟩ := ints_open Try.underlying22 Try.underlying2 (by kernel_rfl) h0
  clear hA0 hval0
  refine (walk a0 n0 c0 z0 W w0).mono fun e W' ⟨he, bel⟩ => ?_
  subst he
  exact ⟨_, rfl, _, _, _, [], _, [], hW', trodAll_mk1 (shut_bool Try.underlying4 _), (trodAll_cons_mk (Below.trod laidOut (by kernel_rfl) (of_decide_eq_true (by kernel_rfl)) k0 bel lt0) trodAll_mk0), rfl, bel.frame _, fun h => by cases h⟩

theorem over : Rows.fnExactZonesTextRow.holds Try.pinned (OpenSpec.ofChange Rows.fnExactZonesTextSpec) :=
  OpenClaim.holds_of_wide 10 Try.f10 rfl rfl rfl rfl rfl rfl rfl ⟨rfl, rfl, rfl, rfl, rfl⟩ rfl rfl rfl rfl rfl (by kernel_rfl) Try.func10 (by kernel_rfl)
    (of_decide_eq_true (by kernel_rfl)) (by unfold Func.isWrapper; first | (rw [if_pos (by decide +kernel)]; kernel_rfl) | (rw [if_neg (by decide +kernel)]; exact ⟨rfl, rfl⟩))
    (fun os started H enc _ => lifted os started H enc)

/-- The statement. -/
theorem proved : Rows.FnExactZonesTextSaid := over
end Go.Proofs.Ytbakmcjngadebaa.fnExactZonesText
