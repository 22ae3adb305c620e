/-
  Proves: for every input the law FnExactCellAt returns true, and its arguments read as before. No condition.
-/
import Derived.Test.YtmcaokbnbbmhhaaLift
import Derived.Test.YtmcaokbnbbmhhaaGrid
import Derived.Test.YtmcaokbnbbmhhaaGridV
namespace Go.Proofs.Ytmcaokbnbbmhhaa.fnExactCellAt
open Go.ChangeShapes Go.WideShapes Go.ChangeAt Go.RowKit Go.Deep
set_option linter.unusedVariables false

set_option maxHeartbeats 1000000 in
theorem walk (R0 C0 S0 : Int) (A0 : Option Addr) (n0 c0 : Nat) (x0 : List Int) (a1 : Int) (a2 : Int) (w : World) (h0 : GridA w R0 C0 S0 A0 n0 x0) (b1 : -9223372036854775808 ≤ a1 ∧ a1 ≤ 9223372036854775807) (b2 : -9223372036854775808 ≤ a2 ∧ a2 ≤ 9223372036854775807) :
    Calls Try.prog 3 #[.agg #[.int .i64 R0, .int .i64 C0, .int .i64 S0, .slice A0 n0 c0], .int .i64 a1, .int .i64 a2] w fun e w' => e = .returned (.bool true) ∧ Below w.heap.size w w' := by
  have hm0 := h0.1.2.1
  by_cases hn0 : n0 ≤ 1048576
  rotate_left
  · go_enter Try.func3, Try.ntmps3
    go_wp2_with (go_at_call 14; refine (szGrid_no _ _ _ _ _ _ _ _ hm0 (by omega) (by omega) (by omega)).mono ?_; rintro e w' ⟨rfl, hbz⟩)
    go_ret
    exact ⟨rfl, ((Below.refl _ _).alloc (Nat.le_refl _) (.cells #[.int .i64 R0, .int .i64 C0, .int .i64 S0, .slice A0 n0 c0] 24)).trans (hbz.mono (by simp))⟩
  have B : Below w.heap.size w _ := ((Below.refl _ _).alloc (Nat.le_refl _) (.cells #[.int .i64 R0, .int .i64 C0, .int .i64 S0, .slice A0 n0 c0] 24))
  replace h0 := h0.below B
  have X := Lib.hid (boxG_of w R0 C0 S0 A0 n0 c0 24)
  go_enter Try.func3, Try.ntmps3
  obtain ⟨p0, p1, p2, p3⟩ := X.out
  go_wp2_with fail
  clear p0 p1 p2 p3
  refine (szGrid_ok _ _ _ _ _ _ _ _ (by omega) (by omega)).mono ?_
  rintro e w1 ⟨rfl, hb1⟩
  replace h0 := h0.below hb1
  replace X := Lib.hid (X.out.below hb1)
  replace B := B.trans (hb1.mono B.size)
  obtain ⟨p0, p1, p2, p3⟩ := X.out
  go_wp2_with fail
  clear p0 p1 p2 p3
  refine (toGrid_any _ _ _ _ _ _ x0 _ h0 hn0).mono ?_
  rintro e w2 ⟨ga2, rfl, ho2, hb2⟩
  replace h0 := h0.below hb2
  replace X := Lib.hid (X.out.below hb2)
  replace B := B.trans (hb2.mono B.size)
  have s0 := h0.to (Ints.of_own ho2 h0.1.2.2.1)
  have HZ2 := Lib.hid ho2
  clear ho2
  obtain ⟨p0, p1, p2, p3⟩ := X.out
  go_wp2_with fail
  clear p0 p1 p2 p3
  refine (CellAt_s _ _ _ _ _ _ _ _ x0 _ s0).mono ?_
  rintro e w3 ⟨rfl, hb3⟩
  replace h0 := h0.below hb3
  replace s0 := s0.below hb3
  replace X := Lib.hid (X.out.below hb3)
  replace B := B.trans (hb3.mono B.size)
  obtain ⟨p0, p1, p2, p3⟩ := X.out
  go_wp2_with fail
  clear p0 p1 p2 p3
  refine (toGrid_any _ _ _ _ _ _ x0 _ h0 hn0).mono ?_
  rintro e w4 ⟨ga4, rfl, ho4, hb4⟩
  replace h0 := h0.below hb4
  replace X := Lib.hid (X.out.below hb4)
  replace B := B.trans (hb4.mono B.size)
  have g0 := h0.to (Ints.of_own ho4 h0.1.2.2.1)
  have HZ4 := Lib.hid ho4
  clear ho4
  have hx4 : Below w4.heap.size w4 _ := (Below.refl _ _).alloc (Nat.le_refl _) (.cells #[.int .i64 R0, .int .i64 C0, .int .i64 S0, .slice (some ⟨ga4, 0, none⟩) n0 n0] 28)
  have Y4 := Lib.hid (boxG_of w4 R0 C0 S0 (some ⟨ga4, 0, none⟩) n0 n0 28)
  replace h0 := h0.below hx4
  replace g0 := g0.below hx4
  replace X := Lib.hid (X.out.below hx4)
  replace B := B.trans (hx4.mono B.size)
  obtain ⟨p0, p1, p2, p3⟩ := X.out
  obtain ⟨Y40, Y41, Y42, Y43⟩ := Y4.out
  go_wp2_with fail
  clear p0 p1 p2 p3
  clear Y40 Y41 Y42 Y43
  refine (CellAt_i _ _ _ _ _ _ _ _ x0 _ g0).mono ?_
  rintro e w5 ⟨rfl, hb5⟩
  replace h0 := h0.below hb5
  replace g0 := g0.below hb5
  replace X := Lib.hid (X.out.below hb5)
  replace Y4 := Lib.hid (Y4.out.below hb5)
  replace B := B.trans (hb5.mono B.size)
  obtain ⟨p0, p1, p2, p3⟩ := X.out
  obtain ⟨Y40, Y41, Y42, Y43⟩ := Y4.out
  go_wp2_with fail
  go_region_held3 (fun w' => w'.cell? ⟨w.heap.size, 0, none⟩ = some (.int .i64 R0) ∧ w'.cell? ⟨w.heap.size, 1, none⟩ = some (.int .i64 C0) ∧ w'.cell? ⟨w.heap.size, 2, none⟩ = some (.int .i64 S0) ∧ w'.cell? ⟨w.heap.size, 3, none⟩ = some (.slice A0 n0 c0) ∧ w'.cell? ⟨w4.heap.size, 0, none⟩ = some (.int .i64 R0) ∧ w'.cell? ⟨w4.heap.size, 1, none⟩ = some (.int .i64 C0) ∧ w'.cell? ⟨w4.heap.size, 2, none⟩ = some (.int .i64 S0) ∧ w'.cell? ⟨w4.heap.size, 3, none⟩ = some (.slice (some ⟨ga4, 0, none⟩) n0 n0))
    (first | go_keep | exact HS7 | exact HS6)
    ((first | (go_at_call 16; refine (toGrid_any _ _ _ _ _ _ x0 _ (h0.below (Below.refl _ _).drew) hn0).mono ?_; rintro e w6 ⟨ga6, rfl, ho6, hc6⟩; have hb6 := below_of_drew hc6; have r6 := Ints.of_own ho6 h0.1.2.2.1; have v6 := (g0).below hb6; have X6 := X.out.below hb6; have V6 := Y4.out.below hb6; have HS6 := (And.intro X6.1 (And.intro X6.2.1 (And.intro X6.2.2.1 (And.intro X6.2.2.2 (And.intro V6.1 (And.intro V6.2.1 (And.intro V6.2.2.1 V6.2.2.2)))))))) | (go_at_call 18; refine (eqGrid_same _ _ _ _ _ _ _ _ x0 _ v6.1 r6).mono ?_; rintro e w7 ⟨rfl, hb7⟩; have X7 := X6.below hb7; have V7 := V6.below hb7; have HS7 := (And.intro X7.1 (And.intro X7.2.1 (And.intro X7.2.2.1 (And.intro X7.2.2.2 (And.intro V7.1 (And.intro V7.2.1 (And.intro V7.2.2.1 V7.2.2.2))))))))))
  clear p0 p1 p2 p3
  clear Y40 Y41 Y42 Y43
  clear HS6 HS7 X6 V6 X7 V7 r6 v6 ho6 hc6
  replace h0 := h0.below hb6
  replace g0 := g0.below hb6
  replace X := Lib.hid (X.out.below hb6)
  replace Y4 := Lib.hid (Y4.out.below hb6)
  replace B := B.trans (hb6.mono B.size)
  replace h0 := h0.below hb7
  replace g0 := g0.below hb7
  replace X := Lib.hid (X.out.below hb7)
  replace Y4 := Lib.hid (Y4.out.below hb7)
  replace B := B.trans (hb7.mono B.size)
  obtain ⟨p0, p1, p2, p3⟩ := X.out
  obtain ⟨Y40, Y41, Y42, Y43⟩ := Y4.out
  go_wp2_with fail
  clear p0 p1 p2 p3
  clear Y40 Y41 Y42 Y43
  go_ret
  exact ⟨rfl, B⟩

set_option maxRecDepth 100000 in
theorem lifted (os : Os) (started : os.Started) (H : Type) (enc : TypeId × Value → H) :
    ReturnsInHanded {} Try.checked os 3 .any (Rows.fnExactCellAtSpec.pre6 enc Try.prog Try.f3 Rows.fnExactCellAtRow.domain false) (Rows.fnExactCellAtSpec.post enc Try.prog Try.f3 false true false false) := by
  refine returnsInHanded_of_change (C := Try.checked) own started (by kernel_rfl) Try.func3
    (ChangeSpec.witness6 (enc := enc) (C := Try.checked) false ⟨#[], #[.agg #[.int .i64 0, .int .i64 0, .int .i64 0, .slice none 0 0], .int .i64 0, .int .i64 0], []⟩ 8 (by kernel_rfl) (by kernel_rfl) (by kernel_rfl) (by kernel_rfl)) ?_
  intro W base args ds gs before hval0 hW hcnd _
  have hval : ∀ (j : Nat) t v, Try.f3.params[j]? = some t → args[j]? = some v → Value.okWide Try.prog W .any base t v := hval0
  have hW' := hW
  obtain ⟨p, q, hA0, hV, rfl, hfz, hnd⟩ := hW
  have hA : DataW.TrodAll enc Try.prog W 0 (fun _ => true) true Try.f3.params.toList args.toList ds p := hA0
  rw [Try.params3] at hA hval
  obtain ⟨v0, vs0, d0, ds0, p0, q0, hargs, rfl, rfl, h0, r0⟩ := trodAll_cons hA
  obtain ⟨v1, vs1, d1, ds1, p1, q1, rfl, rfl, rfl, h1, r1⟩ := trodAll_cons r0
  obtain ⟨v2, vs2, d2, ds2, p2, q2, rfl, rfl, rfl, h2, r2⟩ := trodAll_cons r1
  obtain ⟨rfl, rfl, rfl⟩ := trodAll_nil r2
  obtain rfl : args = #[v0, v1, v2] := by cases args; simp_all
  obtain ⟨rfl, rfl⟩ := trodVars_none hV
  have k0 := h0
  have lt0 : ∀ x ∈ p0, x.block < W.heap.size := by obtain ⟨m, hm⟩ := k0; exact DataW.trod_lt m _ _ _ hm
  obtain ⟨R0, G0, S0, a0, n0, c0, z0, rfl, w0⟩ := grid_open Try.underlying24 Try.underlying2 Try.underlying22 (by kernel_rfl) (by kernel_rfl) (by kernel_rfl) ⟨rfl, rfl, rfl, rfl⟩ (hval 0 24 v0 rfl rfl) h0
  obtain ⟨a1, rfl, rfl, rfl, w1⟩ := open_int Try.underlying2 (hval 1 2 v1 rfl rfl) h1
  have b1 := wf64 w1
  obtain ⟨a2, rfl, rfl, rfl, w2⟩ := open_int Try.underlying2 (hval 2 2 v2 rfl rfl) h2
  have b2 := wf64 w2
  clear hA0 hval0
  refine (walk R0 G0 S0 a0 n0 c0 z0 a1 a2 W w0 b1 b2).mono fun e W' ⟨he, bel⟩ => ?_
  subst he
  exact ⟨_, rfl, _, _, _, [], _, [], hW', trodAll_mk1 (shut_bool Try.underlying4 _), (trodAll_cons_mk (Below.trod laidOut (by kernel_rfl) (of_decide_eq_true (by kernel_rfl)) k0 bel lt0) (trodAll_cons_mk (shut_int Try.underlying2 w1) (trodAll_cons_mk (shut_int Try.underlying2 w2) trodAll_mk0))), rfl, bel.frame _, fun h => by cases h⟩

theorem over : Rows.fnExactCellAtRow.holds Try.pinned (OpenSpec.ofChange Rows.fnExactCellAtSpec) :=
  OpenClaim.holds_of_wide 3 Try.f3 rfl rfl rfl rfl rfl rfl rfl ⟨rfl, rfl, rfl, rfl, rfl⟩ rfl rfl rfl rfl rfl (by kernel_rfl) Try.func3 (by kernel_rfl)
    (of_decide_eq_true (by kernel_rfl)) (by unfold Func.isWrapper; first | (rw [if_pos (by decide +kernel)]; kernel_rfl) | (rw [if_neg (by decide +kernel)]; exact ⟨rfl, rfl⟩))
    (fun os started H enc _ => lifted os started H enc)

/-- The statement. -/
theorem proved : Rows.FnExactCellAtSaid := over
end Go.Proofs.Ytmcaokbnbbmhhaa.fnExactCellAt
