/-
  Proves: for every input the law FnExactIsConnected returns true, and its arguments read as before. No condition.
-/
import Derived.Test.YtdmfapdnepdibaaLift
import Derived.Test.YtdmfapdnepdibaaPartC
namespace Go.Proofs.Ytdmfapdnepdibaa.fnExactIsConnected
open Go.ChangeShapes Go.WideShapes Go.ChangeAt Go.RowKit Go.Deep
set_option linter.unusedVariables false

set_option maxRecDepth 100000 in
set_option maxHeartbeats 4000000 in
theorem walk (R0 C0 S0 : Int) (A0 : Option Addr) (n0 c0 : Nat) (x0 : List Int) (A1 : Option Addr) (n1 c1 : Nat) (x1 : List Int) (w : World) (h0 : GridA w R0 C0 S0 A0 n0 x0) (h1 : Ints w A1 n1 x1) :
    Calls Try.prog 4 #[.agg #[.int .i64 R0, .int .i64 C0, .int .i64 S0, .slice A0 n0 c0], .slice A1 n1 c1] w fun e w' => e = .returned (.bool true) ∧ Below w.heap.size w w' := by
  have hm0 := h0.1.2.1
  have hm1 := h1.2.1
  by_cases hn1 : n1 ≤ 1048576
  rotate_left
  · go_enter Try.func4, Try.ntmps4
    go_wp2_with fail
    go_ret
    exact ⟨rfl, ((Below.refl _ _).alloc (Nat.le_refl _) (.cells #[.int .i64 R0, .int .i64 C0, .int .i64 S0, .slice A0 n0 c0] 34))⟩
  by_cases hn0 : n0 ≤ 1048576
  rotate_left
  · go_enter Try.func4, Try.ntmps4
    go_wp2_with (go_at_call 17; refine (szGrid_no _ _ _ _ _ _ _ _ hm0 (by omega) (by omega) (by omega)).mono ?_; rintro e w' ⟨rfl, hbz⟩)
    go_ret
    exact ⟨rfl, ((Below.refl _ _).alloc (Nat.le_refl _) (.cells #[.int .i64 R0, .int .i64 C0, .int .i64 S0, .slice A0 n0 c0] 34)).trans (hbz.mono (by simp))⟩
  have B : Below w.heap.size w _ := ((Below.refl _ _).alloc (Nat.le_refl _) (.cells #[.int .i64 R0, .int .i64 C0, .int .i64 S0, .slice A0 n0 c0] 34))
  replace h0 := h0.below B
  replace h1 := h1.below B
  have X := Lib.hid (boxG_of w R0 C0 S0 A0 n0 c0 34)
  go_enter Try.func4, Try.ntmps4
  obtain ⟨p0, p1, p2, p3⟩ := X.out
  go_wp2_with fail
  clear p0 p1 p2 p3
  refine (szGrid_ok _ _ _ _ _ _ _ _ (by omega) (by omega)).mono ?_
  rintro e w1 ⟨rfl, hb1⟩
  replace h0 := h0.below hb1
  replace h1 := h1.below hb1
  replace X := Lib.hid (X.out.below hb1)
  replace B := B.trans (hb1.mono B.size)
  obtain ⟨p0, p1, p2, p3⟩ := X.out
  go_wp2_with fail
  clear p0 p1 p2 p3
  refine (toGrid_any _ _ _ _ _ _ x0 _ h0 hn0).mono ?_
  rintro e w2 ⟨ga2, rfl, ho2, hb2⟩
  replace h0 := h0.below hb2
  replace h1 := h1.below hb2
  replace X := Lib.hid (X.out.below hb2)
  replace B := B.trans (hb2.mono B.size)
  have s0 := h0.to (Ints.of_own ho2 h0.1.2.2.1)
  have HZ2 := Lib.hid ho2
  clear ho2
  obtain ⟨p0, p1, p2, p3⟩ := X.out
  go_wp2_with fail
  clear p0 p1 p2 p3
  refine (toInt64S_any _ _ _ x1 _ h1 hn1).mono ?_
  rintro e w3 ⟨rfl, ho3, hb3, hz3⟩
  replace h0 := h0.below hb3
  replace h1 := h1.below hb3
  replace s0 := s0.below hb3
  replace X := Lib.hid (X.out.below hb3)
  replace B := B.trans (hb3.mono B.size)
  have s1 := Ints.of_own ho3 h1.2.2.1
  have HZ3 := Lib.hid (And.intro ho3 hz3)
  clear ho3 hz3
  obtain ⟨p0, p1, p2, p3⟩ := X.out
  go_wp2_with fail
  clear p0 p1 p2 p3
  refine (IsConnected_s _ _ _ _ _ _ _ _ _ x0 x1 _ s0 s1).mono ?_
  rintro e w4 ⟨rfl, hb4⟩
  replace h0 := h0.below hb4
  replace h1 := h1.below hb4
  replace s0 := s0.below hb4
  replace s1 := s1.below hb4
  replace X := Lib.hid (X.out.below hb4)
  replace B := B.trans (hb4.mono B.size)
  obtain ⟨p0, p1, p2, p3⟩ := X.out
  go_wp2_with fail
  clear p0 p1 p2 p3
  refine (toGrid_any _ _ _ _ _ _ x0 _ h0 hn0).mono ?_
  rintro e w5 ⟨ga5, rfl, ho5, hb5⟩
  replace h0 := h0.below hb5
  replace h1 := h1.below hb5
  replace X := Lib.hid (X.out.below hb5)
  replace B := B.trans (hb5.mono B.size)
  have g0 := h0.to (Ints.of_own ho5 h0.1.2.2.1)
  have HZ5 := Lib.hid ho5
  clear ho5
  have hx5 : Below w5.heap.size w5 _ := (Below.refl _ _).alloc (Nat.le_refl _) (.cells #[.int .i64 R0, .int .i64 C0, .int .i64 S0, .slice (some ⟨ga5, 0, none⟩) n0 n0] 26)
  have Y5 := Lib.hid (boxG_of w5 R0 C0 S0 (some ⟨ga5, 0, none⟩) n0 n0 26)
  replace h0 := h0.below hx5
  replace h1 := h1.below hx5
  replace g0 := g0.below hx5
  replace X := Lib.hid (X.out.below hx5)
  replace B := B.trans (hx5.mono B.size)
  obtain ⟨p0, p1, p2, p3⟩ := X.out
  obtain ⟨Y50, Y51, Y52, Y53⟩ := Y5.out
  go_wp2_with fail
  clear p0 p1 p2 p3
  clear Y50 Y51 Y52 Y53
  refine (toInt64S_any _ _ _ x1 _ h1 hn1).mono ?_
  rintro e w6 ⟨rfl, ho6, hb6, hz6⟩
  rw [show (w5.alloc (.cells #[.int .i64 R0, .int .i64 C0, .int .i64 S0, .slice (some ⟨ga5, 0, none⟩) n0 n0] 26)).heap.size = w5.heap.size + 1 by simp] at ho6
  replace h0 := h0.below hb6
  replace h1 := h1.below hb6
  replace g0 := g0.below hb6
  replace X := Lib.hid (X.out.below hb6)
  replace Y5 := Lib.hid (Y5.out.below hb6)
  replace B := B.trans (hb6.mono B.size)
  have g1 := Ints.of_own ho6 h1.2.2.1
  have HZ6 := Lib.hid (And.intro ho6 hz6)
  clear ho6 hz6
  obtain ⟨p0, p1, p2, p3⟩ := X.out
  obtain ⟨Y50, Y51, Y52, Y53⟩ := Y5.out
  go_wp2_with fail
  clear p0 p1 p2 p3
  clear Y50 Y51 Y52 Y53
  refine (IsConnected_i _ _ _ _ _ _ _ _ _ x0 x1 _ g0 g1).mono ?_
  rintro e w7 ⟨rfl, hb7⟩
  replace h0 := h0.below hb7
  replace h1 := h1.below hb7
  replace g0 := g0.below hb7
  replace g1 := g1.below hb7
  replace X := Lib.hid (X.out.below hb7)
  replace Y5 := Lib.hid (Y5.out.below hb7)
  replace B := B.trans (hb7.mono B.size)
  obtain ⟨p0, p1, p2, p3⟩ := X.out
  obtain ⟨Y50, Y51, Y52, Y53⟩ := Y5.out
  go_wp2_with fail
  go_region_held3 (fun w' => w'.cell? ⟨w.heap.size, 0, none⟩ = some (.int .i64 R0) ∧ w'.cell? ⟨w.heap.size, 1, none⟩ = some (.int .i64 C0) ∧ w'.cell? ⟨w.heap.size, 2, none⟩ = some (.int .i64 S0) ∧ w'.cell? ⟨w.heap.size, 3, none⟩ = some (.slice A0 n0 c0) ∧ w'.cell? ⟨w5.heap.size, 0, none⟩ = some (.int .i64 R0) ∧ w'.cell? ⟨w5.heap.size, 1, none⟩ = some (.int .i64 C0) ∧ w'.cell? ⟨w5.heap.size, 2, none⟩ = some (.int .i64 S0) ∧ w'.cell? ⟨w5.heap.size, 3, none⟩ = some (.slice (some ⟨ga5, 0, none⟩) n0 n0))
    (first | go_keep | exact HS9 | exact HS8)
    ((first | (go_at_call 19; refine (toGrid_any _ _ _ _ _ _ x0 _ (h0.below (Below.refl _ _).drew) hn0).mono ?_; rintro e w8 ⟨ga8, rfl, ho8, hc8⟩; have hb8 := below_of_drew hc8; have r8 := Ints.of_own ho8 h0.1.2.2.1; have v8 := (g0).below hb8; have X8 := X.out.below hb8; have V8 := Y5.out.below hb8; have HS8 := (And.intro X8.1 (And.intro X8.2.1 (And.intro X8.2.2.1 (And.intro X8.2.2.2 (And.intro V8.1 (And.intro V8.2.1 (And.intro V8.2.2.1 V8.2.2.2)))))))) | (go_at_call 22; refine (eqGrid_same _ _ _ _ _ _ _ _ x0 _ v8.1 r8).mono ?_; rintro e w9 ⟨rfl, hb9⟩; have X9 := X8.below hb9; have V9 := V8.below hb9; have HS9 := (And.intro X9.1 (And.intro X9.2.1 (And.intro X9.2.2.1 (And.intro X9.2.2.2 (And.intro V9.1 (And.intro V9.2.1 (And.intro V9.2.2.1 V9.2.2.2))))))))))
  clear p0 p1 p2 p3
  clear Y50 Y51 Y52 Y53
  clear HS8 HS9 X8 V8 X9 V9 r8 v8 ho8 hc8
  replace h0 := h0.below hb8
  replace h1 := h1.below hb8
  replace g0 := g0.below hb8
  replace g1 := g1.below hb8
  replace X := Lib.hid (X.out.below hb8)
  replace Y5 := Lib.hid (Y5.out.below hb8)
  replace B := B.trans (hb8.mono B.size)
  replace h0 := h0.below hb9
  replace h1 := h1.below hb9
  replace g0 := g0.below hb9
  replace g1 := g1.below hb9
  replace X := Lib.hid (X.out.below hb9)
  replace Y5 := Lib.hid (Y5.out.below hb9)
  replace B := B.trans (hb9.mono B.size)
  obtain ⟨p0, p1, p2, p3⟩ := X.out
  obtain ⟨Y50, Y51, Y52, Y53⟩ := Y5.out
  go_wp2_with fail
  clear p0 p1 p2 p3
  clear Y50 Y51 Y52 Y53
  refine (toInt64S_any _ _ _ x1 _ h1 hn1).mono ?_
  rintro e w10 ⟨rfl, ho10, hb10, hz10⟩
  replace h0 := h0.below hb10
  replace h1 := h1.below hb10
  replace g0 := g0.below hb10
  replace g1 := g1.below hb10
  replace X := Lib.hid (X.out.below hb10)
  replace Y5 := Lib.hid (Y5.out.below hb10)
  replace B := B.trans (hb10.mono B.size)
  have t1 := Ints.of_own ho10 h1.2.2.1
  have HZ10 := Lib.hid (And.intro ho10 hz10)
  clear ho10 hz10
  obtain ⟨p0, p1, p2, p3⟩ := X.out
  obtain ⟨Y50, Y51, Y52, Y53⟩ := Y5.out
  go_wp2_with fail
  clear p0 p1 p2 p3
  clear Y50 Y51 Y52 Y53
  refine (eqInt64S_same _ _ _ _ _ x1 _ g1 t1).mono ?_
  rintro e w11 ⟨rfl, hb11⟩
  replace h0 := h0.below hb11
  replace h1 := h1.below hb11
  replace g0 := g0.below hb11
  replace g1 := g1.below hb11
  replace t1 := t1.below hb11
  replace X := Lib.hid (X.out.below hb11)
  replace Y5 := Lib.hid (Y5.out.below hb11)
  replace B := B.trans (hb11.mono B.size)
  obtain ⟨p0, p1, p2, p3⟩ := X.out
  obtain ⟨Y50, Y51, Y52, Y53⟩ := Y5.out
  go_wp2_with fail
  clear p0 p1 p2 p3
  clear Y50 Y51 Y52 Y53
  go_ret
  exact ⟨rfl, B⟩

set_option maxRecDepth 100000 in
theorem lifted (os : Os) (started : os.Started) (H : Type) (enc : TypeId × Value → H) :
    ReturnsInHanded {} Try.checked os 4 .any (Rows.fnExactIsConnectedSpec.pre6 enc Try.prog Try.f4 Rows.fnExactIsConnectedRow.domain false) (Rows.fnExactIsConnectedSpec.post enc Try.prog Try.f4 false true false false) := by
  refine returnsInHanded_of_change (C := Try.checked) own started (by kernel_rfl) Try.func4
    (ChangeSpec.witness6 (enc := enc) (C := Try.checked) false ⟨#[], #[.agg #[.int .i64 0, .int .i64 0, .int .i64 0, .slice none 0 0], .slice none 0 0], []⟩ 8 (by kernel_rfl) (by kernel_rfl) (by kernel_rfl) (by kernel_rfl)) ?_
  intro W base args ds gs before hval0 hW hcnd _
  have hval : ∀ (j : Nat) t v, Try.f4.params[j]? = some t → args[j]? = some v → Value.okWide Try.prog W .any base t v := hval0
  have hW' := hW
  obtain ⟨p, q, hA0, hV, rfl, hfz, hnd⟩ := hW
  have hA : DataW.TrodAll enc Try.prog W 0 (fun _ => true) true Try.f4.params.toList args.toList ds p := hA0
  rw [Try.params4] at hA hval
  obtain ⟨v0, vs0, d0, ds0, p0, q0, hargs, rfl, rfl, h0, r0⟩ := trodAll_cons hA
  obtain ⟨v1, vs1, d1, ds1, p1, q1, rfl, rfl, rfl, h1, r1⟩ := trodAll_cons r0
  obtain ⟨rfl, rfl, rfl⟩ := trodAll_nil r1
  obtain rfl : args = #[v0, v1] := by cases args; simp_all
  obtain ⟨rfl, rfl⟩ := trodVars_none hV
  have k0 := h0
  have lt0 : ∀ x ∈ p0, x.block < W.heap.size := by obtain ⟨m, hm⟩ := k0; exact DataW.trod_lt m _ _ _ hm
  obtain ⟨R0, G0, S0, a0, n0, c0, z0, rfl, w0⟩ := grid_open Try.underlying34 Try.underlying2 Try.underlying24 (by kernel_rfl) (by kernel_rfl) (by kernel_rfl) ⟨rfl, rfl, rfl, rfl⟩ (hval 0 34 v0 rfl rfl) h0
  have k1 := h1
  have lt1 : ∀ x ∈ p1, x.block < W.heap.size := by obtain ⟨m, hm⟩ := k1; exact DataW.trod_lt m _ _ _ hm
  obtain ⟨a1, n1, c1, rfl⟩ := okWide_slice Try.underlying24 (hval 1 24 v1 rfl rfl)
  obtain ⟨z1, w1⟩ := ints_open Try.underlying24 Try.underlying2 (by kernel_rfl) h1
  clear hA0 hval0
  refine (walk R0 G0 S0 a0 n0 c0 z0 a1 n1 c1 z1 W w0 w1).mono fun e W' ⟨he, bel⟩ => ?_
  subst he
  exact ⟨_, rfl, _, _, _, [], _, [], hW', trodAll_mk1 (shut_bool Try.underlying4 _), (trodAll_cons_mk (Below.trod laidOut (by kernel_rfl) (of_decide_eq_true (by kernel_rfl)) k0 bel lt0) (trodAll_cons_mk (Below.trod laidOut (by kernel_rfl) (of_decide_eq_true (by kernel_rfl)) k1 bel lt1) trodAll_mk0)), rfl, bel.frame _, fun h => by cases h⟩

theorem over : Rows.fnExactIsConnectedRow.holds Try.pinned (OpenSpec.ofChange Rows.fnExactIsConnectedSpec) :=
  OpenClaim.holds_of_wide 4 Try.f4 rfl rfl rfl rfl rfl rfl rfl ⟨rfl, rfl, rfl, rfl, rfl⟩ rfl rfl rfl rfl rfl (by kernel_rfl) Try.func4 (by kernel_rfl)
    (of_decide_eq_true (by kernel_rfl)) (by unfold Func.isWrapper; first | (rw [if_pos (by decide +kernel)]; kernel_rfl) | (rw [if_neg (by decide +kernel)]; exact ⟨rfl, rfl⟩))
    (fun os started H enc _ => lifted os started H enc)

/-- The statement. -/
theorem proved : Rows.FnExactIsConnectedSaid := over
end Go.Proofs.Ytdmfapdnepdibaa.fnExactIsConnected
