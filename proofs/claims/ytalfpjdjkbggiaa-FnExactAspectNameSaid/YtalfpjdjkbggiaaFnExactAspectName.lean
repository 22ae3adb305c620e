/-
  Proves: for every input the law FnExactAspectName returns true, and its argument reads as before. No condition.
-/
import Derived.Test.YtalfpjdjkbggiaaLift
import Derived.Test.YtalfpjdjkbggiaaArith
namespace Go.Proofs.Ytalfpjdjkbggiaa.fnExactAspectName
open Go.ChangeShapes Go.WideShapes Go.ChangeAt Go.RowKit
set_option linter.unusedVariables false

theorem spec_out (n : Int) (w : World) (h : inB n 0 7 = false) : Calls Try.prog 15 #[.int .i64 n] w fun e w' => e = .returned (.string ByteArray.empty) ∧ w = w' := by
  go_enter Try.func15, Try.ntmps15
  go_wp2_with ((go_at_call 54; refine (l00In_any _ _ _ _).mono ?_; rintro e w' ⟨rfl, rfl⟩))
  go_ret
  exact ⟨rfl, rfl⟩
theorem impl_out (n : Int) (w : World) (h : inB n 0 7 = false) : Calls Try.prog 16 #[.int .i64 n] w fun e w' => e = .returned (.string ByteArray.empty) ∧ w = w' := by
  go_enter Try.func16, Try.ntmps16
  go_wp2_with ((go_at_call 55; refine (within_any _ _ _ _).mono ?_; rintro e w' ⟨rfl, rfl⟩))
  go_ret
  exact ⟨rfl, rfl⟩
theorem spec_0 (w : World) : Calls Try.prog 15 #[.int .i64 0] w fun e w' => e = .returned (.string { data := #[78] }) ∧ Below w.heap.size w w' := by
  have h : inB 0 0 7 = true := rfl
  go_enter Try.func15, Try.ntmps15
  go_wp2_with ((go_at_call 54; refine (l00In_any _ _ _ _).mono ?_; rintro e w' ⟨rfl, rfl⟩))
  go_ret
  exact ⟨rfl, (Below.refl _ _).alloc (Nat.le_refl _) _⟩
theorem impl_0 (w : World) : Calls Try.prog 16 #[.int .i64 0] w fun e w' => e = .returned (.string { data := #[78] }) ∧ w = w' := by
  have h : inB 0 0 7 = true := rfl
  have ik : ∀ w, (Instr.index 63 (.agg #[.string { data := #[78] }, .string { data := #[78, 69] }, .string { data := #[69] }, .string { data := #[83, 69] }, .string { data := #[83] }, .string { data := #[83, 87] }, .string { data := #[87] }, .string { data := #[78, 87] }]) (.int .i64 0)).run Try.prog w = .ok (.string { data := #[78] }) w := fun _ => by kernel_rfl
  go_enter Try.func16, Try.ntmps16
  go_wp2_with ((go_at_call 55; refine (within_any _ _ _ _).mono ?_; rintro e w' ⟨rfl, rfl⟩))
  go_ret
  exact ⟨rfl, rfl⟩
theorem spec_1 (w : World) : Calls Try.prog 15 #[.int .i64 1] w fun e w' => e = .returned (.string { data := #[78, 69] }) ∧ Below w.heap.size w w' := by
  have h : inB 1 0 7 = true := rfl
  go_enter Try.func15, Try.ntmps15
  go_wp2_with ((go_at_call 54; refine (l00In_any _ _ _ _).mono ?_; rintro e w' ⟨rfl, rfl⟩))
  go_ret
  exact ⟨rfl, (Below.refl _ _).alloc (Nat.le_refl _) _⟩
theorem impl_1 (w : World) : Calls Try.prog 16 #[.int .i64 1] w fun e w' => e = .returned (.string { data := #[78, 69] }) ∧ w = w' := by
  have h : inB 1 0 7 = true := rfl
  have ik : ∀ w, (Instr.index 63 (.agg #[.string { data := #[78] }, .string { data := #[78, 69] }, .string { data := #[69] }, .string { data := #[83, 69] }, .string { data := #[83] }, .string { data := #[83, 87] }, .string { data := #[87] }, .string { data := #[78, 87] }]) (.int .i64 1)).run Try.prog w = .ok (.string { data := #[78, 69] }) w := fun _ => by kernel_rfl
  go_enter Try.func16, Try.ntmps16
  go_wp2_with ((go_at_call 55; refine (within_any _ _ _ _).mono ?_; rintro e w' ⟨rfl, rfl⟩))
  go_ret
  exact ⟨rfl, rfl⟩
theorem spec_2 (w : World) : Calls Try.prog 15 #[.int .i64 2] w fun e w' => e = .returned (.string { data := #[69] }) ∧ Below w.heap.size w w' := by
  have h : inB 2 0 7 = true := rfl
  go_enter Try.func15, Try.ntmps15
  go_wp2_with ((go_at_call 54; refine (l00In_any _ _ _ _).mono ?_; rintro e w' ⟨rfl, rfl⟩))
  go_ret
  exact ⟨rfl, (Below.refl _ _).alloc (Nat.le_refl _) _⟩
theorem impl_2 (w : World) : Calls Try.prog 16 #[.int .i64 2] w fun e w' => e = .returned (.string { data := #[69] }) ∧ w = w' := by
  have h : inB 2 0 7 = true := rfl
  have ik : ∀ w, (Instr.index 63 (.agg #[.string { data := #[78] }, .string { data := #[78, 69] }, .string { data := #[69] }, .string { data := #[83, 69] }, .string { data := #[83] }, .string { data := #[83, 87] }, .string { data := #[87] }, .string { data := #[78, 87] }]) (.int .i64 2)).run Try.prog w = .ok (.string { data := #[69] }) w := fun _ => by kernel_rfl
  go_enter Try.func16, Try.ntmps16
  go_wp2_with ((go_at_call 55; refine (within_any _ _ _ _).mono ?_; rintro e w' ⟨rfl, rfl⟩))
  go_ret
  exact ⟨rfl, rfl⟩
theorem spec_3 (w : World) : Calls Try.prog 15 #[.int .i64 3] w fun e w' => e = .returned (.string { data := #[83, 69] }) ∧ Below w.heap.size w w' := by
  have h : inB 3 0 7 = true := rfl
  go_enter Try.func15, Try.ntmps15
  go_wp2_with ((go_at_call 54; refine (l00In_any _ _ _ _).mono ?_; rintro e w' ⟨rfl, rfl⟩))
  go_ret
  exact ⟨rfl, (Below.refl _ _).alloc (Nat.le_refl _) _⟩
theorem impl_3 (w : World) : Calls Try.prog 16 #[.int .i64 3] w fun e w' => e = .returned (.string { data := #[83, 69] }) ∧ w = w' := by
  have h : inB 3 0 7 = true := rfl
  have ik : ∀ w, (Instr.index 63 (.agg #[.string { data := #[78] }, .string { data := #[78, 69] }, .string { data := #[69] }, .string { data := #[83, 69] }, .string { data := #[83] }, .string { data := #[83, 87] }, .string { data := #[87] }, .string { data := #[78, 87] }]) (.int .i64 3)).run Try.prog w = .ok (.string { data := #[83, 69] }) w := fun _ => by kernel_rfl
  go_enter Try.func16, Try.ntmps16
  go_wp2_with ((go_at_call 55; refine (within_any _ _ _ _).mono ?_; rintro e w' ⟨rfl, rfl⟩))
  go_ret
  exact ⟨rfl, rfl⟩
theorem spec_4 (w : World) : Calls Try.prog 15 #[.int .i64 4] w fun e w' => e = .returned (.string { data := #[83] }) ∧ Below w.heap.size w w' := by
  have h : inB 4 0 7 = true := rfl
  go_enter Try.func15, Try.ntmps15
  go_wp2_with ((go_at_call 54; refine (l00In_any _ _ _ _).mono ?_; rintro e w' ⟨rfl, rfl⟩))
  go_ret
  exact ⟨rfl, (Below.refl _ _).alloc (Nat.le_refl _) _⟩
theorem impl_4 (w : World) : Calls Try.prog 16 #[.int .i64 4] w fun e w' => e = .returned (.string { data := #[83] }) ∧ w = w' := by
  have h : inB 4 0 7 = true := rfl
  have ik : ∀ w, (Instr.index 63 (.agg #[.string { data := #[78] }, .string { data := #[78, 69] }, .string { data := #[69] }, .string { data := #[83, 69] }, .string { data := #[83] }, .string { data := #[83, 87] }, .string { data := #[87] }, .string { data := #[78, 87] }]) (.int .i64 4)).run Try.prog w = .ok (.string { data := #[83] }) w := fun _ => by kernel_rfl
  go_enter Try.func16, Try.ntmps16
  go_wp2_with ((go_at_call 55; refine (within_any _ _ _ _).mono ?_; rintro e w' ⟨rfl, rfl⟩))
  go_ret
  exact ⟨rfl, rfl⟩
theorem spec_5 (w : World) : Calls Try.prog 15 #[.int .i64 5] w fun e w' => e = .returned (.string { data := #[83, 87] }) ∧ Below w.heap.size w w' := by
  have h : inB 5 0 7 = true := rfl
  go_enter Try.func15, Try.ntmps15
  go_wp2_with ((go_at_call 54; refine (l00In_any _ _ _ _).mono ?_; rintro e w' ⟨rfl, rfl⟩))
  go_ret
  exact ⟨rfl, (Below.refl _ _).alloc (Nat.le_refl _) _⟩
theorem impl_5 (w : World) : Calls Try.prog 16 #[.int .i64 5] w fun e w' => e = .returned (.string { data := #[83, 87] }) ∧ w = w' := by
  have h : inB 5 0 7 = true := rfl
  have ik : ∀ w, (Instr.index 63 (.agg #[.string { data := #[78] }, .string { data := #[78, 69] }, .string { data := #[69] }, .string { data := #[83, 69] }, .string { data := #[83] }, .string { data := #[83, 87] }, .string { data := #[87] }, .string { data := #[78, 87] }]) (.int .i64 5)).run Try.prog w = .ok (.string { data := #[83, 87] }) w := fun _ => by kernel_rfl
  go_enter Try.func16, Try.ntmps16
  go_wp2_with ((go_at_call 55; refine (within_any _ _ _ _).mono ?_; rintro e w' ⟨rfl, rfl⟩))
  go_ret
  exact ⟨rfl, rfl⟩
theorem spec_6 (w : World) : Calls Try.prog 15 #[.int .i64 6] w fun e w' => e = .returned (.string { data := #[87] }) ∧ Below w.heap.size w w' := by
  have h : inB 6 0 7 = true := rfl
  go_enter Try.func15, Try.ntmps15
  go_wp2_with ((go_at_call 54; refine (l00In_any _ _ _ _).mono ?_; rintro e w' ⟨rfl, rfl⟩))
  go_ret
  exact ⟨rfl, (Below.refl _ _).alloc (Nat.le_refl _) _⟩
theorem impl_6 (w : World) : Calls Try.prog 16 #[.int .i64 6] w fun e w' => e = .returned (.string { data := #[87] }) ∧ w = w' := by
  have h : inB 6 0 7 = true := rfl
  have ik : ∀ w, (Instr.index 63 (.agg #[.string { data := #[78] }, .string { data := #[78, 69] }, .string { data := #[69] }, .string { data := #[83, 69] }, .string { data := #[83] }, .string { data := #[83, 87] }, .string { data := #[87] }, .string { data := #[78, 87] }]) (.int .i64 6)).run Try.prog w = .ok (.string { data := #[87] }) w := fun _ => by kernel_rfl
  go_enter Try.func16, Try.ntmps16
  go_wp2_with ((go_at_call 55; refine (within_any _ _ _ _).mono ?_; rintro e w' ⟨rfl, rfl⟩))
  go_ret
  exact ⟨rfl, rfl⟩
theorem spec_7 (w : World) : Calls Try.prog 15 #[.int .i64 7] w fun e w' => e = .returned (.string { data := #[78, 87] }) ∧ Below w.heap.size w w' := by
  have h : inB 7 0 7 = true := rfl
  go_enter Try.func15, Try.ntmps15
  go_wp2_with ((go_at_call 54; refine (l00In_any _ _ _ _).mono ?_; rintro e w' ⟨rfl, rfl⟩))
  go_ret
  exact ⟨rfl, (Below.refl _ _).alloc (Nat.le_refl _) _⟩
theorem impl_7 (w : World) : Calls Try.prog 16 #[.int .i64 7] w fun e w' => e = .returned (.string { data := #[78, 87] }) ∧ w = w' := by
  have h : inB 7 0 7 = true := rfl
  have ik : ∀ w, (Instr.index 63 (.agg #[.string { data := #[78] }, .string { data := #[78, 69] }, .string { data := #[69] }, .string { data := #[83, 69] }, .string { data := #[83] }, .string { data := #[83, 87] }, .string { data := #[87] }, .string { data := #[78, 87] }]) (.int .i64 7)).run Try.prog w = .ok (.string { data := #[78, 87] }) w := fun _ => by kernel_rfl
  go_enter Try.func16, Try.ntmps16
  go_wp2_with ((go_at_call 55; refine (within_any _ _ _ _).mono ?_; rintro e w' ⟨rfl, rfl⟩))
  go_ret
  exact ⟨rfl, rfl⟩

theorem walk (a : Int) (w : World) (b : -9223372036854775808 ≤ a ∧ a ≤ 9223372036854775807) :
    Calls Try.prog 3 #[.int .i64 a] w fun e w' => e = .returned (.bool true) ∧ Below w.heap.size w w' := by
  by_cases h : a < 0 ∨ 7 < a
  · have h0 : inB a 0 7 = false := inB_not.2 h
    clear h
    go_enter Try.func3, Try.ntmps3
    go_wp2_with (first | (go_at_call 15; refine (spec_out _ _ h0).mono ?_; rintro e w' ⟨rfl, rfl⟩) | (go_at_call 16; refine (impl_out _ _ h0).mono ?_; rintro e w' ⟨rfl, rfl⟩))
    go_ret
    exact ⟨rfl, Below.refl _ _⟩
  · have hk : a = 0 ∨ a = 1 ∨ a = 2 ∨ a = 3 ∨ a = 4 ∨ a = 5 ∨ a = 6 ∨ a = 7 := by omega
    clear h
    rcases hk with rfl | rfl | rfl | rfl | rfl | rfl | rfl | rfl
    · go_enter Try.func3, Try.ntmps3
      go_wp2_with (first | (go_at_call 15; refine (spec_0 _).mono ?_; rintro e w' ⟨rfl, hb⟩) | (go_at_call 16; refine (impl_0 _).mono ?_; rintro e w' ⟨rfl, rfl⟩))
      go_ret
      exact ⟨rfl, hb⟩
    · go_enter Try.func3, Try.ntmps3
      go_wp2_with (first | (go_at_call 15; refine (spec_1 _).mono ?_; rintro e w' ⟨rfl, hb⟩) | (go_at_call 16; refine (impl_1 _).mono ?_; rintro e w' ⟨rfl, rfl⟩))
      go_ret
      exact ⟨rfl, hb⟩
    · go_enter Try.func3, Try.ntmps3
      go_wp2_with (first | (go_at_call 15; refine (spec_2 _).mono ?_; rintro e w' ⟨rfl, hb⟩) | (go_at_call 16; refine (impl_2 _).mono ?_; rintro e w' ⟨rfl, rfl⟩))
      go_ret
      exact ⟨rfl, hb⟩
    · go_enter Try.func3, Try.ntmps3
      go_wp2_with (first | (go_at_call 15; refine (spec_3 _).mono ?_; rintro e w' ⟨rfl, hb⟩) | (go_at_call 16; refine (impl_3 _).mono ?_; rintro e w' ⟨rfl, rfl⟩))
      go_ret
      exact ⟨rfl, hb⟩
    · go_enter Try.func3, Try.ntmps3
      go_wp2_with (first | (go_at_call 15; refine (spec_4 _).mono ?_; rintro e w' ⟨rfl, hb⟩) | (go_at_call 16; refine (impl_4 _).mono ?_; rintro e w' ⟨rfl, rfl⟩))
      go_ret
      exact ⟨rfl, hb⟩
    · go_enter Try.func3, Try.ntmps3
      go_wp2_with (first | (go_at_call 15; refine (spec_5 _).mono ?_; rintro e w' ⟨rfl, hb⟩) | (go_at_call 16; refine (impl_5 _).mono ?_; rintro e w' ⟨rfl, rfl⟩))
      go_ret
      exact ⟨rfl, hb⟩
    · go_enter Try.func3, Try.ntmps3
      go_wp2_with (first | (go_at_call 15; refine (spec_6 _).mono ?_; rintro e w' ⟨rfl, hb⟩) | (go_at_call 16; refine (impl_6 _).mono ?_; rintro e w' ⟨rfl, rfl⟩))
      go_ret
      exact ⟨rfl, hb⟩
    · go_enter Try.func3, Try.ntmps3
      go_wp2_with (first | (go_at_call 15; refine (spec_7 _).mono ?_; rintro e w' ⟨rfl, hb⟩) | (go_at_call 16; refine (impl_7 _).mono ?_; rintro e w' ⟨rfl, rfl⟩))
      go_ret
      exact ⟨rfl, hb⟩

set_option maxRecDepth 100000 in
theorem lifted (os : Os) (started : os.Started) (H : Type) (enc : TypeId × Value → H) :
    ReturnsInHanded {} Try.checked os 3 .any (Rows.fnExactAspectNameSpec.pre6 enc Try.prog Try.f3 Rows.fnExactAspectNameRow.domain false) (Rows.fnExactAspectNameSpec.post enc Try.prog Try.f3 false true false false) := by
  refine returnsInHanded_of_change (C := Try.checked) own started (by kernel_rfl) Try.func3
    (ChangeSpec.witness6 (enc := enc) (C := Try.checked) false ⟨#[], #[.int .i64 0], []⟩ 8 (by kernel_rfl) (by kernel_rfl) (by kernel_rfl) (by kernel_rfl)) ?_
  intro W base args ds gs before hval0 hW hcnd _
  have hval : ∀ (j : Nat) t v, Try.f3.params[j]? = some t → args[j]? = some v → Value.okWide Try.prog W .any base t v := hval0
  have hW' := hW
  obtain ⟨p, q, hA0, hV, rfl, hfz, hnd⟩ := hW
  have hA : DataW.TrodAll enc Try.prog W 0 (fun _ => true) true Try.f3.params.toList args.toList ds p := hA0
  rw [Try.params3] at hA hval
  obtain ⟨v0, vs0, d0, ds0, p0, q0, hargs, rfl, rfl, h0, r0⟩ := trodAll_cons hA
  obtain ⟨rfl, rfl, rfl⟩ := trodAll_nil r0
  obtain rfl : args = #[v0] := by cases args; simp_all
  obtain ⟨rfl, rfl⟩ := trodVars_none hV
  obtain ⟨a0, rfl, rfl, rfl, w0⟩ := open_int Try.underlying2 (hval 0 2 v0 rfl rfl) h0
  have b0 := wf64 w0
  clear hA0 hval0
  refine (walk a0 W b0).mono fun e W' ⟨he, bel⟩ => ?_
  subst he
  exact ⟨_, rfl, _, _, _, [], _, [], hW', trodAll_mk1 (shut_bool Try.underlying4 _), (trodAll_cons_mk (shut_int Try.underlying2 w0) trodAll_mk0), rfl, bel.frame _, fun h => by cases h⟩

theorem over : Rows.fnExactAspectNameRow.holds Try.pinned (OpenSpec.ofChange Rows.fnExactAspectNameSpec) :=
  OpenClaim.holds_of_wide 3 Try.f3 rfl rfl rfl rfl rfl rfl rfl ⟨rfl, rfl, rfl, rfl, rfl⟩ rfl rfl rfl rfl rfl (by kernel_rfl) Try.func3 (by kernel_rfl)
    (of_decide_eq_true (by kernel_rfl)) (by unfold Func.isWrapper; first | (rw [if_pos (by decide +kernel)]; kernel_rfl) | (rw [if_neg (by decide +kernel)]; exact ⟨rfl, rfl⟩))
    (fun os started H enc _ => lifted os started H enc)

/-- The statement. -/
theorem proved : Rows.FnExactAspectNameSaid := over
end Go.Proofs.Ytalfpjdjkbggiaa.fnExactAspectName
