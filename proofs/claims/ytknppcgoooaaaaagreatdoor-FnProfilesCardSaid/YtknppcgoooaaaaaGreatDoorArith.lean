/-
  The contracts of the small helpers of arithmetic: bounds, absolute values, nearest quotients.
-/
import Derived.Test.YtknppcgoooaaaaaGreatDoorBase
import Derived.Test.YtknppcgoooaaaaaGreatDoorRows
import Derived.Deep.QuietTactic
import Derived.BigQuiet
namespace Go.Proofs.YtknppcgoooaaaaaGreatDoor
open Go.RowKit

theorem within_any (n lo hi : Int) (w : World) :
    Calls Tryz.prog 49 #[.int .i64 n, .int .i64 lo, .int .i64 hi] w fun e w' => e = .returned (.bool (inB n lo hi)) ∧ w = w' := by
  by_cases h : lo ≤ n
  · have e : inB n lo hi = decide (n ≤ hi) := by simp [inB, h]
    rw [e]
    clear e
    go_enter Tryz.func49, Tryz.ntmps49
    go_wp2
    go_ret
    exact ⟨rfl, rfl⟩
  · have e : inB n lo hi = false := by simp [inB, h]
    rw [e]
    clear e
    go_enter Tryz.func49, Tryz.ntmps49
    go_wp2
    go_ret
    exact ⟨rfl, rfl⟩
theorem l00In_any (n lo hi : Int) (w : World) :
    Calls Tryz.prog 108 #[.int .i64 n, .int .i64 lo, .int .i64 hi] w fun e w' => e = .returned (.bool (inB n lo hi)) ∧ w = w' := by
  by_cases h : lo ≤ n
  · have e : inB n lo hi = decide (n ≤ hi) := by simp [inB, h]
    rw [e]
    clear e
    go_enter Tryz.func108, Tryz.ntmps108
    go_wp2
    go_ret
    exact ⟨rfl, rfl⟩
  · have e : inB n lo hi = false := by simp [inB, h]
    rw [e]
    clear e
    go_enter Tryz.func108, Tryz.ntmps108
    go_wp2
    go_ret
    exact ⟨rfl, rfl⟩
theorem abs_any (n : Int) (w : World) (h1 : -9223372036854775807 ≤ n) (h2 : n ≤ 9223372036854775807) :
    Calls Tryz.prog 91 #[.int .i64 n] w fun e w' => e = .returned (.int .i64 (absI n)) ∧ w = w' := by
  go_enter Tryz.func91, Tryz.ntmps91
  go_wp2
  all_goals go_ret
  all_goals exact ⟨ret_int (by unfold absI; split <;> omega), rfl⟩
/-- A contract that may draw: the world behind it is the world ahead of it, some draws on. -/
theorem divRound_any (a b : Int) (w : World) (ha1 : -2305843009213693952 ≤ a) (ha2 : a ≤ 2305843009213693952) (hb1 : 1 ≤ b) (hb2 : b ≤ 2305843009213693952) :
    Calls Tryz.prog 65 #[.int .i64 a, .int .i64 b] w fun e w' => e = .returned (.int .i64 (divN a b)) ∧ ∃ n, w' = w.drewN n := by
  have heq := divRound_eq a b hb1
  have hq1 : -2305843009213693952 ≤ a.tdiv b ∧ a.tdiv b ≤ 2305843009213693952 := by
    have h1 : (a.tdiv b).natAbs ≤ a.natAbs := by rw [Int.natAbs_tdiv]; exact Nat.div_le_self _ _
    omega
  have hr1 : -2305843009213693952 ≤ a.tmod b ∧ a.tmod b ≤ 2305843009213693952 := by
    have h1 : (a.tmod b).natAbs ≤ a.natAbs := by rw [Int.natAbs_tmod]; exact Nat.mod_le _ _
    omega
  have hw : IntKind.i64.wrap (a.tdiv b) = a.tdiv b := IntWalk.i64_in _ (by omega)
  have hb0 : ¬ b = 0 := by omega
  have hab : absI (a.tmod b) ≤ 2305843009213693952 ∧ 0 ≤ absI (a.tmod b) := by unfold absI; split <;> omega
  have habb : absI b = b := by unfold absI; split <;> omega
  obtain ⟨x, hx⟩ : ∃ x, x = absI (a.tmod b) := ⟨_, rfl⟩
  rw [← hx] at hab heq
  have HX := Lib.hid hx
  clear hx
  have HE := Lib.hid heq
  clear heq
  obtain ⟨hq2, hq3⟩ := hq1
  obtain ⟨hr2, hr3⟩ := hr1
  obtain ⟨ha3, ha4⟩ := hab
  have habs : ∀ W : World, Calls Tryz.prog 91 #[.int .i64 (a.tmod b)] W fun e w' => e = .returned (.int .i64 x) ∧ W = w' := fun W => by
    rw [HX.out]
    exact abs_any _ _ (by omega) (by omega)
  have habs2 : ∀ W : World, Calls Tryz.prog 91 #[.int .i64 b] W fun e w' => e = .returned (.int .i64 b) ∧ W = w' := fun W => by
    have := abs_any b W (by omega) (by omega)
    rwa [habb] at this
  have H1 := Lib.hid habs
  have H2 := Lib.hid habs2
  clear habs habs2 habb
  go_enter Tryz.func65, Tryz.ntmps65
  go_wp2_with fail
  go_quiet ((go_at_call 91; exact quiet_left (H1.out _)))
  have HQ := Lib.hid hw
  clear hw
  go_wp2_with fail
  refine (H2.out _).mono ?_
  rintro e w' ⟨rfl, rfl⟩
  go_wp2
  all_goals go_ret
  all_goals refine ⟨ret_int ?_, ⟨_, rfl⟩⟩
  · rw [← HE.out, if_pos (by assumption), if_pos (by simpa using (by assumption : (decide (a < 0) == decide (b < 0)) = true))]
  · rw [← HE.out, if_pos (by assumption), if_neg (by simpa using (by assumption : (decide (a < 0) == decide (b < 0)) = false))]
  · rw [← HE.out, if_neg (by omega)]
end Go.Proofs.YtknppcgoooaaaaaGreatDoor
