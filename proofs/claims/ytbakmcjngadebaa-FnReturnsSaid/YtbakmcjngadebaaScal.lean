/-
  The contracts of the functions of plain numbers: zones, pressures, slabs, sizes.
-/
import Derived.Test.YtbakmcjngadebaaArith
namespace Go.Proofs.Ytbakmcjngadebaa
open Go.RowKit

theorem mul_bd {a b A B : Int} (ha : 0 ≤ a) (hA : a ≤ A) (hb : 0 ≤ b) (hB : b ≤ B) : 0 ≤ a * b ∧ a * b ≤ A * B :=
  ⟨Int.mul_nonneg ha hb, Int.mul_le_mul hA hB hb (by omega)⟩

/-! ### Zones -/
/-- The zone of a pressure. -/
def zoneV (p y : Int) : Int :=
  if 30000 ≤ p ∨ (3000 ≤ p ∧ y ≤ 30) then 3 else if 3000 ≤ p ∨ (0 < p ∧ y ≤ 30) then 2 else if 0 < p then 1 else 0
theorem zoneOf_i (p y : Int) (w : World) :
    Calls Try.prog 96 #[.int .i64 p, .int .i64 y] w fun e w' => e = .returned (.int .i64 (zoneV p y)) ∧ w = w' := by
  go_enter Try.func96, Try.ntmps96
  go_wp2
  all_goals go_ret
  all_goals exact ⟨ret_int (by unfold zoneV; (repeat' split) <;> omega), rfl⟩
theorem zoneOf_s (p y : Int) (w : World) :
    Calls Try.prog 95 #[.int .i64 p, .int .i64 y] w fun e w' => e = .returned (.int .i64 (zoneV p y)) ∧ w = w' := by
  go_enter Try.func95, Try.ntmps95
  go_wp2
  all_goals go_ret
  all_goals exact ⟨ret_int (by unfold zoneV; (repeat' split) <;> omega), rfl⟩
/-- The answer of ZoneOf. -/
def zoneA (p y : Int) : Int := if inB p 0 1000000 && inB y 1 300 then zoneV p y else 0
def zoneC (p y : Int) : Int := if inB p 0 1000000 && inB y 1 300 then 0 else 2
theorem l16Pressure_any (n : Int) (w : World) :
    Calls Try.prog 100 #[.int .i64 n] w fun e w' => e = .returned (.bool (inB n 0 1000000)) ∧ w = w' := by
  go_enter Try.func100, Try.ntmps100
  go_wp2_with ((go_at_call 71; refine (l00In_any _ _ _ _).mono ?_; rintro e w' ⟨rfl, rfl⟩))
  go_ret
  exact ⟨rfl, rfl⟩
theorem l16Years_any (n : Int) (w : World) :
    Calls Try.prog 101 #[.int .i64 n] w fun e w' => e = .returned (.bool (inB n 1 300)) ∧ w = w' := by
  go_enter Try.func101, Try.ntmps101
  go_wp2_with ((go_at_call 71; refine (l00In_any _ _ _ _).mono ?_; rintro e w' ⟨rfl, rfl⟩))
  go_ret
  exact ⟨rfl, rfl⟩
theorem l12Tonnes_any (n : Int) (w : World) :
    Calls Try.prog 60 #[.int .i64 n] w fun e w' => e = .returned (.bool (inB n 0 100000000)) ∧ w = w' := by
  go_enter Try.func60, Try.ntmps60
  go_wp2_with ((go_at_call 71; refine (l00In_any _ _ _ _).mono ?_; rintro e w' ⟨rfl, rfl⟩))
  go_ret
  exact ⟨rfl, rfl⟩
theorem tonnesOk_any (n : Int) (w : World) :
    Calls Try.prog 64 #[.int .i64 n] w fun e w' => e = .returned (.bool (inB n 0 100000000)) ∧ w = w' := by
  go_enter Try.func64, Try.ntmps64
  go_wp2_with ((go_at_call 74; refine (within_any _ _ _ _).mono ?_; rintro e w' ⟨rfl, rfl⟩))
  go_ret
  exact ⟨rfl, rfl⟩
theorem ZoneOf_s (p y : Int) (w : World) :
    Calls Try.prog 59 #[.int .i64 p, .int .i64 y] w fun e w' => e = .returned (.tuple #[.int .i64 (zoneA p y), .int .i64 (zoneC p y)]) ∧ w = w' := by
  cases h1 : inB p 0 1000000 <;> cases h2 : inB y 1 300
  all_goals
    go_enter Try.func59, Try.ntmps59
    go_wp2_with (first | (go_at_call 100; refine (l16Pressure_any _ _).mono ?_; rintro e w' ⟨rfl, rfl⟩) | (go_at_call 101; refine (l16Years_any _ _).mono ?_; rintro e w' ⟨rfl, rfl⟩) | (go_at_call 95; refine (zoneOf_s _ _ _).mono ?_; rintro e w' ⟨rfl, rfl⟩))
    go_ret2
    exact ⟨ret_int2 (by simp [zoneA, h1, h2]) (by simp [zoneC, h1, h2]), rfl⟩

/-! ### Pressures -/
def pressA (d s : Int) : Int := if inB d 1 1000 && inB s 0 10000 then divN (d * s * s) 10000 else 0
def pressC (d s : Int) : Int := if inB d 1 1000 && inB s 0 10000 then 0 else 2

/-! ### Slabs -/
def slabA (a b : Int) : Int := if inB a 0 1000000 && inB b 0 1000 then divN (a * b) 100 else 0
def slabC (a b : Int) : Int := if inB a 0 1000000 && inB b 0 1000 then 0 else 2
theorem SlabVolume_i (a b : Int) (w : World) :
    Calls Try.prog 47 #[.int .i64 a, .int .i64 b] w fun e w' => e = .returned (.tuple #[.int .i64 (slabA a b), .int .i64 (slabC a b)]) ∧ ∃ n, w' = w.drewN n := by
  cases h1 : inB a 0 1000000 <;> cases h2 : inB b 0 1000
  case true.true =>
    obtain ⟨a1, a2⟩ := inB_iff.1 h1
    obtain ⟨b1, b2⟩ := inB_iff.1 h2
    obtain ⟨c1, c2⟩ := mul_bd a1 a2 b1 b2
    go_enter Try.func47, Try.ntmps47
    go_wp2_with (first | (go_at_call 74; refine (within_any _ _ _ _).mono ?_; rintro e w' ⟨rfl, rfl⟩) | (go_at_call 82; refine (divRound_any _ _ _ (by omega) (by omega) (by omega) (by omega)).mono ?_; rintro e w' ⟨rfl, nd, rfl⟩))
    go_ret2
    exact ⟨ret_int2 (by simp [slabA, h1, h2]) (by simp [slabC, h1, h2]), ⟨_, rfl⟩⟩
  all_goals
    go_enter Try.func47, Try.ntmps47
    go_wp2_with ((go_at_call 74; refine (within_any _ _ _ _).mono ?_; rintro e w' ⟨rfl, rfl⟩))
    go_ret2
    exact ⟨ret_int2 (by simp [slabA, h1, h2]) (by simp [slabC, h1, h2]), ⟨0, rfl⟩⟩

def tonA (a b c : Int) : Int := if inB a 0 1000000 && inB b 0 1000 && inB c 1 1000 then divN (a * b * c) 100000 else 0
def tonC (a b c : Int) : Int := if inB a 0 1000000 && inB b 0 1000 && inB c 1 1000 then 0 else 2
theorem SlabTonnes_i (a b c : Int) (w : World) :
    Calls Try.prog 45 #[.int .i64 a, .int .i64 b, .int .i64 c] w fun e w' => e = .returned (.tuple #[.int .i64 (tonA a b c), .int .i64 (tonC a b c)]) ∧ ∃ n, w' = w.drewN n := by
  cases h1 : inB a 0 1000000 <;> cases h2 : inB b 0 1000 <;> cases h3 : inB c 1 1000
  case true.true.true =>
    obtain ⟨a1, a2⟩ := inB_iff.1 h1
    obtain ⟨b1, b2⟩ := inB_iff.1 h2
    obtain ⟨e1, e2⟩ := inB_iff.1 h3
    obtain ⟨c1, c2⟩ := mul_bd a1 a2 b1 b2
    obtain ⟨d1, d2⟩ := mul_bd c1 c2 (show 0 ≤ c by omega) e2
    go_enter Try.func45, Try.ntmps45
    go_wp2_with (first | (go_at_call 74; refine (within_any _ _ _ _).mono ?_; rintro e w' ⟨rfl, rfl⟩) | (go_at_call 82; refine (divRound_any _ _ _ (by omega) (by omega) (by omega) (by omega)).mono ?_; rintro e w' ⟨rfl, nd, rfl⟩))
    go_ret2
    exact ⟨ret_int2 (by simp [tonA, h1, h2, h3]) (by simp [tonC, h1, h2, h3]), ⟨_, rfl⟩⟩
  all_goals
    go_enter Try.func45, Try.ntmps45
    go_wp2_with ((go_at_call 74; refine (within_any _ _ _ _).mono ?_; rintro e w' ⟨rfl, rfl⟩))
    go_ret2
    exact ⟨ret_int2 (by simp [tonA, h1, h2, h3]) (by simp [tonC, h1, h2, h3]), ⟨0, rfl⟩⟩

def depA (a b c : Int) : Int := if inB a 0 100000000 && inB b 1 1000000 && inB c 1 1000 then divN (a * 100000) (b * c) else 0
def depC (a b c : Int) : Int := if inB a 0 100000000 && inB b 1 1000000 && inB c 1 1000 then 0 else 2
theorem pos_mul {a b : Int} (ha : 1 ≤ a) (hb : 1 ≤ b) : 1 ≤ a * b := by
  have := Int.mul_le_mul ha hb (by omega) (by omega)
  omega
theorem DepositDepth_i (a b c : Int) (w : World) :
    Calls Try.prog 50 #[.int .i64 a, .int .i64 b, .int .i64 c] w fun e w' => e = .returned (.tuple #[.int .i64 (depA a b c), .int .i64 (depC a b c)]) ∧ ∃ n, w' = w.drewN n := by
  cases h1 : inB a 0 100000000 <;> cases h2 : inB b 1 1000000 <;> cases h3 : inB c 1 1000
  case true.true.true =>
    obtain ⟨a1, a2⟩ := inB_iff.1 h1
    obtain ⟨b1, b2⟩ := inB_iff.1 h2
    obtain ⟨e1, e2⟩ := inB_iff.1 h3
    obtain ⟨c1, c2⟩ := mul_bd (show 0 ≤ b by omega) b2 (show 0 ≤ c by omega) e2
    have c3 := pos_mul b1 e1
    go_enter Try.func50, Try.ntmps50
    go_wp2_with (first | (go_at_call 74; refine (within_any _ _ _ _).mono ?_; rintro e w' ⟨rfl, rfl⟩) | (go_at_call 64; refine (tonnesOk_any _ _).mono ?_; rintro e w' ⟨rfl, rfl⟩) | (go_at_call 82; refine (divRound_any _ _ _ (by omega) (by omega) (by omega) (by omega)).mono ?_; rintro e w' ⟨rfl, nd, rfl⟩))
    go_ret2
    exact ⟨ret_int2 (by simp [depA, h1, h2, h3]) (by simp [depC, h1, h2, h3]), ⟨_, rfl⟩⟩
  all_goals
    go_enter Try.func50, Try.ntmps50
    go_wp2_with (first | (go_at_call 74; refine (within_any _ _ _ _).mono ?_; rintro e w' ⟨rfl, rfl⟩) | (go_at_call 64; refine (tonnesOk_any _ _).mono ?_; rintro e w' ⟨rfl, rfl⟩))
    go_ret2
    exact ⟨ret_int2 (by simp [depA, h1, h2, h3]) (by simp [depC, h1, h2, h3]), ⟨0, rfl⟩⟩

/-! ### Sizes -/
def cls (n : Int) : Int := if 10000 ≤ n then 5 else if 1000 ≤ n then 4 else if 100 ≤ n then 3 else if 10 ≤ n then 2 else 1
theorem sizeClass_i (n : Int) (w : World) :
    Calls Try.prog 65 #[.int .i64 n] w fun e w' => e = .returned (.int .i64 (cls n)) ∧ w = w' := by
  have i0 : ∀ w, (Instr.index 91 (.agg #[.int .i64 10, .int .i64 100, .int .i64 1000, .int .i64 10000]) (.int .i64 0)).run Try.prog w = .ok (.int .i64 10) w := fun _ => by kernel_rfl
  have i1 : ∀ w, (Instr.index 91 (.agg #[.int .i64 10, .int .i64 100, .int .i64 1000, .int .i64 10000]) (.int .i64 1)).run Try.prog w = .ok (.int .i64 100) w := fun _ => by kernel_rfl
  have i2 : ∀ w, (Instr.index 91 (.agg #[.int .i64 10, .int .i64 100, .int .i64 1000, .int .i64 10000]) (.int .i64 2)).run Try.prog w = .ok (.int .i64 1000) w := fun _ => by kernel_rfl
  have i3 : ∀ w, (Instr.index 91 (.agg #[.int .i64 10, .int .i64 100, .int .i64 1000, .int .i64 10000]) (.int .i64 3)).run Try.prog w = .ok (.int .i64 10000) w := fun _ => by kernel_rfl
  have hn : n < 10 ∨ (10 ≤ n ∧ n < 100) ∨ (100 ≤ n ∧ n < 1000) ∨ (1000 ≤ n ∧ n < 10000) ∨ 10000 ≤ n := by omega
  rcases hn with h | ⟨h, h'⟩ | ⟨h, h'⟩ | ⟨h, h'⟩ | h
  all_goals
    go_enter Try.func65, Try.ntmps65
    go_wp2
    go_rounds 5
    go_ret
    exact ⟨ret_int (by unfold cls; (repeat' split) <;> omega), rfl⟩
theorem sizeClass_s (n : Int) (w : World) :
    Calls Try.prog 61 #[.int .i64 n] w fun e w' => e = .returned (.int .i64 (cls n)) ∧ w = w' := by
  have hn : n < 10 ∨ (10 ≤ n ∧ n < 100) ∨ (100 ≤ n ∧ n < 1000) ∨ (1000 ≤ n ∧ n < 10000) ∨ 10000 ≤ n := by omega
  rcases hn with h | ⟨h, h'⟩ | ⟨h, h'⟩ | ⟨h, h'⟩ | h
  all_goals
    go_enter Try.func61, Try.ntmps61
    go_wp2
    go_rounds 5
    go_ret
    exact ⟨ret_int (by unfold cls; (repeat' split) <;> omega), rfl⟩
def sizeA (n : Int) : Int := if inB n 0 100000000 then cls n else 0
def sizeC (n : Int) : Int := if inB n 0 100000000 then 0 else 2
theorem SizeClass_i (n : Int) (w : World) :
    Calls Try.prog 49 #[.int .i64 n] w fun e w' => e = .returned (.tuple #[.int .i64 (sizeA n), .int .i64 (sizeC n)]) ∧ w = w' := by
  cases h1 : inB n 0 100000000
  all_goals
    go_enter Try.func49, Try.ntmps49
    go_wp2_with (first | (go_at_call 64; refine (tonnesOk_any _ _).mono ?_; rintro e w' ⟨rfl, rfl⟩) | (go_at_call 65; refine (sizeClass_i _ _).mono ?_; rintro e w' ⟨rfl, rfl⟩))
    go_ret2
    exact ⟨ret_int2 (by simp [sizeA, h1]) (by simp [sizeC, h1]), rfl⟩
end Go.Proofs.Ytbakmcjngadebaa
