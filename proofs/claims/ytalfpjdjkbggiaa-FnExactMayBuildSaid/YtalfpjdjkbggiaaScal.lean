/-
  The contracts of the functions of plain numbers: zones, pressures, slabs, sizes.
-/
import Derived.Test.YtalfpjdjkbggiaaArith
namespace Go.Proofs.Ytalfpjdjkbggiaa
open Go.RowKit

theorem mul_bd {a b A B : Int} (ha : 0 ≤ a) (hA : a ≤ A) (hb : 0 ≤ b) (hB : b ≤ B) : 0 ≤ a * b ∧ a * b ≤ A * B :=
  ⟨Int.mul_nonneg ha hb, Int.mul_le_mul hA hB hb (by omega)⟩

/-! ### Zones -/
/-- The zone of a pressure. -/
def zoneV (p y : Int) : Int :=
  if 30000 ≤ p ∨ (3000 ≤ p ∧ y ≤ 30) then 3 else if 3000 ≤ p ∨ (0 < p ∧ y ≤ 30) then 2 else if 0 < p then 1 else 0
theorem zoneOf_i (p y : Int) (w : World) :
    Calls Try.prog 68 #[.int .i64 p, .int .i64 y] w fun e w' => e = .returned (.int .i64 (zoneV p y)) ∧ w = w' := by
  go_enter Try.func68, Try.ntmps68
  go_wp2
  all_goals go_ret
  all_goals exact ⟨ret_int (by unfold zoneV; (repeat' split) <;> omega), rfl⟩
theorem zoneOf_s (p y : Int) (w : World) :
    Calls Try.prog 67 #[.int .i64 p, .int .i64 y] w fun e w' => e = .returned (.int .i64 (zoneV p y)) ∧ w = w' := by
  go_enter Try.func67, Try.ntmps67
  go_wp2
  all_goals go_ret
  all_goals exact ⟨ret_int (by unfold zoneV; (repeat' split) <;> omega), rfl⟩
/-- The answer of ZoneOf. -/
def zoneA (p y : Int) : Int := if inB p 0 1000000 && inB y 1 300 then zoneV p y else 0
def zoneC (p y : Int) : Int := if inB p 0 1000000 && inB y 1 300 then 0 else 2
theorem ZoneOf_i (p y : Int) (w : World) :
    Calls Try.prog 24 #[.int .i64 p, .int .i64 y] w fun e w' => e = .returned (.tuple #[.int .i64 (zoneA p y), .int .i64 (zoneC p y)]) ∧ w = w' := by
  cases h1 : inB p 0 1000000 <;> cases h2 : inB y 1 300
  all_goals
    go_enter Try.func24, Try.ntmps24
    go_wp2_with (first | (go_at_call 55; refine (within_any _ _ _ _).mono ?_; rintro e w' ⟨rfl, rfl⟩) | (go_at_call 68; refine (zoneOf_i _ _ _).mono ?_; rintro e w' ⟨rfl, rfl⟩))
    go_ret2
    exact ⟨ret_int2 (by simp [zoneA, h1, h2]) (by simp [zoneC, h1, h2]), rfl⟩
theorem l16Pressure_any (n : Int) (w : World) :
    Calls Try.prog 65 #[.int .i64 n] w fun e w' => e = .returned (.bool (inB n 0 1000000)) ∧ w = w' := by
  go_enter Try.func65, Try.ntmps65
  go_wp2_with ((go_at_call 54; refine (l00In_any _ _ _ _).mono ?_; rintro e w' ⟨rfl, rfl⟩))
  go_ret
  exact ⟨rfl, rfl⟩
theorem l16Years_any (n : Int) (w : World) :
    Calls Try.prog 66 #[.int .i64 n] w fun e w' => e = .returned (.bool (inB n 1 300)) ∧ w = w' := by
  go_enter Try.func66, Try.ntmps66
  go_wp2_with ((go_at_call 54; refine (l00In_any _ _ _ _).mono ?_; rintro e w' ⟨rfl, rfl⟩))
  go_ret
  exact ⟨rfl, rfl⟩
theorem l02Density_any (n : Int) (w : World) :
    Calls Try.prog 62 #[.int .i64 n] w fun e w' => e = .returned (.bool (inB n 1 1000)) ∧ w = w' := by
  go_enter Try.func62, Try.ntmps62
  go_wp2_with ((go_at_call 54; refine (l00In_any _ _ _ _).mono ?_; rintro e w' ⟨rfl, rfl⟩))
  go_ret
  exact ⟨rfl, rfl⟩
theorem l12Tonnes_any (n : Int) (w : World) :
    Calls Try.prog 58 #[.int .i64 n] w fun e w' => e = .returned (.bool (inB n 0 100000000)) ∧ w = w' := by
  go_enter Try.func58, Try.ntmps58
  go_wp2_with ((go_at_call 54; refine (l00In_any _ _ _ _).mono ?_; rintro e w' ⟨rfl, rfl⟩))
  go_ret
  exact ⟨rfl, rfl⟩
theorem tonnesOk_any (n : Int) (w : World) :
    Calls Try.prog 60 #[.int .i64 n] w fun e w' => e = .returned (.bool (inB n 0 100000000)) ∧ w = w' := by
  go_enter Try.func60, Try.ntmps60
  go_wp2_with ((go_at_call 55; refine (within_any _ _ _ _).mono ?_; rintro e w' ⟨rfl, rfl⟩))
  go_ret
  exact ⟨rfl, rfl⟩
theorem l12Slab_any (a b : Int) (w : World) :
    Calls Try.prog 69 #[.int .i64 a, .int .i64 b] w fun e w' => e = .returned (.bool (inB a 0 1000000 && inB b 0 1000)) ∧ w = w' := by
  cases h1 : inB a 0 1000000
  all_goals
    go_enter Try.func69, Try.ntmps69
    go_wp2_with ((go_at_call 54; refine (l00In_any _ _ _ _).mono ?_; rintro e w' ⟨rfl, rfl⟩))
    go_ret
    exact ⟨ret_bool (by simp), rfl⟩
theorem ZoneOf_s (p y : Int) (w : World) :
    Calls Try.prog 23 #[.int .i64 p, .int .i64 y] w fun e w' => e = .returned (.tuple #[.int .i64 (zoneA p y), .int .i64 (zoneC p y)]) ∧ w = w' := by
  cases h1 : inB p 0 1000000 <;> cases h2 : inB y 1 300
  all_goals
    go_enter Try.func23, Try.ntmps23
    go_wp2_with (first | (go_at_call 65; refine (l16Pressure_any _ _).mono ?_; rintro e w' ⟨rfl, rfl⟩) | (go_at_call 66; refine (l16Years_any _ _).mono ?_; rintro e w' ⟨rfl, rfl⟩) | (go_at_call 67; refine (zoneOf_s _ _ _).mono ?_; rintro e w' ⟨rfl, rfl⟩))
    go_ret2
    exact ⟨ret_int2 (by simp [zoneA, h1, h2]) (by simp [zoneC, h1, h2]), rfl⟩

/-! ### Pressures -/
def pressA (d s : Int) : Int := if inB d 1 1000 && inB s 0 10000 then divN (d * s * s) 10000 else 0
def pressC (d s : Int) : Int := if inB d 1 1000 && inB s 0 10000 then 0 else 2
theorem PressureOf_i (d s : Int) (w : World) :
    Calls Try.prog 22 #[.int .i64 d, .int .i64 s] w fun e w' => e = .returned (.tuple #[.int .i64 (pressA d s), .int .i64 (pressC d s)]) ∧ ∃ n, w' = w.drewN n := by
  cases h1 : inB d 1 1000 <;> cases h2 : inB s 0 10000
  case true.true =>
    obtain ⟨a1, a2⟩ := inB_iff.1 h1
    obtain ⟨b1, b2⟩ := inB_iff.1 h2
    obtain ⟨c1, c2⟩ := mul_bd (show 0 ≤ d by omega) a2 b1 b2
    obtain ⟨d1, d2⟩ := mul_bd c1 c2 b1 b2
    go_enter Try.func22, Try.ntmps22
    go_wp2_with (first | (go_at_call 55; refine (within_any _ _ _ _).mono ?_; rintro e w' ⟨rfl, rfl⟩) | (go_at_call 64; refine (divRound_any _ _ _ (by omega) (by omega) (by omega) (by omega)).mono ?_; rintro e w' ⟨rfl, nd, rfl⟩))
    go_ret2
    exact ⟨ret_int2 (by simp [pressA, h1, h2]) (by simp [pressC, h1, h2]), ⟨_, rfl⟩⟩
  all_goals
    go_enter Try.func22, Try.ntmps22
    go_wp2_with ((go_at_call 55; refine (within_any _ _ _ _).mono ?_; rintro e w' ⟨rfl, rfl⟩))
    go_ret2
    exact ⟨ret_int2 (by simp [pressA, h1, h2]) (by simp [pressC, h1, h2]), ⟨0, rfl⟩⟩
theorem PressureOf_s (d s : Int) (w : World) :
    Calls Try.prog 21 #[.int .i64 d, .int .i64 s] w fun e w' => e = .returned (.tuple #[.int .i64 (pressA d s), .int .i64 (pressC d s)]) ∧ w = w' := by
  cases h1 : inB d 1 1000 <;> cases h2 : inB s 0 10000
  case true.true =>
    obtain ⟨a1, a2⟩ := inB_iff.1 h1
    obtain ⟨b1, b2⟩ := inB_iff.1 h2
    obtain ⟨c1, c2⟩ := mul_bd (show 0 ≤ d by omega) a2 b1 b2
    obtain ⟨d1, d2⟩ := mul_bd c1 c2 b1 b2
    go_enter Try.func21, Try.ntmps21
    go_wp2_with (first | (go_at_call 62; refine (l02Density_any _ _).mono ?_; rintro e w' ⟨rfl, rfl⟩) | (go_at_call 54; refine (l00In_any _ _ _ _).mono ?_; rintro e w' ⟨rfl, rfl⟩) | (go_at_call 63; refine (l01Div_any _ _ _ (by omega) (by omega) (by omega) (by omega)).mono ?_; rintro e w' ⟨rfl, rfl⟩))
    go_ret2
    exact ⟨ret_int2 (by simp [pressA, h1, h2]) (by simp [pressC, h1, h2]), rfl⟩
  all_goals
    go_enter Try.func21, Try.ntmps21
    go_wp2_with (first | (go_at_call 62; refine (l02Density_any _ _).mono ?_; rintro e w' ⟨rfl, rfl⟩) | (go_at_call 54; refine (l00In_any _ _ _ _).mono ?_; rintro e w' ⟨rfl, rfl⟩))
    go_ret2
    exact ⟨ret_int2 (by simp [pressA, h1, h2]) (by simp [pressC, h1, h2]), rfl⟩

/-! ### Slabs -/
def slabA (a b : Int) : Int := if inB a 0 1000000 && inB b 0 1000 then divN (a * b) 100 else 0
def slabC (a b : Int) : Int := if inB a 0 1000000 && inB b 0 1000 then 0 else 2
theorem SlabVolume_i (a b : Int) (w : World) :
    Calls Try.prog 26 #[.int .i64 a, .int .i64 b] w fun e w' => e = .returned (.tuple #[.int .i64 (slabA a b), .int .i64 (slabC a b)]) ∧ ∃ n, w' = w.drewN n := by
  cases h1 : inB a 0 1000000 <;> cases h2 : inB b 0 1000
  case true.true =>
    obtain ⟨a1, a2⟩ := inB_iff.1 h1
    obtain ⟨b1, b2⟩ := inB_iff.1 h2
    obtain ⟨c1, c2⟩ := mul_bd a1 a2 b1 b2
    go_enter Try.func26, Try.ntmps26
    go_wp2_with (first | (go_at_call 55; refine (within_any _ _ _ _).mono ?_; rintro e w' ⟨rfl, rfl⟩) | (go_at_call 64; refine (divRound_any _ _ _ (by omega) (by omega) (by omega) (by omega)).mono ?_; rintro e w' ⟨rfl, nd, rfl⟩))
    go_ret2
    exact ⟨ret_int2 (by simp [slabA, h1, h2]) (by simp [slabC, h1, h2]), ⟨_, rfl⟩⟩
  all_goals
    go_enter Try.func26, Try.ntmps26
    go_wp2_with ((go_at_call 55; refine (within_any _ _ _ _).mono ?_; rintro e w' ⟨rfl, rfl⟩))
    go_ret2
    exact ⟨ret_int2 (by simp [slabA, h1, h2]) (by simp [slabC, h1, h2]), ⟨0, rfl⟩⟩
theorem SlabVolume_s (a b : Int) (w : World) :
    Calls Try.prog 25 #[.int .i64 a, .int .i64 b] w fun e w' => e = .returned (.tuple #[.int .i64 (slabA a b), .int .i64 (slabC a b)]) ∧ w = w' := by
  cases h : (inB a 0 1000000 && inB b 0 1000)
  case true =>
    have h' := h
    rw [Bool.and_eq_true] at h'
    obtain ⟨a1, a2⟩ := inB_iff.1 h'.1
    obtain ⟨b1, b2⟩ := inB_iff.1 h'.2
    obtain ⟨c1, c2⟩ := mul_bd a1 a2 b1 b2
    clear h'
    go_enter Try.func25, Try.ntmps25
    go_wp2_with (first | (go_at_call 69; refine (l12Slab_any _ _ _).mono ?_; rintro e w' ⟨rfl, rfl⟩; rw [h]) | (go_at_call 63; refine (l01Div_any _ _ _ (by omega) (by omega) (by omega) (by omega)).mono ?_; rintro e w' ⟨rfl, rfl⟩))
    go_ret2
    exact ⟨ret_int2 (by unfold slabA; rw [if_pos (by simpa using h)]) (by unfold slabC; rw [if_pos (by simpa using h)]), rfl⟩
  case false =>
    go_enter Try.func25, Try.ntmps25
    go_wp2_with (go_at_call 69; refine (l12Slab_any _ _ _).mono ?_; rintro e w' ⟨rfl, rfl⟩; rw [h])
    go_ret2
    exact ⟨ret_int2 (by unfold slabA; rw [if_neg (by simpa using h)]) (by unfold slabC; rw [if_neg (by simpa using h)]), rfl⟩

def tonA (a b c : Int) : Int := if inB a 0 1000000 && inB b 0 1000 && inB c 1 1000 then divN (a * b * c) 100000 else 0
def tonC (a b c : Int) : Int := if inB a 0 1000000 && inB b 0 1000 && inB c 1 1000 then 0 else 2
theorem SlabTonnes_i (a b c : Int) (w : World) :
    Calls Try.prog 39 #[.int .i64 a, .int .i64 b, .int .i64 c] w fun e w' => e = .returned (.tuple #[.int .i64 (tonA a b c), .int .i64 (tonC a b c)]) ∧ ∃ n, w' = w.drewN n := by
  cases h1 : inB a 0 1000000 <;> cases h2 : inB b 0 1000 <;> cases h3 : inB c 1 1000
  case true.true.true =>
    obtain ⟨a1, a2⟩ := inB_iff.1 h1
    obtain ⟨b1, b2⟩ := inB_iff.1 h2
    obtain ⟨e1, e2⟩ := inB_iff.1 h3
    obtain ⟨c1, c2⟩ := mul_bd a1 a2 b1 b2
    obtain ⟨d1, d2⟩ := mul_bd c1 c2 (show 0 ≤ c by omega) e2
    go_enter Try.func39, Try.ntmps39
    go_wp2_with (first | (go_at_call 55; refine (within_any _ _ _ _).mono ?_; rintro e w' ⟨rfl, rfl⟩) | (go_at_call 64; refine (divRound_any _ _ _ (by omega) (by omega) (by omega) (by omega)).mono ?_; rintro e w' ⟨rfl, nd, rfl⟩))
    go_ret2
    exact ⟨ret_int2 (by simp [tonA, h1, h2, h3]) (by simp [tonC, h1, h2, h3]), ⟨_, rfl⟩⟩
  all_goals
    go_enter Try.func39, Try.ntmps39
    go_wp2_with ((go_at_call 55; refine (within_any _ _ _ _).mono ?_; rintro e w' ⟨rfl, rfl⟩))
    go_ret2
    exact ⟨ret_int2 (by simp [tonA, h1, h2, h3]) (by simp [tonC, h1, h2, h3]), ⟨0, rfl⟩⟩
theorem l12Mass_any (a b c : Int) (w : World) (h1 : 0 ≤ a * b) (h2 : a * b ≤ 1000000000000) (h3 : 0 ≤ a * b * c) (h4 : a * b * c ≤ 1000000000000000) :
    Calls Try.prog 83 #[.int .i64 a, .int .i64 b, .int .i64 c] w fun e w' => e = .returned (.int .i64 (divN (a * b * c) 100000)) ∧ w = w' := by
  go_enter Try.func83, Try.ntmps83
  go_wp2_with ((go_at_call 63; refine (l01Div_any _ _ _ (by omega) (by omega) (by omega) (by omega)).mono ?_; rintro e w' ⟨rfl, rfl⟩))
  go_ret
  exact ⟨rfl, rfl⟩
theorem SlabTonnes_s (a b c : Int) (w : World) :
    Calls Try.prog 38 #[.int .i64 a, .int .i64 b, .int .i64 c] w fun e w' => e = .returned (.tuple #[.int .i64 (tonA a b c), .int .i64 (tonC a b c)]) ∧ w = w' := by
  cases h : (inB a 0 1000000 && inB b 0 1000) <;> cases h3 : inB c 1 1000
  case true.true =>
    have h' := h
    rw [Bool.and_eq_true] at h'
    obtain ⟨a1, a2⟩ := inB_iff.1 h'.1
    obtain ⟨b1, b2⟩ := inB_iff.1 h'.2
    obtain ⟨e1, e2⟩ := inB_iff.1 h3
    obtain ⟨c1, c2⟩ := mul_bd a1 a2 b1 b2
    obtain ⟨d1, d2⟩ := mul_bd c1 c2 (show 0 ≤ c by omega) e2
    clear h'
    go_enter Try.func38, Try.ntmps38
    go_wp2_with (first | (go_at_call 69; refine (l12Slab_any _ _ _).mono ?_; rintro e w' ⟨rfl, rfl⟩; rw [h]) | (first | (go_at_call 62; refine (l02Density_any _ _).mono ?_; rintro e w' ⟨rfl, rfl⟩) | (go_at_call 83; refine (l12Mass_any _ _ _ _ (by omega) (by omega) (by omega) (by omega)).mono ?_; rintro e w' ⟨rfl, rfl⟩)))
    go_ret2
    exact ⟨ret_int2 (by unfold tonA; rw [h, h3]; rfl) (by unfold tonC; rw [h, h3]; rfl), rfl⟩
  all_goals
    go_enter Try.func38, Try.ntmps38
    go_wp2_with (first | (go_at_call 69; refine (l12Slab_any _ _ _).mono ?_; rintro e w' ⟨rfl, rfl⟩; rw [h]) | ((go_at_call 62; refine (l02Density_any _ _).mono ?_; rintro e w' ⟨rfl, rfl⟩)))
    go_ret2
    exact ⟨ret_int2 (by unfold tonA; rw [h, h3]; rfl) (by unfold tonC; rw [h, h3]; rfl), rfl⟩

def depA (a b c : Int) : Int := if inB a 0 100000000 && inB b 1 1000000 && inB c 1 1000 then divN (a * 100000) (b * c) else 0
def depC (a b c : Int) : Int := if inB a 0 100000000 && inB b 1 1000000 && inB c 1 1000 then 0 else 2
theorem pos_mul {a b : Int} (ha : 1 ≤ a) (hb : 1 ≤ b) : 1 ≤ a * b := by
  have := Int.mul_le_mul ha hb (by omega) (by omega)
  omega
theorem DepositDepth_i (a b c : Int) (w : World) :
    Calls Try.prog 28 #[.int .i64 a, .int .i64 b, .int .i64 c] w fun e w' => e = .returned (.tuple #[.int .i64 (depA a b c), .int .i64 (depC a b c)]) ∧ ∃ n, w' = w.drewN n := by
  cases h1 : inB a 0 100000000 <;> cases h2 : inB b 1 1000000 <;> cases h3 : inB c 1 1000
  case true.true.true =>
    obtain ⟨a1, a2⟩ := inB_iff.1 h1
    obtain ⟨b1, b2⟩ := inB_iff.1 h2
    obtain ⟨e1, e2⟩ := inB_iff.1 h3
    obtain ⟨c1, c2⟩ := mul_bd (show 0 ≤ b by omega) b2 (show 0 ≤ c by omega) e2
    have c3 := pos_mul b1 e1
    go_enter Try.func28, Try.ntmps28
    go_wp2_with (first | (go_at_call 55; refine (within_any _ _ _ _).mono ?_; rintro e w' ⟨rfl, rfl⟩) | (go_at_call 60; refine (tonnesOk_any _ _).mono ?_; rintro e w' ⟨rfl, rfl⟩) | (go_at_call 64; refine (divRound_any _ _ _ (by omega) (by omega) (by omega) (by omega)).mono ?_; rintro e w' ⟨rfl, nd, rfl⟩))
    go_ret2
    exact ⟨ret_int2 (by simp [depA, h1, h2, h3]) (by simp [depC, h1, h2, h3]), ⟨_, rfl⟩⟩
  all_goals
    go_enter Try.func28, Try.ntmps28
    go_wp2_with (first | (go_at_call 55; refine (within_any _ _ _ _).mono ?_; rintro e w' ⟨rfl, rfl⟩) | (go_at_call 60; refine (tonnesOk_any _ _).mono ?_; rintro e w' ⟨rfl, rfl⟩))
    go_ret2
    exact ⟨ret_int2 (by simp [depA, h1, h2, h3]) (by simp [depC, h1, h2, h3]), ⟨0, rfl⟩⟩
theorem DepositDepth_s (a b c : Int) (w : World) :
    Calls Try.prog 27 #[.int .i64 a, .int .i64 b, .int .i64 c] w fun e w' => e = .returned (.tuple #[.int .i64 (depA a b c), .int .i64 (depC a b c)]) ∧ w = w' := by
  cases h1 : inB a 0 100000000 <;> cases h2 : inB b 1 1000000 <;> cases h3 : inB c 1 1000
  case true.true.true =>
    obtain ⟨a1, a2⟩ := inB_iff.1 h1
    obtain ⟨b1, b2⟩ := inB_iff.1 h2
    obtain ⟨e1, e2⟩ := inB_iff.1 h3
    obtain ⟨c1, c2⟩ := mul_bd (show 0 ≤ b by omega) b2 (show 0 ≤ c by omega) e2
    have c3 := pos_mul b1 e1
    go_enter Try.func27, Try.ntmps27
    go_wp2_with (first | (go_at_call 58; refine (l12Tonnes_any _ _).mono ?_; rintro e w' ⟨rfl, rfl⟩) | (go_at_call 54; refine (l00In_any _ _ _ _).mono ?_; rintro e w' ⟨rfl, rfl⟩) | (go_at_call 62; refine (l02Density_any _ _).mono ?_; rintro e w' ⟨rfl, rfl⟩) | (go_at_call 63; refine (l01Div_any _ _ _ (by omega) (by omega) (by omega) (by omega)).mono ?_; rintro e w' ⟨rfl, rfl⟩))
    go_ret2
    exact ⟨ret_int2 (by simp [depA, h1, h2, h3]) (by simp [depC, h1, h2, h3]), rfl⟩
  all_goals
    go_enter Try.func27, Try.ntmps27
    go_wp2_with (first | (go_at_call 58; refine (l12Tonnes_any _ _).mono ?_; rintro e w' ⟨rfl, rfl⟩) | (go_at_call 54; refine (l00In_any _ _ _ _).mono ?_; rintro e w' ⟨rfl, rfl⟩) | (go_at_call 62; refine (l02Density_any _ _).mono ?_; rintro e w' ⟨rfl, rfl⟩))
    go_ret2
    exact ⟨ret_int2 (by simp [depA, h1, h2, h3]) (by simp [depC, h1, h2, h3]), rfl⟩

/-! ### Sizes -/
def cls (n : Int) : Int := if 10000 ≤ n then 5 else if 1000 ≤ n then 4 else if 100 ≤ n then 3 else if 10 ≤ n then 2 else 1
theorem sizeClass_i (n : Int) (w : World) :
    Calls Try.prog 61 #[.int .i64 n] w fun e w' => e = .returned (.int .i64 (cls n)) ∧ w = w' := by
  have i0 : ∀ w, (Instr.index 92 (.agg #[.int .i64 10, .int .i64 100, .int .i64 1000, .int .i64 10000]) (.int .i64 0)).run Try.prog w = .ok (.int .i64 10) w := fun _ => by kernel_rfl
  have i1 : ∀ w, (Instr.index 92 (.agg #[.int .i64 10, .int .i64 100, .int .i64 1000, .int .i64 10000]) (.int .i64 1)).run Try.prog w = .ok (.int .i64 100) w := fun _ => by kernel_rfl
  have i2 : ∀ w, (Instr.index 92 (.agg #[.int .i64 10, .int .i64 100, .int .i64 1000, .int .i64 10000]) (.int .i64 2)).run Try.prog w = .ok (.int .i64 1000) w := fun _ => by kernel_rfl
  have i3 : ∀ w, (Instr.index 92 (.agg #[.int .i64 10, .int .i64 100, .int .i64 1000, .int .i64 10000]) (.int .i64 3)).run Try.prog w = .ok (.int .i64 10000) w := fun _ => by kernel_rfl
  have hn : n < 10 ∨ (10 ≤ n ∧ n < 100) ∨ (100 ≤ n ∧ n < 1000) ∨ (1000 ≤ n ∧ n < 10000) ∨ 10000 ≤ n := by omega
  rcases hn with h | ⟨h, h'⟩ | ⟨h, h'⟩ | ⟨h, h'⟩ | h
  all_goals
    go_enter Try.func61, Try.ntmps61
    go_wp2
    go_rounds 5
    go_ret
    exact ⟨ret_int (by unfold cls; (repeat' split) <;> omega), rfl⟩
theorem sizeClass_s (n : Int) (w : World) :
    Calls Try.prog 59 #[.int .i64 n] w fun e w' => e = .returned (.int .i64 (cls n)) ∧ w = w' := by
  have hn : n < 10 ∨ (10 ≤ n ∧ n < 100) ∨ (100 ≤ n ∧ n < 1000) ∨ (1000 ≤ n ∧ n < 10000) ∨ 10000 ≤ n := by omega
  rcases hn with h | ⟨h, h'⟩ | ⟨h, h'⟩ | ⟨h, h'⟩ | h
  all_goals
    go_enter Try.func59, Try.ntmps59
    go_wp2
    go_rounds 5
    go_ret
    exact ⟨ret_int (by unfold cls; (repeat' split) <;> omega), rfl⟩
def sizeA (n : Int) : Int := if inB n 0 100000000 then cls n else 0
def sizeC (n : Int) : Int := if inB n 0 100000000 then 0 else 2
theorem SizeClass_i (n : Int) (w : World) :
    Calls Try.prog 20 #[.int .i64 n] w fun e w' => e = .returned (.tuple #[.int .i64 (sizeA n), .int .i64 (sizeC n)]) ∧ w = w' := by
  cases h1 : inB n 0 100000000
  all_goals
    go_enter Try.func20, Try.ntmps20
    go_wp2_with (first | (go_at_call 60; refine (tonnesOk_any _ _).mono ?_; rintro e w' ⟨rfl, rfl⟩) | (go_at_call 61; refine (sizeClass_i _ _).mono ?_; rintro e w' ⟨rfl, rfl⟩))
    go_ret2
    exact ⟨ret_int2 (by simp [sizeA, h1]) (by simp [sizeC, h1]), rfl⟩
theorem SizeClass_s (n : Int) (w : World) :
    Calls Try.prog 19 #[.int .i64 n] w fun e w' => e = .returned (.tuple #[.int .i64 (sizeA n), .int .i64 (sizeC n)]) ∧ w = w' := by
  cases h1 : inB n 0 100000000
  all_goals
    go_enter Try.func19, Try.ntmps19
    go_wp2_with (first | (go_at_call 58; refine (l12Tonnes_any _ _).mono ?_; rintro e w' ⟨rfl, rfl⟩) | (go_at_call 59; refine (sizeClass_s _ _).mono ?_; rintro e w' ⟨rfl, rfl⟩))
    go_ret2
    exact ⟨ret_int2 (by simp [sizeA, h1]) (by simp [sizeC, h1]), rfl⟩
end Go.Proofs.Ytalfpjdjkbggiaa
