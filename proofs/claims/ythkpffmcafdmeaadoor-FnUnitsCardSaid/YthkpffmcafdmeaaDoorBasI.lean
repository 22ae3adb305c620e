/-
  Basics: the contracts of what the law calls.
-/
import Derived.Test.YthkpffmcafdmeaaDoorBasN
import Derived.Test.YthkpffmcafdmeaaDoorSrcP
import Derived.Test.YthkpffmcafdmeaaDoorR8
import Derived.Test.YthkpffmcafdmeaaDoorRlI
namespace Go.Proofs.YthkpffmcafdmeaaDoor
open Go.ChangeShapes Go.WideShapes Go.ChangeAt Go.RowKit Go.Deep
set_option linter.unusedVariables false

set_option maxRecDepth 100000 in
set_option maxHeartbeats 1600000 in
theorem R8Numbers_d (A : Option Addr) (n c : Nat) (w : World) (h : Byts w A n) :
    Calls Tryd.prog 29 #[.slice A n c] w fun e w' => (∃ a b, e = .returned (.tuple #[.int .i64 a, .int .i64 b]) ∧ (-100000 ≤ a ∧ a ≤ 3600000000) ∧ (1 ≤ b ∧ b ≤ 5000)) ∧ Below w.heap.size w w' := by
  go_enter Tryd.func29, Tryd.ntmps29
  go_wp2_with fail
  refine (from_p _ _ _ _ h).mono ?_
  rintro e w1 ⟨rfl, hs1, hb1⟩
  have HB := Lib.hid hb1
  clear hb1
  go_wp2_with fail
  refine (pick_p _ _ _ _ hs1 (by omega) (by omega)).mono ?_
  rintro e w2 ⟨⟨x, rfl, hx1, hx2⟩, hs2, hg2⟩
  have HB2 := Lib.hid (below_grown HB.out hg2 HB.out.size (Nat.le_refl _))
  clear hg2 hs1 HB
  have hx : x < 60000 := by omega
  go_wp2_with fail
  refine (pick_p _ _ _ _ hs2 (by omega) (by omega)).mono ?_
  rintro e w3 ⟨⟨y, rfl, hy1, hy2⟩, hs3, hg3⟩
  have HB3 := Lib.hid (below_grown HB2.out hg3 HB2.out.size (Nat.le_refl _))
  clear hg3 hs2 HB2
  have hy : y < 60000 := by omega
  have hm := Int.mul_le_mul (show x ≤ 59999 by omega) (show y ≤ 59999 by omega) hy1 (by omega)
  have hm0 := Int.mul_nonneg hx1 hy1
  have hw1 : -9223372036854775808 ≤ x * y ∧ x * y ≤ 9223372036854775807 := by omega
  go_wp2_with fail
  refine (pick_p _ _ _ _ hs3 (by omega) (by omega)).mono ?_
  rintro e w4 ⟨⟨z, rfl, hz1, hz2⟩, hs4, hg4⟩
  have HB4 := Lib.hid (below_grown HB3.out hg4 HB3.out.size (Nat.le_refl _))
  clear hg4 hs3 HB3 hs4
  go_wp2_with fail
  go_ret2
  exact ⟨⟨x * y - 100000, 1 + z, rfl, by omega, by omega⟩, HB4.out⟩
theorem DivRound_b (a b : Int) (w : World) (ha : -1000000000000 ≤ a ∧ a ≤ 1000000000000) (hb : 1 ≤ b ∧ b ≤ 1000000000000) :
    Calls Tryd.prog 31 #[.int .i64 a, .int .i64 b] w fun e w' => e = .returned (.int .i64 (divN a b)) ∧ Below w.heap.size w w' := by
  have i1 : inB a (-1000000000000) 1000000000000 = true := inB_iff.2 ha
  have i2 : inB b (-1000000000000) 1000000000000 = true := inB_iff.2 (by omega)
  have hz : (b == 0) = false := by rw [beq_eq_false_iff_ne]; omega
  go_enter Tryd.func31, Tryd.ntmps31
  go_wp2_with fail
  refine (within_any _ _ _ _).mono ?_
  rintro e w1 ⟨rfl, rfl⟩
  rw [i1]
  go_wp2_with fail
  refine (within_any _ _ _ _).mono ?_
  rintro e w1 ⟨rfl, rfl⟩
  rw [i2]
  go_wp2_with fail
  refine (divRound_any _ _ _ (by omega) (by omega) (by omega) (by omega)).mono ?_
  rintro e w1 ⟨rfl, q, rfl⟩
  go_wp2_with fail
  go_ret
  exact ⟨rfl, below_drewN (Below.refl _ _) q⟩
set_option maxRecDepth 100000 in
theorem bl_ix0 (x0 y0 x1 y1 : Int) (W : World) : (Instr.index 93 (.agg #[.int .i64 x0, .int .i64 y0, .int .i64 x1, .int .i64 y1]) (.int .i64 0)).run Tryd.prog W = .ok (.int .i64 x0) W := rfl
set_option maxRecDepth 100000 in
theorem bl_ix1 (x0 y0 x1 y1 : Int) (W : World) : (Instr.index 93 (.agg #[.int .i64 x0, .int .i64 y0, .int .i64 x1, .int .i64 y1]) (.int .i64 1)).run Tryd.prog W = .ok (.int .i64 y0) W := rfl
set_option maxRecDepth 100000 in
theorem bl_ix2 (x0 y0 x1 y1 : Int) (W : World) : (Instr.index 93 (.agg #[.int .i64 x0, .int .i64 y0, .int .i64 x1, .int .i64 y1]) (.int .i64 2)).run Tryd.prog W = .ok (.int .i64 x1) W := rfl
set_option maxRecDepth 100000 in
theorem bl_ix3 (x0 y0 x1 y1 : Int) (W : World) : (Instr.index 93 (.agg #[.int .i64 x0, .int .i64 y0, .int .i64 x1, .int .i64 y1]) (.int .i64 3)).run Tryd.prog W = .ok (.int .i64 y1) W := rfl
set_option maxRecDepth 100000 in
set_option maxHeartbeats 1600000 in
theorem Blend_b (x0 y0 x1 y1 x : Int) (w : World) (h1 : -1000000 ≤ x0 ∧ x0 ≤ 1000000) (h2 : -1000000 ≤ y0 ∧ y0 ≤ 1000000) (h3 : -1000000 ≤ x1 ∧ x1 ≤ 1000000) (h4 : -1000000 ≤ y1 ∧ y1 ≤ 1000000) :
    Calls Tryd.prog 34 #[.int .i64 x0, .int .i64 y0, .int .i64 x1, .int .i64 y1, .int .i64 x] w fun e w' => e = .returned (.int .i64 (lineN x0 y0 x1 y1 x)) ∧ Below w.heap.size w w' := by
  have i1 : inB x0 (-1000000) 1000000 = true := inB_iff.2 h1
  have i2 : inB y0 (-1000000) 1000000 = true := inB_iff.2 h2
  have i3 : inB x1 (-1000000) 1000000 = true := inB_iff.2 h3
  have i4 : inB y1 (-1000000) 1000000 = true := inB_iff.2 h4
  have ix0 := fun W => bl_ix0 x0 y0 x1 y1 W
  have ix1 := fun W => bl_ix1 x0 y0 x1 y1 W
  have ix2 := fun W => bl_ix2 x0 y0 x1 y1 W
  have ix3 := fun W => bl_ix3 x0 y0 x1 y1 W
  go_enter Tryd.func34, Tryd.ntmps34
  go_wp2_with fail
  go_loopw [12, 18] (fun _ i wr => ∃ k : Nat, k ≤ 4 ∧ i = .int .i64 k ∧ wr = w) (fun _ i _ => 4 - (intOf i).toNat)
  case atStart => exact ⟨0, by omega, rfl, rfl⟩
  case round =>
    obtain ⟨k, hk, rfl, rfl⟩ := hrel
    obtain rfl | rfl | rfl | rfl | rfl : k = 0 ∨ k = 1 ∨ k = 2 ∨ k = 3 ∨ k = 4 := by omega
    · go_wp2_with fail
      refine (within_any _ _ _ _).mono ?_
      rintro e w1 ⟨rfl, rfl⟩
      rw [i1]
      go_wp2_with fail
      go_roundw
      case rel => exact ⟨1, by omega, by go_num, by first | rfl | trivial⟩
      case measure => simp [intOf]
    · go_wp2_with fail
      refine (within_any _ _ _ _).mono ?_
      rintro e w1 ⟨rfl, rfl⟩
      rw [i2]
      go_wp2_with fail
      go_roundw
      case rel => exact ⟨2, by omega, by go_num, by first | rfl | trivial⟩
      case measure => simp [intOf]
    · go_wp2_with fail
      refine (within_any _ _ _ _).mono ?_
      rintro e w1 ⟨rfl, rfl⟩
      rw [i3]
      go_wp2_with fail
      go_roundw
      case rel => exact ⟨3, by omega, by go_num, by first | rfl | trivial⟩
      case measure => simp [intOf]
    · go_wp2_with fail
      refine (within_any _ _ _ _).mono ?_
      rintro e w1 ⟨rfl, rfl⟩
      rw [i4]
      go_wp2_with fail
      go_roundw
      case rel => exact ⟨4, by omega, by go_num, by first | rfl | trivial⟩
      case measure => simp [intOf]
    · go_wp2_with fail
      refine (blend_any _ _ _ _ _ _ (by omega) (by omega) h1 h3).mono ?_
      rintro e w1 ⟨rfl, q, rfl⟩
      go_wp2_with fail
      go_ret
      exact ⟨rfl, below_drewN (Below.refl _ _) q⟩
theorem r8Abs_b (n : Int) (w : World) (h : -9223372036854775807 ≤ n ∧ n ≤ 9223372036854775807) :
    Calls Tryd.prog 32 #[.int .i64 n] w fun e w' => e = .returned (.int .i64 (absI n)) ∧ w = w' := by
  go_enter Tryd.func32, Tryd.ntmps32
  go_wp2_with fail
  go_ret
  exact ⟨ret_int (by unfold absI; split <;> (first | omega | (simp; omega))), rfl⟩
set_option maxRecDepth 100000 in
set_option maxHeartbeats 800000 in
theorem r8Same_b (A B : Option Addr) (n c d : Nat) (xs : List Int) (w : World) (h : Ints w A n xs) (h' : Ints w B n xs) :
    Calls Tryd.prog 39 #[.slice A n c, .slice B n d] w fun e w' => e = .returned (.bool true) ∧ Below w.heap.size w w' := by
  go_enter Tryd.func39, Tryd.ntmps39
  go_wp2
  go_loopw [5] (fun i wr => ∃ k q : Nat, k ≤ n ∧ i = .int .i64 k ∧ wr = w.drewN q) (fun i _ => n - (intOf i).toNat)
  case atStart => exact ⟨0, 0, Nat.zero_le _, rfl, rfl⟩
  case round =>
    obtain ⟨k, q, hk, rfl, rfl⟩ := hrel
    have hn := h.2.1
    by_cases hlt : k < n
    · obtain ⟨b, off, x, rfl, HX, hc, hx1, hx2⟩ := h.at_ hlt
      obtain ⟨b', off', x', rfl, HX', hc', hx1', hx2'⟩ := h'.at_ hlt
      obtain rfl : x = x' := by have := HX.out.symm.trans HX'.out; injection this
      clear h h'
      go_wp2_with fail
      go_quiet (fail)
      go_wp2
      go_roundw
      case rel => exact ⟨k + 1, _, by omega, by go_num, rfl⟩
      case measure => simp [intOf]; omega
    · obtain rfl : k = n := by omega
      clear hlt
      go_wp2
      go_ret
      exact ⟨rfl, below_drewN (Below.refl _ _) _⟩
end Go.Proofs.YthkpffmcafdmeaaDoor
