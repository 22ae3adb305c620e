/-
  The contracts of the value of some years.
-/
import Derived.Test.YtbakmcjngadebaaZoneY
namespace Go.Proofs.Ytbakmcjngadebaa
open Go.ChangeShapes Go.WideShapes Go.ChangeAt Go.RowKit Go.Deep
set_option linter.unusedVariables false

/-- The greatest of some maxima that come back within the years. -/
def vStep (xs : List Int) (y b x : Int) : Int := if retY xs x ≤ y then max b x else b
def vBest (xs : List Int) (y : Int) (ys : List Int) : Int := ys.foldl (vStep xs y) (-1)
theorem vBest_snoc {xs ys : List Int} {y : Int} {k : Nat} {x : Int} (h : ys[k]? = some x) : vBest xs y (ys.take (k + 1)) = vStep xs y (vBest xs y (ys.take k)) x := by
  rw [take_snoc h, vBest, List.foldl_append]; rfl
def vA (xs : List Int) (y : Int) : Int := if (maxB xs && inB y 100 10000) = true then (if vBest xs y xs < 0 then 0 else vBest xs y xs) else 0
def vC (xs : List Int) (y : Int) : Int := if (maxB xs && inB y 100 10000) = true then (if vBest xs y xs < 0 then 3 else 0) else 2
set_option maxRecDepth 100000 in
set_option maxHeartbeats 800000 in
theorem ValueOfYears_s (A : Option Addr) (n c : Nat) (v : Int) (xs : List Int) (w : World) (h : Ints w A n xs) :
    Calls Try.prog 37 #[.slice A n c, .int .i64 v] w fun e w' => e = .returned (.tuple #[.int .i64 (vA xs v), .int .i64 (vC xs v)]) ∧ Below w.heap.size w w' := by
  have HL := Lib.hid h.1
  have hmx := h.2.1
  cases h1 : maxB xs <;> cases h2 : inB v 100 10000
  case true.true =>
    have h64 := (maxB_len h1).2
    rw [HL.out] at h64
    have HP := Lib.hid (And.intro h1 h2)
    go_enter Try.func37, Try.ntmps37
    go_wp2_with fail
    refine (l16Maxima_any _ _ _ xs _ h).mono ?_
    rintro e w1 ⟨rfl, q1, rfl⟩
    go_wp2_with ((go_at_call 71; refine (l00In_any _ _ _ _).mono ?_; rintro e w' ⟨rfl, rfl⟩))
    go_loopw [6, 7] (fun t i wr => ∃ k q : Nat, k ≤ n ∧ i = .int .i64 k ∧ wr = w.drewN q ∧ t = .int .i64 (vBest xs v (xs.take k))) (fun _ i _ => n - (intOf i).toNat)
    case atStart => exact ⟨0, q1, Nat.zero_le _, rfl, rfl, by simp [vBest]⟩
    case round =>
      clear h1 h2
      obtain ⟨k, q, hk, rfl, rfl, rfl⟩ := hrel
      obtain ⟨t, ht⟩ : ∃ t, t = vBest xs v (xs.take k) := ⟨_, rfl⟩
      rw [← ht]
      have HT := Lib.hid ht
      clear ht
      by_cases hlt : k < n
      · obtain ⟨b, off, x, rfl, HX, hc, hx1, hx2⟩ := h.at_ hlt
        have HS := Lib.hid (vBest_snoc (xs := xs) (y := v) HX.out)
        by_cases hy : retY xs x ≤ v
        · go_wp2_with (first | (go_at_call 72; refine (l16Return_any _ _ _ _ xs _ (h.drewN q) h64).mono ?_; rintro e w' ⟨rfl, nd, rfl⟩) | (go_at_call 67; refine (l00Max_any _ _ _).mono ?_; rintro e w' ⟨rfl, rfl⟩))
          go_roundw
          case rel => exact ⟨k + 1, _, by omega, by go_num, rfl, by rw [HS.out, ← HT.out]; unfold vStep; rw [if_pos hy]⟩
          case measure => simp [intOf]; omega
        · go_wp2_with (first | (go_at_call 72; refine (l16Return_any _ _ _ _ xs _ (h.drewN q) h64).mono ?_; rintro e w' ⟨rfl, nd, rfl⟩) | (go_at_call 67; refine (l00Max_any _ _ _).mono ?_; rintro e w' ⟨rfl, rfl⟩))
          go_roundw
          case rel => exact ⟨k + 1, _, by omega, by go_num, rfl, by rw [HS.out, ← HT.out]; unfold vStep; rw [if_neg (by omega)]⟩
          case measure => simp [intOf]; omega
      · obtain rfl : k = n := by omega
        clear hlt
        have HE := Lib.hid (show t = vBest xs v xs by rw [HT.out, List.take_of_length_le (by rw [HL.out]; omega)])
        by_cases hneg : t < 0
        · go_wp2_with fail
          go_ret2
          exact ⟨ret_int2 (by unfold vA; rw [HP.out.1, HP.out.2, ← HE.out]; simp; omega) (by unfold vC; rw [HP.out.1, HP.out.2, ← HE.out]; simp; omega), below_drewN (Below.refl _ _) _⟩
        · go_wp2_with fail
          go_ret2
          exact ⟨ret_int2 (by unfold vA; rw [HP.out.1, HP.out.2, ← HE.out]; simp; omega) (by unfold vC; rw [HP.out.1, HP.out.2, ← HE.out]; simp; omega), below_drewN (Below.refl _ _) _⟩
  all_goals
    have HA := Lib.hid (show vA xs v = 0 ∧ vC xs v = 2 by simp [vA, vC, h1, h2])
    go_enter Try.func37, Try.ntmps37
    go_wp2_with fail
    refine (l16Maxima_any _ _ _ xs _ h).mono ?_
    rintro e w1 ⟨rfl, q1, rfl⟩
    go_wp2_with ((go_at_call 71; refine (l00In_any _ _ _ _).mono ?_; rintro e w' ⟨rfl, rfl⟩))
    go_ret2
    exact ⟨ret_int2 (by rw [HA.out.1]) (by rw [HA.out.2]), below_drewN (Below.refl _ _) _⟩
set_option maxRecDepth 100000 in
set_option maxHeartbeats 800000 in
theorem ValueOfYears_i (A : Option Addr) (n c : Nat) (v : Int) (xs : List Int) (w : World) (h : Ints w A n xs) :
    Calls Try.prog 38 #[.slice A n c, .int .i64 v] w fun e w' => e = .returned (.tuple #[.int .i64 (vA xs v), .int .i64 (vC xs v)]) ∧ Below w.heap.size w w' := by
  have HL := Lib.hid h.1
  have hmx := h.2.1
  cases h1 : maxB xs <;> cases h2 : inB v 100 10000
  case true.true =>
    have h64 := (maxB_len h1).2
    rw [HL.out] at h64
    have HP := Lib.hid (And.intro h1 h2)
    go_enter Try.func38, Try.ntmps38
    go_wp2_with fail
    refine (maximaOk_any _ _ _ xs _ h).mono ?_
    rintro e w1 ⟨rfl, hb1⟩
    replace h := h.below hb1
    go_wp2_with ((go_at_call 74; refine (within_any _ _ _ _).mono ?_; rintro e w' ⟨rfl, rfl⟩))
    have HB := Lib.hid hb1
    clear hb1
    go_loopw [6, 21] (fun t i wr => ∃ k q : Nat, k ≤ n ∧ i = .int .i64 k ∧ wr = w1.drewN q ∧ t = .int .i64 (vBest xs v (xs.take k))) (fun _ i _ => n - (intOf i).toNat)
    case atStart => exact ⟨0, 0, Nat.zero_le _, rfl, rfl, by simp [vBest]⟩
    case round =>
      clear h1 h2
      obtain ⟨k, q, hk, rfl, rfl, rfl⟩ := hrel
      obtain ⟨t, ht⟩ : ∃ t, t = vBest xs v (xs.take k) := ⟨_, rfl⟩
      rw [← ht]
      have HT := Lib.hid ht
      clear ht
      by_cases hlt : k < n
      · obtain ⟨b, off, x, rfl, HX, hc, hx1, hx2⟩ := h.at_ hlt
        have HS := Lib.hid (vBest_snoc (xs := xs) (y := v) HX.out)
        by_cases hy : retY xs x ≤ v
        · have HV := Lib.hid (show vStep xs v t x = if t < x then x else t by unfold vStep; rw [if_pos hy]; split <;> omega)
          go_wp2_with (go_at_call 76; refine (returnYears_any _ _ _ _ xs _ (h.drewN q) h64).mono ?_; rintro e w' ⟨rfl, nd, rfl⟩)
          all_goals
            go_roundw
            case rel => exact ⟨k + 1, _, by omega, by go_num, rfl, by rw [HS.out, ← HT.out, HV.out]⟩
            case measure => simp [intOf]; omega
        · go_wp2_with (go_at_call 76; refine (returnYears_any _ _ _ _ xs _ (h.drewN q) h64).mono ?_; rintro e w' ⟨rfl, nd, rfl⟩)
          go_roundw
          case rel => exact ⟨k + 1, _, by omega, by go_num, rfl, by rw [HS.out, ← HT.out]; unfold vStep; rw [if_neg (by omega)]⟩
          case measure => simp [intOf]; omega
      · obtain rfl : k = n := by omega
        clear hlt
        have HE := Lib.hid (show t = vBest xs v xs by rw [HT.out, List.take_of_length_le (by rw [HL.out]; omega)])
        by_cases hneg : t < 0
        · have hn0 : decide (0 ≤ t) = false := by simpa using hneg
          go_wp2_with (go_at_call 75; refine (orNotFound_no _ _).mono ?_; rintro e w' ⟨rfl, rfl⟩)
          go_ret2
          exact ⟨ret_int2 (by unfold vA; rw [HP.out.1, HP.out.2, ← HE.out]; simp; omega) (by unfold vC; rw [HP.out.1, HP.out.2, ← HE.out]; simp; omega), below_drewN HB.out _⟩
        · have hn0 : decide (0 ≤ t) = true := by simp; omega
          go_wp2_with (go_at_call 75; refine (orNotFound_yes _ _).mono ?_; rintro e w' ⟨rfl, rfl⟩)
          go_ret2
          exact ⟨ret_int2 (by unfold vA; rw [HP.out.1, HP.out.2, ← HE.out]; simp; omega) (by unfold vC; rw [HP.out.1, HP.out.2, ← HE.out]; simp; omega), below_drewN HB.out _⟩
  all_goals
    have HA := Lib.hid (show vA xs v = 0 ∧ vC xs v = 2 by simp [vA, vC, h1, h2])
    go_enter Try.func38, Try.ntmps38
    go_wp2_with fail
    refine (maximaOk_any _ _ _ xs _ h).mono ?_
    rintro e w1 ⟨rfl, hb1⟩
    go_wp2_with ((go_at_call 74; refine (within_any _ _ _ _).mono ?_; rintro e w' ⟨rfl, rfl⟩))
    go_ret2
    exact ⟨ret_int2 (by rw [HA.out.1]) (by rw [HA.out.2]), hb1⟩
end Go.Proofs.Ytbakmcjngadebaa
