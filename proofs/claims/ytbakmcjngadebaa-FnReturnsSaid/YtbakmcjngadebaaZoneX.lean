/-
  The contracts of the functions over zones and masses: sums, joined masses, values of some years, where houses may stand.
-/
import Derived.Test.YtbakmcjngadebaaZoneW
namespace Go.Proofs.Ytbakmcjngadebaa
open Go.ChangeShapes Go.WideShapes Go.ChangeAt Go.RowKit Go.Deep
set_option linter.unusedVariables false

/-! ### Sums -/
theorem take_snoc {xs : List Int} {k : Nat} {x : Int} (h : xs[k]? = some x) : xs.take (k + 1) = xs.take k ++ [x] := by
  rw [List.take_add_one, h]; rfl
theorem sum_snoc {xs : List Int} {k : Nat} {x : Int} (h : xs[k]? = some x) : (xs.take (k + 1)).sum = (xs.take k).sum + x := by
  rw [take_snoc h, List.sum_append]; simp
theorem sum_bd {lo hi : Int} (h0 : lo ≤ 0) (h1 : 0 ≤ hi) (xs : List Int) (h : ∀ x ∈ xs, lo ≤ x ∧ x ≤ hi) : lo * xs.length ≤ xs.sum ∧ xs.sum ≤ hi * xs.length := by
  induction xs with
  | nil => simp
  | cons a t ih =>
    have h2 := h a (by simp)
    have h3 := ih (fun x hx => h x (by simp [hx]))
    simp only [List.sum_cons, List.length_cons, Int.natCast_add, Int.natCast_one, Int.mul_add, Int.mul_one]
    omega
theorem allB_mem {xs : List Int} {lo hi : Int} (h : allB xs lo hi = true) : ∀ x ∈ xs, lo ≤ x ∧ x ≤ hi := by
  intro x hx
  obtain ⟨j, hj⟩ := List.mem_iff_getElem?.1 hx
  exact allB_iff.1 h j x hj
theorem take_bd {xs : List Int} {lo hi : Int} {k : Nat} (h : ∀ (j : Nat) (x : Int), j < k → xs[j]? = some x → inB x lo hi = true) : ∀ x ∈ xs.take k, lo ≤ x ∧ x ≤ hi := by
  intro x hx
  obtain ⟨j, hj⟩ := List.mem_iff_getElem?.1 hx
  rw [List.getElem?_take] at hj
  by_cases hjk : j < k
  · rw [if_pos hjk] at hj
    exact inB_iff.1 (h j x hjk hj)
  · rw [if_neg hjk] at hj
    cases hj
/-- Sums of at most 64 numbers from 0 to m. -/
theorem sum_take {xs : List Int} {m : Int} (hm : 0 ≤ m) {k : Nat} (hk : k ≤ 64) (h : ∀ x ∈ xs.take k, 0 ≤ x ∧ x ≤ m) : 0 ≤ (xs.take k).sum ∧ (xs.take k).sum ≤ m * 64 := by
  have h1 := sum_bd (lo := 0) (hi := m) (by omega) hm _ h
  have h2 : ((xs.take k).length : Int) ≤ 64 := by
    have := List.length_take_le k xs
    omega
  have h3 := Int.mul_le_mul_of_nonneg_left h2 hm
  omega
theorem sumOf_any (A : Option Addr) (n c : Nat) (m : Int) (xs : List Int) (w : World) (h : Ints w A n xs) (hn : n ≤ 64) (hm : 0 ≤ m) (hm2 : m ≤ 1000000000000) (hx : ∀ x ∈ xs, 0 ≤ x ∧ x ≤ m) :
    Calls Try.prog 63 #[.slice A n c] w fun e w' => e = .returned (.int .i64 xs.sum) ∧ ∃ q, w' = w.drewN q := by
  have HL := Lib.hid h.1
  have HX := Lib.hid hx
  clear hx
  go_enter Try.func63, Try.ntmps63
  go_wp2_with fail
  go_loopw [3, 8] (fun t i wr => ∃ k q : Nat, k ≤ n ∧ i = .int .i64 k ∧ wr = w.drewN q ∧ t = .int .i64 (xs.take k).sum) (fun _ i _ => n - (intOf i).toNat)
  case atStart => exact ⟨0, 0, Nat.zero_le _, rfl, rfl, by simp⟩
  case round =>
    obtain ⟨k, q, hk, rfl, rfl, rfl⟩ := hrel
    have hb := sum_take hm (show k ≤ 64 by omega) (fun x hx => HX.out x (List.mem_of_mem_take hx))
    obtain ⟨t, ht⟩ : ∃ t, t = (xs.take k).sum := ⟨_, rfl⟩
    rw [← ht] at hb ⊢
    have HT := Lib.hid ht
    clear ht
    by_cases hlt : k < n
    · obtain ⟨b, off, x, rfl, HG, hc, hx1, hx2⟩ := h.at_ hlt
      have hxx := HX.out x (List.mem_of_getElem? HG.out)
      have HS := Lib.hid (sum_snoc HG.out)
      go_wp2_with fail
      go_roundw
      case rel => exact ⟨k + 1, _, by omega, by go_num, rfl, by rw [HS.out, ← HT.out]⟩
      case measure => simp [intOf]; omega
    · obtain rfl : k = n := by omega
      clear hlt
      go_wp2_with fail
      go_ret
      exact ⟨ret_int (by rw [HT.out, List.take_of_length_le (by rw [HL.out]; omega)]), _, rfl⟩

/-! ### Joined masses -/
def joinK (xs : List Int) : Bool := decide (xs.length ≤ 64) && allB xs 0 100000000
def joinV (xs : List Int) : Int := if (joinK xs && inB xs.sum 0 100000000) = true then xs.sum else 0
def joinS (xs : List Int) : Int := if (joinK xs && inB xs.sum 0 100000000) = true then cls xs.sum else 0
def joinC (xs : List Int) : Int := if joinK xs = true then (if inB xs.sum 0 100000000 = true then 0 else 6) else 2
theorem JoinTonnes_i (A : Option Addr) (n c : Nat) (xs : List Int) (w : World) (h : Ints w A n xs) :
    Calls Try.prog 17 #[.slice A n c] w fun e w' => e = .returned (.tuple #[.int .i64 (joinV xs), .int .i64 (joinS xs), .int .i64 (joinC xs)]) ∧ Below w.heap.size w w' := by
  have HL := Lib.hid h.1
  have hmx := h.2.1
  by_cases h64 : n ≤ 64
  · cases ha : allB xs 0 100000000
    · have HK := Lib.hid (show joinK xs = false by simp [joinK, ha])
      go_enter Try.func17, Try.ntmps17
      go_wp2_with (go_at_call 62; refine (allWithin_any _ _ _ _ _ xs _ h).mono ?_; rintro e w' ⟨rfl, hb⟩)
      go_ret3
      exact ⟨ret_int3 (by simp [joinV, HK.out]) (by simp [joinS, HK.out]) (by simp [joinC, HK.out]), hb⟩
    · have HK := Lib.hid (show joinK xs = true by simp only [joinK, ha, HL.out]; simp [h64])
      have HM := Lib.hid (allB_mem ha)
      cases hs : inB xs.sum 0 100000000
      all_goals
        have HS := Lib.hid hs
        go_enter Try.func17, Try.ntmps17
        go_wp2_with fail
        refine (allWithin_any _ _ _ _ _ xs _ h).mono ?_
        rintro e w' ⟨rfl, hb⟩
        have hh := h.below hb
        go_wp2_with (first | (go_at_call 63; refine (sumOf_any _ _ _ 100000000 xs _ hh h64 (by omega) (by omega) HM.out).mono ?_; rintro e w2 ⟨rfl, nq, rfl⟩) | (first | (go_at_call 64; refine (tonnesOk_any _ _).mono ?_; rintro e w' ⟨rfl, rfl⟩) | (go_at_call 65; refine (sizeClass_i _ _).mono ?_; rintro e w' ⟨rfl, rfl⟩)))
        go_ret3
        exact ⟨ret_int3 (by simp [joinV, HK.out, HS.out]) (by simp [joinS, HK.out, HS.out]) (by simp [joinC, HK.out, HS.out]), below_drewN hb _⟩
  · have HK := Lib.hid (show joinK xs = false by simp only [joinK, HL.out]; simp; intro h; omega)
    go_enter Try.func17, Try.ntmps17
    go_wp2_with fail
    go_ret3
    exact ⟨ret_int3 (by simp [joinV, HK.out]) (by simp [joinS, HK.out]) (by simp [joinC, HK.out]), Below.refl _ _⟩
theorem JoinTonnes_s (A : Option Addr) (n c : Nat) (xs : List Int) (w : World) (h : Ints w A n xs) :
    Calls Try.prog 15 #[.slice A n c] w fun e w' => e = .returned (.tuple #[.int .i64 (joinV xs), .int .i64 (joinS xs), .int .i64 (joinC xs)]) ∧ Below w.heap.size w w' := by
  have HL := Lib.hid h.1
  have hmx := h.2.1
  by_cases h64 : n ≤ 64
  · go_enter Try.func15, Try.ntmps15
    go_wp2_with fail
    go_loopw [5, 6] (fun t i wr => ∃ k q : Nat, k ≤ n ∧ i = .int .i64 k ∧ wr = w.drewN q ∧ t = .int .i64 (xs.take k).sum ∧ Hid (∀ (j : Nat) (x : Int), j < k → xs[j]? = some x → inB x 0 100000000 = true)) (fun _ i _ => n - (intOf i).toNat)
    case atStart => exact ⟨0, 0, Nat.zero_le _, rfl, rfl, by simp, fun j x hj => absurd hj (by omega)⟩
    case round =>
      obtain ⟨k, q, hk, rfl, rfl, rfl, HK⟩ := hrel
      have hb := sum_take (m := 100000000) (by omega) (show k ≤ 64 by omega) (take_bd HK.out)
      obtain ⟨t, ht⟩ : ∃ t, t = (xs.take k).sum := ⟨_, rfl⟩
      rw [← ht] at hb ⊢
      have HT := Lib.hid ht
      clear ht
      by_cases hlt : k < n
      · obtain ⟨b, off, x, rfl, HX, hc, hx1, hx2⟩ := h.at_ hlt
        cases hbx : inB x 0 100000000
        · have HN := Lib.hid (show joinK xs = false by unfold joinK; rw [allB_no HX.out hbx]; simp)
          go_wp2_with ((go_at_call 60; refine (l12Tonnes_any _ _).mono ?_; rintro e w' ⟨rfl, rfl⟩))
          go_ret3
          exact ⟨ret_int3 (by simp [joinV, HN.out]) (by simp [joinS, HN.out]) (by simp [joinC, HN.out]), below_drewN (Below.refl _ _) _⟩
        · have HB := Lib.hid hbx
          have hxx := inB_iff.1 hbx
          have HS := Lib.hid (sum_snoc HX.out)
          go_wp2_with ((go_at_call 60; refine (l12Tonnes_any _ _).mono ?_; rintro e w' ⟨rfl, rfl⟩))
          go_roundw
          case rel => exact ⟨k + 1, _, by omega, by go_num, rfl, by rw [HS.out, ← HT.out], fun j y hj hy => by
            by_cases e : j = k
            · subst e
              have := HX.out.symm.trans hy
              injection this with e2
              subst e2
              exact HB.out
            · exact HK.out j y (by omega) hy⟩
          case measure => simp [intOf]; omega
      · obtain rfl : k = n := by omega
        clear hlt
        have HE := Lib.hid (show t = xs.sum by rw [HT.out, List.take_of_length_le (by rw [HL.out]; omega)])
        have HN := Lib.hid (show joinK xs = true by
          have hA := allB_all (xs := xs) (fun j x hj hx => HK.out j x (by rw [← HL.out]; exact hj) hx)
          simp [joinK, hA, HL.out, h64])
        cases hs : inB t 0 100000000
        all_goals
          have HS := Lib.hid hs
          rw [HE.out] at HS
          go_wp2_with (first | (go_at_call 60; refine (l12Tonnes_any _ _).mono ?_; rintro e w' ⟨rfl, rfl⟩) | (go_at_call 61; refine (sizeClass_s _ _).mono ?_; rintro e w' ⟨rfl, rfl⟩))
          go_ret3
          exact ⟨ret_int3 (by simp [joinV, HN.out, HS.out, HE.out]) (by simp [joinS, HN.out, HS.out, HE.out]) (by simp [joinC, HN.out, HS.out]), below_drewN (Below.refl _ _) _⟩
  · have HK := Lib.hid (show joinK xs = false by simp only [joinK, HL.out]; simp; intro h; omega)
    go_enter Try.func15, Try.ntmps15
    go_wp2_with fail
    go_ret3
    exact ⟨ret_int3 (by simp [joinV, HK.out]) (by simp [joinS, HK.out]) (by simp [joinC, HK.out]), Below.refl _ _⟩
end Go.Proofs.Ytbakmcjngadebaa
