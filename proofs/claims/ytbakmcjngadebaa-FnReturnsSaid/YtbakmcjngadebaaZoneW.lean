/-
  The contracts of the functions over lines of zones and lists of maxima.
-/
import Derived.Test.YtbakmcjngadebaaAll
import Derived.Test.YtbakmcjngadebaaScal
namespace Go.Proofs.Ytbakmcjngadebaa
open Go.ChangeShapes Go.WideShapes Go.ChangeAt Go.RowKit Go.Deep

def lineB (xs : List Int) : Bool := allB xs 0 3 && decide (xs.length ≤ 64)
def maxB (xs : List Int) : Bool := allB xs 0 1000000000000 && (decide (1 ≤ xs.length) && decide (xs.length ≤ 64))
theorem l16Line_any (A : Option Addr) (n c : Nat) (xs : List Int) (w : World) (h : Ints w A n xs) :
    Calls Try.prog 66 #[.slice A n c] w fun e w' => e = .returned (.bool (lineB xs)) ∧ ∃ q, w' = w.drewN q := by
  have hn := h.2.1
  have HL := Lib.hid h.1
  go_enter Try.func66, Try.ntmps66
  go_wp2_with fail
  go_loopw [3] (fun i wr => ∃ k q : Nat, k ≤ n ∧ i = .int .i64 k ∧ wr = w.drewN q ∧ Hid (∀ (j : Nat) (x : Int), j < k → xs[j]? = some x → inB x 0 3 = true)) (fun i _ => n - (intOf i).toNat)
  case atStart => exact ⟨0, 0, Nat.zero_le _, rfl, rfl, fun j x hj => absurd hj (by omega)⟩
  case round =>
    obtain ⟨k, q, hk, rfl, rfl, HK⟩ := hrel
    by_cases hlt : k < n
    · obtain ⟨b, off, x, rfl, HX, hc, hx1, hx2⟩ := h.at_ hlt
      cases hb : inB x 0 3
      · have HN := Lib.hid (allB_no HX.out hb)
        go_wp2_with ((go_at_call 71; refine (l00In_any _ _ _ _).mono ?_; rintro e w' ⟨rfl, rfl⟩))
        go_ret
        exact ⟨ret_bool (by unfold lineB; rw [HN.out]; simp), _, rfl⟩
      · have HB := Lib.hid hb
        go_wp2_with ((go_at_call 71; refine (l00In_any _ _ _ _).mono ?_; rintro e w' ⟨rfl, rfl⟩))
        go_roundw
        case rel => exact ⟨k + 1, _, by omega, by go_num, rfl, fun j y hj hy => by
          by_cases e : j = k
          · subst e
            have := HX.out.symm.trans hy
            injection this with e2
            subst e2
            exact HB.out
          · exact HK.out j y (by omega) hy⟩
        case measure => simp [intOf]; omega
    · obtain rfl : k = n := by omega
      clear hlt
      have HA := Lib.hid (allB_all (xs := xs) (lo := 0) (hi := 3) (fun j x hj hx => HK.out j x (by rw [← HL.out]; exact hj) hx))
      go_wp2_with fail
      go_ret
      exact ⟨ret_bool (by unfold lineB; rw [HA.out, HL.out]; simp; omega), _, rfl⟩
theorem l16Maxima_any (A : Option Addr) (n c : Nat) (xs : List Int) (w : World) (h : Ints w A n xs) :
    Calls Try.prog 70 #[.slice A n c] w fun e w' => e = .returned (.bool (maxB xs)) ∧ ∃ q, w' = w.drewN q := by
  have hn := h.2.1
  have HL := Lib.hid h.1
  go_enter Try.func70, Try.ntmps70
  go_wp2_with fail
  go_loopw [3] (fun i wr => ∃ k q : Nat, k ≤ n ∧ i = .int .i64 k ∧ wr = w.drewN q ∧ Hid (∀ (j : Nat) (x : Int), j < k → xs[j]? = some x → inB x 0 1000000000000 = true)) (fun i _ => n - (intOf i).toNat)
  case atStart => exact ⟨0, 0, Nat.zero_le _, rfl, rfl, fun j x hj => absurd hj (by omega)⟩
  case round =>
    obtain ⟨k, q, hk, rfl, rfl, HK⟩ := hrel
    by_cases hlt : k < n
    · obtain ⟨b, off, x, rfl, HX, hc, hx1, hx2⟩ := h.at_ hlt
      cases hb : inB x 0 1000000000000
      · have HN := Lib.hid (allB_no HX.out hb)
        go_wp2_with ((go_at_call 71; refine (l00In_any _ _ _ _).mono ?_; rintro e w' ⟨rfl, rfl⟩))
        go_ret
        exact ⟨ret_bool (by unfold maxB; rw [HN.out]; simp), _, rfl⟩
      · have HB := Lib.hid hb
        go_wp2_with ((go_at_call 71; refine (l00In_any _ _ _ _).mono ?_; rintro e w' ⟨rfl, rfl⟩))
        go_roundw
        case rel => exact ⟨k + 1, _, by omega, by go_num, rfl, fun j y hj hy => by
          by_cases e : j = k
          · subst e
            have := HX.out.symm.trans hy
            injection this with e2
            subst e2
            exact HB.out
          · exact HK.out j y (by omega) hy⟩
        case measure => simp [intOf]; omega
    · obtain rfl : k = n := by omega
      clear hlt
      have HA := Lib.hid (allB_all (xs := xs) (lo := 0) (hi := 1000000000000) (fun j x hj hx => HK.out j x (by rw [← HL.out]; exact hj) hx))
      by_cases h1 : 1 ≤ k
      · go_wp2_with fail
        go_ret
        exact ⟨ret_bool (by unfold maxB; rw [HA.out, HL.out]; first | (simp [h1]; done) | (simp [h1]; omega) | (simp; omega)), _, rfl⟩
      · go_wp2_with fail
        go_ret
        exact ⟨ret_bool (by unfold maxB; rw [HA.out, HL.out]; first | (simp [h1]; done) | (simp [h1]; omega) | (simp; omega)), _, rfl⟩
theorem zonesOk_any (A : Option Addr) (n c : Nat) (xs : List Int) (w : World) (h : Ints w A n xs) :
    Calls Try.prog 68 #[.slice A n c] w fun e w' => e = .returned (.bool (lineB xs)) ∧ Below w.heap.size w w' := by
  have hn := h.2.1
  have HL := Lib.hid h.1
  by_cases h64 : n ≤ 64
  · go_enter Try.func68, Try.ntmps68
    go_wp2_with (go_at_call 62; refine (allWithin_any _ _ _ _ _ _ _ h).mono ?_; rintro e w' ⟨rfl, hb⟩)
    go_ret
    exact ⟨ret_bool (by unfold lineB; rw [HL.out]; simp [h64]), hb⟩
  · go_enter Try.func68, Try.ntmps68
    go_wp2_with fail
    go_ret
    exact ⟨ret_bool (by unfold lineB; rw [HL.out]; simp [h64]), Below.refl _ _⟩
theorem maximaOk_any (A : Option Addr) (n c : Nat) (xs : List Int) (w : World) (h : Ints w A n xs) :
    Calls Try.prog 73 #[.slice A n c] w fun e w' => e = .returned (.bool (maxB xs)) ∧ Below w.heap.size w w' := by
  have hn := h.2.1
  have HL := Lib.hid h.1
  have hn3 : (1 ≤ n ∧ n ≤ 64) ∨ n = 0 ∨ 64 < n := by omega
  rcases hn3 with ⟨h1, h64⟩ | rfl | h64
  · go_enter Try.func73, Try.ntmps73
    go_wp2_with (go_at_call 62; refine (allWithin_any _ _ _ _ _ _ _ h).mono ?_; rintro e w' ⟨rfl, hb⟩)
    go_ret
    exact ⟨ret_bool (by unfold maxB; rw [HL.out]; simp [h64, h1]), hb⟩
  all_goals
    go_enter Try.func73, Try.ntmps73
    go_wp2_with fail
    go_ret
    exact ⟨ret_bool (by unfold maxB; rw [HL.out]; first | (simp; done) | (simp; omega)), Below.refl _ _⟩
theorem orNotFound_yes (n : Int) (w : World) : Calls Try.prog 75 #[.int .i64 n, .bool true] w fun e w' => e = .returned (.tuple #[.int .i64 n, .int .i64 0]) ∧ w = w' := by
  go_enter Try.func75, Try.ntmps75
  go_wp2
  go_ret2
  exact ⟨rfl, rfl⟩
theorem orNotFound_no (n : Int) (w : World) : Calls Try.prog 75 #[.int .i64 n, .bool false] w fun e w' => e = .returned (.tuple #[.int .i64 0, .int .i64 3]) ∧ w = w' := by
  go_enter Try.func75, Try.ntmps75
  go_wp2
  go_ret2
  exact ⟨rfl, rfl⟩

/-! ### How often a value comes back -/
def cnt (xs : List Int) (v : Int) : Nat := xs.countP fun x => decide (v ≤ x)
theorem cnt_le (xs : List Int) (v : Int) : cnt xs v ≤ xs.length := List.countP_le_length
theorem cnt_snoc {xs : List Int} {k : Nat} {x : Int} (v : Int) (h : xs[k]? = some x) : cnt (xs.take (k + 1)) v = cnt (xs.take k) v + if v ≤ x then 1 else 0 := by
  have hk := (List.getElem?_eq_some_iff.1 h).1
  have e : xs.take (k + 1) = xs.take k ++ [x] := by
    rw [List.take_add_one, h]; rfl
  rw [e, cnt, cnt, List.countP_append]
  by_cases hv : v ≤ x <;> simp [hv]
def retY (xs : List Int) (v : Int) : Int := if cnt xs v = 0 then 0 else divN (100 * ((xs.length : Int) + 1)) (cnt xs v)
theorem retY_pos {xs : List Int} {v : Int} (h : cnt xs v ≠ 0) : 100 ≤ retY xs v := by
  unfold retY
  rw [if_neg h, divN_pos _ _ (by omega) (by omega)]
  have h1 := cnt_le xs v
  have h2 : (100 : Int) ≤ 100 * ((xs.length : Int) + 1) / (cnt xs v : Int) := by
    apply Int.le_ediv_of_mul_le (by omega)
    have : (cnt xs v : Int) ≤ (xs.length : Int) + 1 := by omega
    exact Int.mul_le_mul_of_nonneg_left this (by omega)
  split <;> omega
theorem l16Return_any (A : Option Addr) (n c : Nat) (v : Int) (xs : List Int) (w : World) (h : Ints w A n xs) (h64 : n ≤ 64) :
    Calls Try.prog 72 #[.slice A n c, .int .i64 v] w fun e w' => e = .returned (.int .i64 (retY xs v)) ∧ ∃ q, w' = w.drewN q := by
  have HL := Lib.hid h.1
  go_enter Try.func72, Try.ntmps72
  go_wp2_with fail
  go_loopw [5, 6] (fun m i wr => ∃ k q : Nat, k ≤ n ∧ i = .int .i64 k ∧ wr = w.drewN q ∧ m = .int .i64 (cnt (xs.take k) v)) (fun _ i _ => n - (intOf i).toNat)
  case atStart => exact ⟨0, 0, Nat.zero_le _, rfl, rfl, by simp [cnt]⟩
  case round =>
    obtain ⟨k, q, hk, rfl, rfl, rfl⟩ := hrel
    have hcl := cnt_le (xs.take k) v
    have hck : (xs.take k).length ≤ k := List.length_take_le _ _
    obtain ⟨m, hm⟩ : ∃ m, m = cnt (xs.take k) v := ⟨_, rfl⟩
    rw [← hm] at hcl ⊢
    have HM := Lib.hid hm
    clear hm
    have hmk : m ≤ k := by omega
    clear hcl hck
    by_cases hlt : k < n
    · obtain ⟨b, off, x, rfl, HX, hc, hx1, hx2⟩ := h.at_ hlt
      have HS := Lib.hid (cnt_snoc v HX.out)
      by_cases hv : v ≤ x
      · go_wp2_with fail
        go_roundw
        case rel => exact ⟨k + 1, _, by omega, by go_num, rfl, by rw [HS.out, ← HM.out, if_pos hv]; go_num⟩
        case measure => simp [intOf]; omega
      · go_wp2_with fail
        go_roundw
        case rel => exact ⟨k + 1, _, by omega, by go_num, rfl, by rw [HS.out, ← HM.out, if_neg (by omega)]; go_num⟩
        case measure => simp [intOf]; omega
    · obtain rfl : k = n := by omega
      clear hlt
      have HT := Lib.hid (show xs.take k = xs from List.take_of_length_le (by rw [HL.out]; omega))
      by_cases h0 : m = 0
      · subst h0
        go_wp2_with ((go_at_call 81; refine (l01Div_any _ _ _ (by omega) (by omega) (by omega) (by omega)).mono ?_; rintro e w' ⟨rfl, rfl⟩))
        go_ret
        exact ⟨ret_int (by unfold retY; rw [if_pos (by rw [HM.out, HT.out])]), _, rfl⟩
      · go_wp2_with ((go_at_call 81; refine (l01Div_any _ _ _ (by omega) (by omega) (by omega) (by omega)).mono ?_; rintro e w' ⟨rfl, rfl⟩))
        go_ret
        exact ⟨ret_int (by unfold retY; rw [HT.out] at HM; rw [← HM.out, if_neg h0, HL.out]), _, rfl⟩
def retB (xs : List Int) (v : Int) : Bool := decide (cnt xs v ≠ 0)
theorem returnYears_any (A : Option Addr) (n c : Nat) (v : Int) (xs : List Int) (w : World) (h : Ints w A n xs) (h64 : n ≤ 64) :
    Calls Try.prog 76 #[.slice A n c, .int .i64 v] w fun e w' => e = .returned (.tuple #[.int .i64 (retY xs v), .bool (retB xs v)]) ∧ ∃ q, w' = w.drewN q := by
  have HL := Lib.hid h.1
  go_enter Try.func76, Try.ntmps76
  go_wp2_with fail
  go_loopw [6, 11] (fun m i wr => ∃ k q : Nat, k ≤ n ∧ i = .int .i64 k ∧ wr = w.drewN q ∧ m = .int .i64 (cnt (xs.take k) v)) (fun _ i _ => n - (intOf i).toNat)
  case atStart => exact ⟨0, 0, Nat.zero_le _, rfl, rfl, by simp [cnt]⟩
  case round =>
    obtain ⟨k, q, hk, rfl, rfl, rfl⟩ := hrel
    have hcl := cnt_le (xs.take k) v
    have hck : (xs.take k).length ≤ k := List.length_take_le _ _
    obtain ⟨m, hm⟩ : ∃ m, m = cnt (xs.take k) v := ⟨_, rfl⟩
    rw [← hm] at hcl ⊢
    have HM := Lib.hid hm
    clear hm
    have hmk : m ≤ k := by omega
    clear hcl hck
    by_cases hlt : k < n
    · obtain ⟨b, off, x, rfl, HX, hc, hx1, hx2⟩ := h.at_ hlt
      have HS := Lib.hid (cnt_snoc v HX.out)
      by_cases hv : v ≤ x
      · go_wp2_with fail
        go_roundw
        case rel => exact ⟨k + 1, _, by omega, by go_num, rfl, by rw [HS.out, ← HM.out, if_pos hv]; go_num⟩
        case measure => simp [intOf]; omega
      · go_wp2_with fail
        go_roundw
        case rel => exact ⟨k + 1, _, by omega, by go_num, rfl, by rw [HS.out, ← HM.out, if_neg (by omega)]; go_num⟩
        case measure => simp [intOf]; omega
    · obtain rfl : k = n := by omega
      clear hlt
      have HT := Lib.hid (show xs.take k = xs from List.take_of_length_le (by rw [HL.out]; omega))
      by_cases h0 : m = 0
      · subst h0
        go_wp2_with ((go_at_call 82; refine (divRound_any _ _ _ (by omega) (by omega) (by omega) (by omega)).mono ?_; rintro e w' ⟨rfl, nd, rfl⟩))
        go_ret2
        exact ⟨ret_ib (by unfold retY; rw [if_pos (by rw [HM.out, HT.out])]) (by unfold retB; rw [← HT.out, ← HM.out]; simp), _, rfl⟩
      · go_wp2_with ((go_at_call 82; refine (divRound_any _ _ _ (by omega) (by omega) (by omega) (by omega)).mono ?_; rintro e w' ⟨rfl, nd, rfl⟩))
        go_ret2
        exact ⟨ret_ib (by unfold retY; rw [HT.out] at HM; rw [← HM.out, if_neg h0, HL.out]) (by unfold retB; rw [← HT.out, ← HM.out]; simp [h0]), _, rfl⟩


theorem below_q {w w' : World} (h : ∃ q, w' = w.drewN q) : Below w.heap.size w w' := by
  obtain ⟨q, rfl⟩ := h
  exact below_drewN (Below.refl _ _) q
theorem retB_yes {xs : List Int} {v : Int} (h : cnt xs v ≠ 0) : retB xs v = true := by simp [retB, h]
theorem retB_no {xs : List Int} {v : Int} (h : cnt xs v = 0) : retB xs v = false := by simp [retB, h]
def retA (xs : List Int) (v : Int) : Int := if (maxB xs && inB v 0 1000000000000) = true then retY xs v else 0
def retC (xs : List Int) (v : Int) : Int := if (maxB xs && inB v 0 1000000000000) = true then (if cnt xs v = 0 then 3 else 0) else 2
theorem maxB_len {xs : List Int} (h : maxB xs = true) : 1 ≤ xs.length ∧ xs.length ≤ 64 := by
  unfold maxB at h
  simp only [Bool.and_eq_true, decide_eq_true_eq] at h
  exact h.2
theorem ReturnYears_i (A : Option Addr) (n c : Nat) (v : Int) (xs : List Int) (w : World) (h : Ints w A n xs) :
    Calls Try.prog 24 #[.slice A n c, .int .i64 v] w fun e w' => e = .returned (.tuple #[.int .i64 (retA xs v), .int .i64 (retC xs v)]) ∧ Below w.heap.size w w' := by
  have HL := Lib.hid h.1
  cases h1 : maxB xs <;> cases h2 : inB v 0 1000000000000
  case true.true =>
    have h64 := (maxB_len h1).2
    rw [HL.out] at h64
    have HA := Lib.hid (show retA xs v = retY xs v by simp [retA, h1, h2])
    by_cases h0 : cnt xs v = 0
    · have hB := retB_no h0
      have HC := Lib.hid (show retC xs v = 3 by simp [retC, h1, h2, h0])
      have HY := Lib.hid (show retY xs v = 0 by simp [retY, h0])
      clear h0
      go_enter Try.func24, Try.ntmps24
      go_wp2_with fail
      refine (maximaOk_any _ _ _ xs _ h).mono ?_
      rintro e w1 ⟨rfl, hb⟩
      have hh := h.below hb
      go_wp2_with (first | ((go_at_call 74; refine (within_any _ _ _ _).mono ?_; rintro e w' ⟨rfl, rfl⟩)) | (go_at_call 76; refine (returnYears_any _ _ _ _ xs _ hh h64).mono ?_; rintro e w' ⟨rfl, nd, rfl⟩; rw [hB]) | (go_at_call 75; refine (orNotFound_no _ _).mono ?_; rintro e w' ⟨rfl, rfl⟩))
      go_ret2
      exact ⟨ret_int2 (by rw [HA.out, HY.out]) (by rw [HC.out]), below_drewN hb _⟩
    · have hB := retB_yes h0
      have HC := Lib.hid (show retC xs v = 0 by simp [retC, h1, h2, h0])
      clear h0
      go_enter Try.func24, Try.ntmps24
      go_wp2_with fail
      refine (maximaOk_any _ _ _ xs _ h).mono ?_
      rintro e w1 ⟨rfl, hb⟩
      have hh := h.below hb
      go_wp2_with (first | ((go_at_call 74; refine (within_any _ _ _ _).mono ?_; rintro e w' ⟨rfl, rfl⟩)) | (go_at_call 76; refine (returnYears_any _ _ _ _ xs _ hh h64).mono ?_; rintro e w' ⟨rfl, nd, rfl⟩; rw [hB]) | (go_at_call 75; refine (orNotFound_yes _ _).mono ?_; rintro e w' ⟨rfl, rfl⟩))
      go_ret2
      exact ⟨ret_int2 (by rw [HA.out]) (by rw [HC.out]), below_drewN hb _⟩
  all_goals
    have HA := Lib.hid (show retA xs v = 0 by simp [retA, h1, h2])
    have HC := Lib.hid (show retC xs v = 2 by simp [retC, h1, h2])
    go_enter Try.func24, Try.ntmps24
    go_wp2_with fail
    refine (maximaOk_any _ _ _ xs _ h).mono ?_
    rintro e w1 ⟨rfl, hb⟩
    go_wp2_with ((go_at_call 74; refine (within_any _ _ _ _).mono ?_; rintro e w' ⟨rfl, rfl⟩))
    go_ret2
    exact ⟨ret_int2 (by rw [HA.out]) (by rw [HC.out]), hb⟩
theorem ReturnYears_s (A : Option Addr) (n c : Nat) (v : Int) (xs : List Int) (w : World) (h : Ints w A n xs) :
    Calls Try.prog 23 #[.slice A n c, .int .i64 v] w fun e w' => e = .returned (.tuple #[.int .i64 (retA xs v), .int .i64 (retC xs v)]) ∧ Below w.heap.size w w' := by
  have HL := Lib.hid h.1
  cases h1 : maxB xs <;> cases h2 : inB v 0 1000000000000
  case true.true =>
    have h64 := (maxB_len h1).2
    rw [HL.out] at h64
    have HA := Lib.hid (show retA xs v = retY xs v by simp [retA, h1, h2])
    by_cases h0 : cnt xs v = 0
    · have HC := Lib.hid (show retC xs v = 3 by simp [retC, h1, h2, h0])
      have hY : retY xs v = 0 := by simp [retY, h0]
      have HY := Lib.hid hY
      clear h0 hY
      go_enter Try.func23, Try.ntmps23
      go_wp2_with fail
      refine (l16Maxima_any _ _ _ xs _ h).mono ?_
      rintro e w1 ⟨rfl, q1, rfl⟩
      have hh := h.drewN q1
      go_wp2_with (first | ((go_at_call 71; refine (l00In_any _ _ _ _).mono ?_; rintro e w' ⟨rfl, rfl⟩)) | (go_at_call 72; refine (l16Return_any _ _ _ _ xs _ hh h64).mono ?_; rintro e w' ⟨rfl, nd, rfl⟩; rw [HY.out]))
      go_ret2
      exact ⟨ret_int2 (by rw [HA.out, HY.out]) (by rw [HC.out]), below_drewN (Below.refl _ _) _⟩
    · have HC := Lib.hid (show retC xs v = 0 by simp [retC, h1, h2, h0])
      have hY := retY_pos h0
      clear h0
      go_enter Try.func23, Try.ntmps23
      go_wp2_with fail
      refine (l16Maxima_any _ _ _ xs _ h).mono ?_
      rintro e w1 ⟨rfl, q1, rfl⟩
      have hh := h.drewN q1
      go_wp2_with (first | ((go_at_call 71; refine (l00In_any _ _ _ _).mono ?_; rintro e w' ⟨rfl, rfl⟩)) | (go_at_call 72; refine (l16Return_any _ _ _ _ xs _ hh h64).mono ?_; rintro e w' ⟨rfl, nd, rfl⟩))
      go_ret2
      exact ⟨ret_int2 (by rw [HA.out]) (by rw [HC.out]), below_drewN (Below.refl _ _) _⟩
  all_goals
    have HA := Lib.hid (show retA xs v = 0 by simp [retA, h1, h2])
    have HC := Lib.hid (show retC xs v = 2 by simp [retC, h1, h2])
    go_enter Try.func23, Try.ntmps23
    go_wp2_with fail
    refine (l16Maxima_any _ _ _ xs _ h).mono ?_
    rintro e w1 ⟨rfl, q1, rfl⟩
    go_wp2_with ((go_at_call 71; refine (l00In_any _ _ _ _).mono ?_; rintro e w' ⟨rfl, rfl⟩))
    go_ret2
    exact ⟨ret_int2 (by rw [HA.out]) (by rw [HC.out]), below_drewN (Below.refl _ _) _⟩

end Go.Proofs.Ytbakmcjngadebaa
