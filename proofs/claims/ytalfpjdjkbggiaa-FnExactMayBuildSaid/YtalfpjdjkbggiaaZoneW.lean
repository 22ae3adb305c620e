/-
  The contracts of the functions over lines of zones and lists of maxima.
-/
import Derived.Test.YtalfpjdjkbggiaaAll
import Derived.Test.YtalfpjdjkbggiaaScal
namespace Go.Proofs.Ytalfpjdjkbggiaa
open Go.ChangeShapes Go.WideShapes Go.ChangeAt Go.RowKit Go.Deep

def lineB (xs : List Int) : Bool := allB xs 0 3 && decide (xs.length ≤ 64)
def maxB (xs : List Int) : Bool := allB xs 0 1000000000000 && (decide (1 ≤ xs.length) && decide (xs.length ≤ 64))
theorem l16Line_any (A : Option Addr) (n c : Nat) (xs : List Int) (w : World) (h : Ints w A n xs) :
    Calls Try.prog 87 #[.slice A n c] w fun e w' => e = .returned (.bool (lineB xs)) ∧ ∃ q, w' = w.drewN q := by
  have hn := h.2.1
  have HL := Lib.hid h.1
  go_enter Try.func87, Try.ntmps87
  go_wp2_with fail
  go_loopw [3] (fun i wr => ∃ k q : Nat, k ≤ n ∧ i = .int .i64 k ∧ wr = w.drewN q ∧ Hid (∀ (j : Nat) (x : Int), j < k → xs[j]? = some x → inB x 0 3 = true)) (fun i _ => n - (intOf i).toNat)
  case atStart => exact ⟨0, 0, Nat.zero_le _, rfl, rfl, fun j x hj => absurd hj (by omega)⟩
  case round =>
    obtain ⟨k, q, hk, rfl, rfl, HK⟩ := hrel
    by_cases hlt : k < n
    · obtain ⟨b, off, x, rfl, HX, hc, hx1, hx2⟩ := h.at_ hlt
      cases hb : inB x 0 3
      · have HN := Lib.hid (allB_no HX.out hb)
        go_wp2_with ((go_at_call 54; refine (l00In_any _ _ _ _).mono ?_; rintro e w' ⟨rfl, rfl⟩))
        go_ret
        exact ⟨ret_bool (by unfold lineB; rw [HN.out]; simp), _, rfl⟩
      · have HB := Lib.hid hb
        go_wp2_with ((go_at_call 54; refine (l00In_any _ _ _ _).mono ?_; rintro e w' ⟨rfl, rfl⟩))
        go_roundw
        case rel => exact ⟨k + 1, _, by omega, by go_num, rfl, fun j y hj hy => by
          by_cases e : j = k
          · subst e
            have := HX.out.symm.trans hy
            injection this with e2
            subst e2
            exact HB.out
          · exact HK.out j y (by omega) hy⟩
        case measure => simp [intOf]; omega
    · obtain rfl : k = n := by omega
      clear hlt
      have HA := Lib.hid (allB_all (xs := xs) (lo := 0) (hi := 3) (fun j x hj hx => HK.out j x (by rw [← HL.out]; exact hj) hx))
      go_wp2_with fail
      go_ret
      exact ⟨ret_bool (by unfold lineB; rw [HA.out, HL.out]; simp; omega), _, rfl⟩
theorem zonesOk_any (A : Option Addr) (n c : Nat) (xs : List Int) (w : World) (h : Ints w A n xs) :
    Calls Try.prog 88 #[.slice A n c] w fun e w' => e = .returned (.bool (lineB xs)) ∧ Below w.heap.size w w' := by
  have hn := h.2.1
  have HL := Lib.hid h.1
  by_cases h64 : n ≤ 64
  · go_enter Try.func88, Try.ntmps88
    go_wp2_with (go_at_call 93; refine (allWithin_any _ _ _ _ _ _ _ h).mono ?_; rintro e w' ⟨rfl, hb⟩)
    go_ret
    exact ⟨ret_bool (by unfold lineB; rw [HL.out]; simp [h64]), hb⟩
  · go_enter Try.func88, Try.ntmps88
    go_wp2_with fail
    go_ret
    exact ⟨ret_bool (by unfold lineB; rw [HL.out]; simp [h64]), Below.refl _ _⟩

/-! ### How often a value comes back -/
def cnt (xs : List Int) (v : Int) : Nat := xs.countP fun x => decide (v ≤ x)
theorem cnt_le (xs : List Int) (v : Int) : cnt xs v ≤ xs.length := List.countP_le_length
theorem cnt_snoc {xs : List Int} {k : Nat} {x : Int} (v : Int) (h : xs[k]? = some x) : cnt (xs.take (k + 1)) v = cnt (xs.take k) v + if v ≤ x then 1 else 0 := by
  have hk := (List.getElem?_eq_some_iff.1 h).1
  have e : xs.take (k + 1) = xs.take k ++ [x] := by
    rw [List.take_add_one, h]; rfl
  rw [e, cnt, cnt, List.countP_append]
  by_cases hv : v ≤ x <;> simp [hv]
def retY (xs : List Int) (v : Int) : Int := if cnt xs v = 0 then 0 else divN (100 * ((xs.length : Int) + 1)) (cnt xs v)
theorem retY_pos {xs : List Int} {v : Int} (h : cnt xs v ≠ 0) : 100 ≤ retY xs v := by
  unfold retY
  rw [if_neg h, divN_pos _ _ (by omega) (by omega)]
  have h1 := cnt_le xs v
  have h2 : (100 : Int) ≤ 100 * ((xs.length : Int) + 1) / (cnt xs v : Int) := by
    apply Int.le_ediv_of_mul_le (by omega)
    have : (cnt xs v : Int) ≤ (xs.length : Int) + 1 := by omega
    exact Int.mul_le_mul_of_nonneg_left this (by omega)
  split <;> omega
def retB (xs : List Int) (v : Int) : Bool := decide (cnt xs v ≠ 0)


theorem below_q {w w' : World} (h : ∃ q, w' = w.drewN q) : Below w.heap.size w w' := by
  obtain ⟨q, rfl⟩ := h
  exact below_drewN (Below.refl _ _) q
theorem retB_yes {xs : List Int} {v : Int} (h : cnt xs v ≠ 0) : retB xs v = true := by simp [retB, h]
theorem retB_no {xs : List Int} {v : Int} (h : cnt xs v = 0) : retB xs v = false := by simp [retB, h]
def retA (xs : List Int) (v : Int) : Int := if (maxB xs && inB v 0 1000000000000) = true then retY xs v else 0
def retC (xs : List Int) (v : Int) : Int := if (maxB xs && inB v 0 1000000000000) = true then (if cnt xs v = 0 then 3 else 0) else 2
theorem maxB_len {xs : List Int} (h : maxB xs = true) : 1 ≤ xs.length ∧ xs.length ≤ 64 := by
  unfold maxB at h
  simp only [Bool.and_eq_true, decide_eq_true_eq] at h
  exact h.2

end Go.Proofs.Ytalfpjdjkbggiaa
