/-
  Whether a number is among others, both sides; the cells that nothing reaches, both sides.
-/
import Derived.Test.YtknppcgoooaaaaaGridW
namespace Go.Proofs.Ytknppcgoooaaaaa
open Go.ChangeShapes Go.WideShapes Go.ChangeAt Go.RowKit Go.Deep
set_option linter.unusedVariables false

def HasPost (b : Bool) (e : Ending) : Prop := ∃ r : Int, e = .returned (.int .i64 r) ∧ ((r = -1 ∧ b = false) ∨ (0 ≤ r ∧ b = true))
theorem index_any (A : Option Addr) (n c : Nat) (v : Int) (xs : List Int) (w : World) (h : Ints w A n xs) :
    Calls Try.prog 44 #[.slice A n c, .int .i64 v] w fun e w' => HasPost (hasB xs v) e ∧ ∃ q, w' = w.drewN q := by
  have hn := h.2.1
  have HL := Lib.hid h.1
  go_enter Try.func44, Try.ntmps44
  go_wp2_with fail
  go_loopw [4, 8] (fun _ i wr => ∃ k q : Nat, k ≤ n ∧ i = .int .i64 k ∧ wr = w.drewN q ∧ Hid (∀ (j : Nat) (y : Int), j < k → xs[j]? = some y → y ≠ v)) (fun _ i _ => n - (intOf i).toNat)
  case atStart => exact ⟨0, 0, Nat.zero_le _, rfl, rfl, fun j y hj => absurd hj (by omega)⟩
  case round =>
    obtain ⟨k, q, hk, rfl, rfl, HK⟩ := hrel
    by_cases hlt : k < n
    · obtain ⟨b, off, x, rfl, HX, hc, hx1, hx2⟩ := h.at_ hlt
      have hki : (k : Int) < (n : Int) := by omega
      by_cases hxv : x = v
      · subst hxv
        have HN := Lib.hid (hasB_yes HX.out)
        go_wp2_with fail
        go_ret
        exact ⟨⟨_, rfl, .inr ⟨by omega, HN.out⟩⟩, _, rfl⟩
      · have HNE := Lib.hid hxv
        have he : (x == v) = false := by simpa using hxv
        have he2 : (v == x) = false := by simpa using fun e => hxv (Eq.symm e)
        clear hxv
        go_wp2_with fail
        go_roundw
        case rel => exact ⟨k + 1, _, by omega, by go_num, rfl, fun j y hj hy => by
          by_cases e : j = k
          · subst e
            have a := HX.out.symm.trans hy
            injection a with a
            rw [← a]; exact HNE.out
          · exact HK.out j y (by omega) hy⟩
        case measure => simp [intOf]; omega
    · obtain rfl : k = n := by omega
      have HN := Lib.hid (hasB_no (xs := xs) (x := v) fun j y hj hy => HK.out j y (by rw [← HL.out]; exact hj) hy)
      clear hlt
      go_wp2_with fail
      go_ret
      exact ⟨⟨-1, rfl, .inl ⟨rfl, HN.out⟩⟩, _, rfl⟩
theorem contains_any (A : Option Addr) (n c : Nat) (v : Int) (xs : List Int) (w : World) (h : Ints w A n xs) :
    Calls Try.prog 32 #[.slice A n c, .int .i64 v] w fun e w' => e = .returned (.bool (hasB xs v)) ∧ ∃ q, w' = w.drewN q := by
  go_enter Try.func32, Try.ntmps32
  go_wp2_with fail
  refine (index_any _ _ _ _ xs _ h).mono ?_
  rintro e w' ⟨⟨r, rfl, hr⟩, q, rfl⟩
  rcases hr with ⟨rfl, hr⟩ | ⟨h0, hr⟩
  · have HR := Lib.hid hr
    clear hr
    go_wp2_with fail
    go_ret
    exact ⟨ret_bool (by rw [HR.out]), _, rfl⟩
  · have HR := Lib.hid hr
    clear hr
    go_wp2_with fail
    go_ret
    exact ⟨ret_bool (by rw [HR.out]), _, rfl⟩
end Go.Proofs.Ytknppcgoooaaaaa
