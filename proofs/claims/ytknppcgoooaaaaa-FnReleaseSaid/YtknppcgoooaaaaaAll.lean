/-
  The contracts of allWithin and what it calls of the library; sums.
-/
import Derived.Test.YtknppcgoooaaaaaSl
namespace Go.Proofs.Ytknppcgoooaaaaa
open Go.ChangeShapes Go.WideShapes Go.ChangeAt Go.RowKit Go.Deep

/-- All numbers lie within bounds. -/
def allB (xs : List Int) (lo hi : Int) : Bool := xs.all fun x => inB x lo hi
theorem allB_iff {xs : List Int} {lo hi : Int} : allB xs lo hi = true ↔ ∀ (j : Nat) (x : Int), xs[j]? = some x → lo ≤ x ∧ x ≤ hi := by
  unfold allB
  rw [List.all_eq_true]
  constructor
  · intro h j x hx
    exact inB_iff.1 (h x (List.mem_of_getElem? hx))
  · intro h x hx
    obtain ⟨j, hj⟩ := List.mem_iff_getElem?.1 hx
    exact inB_iff.2 (h j x hj)
theorem allB_no {xs : List Int} {lo hi : Int} {j : Nat} {x : Int} (h : xs[j]? = some x) (hx : inB x lo hi = false) : allB xs lo hi = false := by
  cases hp : allB xs lo hi
  · rfl
  · have := allB_iff.1 hp j x h
    rcases inB_not.1 hx with h | h <;> omega
theorem allB_all {xs : List Int} {lo hi : Int} (h : ∀ (j : Nat) (x : Int), j < xs.length → xs[j]? = some x → inB x lo hi = true) : allB xs lo hi = true :=
  allB_iff.2 fun j x hx => inB_iff.1 (h j x (List.getElem?_eq_some_iff.1 hx).1 hx)

def IdxPost (b : Bool) (e : Ending) : Prop := ∃ r : Int, e = .returned (.int .i64 r) ∧ ((r = -1 ∧ b = true) ∨ (0 ≤ r ∧ b = false))

theorem allWithin_c (n : Int) (p q : Nat) (lo hi : Int) (w : World) (h1 : w.cell? ⟨p, 0, none⟩ = some (.int .i64 lo)) (h2 : w.cell? ⟨q, 0, none⟩ = some (.int .i64 hi)) :
    Calls Try.prog 43 #[.int .i64 n, .pointer (some ⟨p, 0, none⟩), .pointer (some ⟨q, 0, none⟩)] w fun e w' => e = .returned (.bool (!inB n lo hi)) ∧ w = w' := by
  go_enter Try.func43, Try.ntmps43
  go_wp2_with ((go_at_call 27; refine (within_any _ _ _ _).mono ?_; rintro e w' ⟨rfl, rfl⟩))
  go_ret
  exact ⟨rfl, rfl⟩
theorem indexFunc_i (A : Option Addr) (n c : Nat) (p q : Nat) (lo hi : Int) (xs : List Int) (w : World) (h : Ints w A n xs) (h1 : w.cell? ⟨p, 0, none⟩ = some (.int .i64 lo)) (h2 : w.cell? ⟨q, 0, none⟩ = some (.int .i64 hi)) :
    Calls Try.prog 53 #[.slice A n c, .func (.func 43) #[] #[.pointer (some ⟨p, 0, none⟩), .pointer (some ⟨q, 0, none⟩)]] w fun e w' => IdxPost (allB xs lo hi) e ∧ w = w' := by
  have hn := h.2.1
  have hl := h.1
  have HL := Lib.hid hl
  clear hl
  go_enter Try.func53, Try.ntmps53
  go_wp2_with fail
  go_loop [4, 8] (fun _ i => ∃ k : Nat, k ≤ n ∧ i = .int .i64 k ∧ Hid (∀ j x, j < k → xs[j]? = some x → inB x lo hi = true)) (fun _ i => n - (intOf i).toNat)
  case atStart => exact ⟨0, Nat.zero_le _, rfl, fun j x hj => absurd hj (by omega)⟩
  case round =>
    obtain ⟨k, hk, rfl, HK⟩ := hrel
    by_cases hlt : k < n
    · obtain ⟨b, off, x, rfl, HX, hc, hx1, hx2⟩ := h.at_ hlt
      cases hb : inB x lo hi
      · have HN := Lib.hid (allB_no HX.out hb)
        go_wp2_with (go_at_call 43; refine (allWithin_c _ _ _ _ _ _ h1 h2).mono ?_; rintro e w' ⟨rfl, rfl⟩)
        go_ret
        exact ⟨⟨_, rfl, .inr ⟨by omega, HN.out⟩⟩, rfl⟩
      · have HB := Lib.hid hb
        go_wp2_with (go_at_call 43; refine (allWithin_c _ _ _ _ _ _ h1 h2).mono ?_; rintro e w' ⟨rfl, rfl⟩)
        go_round
        case rel => exact ⟨k + 1, by omega, by go_num, fun j y hj hy => by
          by_cases e : j = k
          · subst e
            have := HX.out.symm.trans hy
            injection this with e2
            subst e2
            exact HB.out
          · exact HK.out j y (by omega) hy⟩
        case measure => simp [intOf]; omega
    · obtain rfl : k = n := by omega
      clear hlt
      go_wp2_with fail
      go_ret
      exact ⟨⟨-1, rfl, .inl ⟨rfl, allB_all (fun j x hj hx => HK.out j x (by rw [← HL.out]; exact hj) hx)⟩⟩, rfl⟩
theorem containsFunc_i (A : Option Addr) (n c : Nat) (p q : Nat) (lo hi : Int) (xs : List Int) (w : World) (h : Ints w A n xs) (h1 : w.cell? ⟨p, 0, none⟩ = some (.int .i64 lo)) (h2 : w.cell? ⟨q, 0, none⟩ = some (.int .i64 hi)) :
    Calls Try.prog 42 #[.slice A n c, .func (.func 43) #[] #[.pointer (some ⟨p, 0, none⟩), .pointer (some ⟨q, 0, none⟩)]] w fun e w' => e = .returned (.bool (!allB xs lo hi)) ∧ w = w' := by
  go_enter Try.func42, Try.ntmps42
  go_wp2_with fail
  refine (indexFunc_i _ _ _ _ _ _ _ _ _ h h1 h2).mono ?_
  rintro e w' ⟨⟨r, rfl, hr⟩, rfl⟩
  rcases hr with ⟨rfl, hr⟩ | ⟨h0, hr⟩
  · have HR := Lib.hid hr
    clear hr
    go_wp2_with fail
    go_ret
    exact ⟨ret_bool (by rw [HR.out]; rfl), rfl⟩
  · have HR := Lib.hid hr
    clear hr
    go_wp2_with fail
    go_ret
    exact ⟨ret_bool (by rw [HR.out]; simp), rfl⟩
theorem allWithin_any (A : Option Addr) (n c : Nat) (lo hi : Int) (xs : List Int) (w : World) (h : Ints w A n xs) :
    Calls Try.prog 29 #[.slice A n c, .int .i64 lo, .int .i64 hi] w fun e w' => e = .returned (.bool (allB xs lo hi)) ∧ Below w.heap.size w w' := by
  have hh := (h.below ((Below.refl _ _).alloc (Nat.le_refl _) (.cells #[.int .i64 lo] 2)))
  have hh2 := (hh.below ((Below.refl _ _).alloc (Nat.le_refl _) (.cells #[.int .i64 hi] 2)))
  go_enter Try.func29, Try.ntmps29
  go_wp2_with fail
  refine (containsFunc_i _ _ _ _ _ lo hi _ _ hh2 (by go_simp) (by go_simp)).mono ?_
  rintro e w' ⟨rfl, rfl⟩
  go_wp2_with fail
  go_ret
  exact ⟨by simp, ((Below.refl _ _).alloc (Nat.le_refl _) _).alloc (by simp) _⟩
end Go.Proofs.Ytknppcgoooaaaaa
