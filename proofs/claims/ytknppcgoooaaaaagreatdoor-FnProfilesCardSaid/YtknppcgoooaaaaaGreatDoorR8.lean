/-
  The laws' own helpers: too long inputs, small numbers that an input chooses, membership.
-/
import Derived.Test.YtknppcgoooaaaaaGreatDoorSrc
namespace Go.Proofs.YtknppcgoooaaaaaGreatDoor
open Go.ChangeShapes Go.WideShapes Go.ChangeAt Go.RowKit Go.Deep
set_option linter.unusedVariables false

theorem r8Long_any (A : Option Addr) (n c : Nat) (A' : Option Addr) (n' c' : Nat) (w : World) (h : n ≤ 9223372036854775807) (h' : n' ≤ 9223372036854775807) :
    Calls Tryz.prog 17 #[.slice A n c, .slice A' n' c'] w fun e w' => e = .returned (.bool (decide (1048576 < n) || decide (1048576 < n'))) ∧ w = w' := by
  by_cases h1 : 1048576 < n
  · have h2 : (1048576 : Int) < (n : Int) := by omega
    have h3 : decide ((1048576 : Int) < (n : Int)) = true := by simp; omega
    go_enter Tryz.func17, Tryz.ntmps17
    go_wp2
    go_ret
    exact ⟨by simp [h1], rfl⟩
  · have h2 : ¬ (1048576 : Int) < (n : Int) := by omega
    have h3 : decide ((1048576 : Int) < (n : Int)) = false := by simp; omega
    by_cases h4 : 1048576 < n'
    · have h5 : (1048576 : Int) < (n' : Int) := by omega
      have h6 : decide ((1048576 : Int) < (n' : Int)) = true := by simp; omega
      go_enter Tryz.func17, Tryz.ntmps17
      go_wp2
      all_goals go_ret
      all_goals exact ⟨by simp, rfl⟩
    · have h5 : ¬ (1048576 : Int) < (n' : Int) := by omega
      have h6 : decide ((1048576 : Int) < (n' : Int)) = false := by simp; omega
      go_enter Tryz.func17, Tryz.ntmps17
      go_wp2
      all_goals go_ret
      all_goals exact ⟨by simp, rfl⟩
theorem r8Long_no (A : Option Addr) (n c : Nat) (A' : Option Addr) (n' c' : Nat) (w : World) (h : n ≤ 1048576) (h' : n' ≤ 1048576) :
    Calls Tryz.prog 17 #[.slice A n c, .slice A' n' c'] w fun e w' => e = .returned (.bool false) ∧ w = w' :=
  (r8Long_any A n c A' n' c' w (by omega) (by omega)).mono fun e w' ⟨he, hw⟩ => ⟨by rw [he]; simp; omega, hw⟩
theorem r8Long_yes (A : Option Addr) (n c : Nat) (A' : Option Addr) (n' c' : Nat) (w : World) (h0 : n ≤ 9223372036854775807) (h0' : n' ≤ 9223372036854775807) (h : ¬ (n ≤ 1048576 ∧ n' ≤ 1048576)) :
    Calls Tryz.prog 17 #[.slice A n c, .slice A' n' c'] w fun e w' => e = .returned (.bool true) ∧ w = w' :=
  (r8Long_any A n c A' n' c' w h0 h0').mono fun e w' ⟨he, hw⟩ => ⟨by rw [he]; simp; omega, hw⟩
set_option maxRecDepth 100000 in
theorem r8At_any (A : Option Addr) (n c : Nat) (k : Nat) (m : Int) (w : World) (h : Byts w A n) (hn : n ≤ 1048576) (hk : k ≤ 1000) (hm : 2 ≤ m) (hm2 : m ≤ 1000000) :
    Calls Tryz.prog 69 #[.slice A n c, .int .i64 (k : Int), .int .i64 m] w fun e w' => (∃ x : Int, e = .returned (.int .i64 x) ∧ 0 ≤ x ∧ x < m) ∧ w = w' := by
  have hm1 : ¬ m ≤ 1 := by omega
  have hmd : decide (m ≤ 1) = false := by simp; omega
  by_cases h0 : k < n
  · obtain ⟨b, off, x, rfl, hc, hx1, hx2⟩ := h.at_ h0
    have hmd2 := mod_bd (x := x) (m := m) hx1 (by omega)
    have h0i : (k : Int) < (n : Int) := by omega
    have h0d : decide ((n : Int) ≤ (k : Int)) = false := by simp; omega
    have h0d2 : decide (n ≤ k) = false := by simp; omega
    clear h
    go_enter Tryz.func69, Tryz.ntmps69
    go_wp2
    all_goals go_ret
    all_goals exact ⟨⟨_, rfl, hmd2.1, hmd2.2⟩, rfl⟩
  · have h0d : decide ((n : Int) ≤ (k : Int)) = true := by simp; omega
    have h0d2 : decide (n ≤ k) = true := by simp; omega
    clear h
    go_enter Tryz.func69, Tryz.ntmps69
    go_wp2
    all_goals go_ret
    all_goals exact ⟨⟨0, rfl, by omega, by omega⟩, rfl⟩
set_option maxRecDepth 100000 in
theorem r8Wide_any (A : Option Addr) (n c : Nat) (k : Nat) (m : Int) (w : World) (h : Byts w A n) (hn : n ≤ 1048576) (hk : k ≤ 999) (hm : 2 ≤ m) (hm2 : m ≤ 1000000) :
    Calls Tryz.prog 32 #[.slice A n c, .int .i64 (k : Int), .int .i64 m] w fun e w' => (∃ x : Int, e = .returned (.int .i64 x) ∧ 0 ≤ x ∧ x < m) ∧ w = w' := by
  have HH := Lib.hid h
  clear h
  go_enter Tryz.func32, Tryz.ntmps32
  go_wp2_with fail
  refine (r8At_any _ _ _ k 256 _ HH.out hn (by omega) (by omega) (by omega)).mono ?_
  rintro e w' ⟨⟨x, rfl, hx1, hx2⟩, rfl⟩
  go_wp2_with fail
  refine (r8At_any _ _ _ (k + 1) 256 _ HH.out hn (by omega) (by omega) (by omega)).mono ?_
  rintro e w' ⟨⟨y, rfl, hy1, hy2⟩, rfl⟩
  have hmd := mod_bd (x := 256 * x + y) (m := m) (by omega) (by omega)
  go_wp2_with fail
  go_ret
  exact ⟨⟨_, rfl, hmd.1, hmd.2⟩, rfl⟩
end Go.Proofs.YtknppcgoooaaaaaGreatDoor
