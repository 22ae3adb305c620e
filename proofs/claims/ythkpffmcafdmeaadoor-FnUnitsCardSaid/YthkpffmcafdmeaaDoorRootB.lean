/-
  The program's square root, by the library's search: what is found, without a name for it.
-/
import Derived.Test.YthkpffmcafdmeaaDoorPathX
namespace Go.Proofs.YthkpffmcafdmeaaDoor
open Go.ChangeShapes Go.WideShapes Go.ChangeAt Go.RowKit Go.Deep
set_option linter.unusedVariables false

def SearchPost (p : Int → Bool) (n : Int) (e : Ending) : Prop :=
  ∃ m, 0 ≤ m ∧ m ≤ n ∧ (∀ x, 0 ≤ x → x < m → p x = false) ∧ (m < n → p m = true) ∧ e = .returned (.int .i64 m)
def rootP (a r : Int) : Bool := decide (a < (r + 1) * (r + 1))
theorem sq_le {x y : Int} (h0 : 0 ≤ x) (h : x ≤ y) : x * x ≤ y * y := Int.mul_le_mul h h h0 (by omega)
theorem rootP_mono {a x y : Int} (h0 : 0 ≤ x) (h : x ≤ y) (hp : rootP a y = false) : rootP a x = false := by
  unfold rootP at *
  have := sq_le (x := x + 1) (y := y + 1) (by omega) (by omega)
  simp only [decide_eq_false_iff_not] at *
  omega
set_option maxRecDepth 100000 in
theorem root_c (p : Nat) (a r : Int) (w : World) (hc : w.cell? ⟨p, 0, none⟩ = some (.int .i64 a)) (h1 : 0 ≤ r) (h2 : r ≤ 3037000498) :
    Calls Tryd.prog 84 #[.int .i64 r, .pointer (some ⟨p, 0, none⟩)] w fun e w' => e = .returned (.bool (rootP a r)) ∧ w = w' := by
  have hs := sq_le (x := r + 1) (y := 3037000499) (by omega) (by omega)
  have hs0 : 0 ≤ (r + 1) * (r + 1) := Int.mul_nonneg (by omega) (by omega)
  have hs1 : (r + 1) * (r + 1) ≤ 9223372030926249001 := by omega
  clear hs
  go_enter Tryd.func84, Tryd.ntmps84
  go_wp2_with fail
  go_ret
  exact ⟨rfl, rfl⟩

set_option maxRecDepth 100000 in
set_option maxHeartbeats 1600000 in
theorem search_root (nn : Int) (p : Nat) (a : Int) (w : World) (hc : w.cell? ⟨p, 0, none⟩ = some (.int .i64 a)) (hr : nn ≤ 3037000499) (h1 : 0 ≤ nn) (h2 : nn ≤ 1000000000000) :
    Calls Tryd.prog 83 #[.int .i64 nn, .func (.func 84) #[] #[.pointer (some ⟨p, 0, none⟩)]] w fun e w' => SearchPost (rootP a) nn e ∧ Below w.heap.size w w' := by
  go_enter Tryd.func83, Tryd.ntmps83
  go_wp2_with fail
  go_loopw [5, 6] (fun iv jv wr => ∃ i j : Int, 0 ≤ i ∧ i ≤ j ∧ j ≤ nn ∧ iv = .int .i64 i ∧ jv = .int .i64 j ∧ Hid ((∀ x, 0 ≤ x → x < i → (rootP a) x = false) ∧ (j < nn → (rootP a) j = true)) ∧ Below w.heap.size w wr) (fun iv jv _ => (intOf jv - intOf iv).toNat)
  case atStart => exact ⟨0, nn, by omega, by omega, by omega, rfl, rfl, ⟨fun x a b => by omega, fun a => by omega⟩, Below.refl _ _⟩
  case round =>
    obtain ⟨i, j, hi, hij, hj, rfl, rfl, HM, hbl⟩ := hrel
    have HB := Lib.hid hbl
    by_cases hlt : i < j
    · obtain ⟨m, hm⟩ : ∃ m, m = (i + j) / 2 := ⟨_, rfl⟩
      have hm1 : i ≤ m ∧ m < j := by omega
      have HC := Lib.hid (show Calls Tryd.prog 84 #[.int .i64 m, .pointer (some ⟨p, 0, none⟩)] wr fun e w' => e = .returned (.bool (rootP a m)) ∧ Below wr.heap.size wr w' from (root_c p a m wr (cell_kept hbl hc) (by omega) (by omega)).mono fun _ _ hh => ⟨hh.1, by rw [← hh.2]; exact Below.refl _ _⟩)
      have HMM := Lib.hid hm
      clear hbl hm
      cases hpm : (rootP a) m
      · have HP := Lib.hid hpm
        go_wp2_with fail
        rw [← HMM.out]
        refine (HC.out).mono ?_
        rintro e w2 ⟨rfl, hb2⟩
        have HB2 := Lib.hid (HB.out.trans (hb2.mono HB.out.size))
        clear hb2
        go_wp2_with fail
        go_roundw
        case rel => exact ⟨m + 1, j, by omega, by omega, by omega, by go_num, rfl, ⟨fun x a b => rootP_mono a (by omega) HP.out, HM.out.2⟩, HB2.out⟩
        case measure => simp [intOf]; omega
      · have HP := Lib.hid hpm
        go_wp2_with fail
        rw [← HMM.out]
        refine (HC.out).mono ?_
        rintro e w2 ⟨rfl, hb2⟩
        have HB2 := Lib.hid (HB.out.trans (hb2.mono HB.out.size))
        clear hb2
        go_wp2_with fail
        go_roundw
        case rel => exact ⟨i, m, by omega, by omega, by omega, rfl, rfl, ⟨HM.out.1, fun _ => HP.out⟩, HB2.out⟩
        case measure => simp [intOf]; omega
    · obtain rfl : i = j := by omega
      clear hbl
      go_wp2_with fail
      go_ret
      exact ⟨⟨i, hi, hj, HM.out.1, HM.out.2, rfl⟩, HB.out⟩

theorem root_big {a : Int} (h : a ≤ 3600000000) : rootP a 60000 = true := by unfold rootP; simp; omega
set_option maxRecDepth 100000 in
theorem RootOf_b (a : Int) (w : World) (h0 : 0 ≤ a) (ha : a ≤ 3600000000) :
    Calls Tryd.prog 30 #[.int .i64 a] w fun e w' => (∃ m, e = .returned (.int .i64 m) ∧ 0 ≤ m ∧ m ≤ 60000 ∧ m * m ≤ a ∧ a < (m + 1) * (m + 1)) ∧ Below w.heap.size w w' := by
  have HA := Lib.hid ha
  have H0 := Lib.hid h0
  clear ha
  go_enter Tryd.func30, Tryd.ntmps30
  go_wp2_with fail
  refine (search_root _ w.heap.size a _ (by go_simp) (by omega) (by omega) (by omega)).mono ?_
  rintro e w' ⟨⟨m, h1, h2, h3, h4, rfl⟩, hb⟩
  have hm : m ≤ 60000 := by
    rcases Int.lt_or_le 60000 m with h | h
    · have := h3 60000 (by omega) (by omega)
      rw [root_big HA.out] at this
      cases this
    · exact h
  have HR := Lib.hid (show m * m ≤ a ∧ a < (m + 1) * (m + 1) from ⟨by
    rcases Int.lt_or_le 0 m with hm | hm
    · have := h3 (m - 1) (by omega) (by omega)
      simp only [rootP, decide_eq_false_iff_not, Int.not_lt] at this
      rwa [show m - 1 + 1 = m by omega] at this
    · obtain rfl : m = 0 := by omega
      simpa using H0.out, by have := h4 (by omega); simpa [rootP] using this⟩)
  have HB := Lib.hid (((Below.refl w.heap.size w).alloc (Nat.le_refl _) _).trans (hb.mono (by simp)))
  clear h3 h4 hb
  go_wp2_with fail
  go_ret
  exact ⟨⟨m, rfl, h1, hm, HR.out.1, HR.out.2⟩, HB.out⟩
theorem RootOf_neg (a : Int) (w : World) (h0 : a < 0) (h1 : -9223372036854775808 ≤ a) :
    Calls Tryd.prog 30 #[.int .i64 a] w fun e w' => e = .returned (.int .i64 0) ∧ Below w.heap.size w w' := by
  go_enter Tryd.func30, Tryd.ntmps30
  go_wp2_with fail
  go_ret
  exact ⟨rfl, (Below.refl _ _).alloc (Nat.le_refl _) _⟩
end Go.Proofs.YthkpffmcafdmeaaDoor
