/-
  The contracts of square roots: the program's by the library's search, the reference's by halving.
-/
import Derived.Test.YtknppcgoooaaaaaGreatDoorPathS
namespace Go.Proofs.YtknppcgoooaaaaaGreatDoor
open Go.ChangeShapes Go.WideShapes Go.ChangeAt Go.RowKit Go.Deep
set_option linter.unusedVariables false

def SearchPost (p : Int → Bool) (n : Int) (e : Ending) : Prop :=
  ∃ m, 0 ≤ m ∧ m ≤ n ∧ (∀ x, 0 ≤ x → x < m → p x = false) ∧ (m < n → p m = true) ∧ e = .returned (.int .i64 m)
def rootP (a r : Int) : Bool := decide (a < (r + 1) * (r + 1))
theorem sq_le {x y : Int} (h0 : 0 ≤ x) (h : x ≤ y) : x * x ≤ y * y := Int.mul_le_mul h h h0 (by omega)
theorem rootP_mono {a x y : Int} (h0 : 0 ≤ x) (h : x ≤ y) (hp : rootP a y = false) : rootP a x = false := by
  unfold rootP at *
  have := sq_le (x := x + 1) (y := y + 1) (by omega) (by omega)
  simp only [decide_eq_false_iff_not] at *
  omega
set_option maxRecDepth 100000 in
theorem root_c (p : Nat) (a r : Int) (w : World) (hc : w.cell? ⟨p, 0, none⟩ = some (.int .i64 a)) (h1 : 0 ≤ r) (h2 : r ≤ 3037000498) :
    Calls Tryz.prog 96 #[.int .i64 r, .pointer (some ⟨p, 0, none⟩)] w fun e w' => e = .returned (.bool (rootP a r)) ∧ w = w' := by
  have hs := sq_le (x := r + 1) (y := 3037000499) (by omega) (by omega)
  have hs0 : 0 ≤ (r + 1) * (r + 1) := Int.mul_nonneg (by omega) (by omega)
  have hs1 : (r + 1) * (r + 1) ≤ 9223372030926249001 := by omega
  clear hs
  go_enter Tryz.func96, Tryz.ntmps96
  go_wp2_with fail
  go_ret
  exact ⟨rfl, rfl⟩

set_option maxRecDepth 100000 in
set_option maxHeartbeats 1600000 in
theorem search_root (nn : Int) (p : Nat) (a : Int) (w : World) (hc : w.cell? ⟨p, 0, none⟩ = some (.int .i64 a)) (hr : nn ≤ 3037000499) (h1 : 0 ≤ nn) (h2 : nn ≤ 1000000000000) :
    Calls Tryz.prog 95 #[.int .i64 nn, .func (.func 96) #[] #[.pointer (some ⟨p, 0, none⟩)]] w fun e w' => SearchPost (rootP a) nn e ∧ Below w.heap.size w w' := by
  go_enter Tryz.func95, Tryz.ntmps95
  go_wp2_with fail
  go_loopw [5, 6] (fun iv jv wr => ∃ i j : Int, 0 ≤ i ∧ i ≤ j ∧ j ≤ nn ∧ iv = .int .i64 i ∧ jv = .int .i64 j ∧ Hid ((∀ x, 0 ≤ x → x < i → (rootP a) x = false) ∧ (j < nn → (rootP a) j = true)) ∧ Below w.heap.size w wr) (fun iv jv _ => (intOf jv - intOf iv).toNat)
  case atStart => exact ⟨0, nn, by omega, by omega, by omega, rfl, rfl, ⟨fun x a b => by omega, fun a => by omega⟩, Below.refl _ _⟩
  case round =>
    obtain ⟨i, j, hi, hij, hj, rfl, rfl, HM, hbl⟩ := hrel
    have HB := Lib.hid hbl
    by_cases hlt : i < j
    · obtain ⟨m, hm⟩ : ∃ m, m = (i + j) / 2 := ⟨_, rfl⟩
      have hm1 : i ≤ m ∧ m < j := by omega
      have HC := Lib.hid (show Calls Tryz.prog 96 #[.int .i64 m, .pointer (some ⟨p, 0, none⟩)] wr fun e w' => e = .returned (.bool (rootP a m)) ∧ Below wr.heap.size wr w' from (root_c p a m wr (cell_kept hbl hc) (by omega) (by omega)).mono fun _ _ hh => ⟨hh.1, by rw [← hh.2]; exact Below.refl _ _⟩)
      have HMM := Lib.hid hm
      clear hbl hm
      cases hpm : (rootP a) m
      · have HP := Lib.hid hpm
        go_wp2_with fail
        rw [← HMM.out]
        refine (HC.out).mono ?_
        rintro e w2 ⟨rfl, hb2⟩
        have HB2 := Lib.hid (HB.out.trans (hb2.mono HB.out.size))
        clear hb2
        go_wp2_with fail
        go_roundw
        case rel => exact ⟨m + 1, j, by omega, by omega, by omega, by go_num, rfl, ⟨fun x a b => rootP_mono a (by omega) HP.out, HM.out.2⟩, HB2.out⟩
        case measure => simp [intOf]; omega
      · have HP := Lib.hid hpm
        go_wp2_with fail
        rw [← HMM.out]
        refine (HC.out).mono ?_
        rintro e w2 ⟨rfl, hb2⟩
        have HB2 := Lib.hid (HB.out.trans (hb2.mono HB.out.size))
        clear hb2
        go_wp2_with fail
        go_roundw
        case rel => exact ⟨i, m, by omega, by omega, by omega, rfl, rfl, ⟨HM.out.1, fun _ => HP.out⟩, HB2.out⟩
        case measure => simp [intOf]; omega
    · obtain rfl : i = j := by omega
      clear hbl
      go_wp2_with fail
      go_ret
      exact ⟨⟨i, hi, hj, HM.out.1, HM.out.2, rfl⟩, HB.out⟩

/-- The square root, rounded down. -/
def rootN (a : Int) : Int := firstI (rootP a) 0 3037000498
theorem root_big {a : Int} (h : a ≤ 9223372030926249000) : rootP a 3037000498 = true := by unfold rootP; simp; omega
theorem rootN_eq {a m : Int} (ha : a ≤ 9223372030926249000) (h0 : 0 ≤ m) (h1 : ∀ x, 0 ≤ x → x < m → rootP a x = false) (h2 : rootP a m = true) : rootN a = m := by
  refine firstI_eq h0 ?_ h2 h1
  rcases Int.lt_or_le 3037000498 m with h | h
  · have := h1 3037000498 (by omega) h
    rw [root_big ha] at this
    cases this
  · exact h
set_option maxRecDepth 100000 in
theorem RootOf_i (a : Int) (w : World) (h0 : 0 ≤ a) (ha : a ≤ 9223372030926249000) :
    Calls Tryz.prog 76 #[.int .i64 a] w fun e w' => e = .returned (.int .i64 (rootN a)) ∧ Below w.heap.size w w' := by
  have HA := Lib.hid ha
  clear ha
  go_enter Tryz.func76, Tryz.ntmps76
  go_wp2_with fail
  refine (search_root _ w.heap.size a _ (by go_simp) (by omega) (by omega) (by omega)).mono ?_
  rintro e w' ⟨⟨m, h1, h2, h3, h4, rfl⟩, hb⟩
  have hm : m < 3037000499 := by
    rcases Int.lt_or_le m 3037000499 with h | h
    · exact h
    · have := h3 3037000498 (by omega) (by omega)
      rw [root_big HA.out] at this
      cases this
  have HR := Lib.hid (rootN_eq HA.out h1 h3 (h4 hm))
  have HB := Lib.hid (((Below.refl w.heap.size w).alloc (Nat.le_refl _) _).trans (hb.mono (by simp)))
  clear h3 h4 hb
  go_wp2_with fail
  go_ret
  exact ⟨ret_int (by rw [HR.out]), HB.out⟩

end Go.Proofs.YtknppcgoooaaaaaGreatDoor
