/-
  Units: what the law finds, each pair of calls in one statement.
-/
import Derived.Test.YthkpffmcafdmeaaDoorUniI
import Derived.Test.YthkpffmcafdmeaaDoorFixR
namespace Go.Proofs.YthkpffmcafdmeaaDoor
open Go.ChangeShapes Go.WideShapes Go.ChangeAt Go.RowKit Go.Deep
set_option linter.unusedVariables false

theorem mk_ne {l : List UInt8} (h : l ≠ []) : (⟨l.toArray⟩ : ByteArray).toList ≠ [] := by rw [Lib.toList_data]; exact h
theorem clock_ex (m : Int) (h : -1 ≤ m ∧ m ≤ 1440) : ∃ (T : ByteArray) (bk : Int) (one : Bool),
    (∀ W : World, Calls Tryd.prog 42 #[.int .i64 m] W fun e w' => e = .returned (.string T) ∧ Below W.heap.size W w') ∧
    (∀ W : World, Calls Tryd.prog 43 #[.string T] W fun e w' => e = .returned (.tuple #[.int .i64 bk, .bool one]) ∧ Below W.heap.size W w') ∧
    ((T = { data := #[] } ∧ one = false) ∨ (T.toList ≠ [] ∧ T.size = 5 ∧ one = true ∧ bk = m)) := by
  by_cases hm : 0 ≤ m ∧ m ≤ 1439
  · obtain ⟨k, rfl⟩ : ∃ k : Nat, m = (k : Int) := ⟨m.toNat, by omega⟩
    exact ⟨⟨(ckT k).toArray⟩, k, true, fun W => ClockText_yes k W (by omega), fun W => ReadClock_yes k _ W (by omega) rfl, .inr ⟨mk_ne (by simp [ckT]), rfl, rfl, rfl⟩⟩
  · exact ⟨{ data := #[] }, 0, false, fun W => (ClockText_no m W hm).mono fun e w' ⟨he, hw⟩ => ⟨he, by rw [← hw]; exact Below.refl _ _⟩, fun W => (ReadClock_nil W).mono fun e w' ⟨he, hw⟩ => ⟨he, by rw [← hw]; exact Below.refl _ _⟩, .inl ⟨rfl, rfl⟩⟩
theorem fixed_ex (n p : Int) (hp : 0 ≤ p ∧ p ≤ 7) : ∃ (T : ByteArray) (bk : Int) (one : Bool),
    (∀ W : World, Env W → Calls Tryd.prog 45 #[.int .i64 n, .int .i64 p] W fun e w' => e = .returned (.string T) ∧ Below W.heap.size W w') ∧
    (∀ W : World, Env W → Calls Tryd.prog 46 #[.string T, .int .i64 p] W fun e w' => e = .returned (.tuple #[.int .i64 bk, .bool one]) ∧ Below W.heap.size W w') ∧
    ((T = { data := #[] } ∧ one = false) ∨ (T.toList ≠ [] ∧ one = true ∧ bk = n)) := by
  by_cases hm : (-1000000000 ≤ n ∧ n ≤ 1000000000) ∧ (1 ≤ p ∧ p ≤ 6)
  · obtain ⟨k, rfl⟩ : ∃ k : Nat, p = (k : Int) := ⟨p.toNat, by omega⟩
    exact ⟨⟨(fxT n k).toArray⟩, n, true, fun W hE => FixedText_yes n k W hE.tab hm.1 (by omega), fun W hE => ReadFixed_yes n k _ W hE hm.1 (by omega) rfl, .inr ⟨mk_ne (fxT_ne n k), rfl, rfl⟩⟩
  · exact ⟨{ data := #[] }, 0, false, fun W _ => (FixedText_no n p W hm).mono fun e w' ⟨he, hw⟩ => ⟨he, by rw [← hw]; exact Below.refl _ _⟩, fun W hE => ReadFixed_nil p W hE, .inl ⟨rfl, rfl⟩⟩
theorem snow_ex (h d : Int) (hh : -1 ≤ h ∧ h ≤ 2001) (hd : 0 ≤ d ∧ d ≤ 1001) : ∃ M c : Int,
    (∀ W : World, Calls Tryd.prog 48 #[.int .i64 h, .int .i64 d] W fun e w' => e = .returned (.tuple #[.int .i64 M, .int .i64 c]) ∧ W = w') ∧
    (c = 2 ∨ (c = 0 ∧ ∀ W : World, Calls Tryd.prog 49 #[.int .i64 M, .int .i64 d] W fun e w' => e = .returned (.tuple #[.int .i64 h, .int .i64 0]) ∧ Below W.heap.size W w')) := by
  by_cases hm : (0 ≤ h ∧ h ≤ 2000) ∧ (1 ≤ d ∧ d ≤ 1000)
  · have hb := mass_bd hm.1.1 hm.1.2 hm.2.1 hm.2.2
    exact ⟨10 * h * d, 0, fun W => SnowMass_ok h d W hm.1 hm.2, .inr ⟨rfl, fun W => (SnowHeight_ok _ d W (by omega) hm.2).mono fun e w' ⟨he, hw⟩ => ⟨by rw [he, mass_back hm.1.1 hm.2.1], hw⟩⟩⟩
  · exact ⟨0, 2, fun W => SnowMass_no h d W (by omega) (by omega) hm, .inl rfl⟩
theorem wind_ex (x : Int) (hx : -1 ≤ x ∧ x ≤ 100001) : ∃ a c p s : Int,
    (∀ W : World, Calls Tryd.prog 51 #[.int .i64 x] W fun e w' => e = .returned (.tuple #[.int .i64 a, .int .i64 c]) ∧ W = w') ∧
    (∀ W : World, Calls Tryd.prog 52 #[.int .i64 x] W fun e w' => e = .returned (.tuple #[.int .i64 p, .int .i64 s]) ∧ Below W.heap.size W w') ∧
    ((c = 2 ∧ s = 2) ∨ (c = 0 ∧ s = 0 ∧ a = bfC x 12 ∧ p = shareN x)) := by
  by_cases hm : 0 ≤ x ∧ x ≤ 100000
  · exact ⟨bfC x 12, 0, shareN x, 0, fun W => BeaufortOf_ok x W hm, fun W => ShareOf_ok x W hm, .inr ⟨rfl, rfl, rfl, rfl⟩⟩
  · exact ⟨0, 2, 0, 2, fun W => BeaufortOf_no x W hm, fun W => (ShareOf_no x W hm).mono fun e w' ⟨he, hw⟩ => ⟨he, by rw [← hw]; exact Below.refl _ _⟩, .inl ⟨rfl, rfl⟩⟩
theorem wind_2 (x : Int) (hx : -1 ≤ x ∧ x ≤ 100001) : ∃ a c p s a' c' p' s' : Int,
    (∀ W : World, Calls Tryd.prog 51 #[.int .i64 x] W fun e w' => e = .returned (.tuple #[.int .i64 a, .int .i64 c]) ∧ W = w') ∧
    (∀ W : World, Calls Tryd.prog 52 #[.int .i64 x] W fun e w' => e = .returned (.tuple #[.int .i64 p, .int .i64 s]) ∧ Below W.heap.size W w') ∧
    (∀ W : World, Calls Tryd.prog 51 #[.int .i64 (x + 1)] W fun e w' => e = .returned (.tuple #[.int .i64 a', .int .i64 c']) ∧ W = w') ∧
    (∀ W : World, Calls Tryd.prog 52 #[.int .i64 (x + 1)] W fun e w' => e = .returned (.tuple #[.int .i64 p', .int .i64 s']) ∧ Below W.heap.size W w') ∧
    ((c = 2 ∧ s = 2) ∨ (c = 0 ∧ s = 0 ∧ 0 ≤ a ∧ a ≤ 12 ∧ 0 ≤ p ∧ p ≤ 1000 ∧ ((c' = 2 ∧ s' = 2) ∨ (c' = 0 ∧ s' = 0 ∧ a ≤ a' ∧ a' ≤ a + 1 ∧ p ≤ p')))) := by
  obtain ⟨a, c, p, s, h1, h2, h3⟩ := wind_ex x hx
  have hs := bf_step x 12 (Nat.le_refl _)
  have hl := bf_le x 12
  have hb := share_bd x
  have hu := share_up x
  by_cases hm : x + 1 ≤ 100000
  · refine ⟨a, c, p, s, bfC (x + 1) 12, 0, shareN (x + 1), 0, h1, h2, fun W => BeaufortOf_ok _ W (by omega), fun W => ShareOf_ok _ W (by omega), ?_⟩
    rcases h3 with h3 | ⟨rfl, rfl, rfl, rfl⟩
    · exact .inl h3
    · exact .inr ⟨rfl, rfl, by omega, by omega, hb.1, hb.2, .inr ⟨rfl, rfl, by omega, by omega, hu⟩⟩
  · refine ⟨a, c, p, s, 0, 2, 0, 2, h1, h2, fun W => BeaufortOf_no _ W (by omega), fun W => (ShareOf_no _ W (by omega)).mono fun e w' ⟨he, hw⟩ => ⟨he, by rw [← hw]; exact Below.refl _ _⟩, ?_⟩
    rcases h3 with h3 | ⟨rfl, rfl, rfl, rfl⟩
    · exact .inl h3
    · exact .inr ⟨rfl, rfl, by omega, by omega, hb.1, hb.2, .inl ⟨rfl, rfl⟩⟩
end Go.Proofs.YthkpffmcafdmeaaDoor
