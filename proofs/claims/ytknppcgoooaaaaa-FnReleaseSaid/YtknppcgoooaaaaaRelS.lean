/-
  SteepestOf and AspectOf, the reference's, at a valid grid.
-/
import Derived.Test.YtknppcgoooaaaaaGridLv
import Derived.Test.YtknppcgoooaaaaaGridX
import Derived.Test.YtknppcgoooaaaaaGridY
namespace Go.Proofs.Ytknppcgoooaaaaa
open Go.ChangeShapes Go.WideShapes Go.ChangeAt Go.RowKit Go.Deep
set_option linter.unusedVariables false

set_option maxRecDepth 100000 in
theorem SteepestOf_t (R C S : Int) (A : Option Addr) (n c k : Nat) (hs : List Int) (w : World) (h : GridA w R C S A n hs) (hv : gridOk R C S hs = true) (hk : k < n) :
    Calls Try.prog 16 #[.agg #[.int .i64 R, .int .i64 C, .int .i64 S, .slice A n c], .int .i64 k] w fun e w' => (∃ y : Int, e = .returned (.tuple #[.int .i64 (if (steep R C S hs k).1 < 0 then 0 else (steep R C S hs k).2), .int .i64 y, .int .i64 (if (steep R C S hs k).1 < 0 then 3 else 0)])) ∧ Below w.heap.size w w' := by
  obtain ⟨⟨r1, r2⟩, ⟨c1, c2⟩, ⟨s1, s2⟩, hn, hall⟩ := gridOk_iff.1 hv
  have hm := mul64 r1 r2 c1 c2
  have hl := h.1.1
  have HB0 := Lib.hid ((Below.refl w.heap.size w).alloc (Nat.le_refl _) (.cells #[.int .i64 R, .int .i64 C, .int .i64 S, .slice A n c] 26))
  have HB := Lib.hid (And.intro (h.box (c := c) 26) (And.intro hv (And.intro (boxG_of w R C S A n c 26) (h.1.below HB0.out))))
  have h64 : n ≤ 64 := by omega
  obtain ⟨p, hp⟩ : ∃ p, p = steep R C S hs (k : Int) := ⟨_, rfl⟩
  have HP := Lib.hid hp
  have HCS := Lib.hid (show p.1 < 0 ∨ ∃ a : Nat, a < 8 ∧ nbOk R C k a = true ∧ p.1 = (a : Int) by
    rcases steep_cases (R := R) (C := C) (k := k) hall s1 with ⟨h1, _⟩ | ⟨a, ⟨ha, hok⟩, h1, _, _⟩
    · left; rw [hp, h1]; omega
    · right; exact ⟨a, ha, hok, by rw [hp, h1]⟩)
  rw [← hp]
  clear h hv hall hn hl hp
  go_enter Try.func16, Try.ntmps16
  go_wp2_with fail
  refine (l09Ask_t _ R C S A n c k hs _ HB.out.1 HB.out.2.1 hk).mono ?_
  rintro e w1 ⟨rfl, hb1⟩
  have H1 := Lib.hid hb1
  clear hb1
  go_wp2_with fail
  refine (l09Steepest_any _ R C S A n c k hs _ (HB.out.2.2.1.below H1.out) (HB.out.2.2.2.below H1.out) HB.out.2.1 hk).mono ?_
  rintro e w2 ⟨rfl, hb2⟩
  rw [← HP.out]
  have H2 := Lib.hid (And.intro (H1.out.trans (hb2.mono H1.out.size)) (HB0.out.trans ((H1.out.trans (hb2.mono H1.out.size)).mono (by simp))))
  clear hb2
  by_cases hneg : p.1 < 0
  · have HN := Lib.hid hneg
    go_wp2_with fail
    go_ret3
    exact ⟨⟨0, ret_int3 (by first | rfl | rw [if_pos HN.out]) (by rfl) (by first | rfl | rw [if_pos HN.out])⟩, H2.out.2⟩
  · have HN := Lib.hid hneg
    obtain ⟨a, ha, hok, hpa⟩ : ∃ a : Nat, a < 8 ∧ nbOk R C k a = true ∧ p.1 = (a : Int) := by
      rcases HCS.out with h1 | h1
      · exact absurd h1 hneg
      · exact h1
    have hneg2 : ¬ p.1 < 0 := hneg
    have hneg3 : decide (p.1 < 0) = false := by simpa using hneg
    rw [hpa] at hneg ⊢
    clear hpa
    go_wp2_with fail
    refine (l09Go_any _ R C S A n c k a _ (HB.out.2.2.1.below H2.out.1) r1 r2 c1 c2 hk h64 ha).mono ?_
    rintro e w3 ⟨rfl, hb3⟩
    have H3 := Lib.hid (H2.out.2.trans (hb3.mono H2.out.2.size))
    clear hb3
    go_wp2_with fail
    go_ret3
    exact ⟨⟨_, ret_int3 (by first | rfl | rw [if_neg (Int.not_lt.2 HN.out)]) (by rfl) (by first | rfl | rw [if_neg (Int.not_lt.2 HN.out)])⟩, H3.out⟩
set_option maxRecDepth 100000 in
theorem AspectOf_t (R C S : Int) (A : Option Addr) (n c k : Nat) (hs : List Int) (w : World) (h : GridA w R C S A n hs) (hv : gridOk R C S hs = true) (hk : k < n) :
    Calls Try.prog 17 #[.agg #[.int .i64 R, .int .i64 C, .int .i64 S, .slice A n c], .int .i64 k] w fun e w' => e = .returned (.tuple #[.int .i64 (if (steep R C S hs k).1 < 0 then 0 else (steep R C S hs k).1), .int .i64 (if (steep R C S hs k).1 < 0 then 3 else 0)]) ∧ Below w.heap.size w w' := by
  have hl := h.1.1
  have HB0 := Lib.hid ((Below.refl w.heap.size w).alloc (Nat.le_refl _) (.cells #[.int .i64 R, .int .i64 C, .int .i64 S, .slice A n c] 26))
  have HB := Lib.hid (And.intro (h.box (c := c) 26) (And.intro hv (And.intro (boxG_of w R C S A n c 26) (h.1.below HB0.out))))
  obtain ⟨p, hp⟩ : ∃ p, p = steep R C S hs (k : Int) := ⟨_, rfl⟩
  have HP := Lib.hid hp
  rw [← hp]
  clear h hv hl hp
  go_enter Try.func17, Try.ntmps17
  go_wp2_with fail
  refine (l09Ask_t _ R C S A n c k hs _ HB.out.1 HB.out.2.1 hk).mono ?_
  rintro e w1 ⟨rfl, hb1⟩
  have H1 := Lib.hid hb1
  clear hb1
  go_wp2_with fail
  refine (l09Steepest_any _ R C S A n c k hs _ (HB.out.2.2.1.below H1.out) (HB.out.2.2.2.below H1.out) HB.out.2.1 hk).mono ?_
  rintro e w2 ⟨rfl, hb2⟩
  rw [← HP.out]
  have H2 := Lib.hid (HB0.out.trans ((H1.out.trans (hb2.mono H1.out.size)).mono (by simp)))
  clear hb2
  by_cases hneg : p.1 < 0
  · have HN := Lib.hid hneg
    go_wp2_with fail
    go_ret2
    exact ⟨ret_int2 (by first | rfl | rw [if_pos HN.out]) (by first | rfl | rw [if_pos HN.out]), H2.out⟩
  · have HN := Lib.hid hneg
    go_wp2_with fail
    go_ret2
    exact ⟨ret_int2 (by first | rfl | rw [if_neg (Int.not_lt.2 HN.out)]) (by first | rfl | rw [if_neg (Int.not_lt.2 HN.out)]), H2.out⟩
end Go.Proofs.Ytknppcgoooaaaaa
