/-
  Draws of single numbers: they lie within bounds.
-/
import Derived.Test.YtbakmcjngadebaaSrcP
namespace Go.Proofs.Ytbakmcjngadebaa
open Go.ChangeShapes Go.WideShapes Go.ChangeAt Go.RowKit Go.Deep
set_option linter.unusedVariables false

theorem l12DrawSquares_d (q m : Nat) (w : World) (h : SrcP w q m) (hm : m ≤ 10000000000) :
    Calls Try.prog 89 #[.pointer (some ⟨q, 0, none⟩)] w fun e w' => (∃ x : Int, e = .returned (.int .i64 x) ∧ -1 ≤ x ∧ x ≤ 1000001) ∧ SrcP w' q (m + 4) ∧ w.grownBy w' (some q) := by
  have HH := Lib.hid h
  clear h
  go_enter Try.func89, Try.ntmps89
  go_wp2_with fail
  refine (one_p q m 9 _ HH.out (by omega) (by omega)).mono ?_
  rintro e w1 ⟨⟨b, rfl⟩, hs1, hg1⟩
  have H1 := Lib.hid (And.intro hs1 hg1)
  clear hs1 hg1
  cases b
  · go_wp2_with fail
    refine (pick_p q _ 1000 _ H1.out.1 (by omega) (by omega)).mono ?_
    rintro e w2 ⟨⟨x, rfl, hx1, hx2⟩, hs2, hg2⟩
    have H2 := Lib.hid (And.intro hs2 (H1.out.2.trans hg2))
    clear hs2 hg2
    have hx3 : x < 1000 := by omega
    clear hx2
    go_wp2_with fail
    go_ret
    exact ⟨⟨_, rfl, by omega, by omega⟩, H2.out.1, H2.out.2⟩
  · go_wp2_with fail
    refine (among_lit q _ [-1, 0, 1, 1000000, 1000001] _ _ _ _ _ H1.out.1 (by omega) rfl rfl (by decide) (by decide) (by decide)).mono ?_
    rintro e w2 ⟨⟨x, hx, rfl⟩, hs2, hg2⟩
    have H2 := Lib.hid (And.intro hs2 (H1.out.2.trans hg2))
    have hx3 : -1 ≤ x ∧ x ≤ 1000001 := by
      simp only [List.mem_cons, List.not_mem_nil, or_false] at hx
      omega
    clear hs2 hg2 hx
    go_wp2_with fail
    go_ret
    exact ⟨⟨_, rfl, hx3.1, hx3.2⟩, H2.out.1, H2.out.2⟩
theorem l12DrawDepth_d (q m : Nat) (w : World) (h : SrcP w q m) (hm : m ≤ 10000000000) :
    Calls Try.prog 90 #[.pointer (some ⟨q, 0, none⟩)] w fun e w' => (∃ x : Int, e = .returned (.int .i64 x) ∧ -1 ≤ x ∧ x ≤ 1001) ∧ SrcP w' q (m + 4) ∧ w.grownBy w' (some q) := by
  have HH := Lib.hid h
  clear h
  go_enter Try.func90, Try.ntmps90
  go_wp2_with fail
  refine (one_p q m 9 _ HH.out (by omega) (by omega)).mono ?_
  rintro e w1 ⟨⟨b, rfl⟩, hs1, hg1⟩
  have H1 := Lib.hid (And.intro hs1 hg1)
  clear hs1 hg1
  cases b
  · go_wp2_with fail
    refine (pick_p q _ 250 _ H1.out.1 (by omega) (by omega)).mono ?_
    rintro e w2 ⟨⟨x, rfl, hx1, hx2⟩, hs2, hg2⟩
    have H2 := Lib.hid (And.intro hs2 (H1.out.2.trans hg2))
    clear hs2 hg2
    have hx3 : x < 250 := by omega
    clear hx2
    go_wp2_with fail
    go_ret
    exact ⟨⟨_, rfl, by omega, by omega⟩, H2.out.1, H2.out.2⟩
  · go_wp2_with fail
    refine (among_lit q _ [-1, 0, 1000, 1001] _ _ _ _ _ H1.out.1 (by omega) rfl rfl (by decide) (by decide) (by decide)).mono ?_
    rintro e w2 ⟨⟨x, hx, rfl⟩, hs2, hg2⟩
    have H2 := Lib.hid (And.intro hs2 (H1.out.2.trans hg2))
    have hx3 : -1 ≤ x ∧ x ≤ 1001 := by
      simp only [List.mem_cons, List.not_mem_nil, or_false] at hx
      omega
    clear hs2 hg2 hx
    go_wp2_with fail
    go_ret
    exact ⟨⟨_, rfl, hx3.1, hx3.2⟩, H2.out.1, H2.out.2⟩
theorem l02DrawDensity_d (q m : Nat) (w : World) (h : SrcP w q m) (hm : m ≤ 10000000000) :
    Calls Try.prog 91 #[.pointer (some ⟨q, 0, none⟩)] w fun e w' => (∃ x : Int, e = .returned (.int .i64 x) ∧ 0 ≤ x ∧ x ≤ 1001) ∧ SrcP w' q (m + 4) ∧ w.grownBy w' (some q) := by
  have HH := Lib.hid h
  clear h
  go_enter Try.func91, Try.ntmps91
  go_wp2_with fail
  refine (one_p q m 9 _ HH.out (by omega) (by omega)).mono ?_
  rintro e w1 ⟨⟨b, rfl⟩, hs1, hg1⟩
  have H1 := Lib.hid (And.intro hs1 hg1)
  clear hs1 hg1
  cases b
  · go_wp2_with fail
    refine (pick_p q _ 256 _ H1.out.1 (by omega) (by omega)).mono ?_
    rintro e w2 ⟨⟨x, rfl, hx1, hx2⟩, hs2, hg2⟩
    have H2 := Lib.hid (And.intro hs2 (H1.out.2.trans hg2))
    clear hs2 hg2
    have hx3 : x < 256 := by omega
    clear hx2
    go_wp2_with fail
    go_ret
    exact ⟨⟨_, rfl, by omega, by omega⟩, H2.out.1, H2.out.2⟩
  · go_wp2_with fail
    refine (among_lit q _ [0, 1, 1000, 1001] _ _ _ _ _ H1.out.1 (by omega) rfl rfl (by decide) (by decide) (by decide)).mono ?_
    rintro e w2 ⟨⟨x, hx, rfl⟩, hs2, hg2⟩
    have H2 := Lib.hid (And.intro hs2 (H1.out.2.trans hg2))
    have hx3 : 0 ≤ x ∧ x ≤ 1001 := by
      simp only [List.mem_cons, List.not_mem_nil, or_false] at hx
      omega
    clear hs2 hg2 hx
    go_wp2_with fail
    go_ret
    exact ⟨⟨_, rfl, hx3.1, hx3.2⟩, H2.out.1, H2.out.2⟩
theorem l12DrawTonnes_d (q m : Nat) (w : World) (h : SrcP w q m) (hm : m ≤ 10000000000) :
    Calls Try.prog 94 #[.pointer (some ⟨q, 0, none⟩)] w fun e w' => (∃ x : Int, e = .returned (.int .i64 x) ∧ -1 ≤ x ∧ x ≤ 100000001) ∧ SrcP w' q (m + 4) ∧ w.grownBy w' (some q) := by
  have HH := Lib.hid h
  clear h
  go_enter Try.func94, Try.ntmps94
  go_wp2_with fail
  refine (one_p q m 8 _ HH.out (by omega) (by omega)).mono ?_
  rintro e w1 ⟨⟨b, rfl⟩, hs1, hg1⟩
  have H1 := Lib.hid (And.intro hs1 hg1)
  clear hs1 hg1
  cases b
  · go_wp2_with fail
    refine (pick_p q _ 3000 _ H1.out.1 (by omega) (by omega)).mono ?_
    rintro e w2 ⟨⟨x, rfl, hx1, hx2⟩, hs2, hg2⟩
    have H2 := Lib.hid (And.intro hs2 (H1.out.2.trans hg2))
    clear hs2 hg2
    have hx3 : x < 3000 := by omega
    clear hx2
    go_wp2_with fail
    go_ret
    exact ⟨⟨_, rfl, by omega, by omega⟩, H2.out.1, H2.out.2⟩
  · go_wp2_with fail
    refine (among_lit q _ [-1, 0, 9, 10, 10000, 100000000, 100000001, 99999999] _ _ _ _ _ H1.out.1 (by omega) rfl rfl (by decide) (by decide) (by decide)).mono ?_
    rintro e w2 ⟨⟨x, hx, rfl⟩, hs2, hg2⟩
    have H2 := Lib.hid (And.intro hs2 (H1.out.2.trans hg2))
    have hx3 : -1 ≤ x ∧ x ≤ 100000001 := by
      simp only [List.mem_cons, List.not_mem_nil, or_false] at hx
      omega
    clear hs2 hg2 hx
    go_wp2_with fail
    go_ret
    exact ⟨⟨_, rfl, hx3.1, hx3.2⟩, H2.out.1, H2.out.2⟩
end Go.Proofs.Ytbakmcjngadebaa
