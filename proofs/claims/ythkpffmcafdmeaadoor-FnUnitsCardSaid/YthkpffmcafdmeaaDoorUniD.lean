/-
  Draws of the units: numbers of a range. (Printed by gen_unid.py.)
-/
import Derived.Test.YthkpffmcafdmeaaDoorSrcP
import Derived.Test.YthkpffmcafdmeaaDoorR8
namespace Go.Proofs.YthkpffmcafdmeaaDoor
open Go.ChangeShapes Go.WideShapes Go.ChangeAt Go.RowKit Go.Deep
set_option linter.unusedVariables false

set_option maxRecDepth 100000 in
theorem l02DrawNumber_d (q m : Nat) (w : World) (h : SrcP w q m) (hm : m ≤ 10000000000) :
    Calls Tryd.prog 96 #[.pointer (some ⟨q, 0, none⟩)] w fun e w' => (∃ x : Int, e = .returned (.int .i64 x) ∧ -1000000001 ≤ x ∧ x ≤ 1000000001) ∧ SrcP w' q (m + 4) ∧ w.grownBy w' (some q) := by
  have HH := Lib.hid h
  clear h
  go_enter Tryd.func96, Tryd.ntmps96
  go_wp2_with fail
  refine (one_p q m 8 _ HH.out (by omega) (by omega)).mono ?_
  rintro e w1 ⟨⟨b, rfl⟩, hs1, hg1⟩
  have H1 := Lib.hid (And.intro hs1 hg1)
  clear hs1 hg1
  cases b
  · go_wp2_with fail
    refine (pick_p q _ 4000 _ H1.out.1 (by omega) (by omega)).mono ?_
    rintro e w2 ⟨⟨x, rfl, hx1, hx2⟩, hs2, hg2⟩
    have H2 := Lib.hid (And.intro hs2 (H1.out.2.trans hg2))
    clear hs2 hg2
    have hx3 : x < 4000 := by omega
    clear hx2
    go_wp2_with fail
    go_ret
    exact ⟨⟨_, rfl, by omega, by omega⟩, H2.out.1, H2.out.2⟩
  · go_wp2_with fail
    refine (among_lit q _ [0, 1000000000, 1000000001, -1000000000, -1000000001, 7, -7] _ _ _ _ _ H1.out.1 (by omega) rfl rfl (by decide) (by decide) (by decide)).mono ?_
    rintro e w2 ⟨⟨x, hx, rfl⟩, hs2, hg2⟩
    have H2 := Lib.hid (And.intro hs2 (H1.out.2.trans hg2))
    have hx3 : -1000000001 ≤ x ∧ x ≤ 1000000001 := by
      simp only [List.mem_cons, List.not_mem_nil, or_false] at hx
      omega
    clear hs2 hg2 hx
    go_wp2_with fail
    go_ret
    exact ⟨⟨_, rfl, hx3.1, hx3.2⟩, H2.out.1, H2.out.2⟩
set_option maxRecDepth 100000 in
theorem l02DrawDensity_d (q m : Nat) (w : World) (h : SrcP w q m) (hm : m ≤ 10000000000) :
    Calls Tryd.prog 102 #[.pointer (some ⟨q, 0, none⟩)] w fun e w' => (∃ x : Int, e = .returned (.int .i64 x) ∧ 0 ≤ x ∧ x ≤ 1001) ∧ SrcP w' q (m + 4) ∧ w.grownBy w' (some q) := by
  have HH := Lib.hid h
  clear h
  go_enter Tryd.func102, Tryd.ntmps102
  go_wp2_with fail
  refine (one_p q m 9 _ HH.out (by omega) (by omega)).mono ?_
  rintro e w1 ⟨⟨b, rfl⟩, hs1, hg1⟩
  have H1 := Lib.hid (And.intro hs1 hg1)
  clear hs1 hg1
  cases b
  · go_wp2_with fail
    refine (pick_p q _ 256 _ H1.out.1 (by omega) (by omega)).mono ?_
    rintro e w2 ⟨⟨x, rfl, hx1, hx2⟩, hs2, hg2⟩
    have H2 := Lib.hid (And.intro hs2 (H1.out.2.trans hg2))
    clear hs2 hg2
    have hx3 : x < 256 := by omega
    clear hx2
    go_wp2_with fail
    go_ret
    exact ⟨⟨_, rfl, by omega, by omega⟩, H2.out.1, H2.out.2⟩
  · go_wp2_with fail
    refine (among_lit q _ [0, 1, 1000, 1001] _ _ _ _ _ H1.out.1 (by omega) rfl rfl (by decide) (by decide) (by decide)).mono ?_
    rintro e w2 ⟨⟨x, hx, rfl⟩, hs2, hg2⟩
    have H2 := Lib.hid (And.intro hs2 (H1.out.2.trans hg2))
    have hx3 : 0 ≤ x ∧ x ≤ 1001 := by
      simp only [List.mem_cons, List.not_mem_nil, or_false] at hx
      omega
    clear hs2 hg2 hx
    go_wp2_with fail
    go_ret
    exact ⟨⟨_, rfl, hx3.1, hx3.2⟩, H2.out.1, H2.out.2⟩
set_option maxRecDepth 100000 in
theorem l02DrawSpeed_d (q m : Nat) (w : World) (h : SrcP w q m) (hm : m ≤ 10000000000) :
    Calls Tryd.prog 103 #[.pointer (some ⟨q, 0, none⟩)] w fun e w' => (∃ x : Int, e = .returned (.int .i64 x) ∧ -1 ≤ x ∧ x ≤ 100001) ∧ SrcP w' q (m + 4) ∧ w.grownBy w' (some q) := by
  have HH := Lib.hid h
  clear h
  go_enter Tryd.func103, Tryd.ntmps103
  go_wp2_with fail
  refine (one_p q m 9 _ HH.out (by omega) (by omega)).mono ?_
  rintro e w1 ⟨⟨b, rfl⟩, hs1, hg1⟩
  have H1 := Lib.hid (And.intro hs1 hg1)
  clear hs1 hg1
  cases b
  · go_wp2_with fail
    refine (pick_p q _ 350 _ H1.out.1 (by omega) (by omega)).mono ?_
    rintro e w2 ⟨⟨x, rfl, hx1, hx2⟩, hs2, hg2⟩
    have H2 := Lib.hid (And.intro hs2 (H1.out.2.trans hg2))
    clear hs2 hg2
    have hx3 : x < 350 := by omega
    clear hx2
    go_wp2_with fail
    go_ret
    exact ⟨⟨_, rfl, by omega, by omega⟩, H2.out.1, H2.out.2⟩
  · go_wp2_with fail
    refine (among_lit q _ [-1, 0, 29, 30, 3270, 100000, 100001] _ _ _ _ _ H1.out.1 (by omega) rfl rfl (by decide) (by decide) (by decide)).mono ?_
    rintro e w2 ⟨⟨x, hx, rfl⟩, hs2, hg2⟩
    have H2 := Lib.hid (And.intro hs2 (H1.out.2.trans hg2))
    have hx3 : -1 ≤ x ∧ x ≤ 100001 := by
      simp only [List.mem_cons, List.not_mem_nil, or_false] at hx
      omega
    clear hs2 hg2 hx
    go_wp2_with fail
    go_ret
    exact ⟨⟨_, rfl, hx3.1, hx3.2⟩, H2.out.1, H2.out.2⟩
set_option maxRecDepth 100000 in
theorem l02DrawPlaces_d (q m : Nat) (w : World) (h : SrcP w q m) (hm : m ≤ 10000000000) :
    Calls Tryd.prog 97 #[.pointer (some ⟨q, 0, none⟩)] w fun e w' => (∃ x : Int, e = .returned (.int .i64 x) ∧ 0 ≤ x ∧ x ≤ 7) ∧ SrcP w' q (m + 2) ∧ w.grownBy w' (some q) := by
  have HH := Lib.hid h
  clear h
  go_enter Tryd.func97, Tryd.ntmps97
  go_wp2_with fail
  refine (among_lit q _ [1, 2, 3, 6, 0, 7, 2, 3] _ _ _ _ _ HH.out (by omega) rfl rfl (by decide) (by decide) (by decide)).mono ?_
  rintro e w2 ⟨⟨x, hx, rfl⟩, hs2, hg2⟩
  have H2 := Lib.hid (And.intro hs2 hg2)
  have hx3 : 0 ≤ x ∧ x ≤ 7 := by
    simp only [List.mem_cons, List.not_mem_nil, or_false] at hx
    omega
  clear hs2 hg2 hx
  go_wp2_with fail
  go_ret
  exact ⟨⟨_, rfl, hx3.1, hx3.2⟩, H2.out.1, H2.out.2⟩
set_option maxRecDepth 100000 in
theorem DrawBeaufortOf_d (A : Option Addr) (n c : Nat) (w : World) (h : Byts w A n) :
    Calls Tryd.prog 50 #[.slice A n c] w fun e w' => (∃ x : Int, e = .returned (.int .i64 x) ∧ -1 ≤ x ∧ x ≤ 100001) ∧ Below w.heap.size w w' := by
  go_enter Tryd.func50, Tryd.ntmps50
  go_wp2_with fail
  refine (from_p _ _ _ _ h).mono ?_
  rintro e w1 ⟨rfl, hs1, hb1⟩
  have HB := Lib.hid hb1
  clear hb1
  go_wp2_with fail
  refine (l02DrawSpeed_d _ _ _ hs1 (by omega)).mono ?_
  rintro e w2 ⟨⟨x, rfl, hx1, hx2⟩, hs2, hg2⟩
  have HB2 := Lib.hid (below_grown HB.out hg2 HB.out.size (Nat.le_refl _))
  clear hg2 hs1 HB
  go_wp2_with fail
  go_ret
  exact ⟨⟨x, rfl, hx1, hx2⟩, HB2.out⟩
set_option maxRecDepth 100000 in
theorem DrawFixedText_d (A : Option Addr) (n c : Nat) (w : World) (h : Byts w A n) :
    Calls Tryd.prog 44 #[.slice A n c] w fun e w' => (∃ x y : Int, e = .returned (.tuple #[.int .i64 x, .int .i64 y]) ∧ (-1000000001 ≤ x ∧ x ≤ 1000000001) ∧ (0 ≤ y ∧ y ≤ 7)) ∧ Below w.heap.size w w' := by
  go_enter Tryd.func44, Tryd.ntmps44
  go_wp2_with fail
  refine (from_p _ _ _ _ h).mono ?_
  rintro e w1 ⟨rfl, hs1, hb1⟩
  have HB := Lib.hid hb1
  clear hb1
  go_wp2_with fail
  refine (l02DrawNumber_d _ _ _ hs1 (by omega)).mono ?_
  rintro e w2 ⟨⟨x, rfl, hx1, hx2⟩, hs2, hg2⟩
  have HB2 := Lib.hid (below_grown HB.out hg2 HB.out.size (Nat.le_refl _))
  clear hg2 hs1 HB
  go_wp2_with fail
  refine (l02DrawPlaces_d _ _ _ hs2 (by omega)).mono ?_
  rintro e w3 ⟨⟨y, rfl, hy1, hy2⟩, hs3, hg3⟩
  have HB3 := Lib.hid (below_grown HB2.out hg3 HB2.out.size (Nat.le_refl _))
  clear hg3 hs2 HB2
  go_wp2_with fail
  go_ret2
  exact ⟨⟨x, y, rfl, ⟨hx1, hx2⟩, hy1, hy2⟩, HB3.out⟩
set_option maxRecDepth 100000 in
theorem DrawSnowMass_d (A : Option Addr) (n c : Nat) (w : World) (h : Byts w A n) :
    Calls Tryd.prog 47 #[.slice A n c] w fun e w' => (∃ x y : Int, e = .returned (.tuple #[.int .i64 x, .int .i64 y]) ∧ (-1 ≤ x ∧ x ≤ 2001) ∧ (0 ≤ y ∧ y ≤ 1001)) ∧ Below w.heap.size w w' := by
  go_enter Tryd.func47, Tryd.ntmps47
  go_wp2_with fail
  refine (from_p _ _ _ _ h).mono ?_
  rintro e w1 ⟨rfl, hs1, hb1⟩
  have HB := Lib.hid hb1
  clear hb1
  go_wp2_with fail
  refine (pick_p _ _ 300 _ hs1 (by omega) (by omega)).mono ?_
  rintro e w2 ⟨⟨x, rfl, hx1, hx2⟩, hs2, hg2⟩
  have HB2 := Lib.hid (below_grown HB.out hg2 HB.out.size (Nat.le_refl _))
  clear hg2 hs1 HB
  have hx3 : x < 300 := by omega
  clear hx2
  go_wp2_with fail
  refine (one_p _ _ 9 _ hs2 (by omega) (by omega)).mono ?_
  rintro e w3 ⟨⟨b, rfl⟩, hs3, hg3⟩
  have HB3 := Lib.hid (below_grown HB2.out hg3 HB2.out.size (Nat.le_refl _))
  clear hg3 hs2 HB2
  cases b
  · go_wp2_with fail
    refine (l02DrawDensity_d _ _ _ hs3 (by omega)).mono ?_
    rintro e w4 ⟨⟨y, rfl, hy1, hy2⟩, hs4, hg4⟩
    have HB4 := Lib.hid (below_grown HB3.out hg4 HB3.out.size (Nat.le_refl _))
    clear hg4 hs3 HB3
    go_wp2_with fail
    go_ret2
    exact ⟨⟨x, y, rfl, by omega, hy1, hy2⟩, HB4.out⟩
  · go_wp2_with fail
    refine (among_lit _ _ [-1, 0, 2000, 2001] _ _ _ _ _ hs3 (by omega) rfl rfl (by decide) (by decide) (by decide)).mono ?_
    rintro e w4 ⟨⟨z, hz, rfl⟩, hs4, hg4⟩
    have hz3 : -1 ≤ z ∧ z ≤ 2001 := by
      simp only [List.mem_cons, List.not_mem_nil, or_false] at hz
      omega
    have HB4 := Lib.hid (below_grown HB3.out hg4 HB3.out.size (Nat.le_refl _))
    clear hg4 hs3 HB3 hz
    go_wp2_with fail
    refine (l02DrawDensity_d _ _ _ hs4 (by omega)).mono ?_
    rintro e w5 ⟨⟨y, rfl, hy1, hy2⟩, hs5, hg5⟩
    have HB5 := Lib.hid (below_grown HB4.out hg5 HB4.out.size (Nat.le_refl _))
    clear hg5 hs4 HB4
    go_wp2_with fail
    go_ret2
    exact ⟨⟨z, y, rfl, hz3, hy1, hy2⟩, HB5.out⟩
set_option maxRecDepth 100000 in
theorem DrawClockText_d (A : Option Addr) (n c : Nat) (w : World) (h : Byts w A n) :
    Calls Tryd.prog 41 #[.slice A n c] w fun e w' => (∃ x : Int, e = .returned (.int .i64 x) ∧ -1 ≤ x ∧ x ≤ 1440) ∧ Below w.heap.size w w' := by
  go_enter Tryd.func41, Tryd.ntmps41
  go_wp2_with fail
  refine (from_p _ _ _ _ h).mono ?_
  rintro e w1 ⟨rfl, hs1, hb1⟩
  have HB := Lib.hid hb1
  clear hb1
  go_wp2_with fail
  refine (one_p _ _ 8 _ hs1 (by omega) (by omega)).mono ?_
  rintro e w2 ⟨⟨b, rfl⟩, hs2, hg2⟩
  have HB2 := Lib.hid (below_grown HB.out hg2 HB.out.size (Nat.le_refl _))
  clear hg2 hs1 HB
  cases b
  · go_wp2_with fail
    refine (pick_p _ _ 240 _ hs2 (by omega) (by omega)).mono ?_
    rintro e w3 ⟨⟨x, rfl, hx1, hx2⟩, hs3, hg3⟩
    have HB3 := Lib.hid (below_grown HB2.out hg3 HB2.out.size (Nat.le_refl _))
    clear hg3 hs2 HB2
    have hx3 : x < 240 := by omega
    clear hx2
    go_wp2_with fail
    refine (pick_p _ _ 6 _ hs3 (by omega) (by omega)).mono ?_
    rintro e w4 ⟨⟨y, rfl, hy1, hy2⟩, hs4, hg4⟩
    have HB4 := Lib.hid (below_grown HB3.out hg4 HB3.out.size (Nat.le_refl _))
    clear hg4 hs3 HB3
    have hy3 : y < 6 := by omega
    clear hy2
    go_wp2_with fail
    go_ret
    exact ⟨⟨_, rfl, by omega, by omega⟩, HB4.out⟩
  · go_wp2_with fail
    refine (among_lit _ _ [-1, 0, 1439, 1440] _ _ _ _ _ hs2 (by omega) rfl rfl (by decide) (by decide) (by decide)).mono ?_
    rintro e w4 ⟨⟨z, hz, rfl⟩, hs4, hg4⟩
    have hz3 : -1 ≤ z ∧ z ≤ 1440 := by
      simp only [List.mem_cons, List.not_mem_nil, or_false] at hz
      omega
    have HB4 := Lib.hid (below_grown HB2.out hg4 HB2.out.size (Nat.le_refl _))
    clear hg4 hs2 HB2 hz
    go_wp2_with fail
    go_ret
    exact ⟨⟨z, rfl, hz3⟩, HB4.out⟩
end Go.Proofs.YthkpffmcafdmeaaDoor
