/-
  Draws of a path with a tangent, and with a distance too.
-/
import Derived.Test.YtknppcgoooaaaaaGreatDoorDrawQ
namespace Go.Proofs.YtknppcgoooaaaaaGreatDoor
open Go.ChangeShapes Go.WideShapes Go.ChangeAt Go.RowKit Go.Deep
set_option linter.unusedVariables false

theorem l14DrawTangent_d (q m : Nat) (w : World) (h : SrcP w q m) (hm : m ≤ 1000000000) :
    Calls Tryz.prog 36 #[.pointer (some ⟨q, 0, none⟩)] w fun e w' => (∃ x : Int, e = .returned (.int .i64 x) ∧ 0 ≤ x ∧ x ≤ 3001) ∧ SrcP w' q (m + 4) ∧ w.grownBy w' (some q) := by
  have HH := Lib.hid h
  clear h
  go_enter Tryz.func36, Tryz.ntmps36
  go_wp2_with fail
  refine (one_p _ _ 9 _ HH.out (by omega) (by omega)).mono ?_
  rintro e w1 ⟨⟨b, rfl⟩, hs1, hg1⟩
  have H1 := Lib.hid (And.intro hs1 hg1)
  clear hs1 hg1
  cases b
  · go_wp2_with fail
    refine (pick_p _ _ _ _ H1.out.1 (by omega) (by omega)).mono ?_
    rintro e w2 ⟨⟨x, rfl, hx1, hx2⟩, hs2, hg2⟩
    have hx3 : x ≤ 60 := by omega
    have H2 := Lib.hid (And.intro hs2 (H1.out.2.trans hg2))
    clear hs2 hg2 hx2
    go_wp2_with fail
    go_ret
    exact ⟨⟨_, rfl, by omega, by omega⟩, H2.out.1, H2.out.2⟩
  · go_wp2_with fail
    refine (among_lit _ _ [0, 1, 3000, 3001] _ _ _ _ _ H1.out.1 (by omega) rfl rfl (by decide) (by decide) (by decide)).mono ?_
    rintro e w2 ⟨⟨x, hx, rfl⟩, hs2, hg2⟩
    have hx3 : 0 ≤ x ∧ x ≤ 3001 := by
      simp only [List.mem_cons, List.not_mem_nil, or_false] at hx
      omega
    have H2 := Lib.hid (And.intro hs2 (H1.out.2.trans hg2))
    clear hs2 hg2 hx
    go_wp2_with fail
    go_ret
    exact ⟨⟨x, rfl, hx3.1, hx3.2⟩, H2.out.1, H2.out.2⟩
/-- A draw that gives a path and a tangent. -/
def PathTan (e : Ending) (w' : World) : Prop := ∃ A m c ps, ∃ d : Int, e = .returned (.tuple #[.slice A m c, .int .i64 d]) ∧ Pts w' A m ps ∧ (0 ≤ d ∧ d ≤ 3001)
set_option maxRecDepth 100000 in
theorem DrawStopOf_d (A : Option Addr) (n c : Nat) (w : World) (h : Byts w A n) :
    Calls Tryz.prog 6 #[.slice A n c] w fun e w' => PathTan e w' ∧ Below w.heap.size w w' := by
  have HH := Lib.hid h
  clear h
  go_enter Tryz.func6, Tryz.ntmps6
  go_wp2_with fail
  refine (from_p _ _ _ _ HH.out).mono ?_
  rintro e w1 ⟨rfl, hs1, hb1⟩
  have hq1 := hs1.lt
  have H1 := Lib.hid (And.intro hs1 hb1)
  clear hs1 hb1
  go_wp2_with fail
  refine (l14Draw_d _ _ _ H1.out.1 (by omega)).mono ?_
  rintro e w2 ⟨⟨A2, n2, c2, ps, rfl, hbag, hn1, hn2⟩, hs2, hg2⟩
  have H2 := Lib.hid (And.intro hs2 (And.intro (H1.out.2.grown hg2 H1.out.2.size (fun k hk => by injection hk with e; omega)) hbag))
  clear hs2 hg2 hbag
  go_wp2_with fail
  refine (l14DrawTangent_d _ _ _ H2.out.1 (by omega)).mono ?_
  rintro e w3 ⟨⟨d, rfl, hd1, hd2⟩, hs3, hg3⟩
  have H3 := Lib.hid (And.intro (H2.out.2.1.grown hg3 H2.out.2.1.size (fun k hk => by injection hk with e; omega)) (H2.out.2.2.src hg3 hq1))
  clear hs3 hg3
  go_wp2_with fail
  go_ret2
  exact ⟨⟨A2, n2, c2, ps, d, rfl, H3.out.2.pts (by omega), hd1, hd2⟩, H3.out.1⟩
/-- A draw that gives a path, a tangent and a distance. -/
def PathTanD (e : Ending) (w' : World) : Prop := ∃ A m c ps, ∃ a b : Int, e = .returned (.tuple #[.slice A m c, .int .i64 a, .int .i64 b]) ∧ Pts w' A m ps ∧ (0 ≤ a ∧ a ≤ 3001) ∧ (-30000 ≤ b ∧ b ≤ 30001)
set_option maxRecDepth 100000 in
theorem DrawSpeedAt_d (A : Option Addr) (n c : Nat) (w : World) (h : Byts w A n) :
    Calls Tryz.prog 16 #[.slice A n c] w fun e w' => PathTanD e w' ∧ Below w.heap.size w w' := by
  have HH := Lib.hid h
  clear h
  go_enter Tryz.func16, Tryz.ntmps16
  go_wp2_with fail
  refine (from_p _ _ _ _ HH.out).mono ?_
  rintro e w1 ⟨rfl, hs1, hb1⟩
  have hq1 := hs1.lt
  have H1 := Lib.hid (And.intro hs1 hb1)
  clear hs1 hb1
  go_wp2_with fail
  refine (l14Draw_d _ _ _ H1.out.1 (by omega)).mono ?_
  rintro e w2 ⟨⟨A2, n2, c2, ps, rfl, hbag, hn1, hn2⟩, hs2, hg2⟩
  have H2 := Lib.hid (And.intro hs2 (And.intro (H1.out.2.grown hg2 H1.out.2.size (fun k hk => by injection hk with e; omega)) hbag))
  clear hs2 hg2 hbag
  go_wp2_with fail
  refine (l14DrawTangent_d _ _ _ H2.out.1 (by omega)).mono ?_
  rintro e w3 ⟨⟨a, rfl, ha1, ha2⟩, hs3, hg3⟩
  have H3 := Lib.hid (And.intro hs3 (And.intro (H2.out.2.1.grown hg3 H2.out.2.1.size (fun k hk => by injection hk with e; omega)) (H2.out.2.2.src hg3 hq1)))
  clear hs3 hg3
  go_wp2_with fail
  refine (l14DrawDistance_d _ _ _ _ _ _ _ _ H3.out.1 (by omega) H3.out.2.2 hn1 hn2 hq1).mono ?_
  rintro e w4 ⟨⟨b, rfl, hb1, hb2⟩, hs4, hg4⟩
  have H4 := Lib.hid (And.intro (H3.out.2.1.grown hg4 H3.out.2.1.size (fun k hk => by injection hk with e; omega)) (H3.out.2.2.src hg4 hq1))
  clear hs4 hg4
  go_wp2_with fail
  go_ret3
  exact ⟨⟨A2, n2, c2, ps, a, b, rfl, H4.out.2.pts (by omega), ⟨ha1, ha2⟩, hb1, hb2⟩, H4.out.1⟩
end Go.Proofs.YtknppcgoooaaaaaGreatDoor
