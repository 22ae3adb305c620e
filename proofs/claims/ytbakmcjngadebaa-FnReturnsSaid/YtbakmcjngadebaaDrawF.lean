/-
  The draw of events, a cell and what it is worth.
-/
import Derived.Test.YtbakmcjngadebaaDrawE
namespace Go.Proofs.Ytbakmcjngadebaa
open Go.ChangeShapes Go.WideShapes Go.ChangeAt Go.RowKit Go.Deep
set_option linter.unusedVariables false

def EvNum2 (e : Ending) (w' : World) : Prop := ∃ A n c es, ∃ a v : Int, e = .returned (.tuple #[.slice A n c, .int .i64 a, .int .i64 v]) ∧ Evs w' A n es ∧ n ≤ 9 ∧ (-1 ≤ a ∧ a ≤ 9223372036854775806) ∧ (-1 ≤ v ∧ v ≤ 1000000001)
set_option maxRecDepth 100000 in
set_option maxHeartbeats 2000000 in
theorem DrawRiskOf_d (A : Option Addr) (n c : Nat) (w : World) (h : Byts w A n) :
    Calls Try.prog 58 #[.slice A n c] w fun e w' => EvNum2 e w' ∧ Below w.heap.size w w' := by
  have HH := Lib.hid h
  clear h
  go_enter Try.func58, Try.ntmps58
  go_wp2_with fail
  refine (from_p _ _ _ _ HH.out).mono ?_
  rintro e w1 ⟨rfl, hs1, hb1⟩
  have hq1 := hs1.lt
  have H1 := Lib.hid (And.intro hs1 hb1)
  clear hs1 hb1
  go_wp2_with fail
  refine (l16DrawEvents_d _ _ _ H1.out.1 (by omega)).mono ?_
  rintro e w2 ⟨⟨A2, n2, c2, es, rfl, hev, hn2⟩, hs2, hg2⟩
  have H2 := Lib.hid (And.intro hs2 (And.intro (H1.out.2.grown hg2 H1.out.2.size (fun k hk => by injection hk with e; omega)) hev))
  clear hs2 hg2 hev
  go_wp2_with fail
  refine (pick_p _ _ 9 _ H2.out.1 (by omega) (by omega)).mono ?_
  rintro e w3 ⟨⟨x, rfl, hx1, hx2⟩, hs3, hg3⟩
  have hx3 : x ≤ 8 := by omega
  have HT := Lib.hid (And.intro hs3 (And.intro (H2.out.2.1.grown hg3 H2.out.2.1.size (fun k hk => by injection hk with e; omega)) (H2.out.2.2.src hg3 hq1)))
  clear hs3 hg3 hx2
  by_cases hn0 : n2 = 0
  · have hnp : ¬ 0 < n2 := by omega
    have hnp' : decide (0 < n2) = false := by simp; omega
    clear hn0
    go_wp2_with fail
    refine (among_lit _ _ [0, 1000, 500000, 1000000000, 1000000001, -1] _ _ _ _ _ HT.out.1 (by omega) rfl rfl (by decide) (by decide) (by decide)).mono ?_
    rintro e w8 ⟨⟨v, hv, rfl⟩, hs8, hg8⟩
    have hv3 : -1 ≤ v ∧ v ≤ 1000000001 := by
      simp only [List.mem_cons, List.not_mem_nil, or_false] at hv
      omega
    have H8 := Lib.hid (And.intro (HT.out.2.1.grown hg8 HT.out.2.1.size (fun k hk => by injection hk with e; omega)) ((HT.out.2.2.src hg8 hq1).evs (by omega)))
    clear hs8 hg8 hv
    go_wp2_with fail
    go_ret3
    exact ⟨⟨A2, n2, c2, es, _, v, rfl, H8.out.2, hn2, by omega, hv3⟩, H8.out.1⟩
  · have hnp : 0 < n2 := by omega
    obtain ⟨b, off, y, P, m, d, ps, rfl, HX, hc1, hc2, hy, hp⟩ := (HT.out.2.2.evs (by omega)).at_ hnp
    simp only [Nat.zero_mul, Nat.add_zero] at hc1 hc2
    have hm63 := hp.2.1
    by_cases hm0 : m = 0
    · have hmp : ¬ 0 < m := by omega
      have hmp' : decide (0 < m) = false := by simp; omega
      clear hm0
      go_wp2_with fail
      refine (among_lit _ _ [0, 1000, 500000, 1000000000, 1000000001, -1] _ _ _ _ _ HT.out.1 (by omega) rfl rfl (by decide) (by decide) (by decide)).mono ?_
      rintro e w8 ⟨⟨v, hv, rfl⟩, hs8, hg8⟩
      have hv3 : -1 ≤ v ∧ v ≤ 1000000001 := by
        simp only [List.mem_cons, List.not_mem_nil, or_false] at hv
        omega
      have H8 := Lib.hid (And.intro (HT.out.2.1.grown hg8 HT.out.2.1.size (fun k hk => by injection hk with e; omega)) ((HT.out.2.2.src hg8 hq1).evs (by omega)))
      clear hs8 hg8 hv
      go_wp2_with fail
      go_ret3
      exact ⟨⟨_, n2, c2, es, _, v, rfl, H8.out.2, hn2, by omega, hv3⟩, H8.out.1⟩
    · have hmp : 0 < m := by omega
      have hmp' : decide (0 < m) = true := by simp; omega
      clear hm0
      go_wp2_with fail
      refine (one_p _ _ 5 _ HT.out.1 (by omega) (by omega)).mono ?_
      rintro e w4 ⟨⟨bb, rfl⟩, hs4, hg4⟩
      have HT4 := Lib.hid (And.intro hs4 (And.intro (HT.out.2.1.grown hg4 HT.out.2.1.size (fun k hk => by injection hk with e; omega)) (HT.out.2.2.src hg4 hq1)))
      clear hs4 hg4 hc1 hc2
      cases bb
      · obtain ⟨b', off', y', P', m', d', ps', hAA, HX', hc1, hc2, hy', hp'⟩ := (HT4.out.2.2.evs (by omega)).at_ hnp
        obtain ⟨rfl, rfl⟩ : b = b' ∧ off = off' := by
          injection hAA with hAA
          injection hAA with e1 e2 _
          exact ⟨e1, e2⟩
        simp only [Nat.zero_mul, Nat.add_zero] at hc1 hc2
        have hm63' := hp'.2.1
        clear hAA
        go_wp2_with fail
        refine (pick_p _ _ _ _ HT4.out.1 (by omega) (by omega)).mono ?_
        rintro e w5 ⟨⟨z, rfl, hz1, hz2⟩, hs5, hg5⟩
        have hz3 : z ≤ 9223372036854775806 := by omega
        have HT := Lib.hid (And.intro hs5 (And.intro (HT4.out.2.1.grown hg5 HT4.out.2.1.size (fun k hk => by injection hk with e; omega)) (HT4.out.2.2.src hg5 hq1)))
        clear hs5 hg5 hc1 hc2 hz2
        go_wp2_with fail
        refine (among_lit _ _ [0, 1000, 500000, 1000000000, 1000000001, -1] _ _ _ _ _ HT.out.1 (by omega) rfl rfl (by decide) (by decide) (by decide)).mono ?_
        rintro e w8 ⟨⟨v, hv, rfl⟩, hs8, hg8⟩
        have hv3 : -1 ≤ v ∧ v ≤ 1000000001 := by
          simp only [List.mem_cons, List.not_mem_nil, or_false] at hv
          omega
        have H8 := Lib.hid (And.intro (HT.out.2.1.grown hg8 HT.out.2.1.size (fun k hk => by injection hk with e; omega)) ((HT.out.2.2.src hg8 hq1).evs (by omega)))
        clear hs8 hg8 hv
        go_wp2_with fail
        go_ret3
        exact ⟨⟨_, n2, c2, es, _, v, rfl, H8.out.2, hn2, by omega, hv3⟩, H8.out.1⟩
      · have HT := HT4
        go_wp2_with fail
        refine (among_lit _ _ [0, 1000, 500000, 1000000000, 1000000001, -1] _ _ _ _ _ HT.out.1 (by omega) rfl rfl (by decide) (by decide) (by decide)).mono ?_
        rintro e w8 ⟨⟨v, hv, rfl⟩, hs8, hg8⟩
        have hv3 : -1 ≤ v ∧ v ≤ 1000000001 := by
          simp only [List.mem_cons, List.not_mem_nil, or_false] at hv
          omega
        have H8 := Lib.hid (And.intro (HT.out.2.1.grown hg8 HT.out.2.1.size (fun k hk => by injection hk with e; omega)) ((HT.out.2.2.src hg8 hq1).evs (by omega)))
        clear hs8 hg8 hv
        go_wp2_with fail
        go_ret3
        exact ⟨⟨_, n2, c2, es, _, v, rfl, H8.out.2, hn2, by omega, hv3⟩, H8.out.1⟩
end Go.Proofs.Ytbakmcjngadebaa
