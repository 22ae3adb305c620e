/-
  The contracts of the codes of cells, of areas, both sides.
-/
import Derived.Test.YtknppcgoooaaaaaGridV
import Derived.Test.YtknppcgoooaaaaaGridR
namespace Go.Proofs.Ytknppcgoooaaaaa
open Go.ChangeShapes Go.WideShapes Go.ChangeAt Go.RowKit Go.Deep
set_option linter.unusedVariables false

set_option maxRecDepth 100000 in
theorem increasing_any (A : Option Addr) (n c : Nat) (xs : List Int) (w : World) (h : Ints w A n xs) :
    Calls Try.prog 28 #[.slice A n c] w fun e w' => e = .returned (.bool (incB xs)) ∧ ∃ q, w' = w.drewN q := by
  have HL := Lib.hid h.1
  have hn := h.2.1
  go_enter Try.func28, Try.ntmps28
  go_wp2_with fail
  go_loopw [3] (fun i wr => ∃ k q : Nat, 1 ≤ k ∧ (k ≤ n ∨ k = 1) ∧ i = .int .i64 k ∧ wr = w.drewN q ∧ Hid (∀ (j : Nat) (x y : Int), j + 1 < k → xs[j]? = some x → xs[j + 1]? = some y → x < y)) (fun i _ => n - (intOf i).toNat)
  case atStart => exact ⟨1, 0, by omega, .inr rfl, rfl, rfl, fun j x y hj => absurd hj (by omega)⟩
  case round =>
    obtain ⟨k, q, hk1, hk, rfl, rfl, HK⟩ := hrel
    by_cases hlt : k < n
    · obtain ⟨b, off, y, rfl, HY, hc, hy1, hy2⟩ := h.at_ hlt
      obtain ⟨b', off', x, hA, HX, hc', hx1, hx2⟩ := h.at_ (k := k - 1) (by omega)
      injection hA with hA
      injection hA with hb ho _
      subst hb ho
      have hki : (k : Int) < (n : Int) := by omega
      have hw1 : IntKind.i64.wrap ((k : Int) - 1) = (k : Int) - 1 := IntWalk.i64_in _ (by omega)
      have e1 : ((k : Int) - 1).toNat = k - 1 := by omega
      have e2 : (0 : Int) ≤ (k : Int) - 1 := by omega
      have e2' : (1 : Int) ≤ (k : Int) := by omega
      have e3 : (k : Int) - 1 < (n : Int) := by omega
      by_cases hxy : y ≤ x
      · have HN := Lib.hid (incB_no HX.out (by rw [show k - 1 + 1 = k by omega]; exact HY.out) hxy)
        go_wp2_with fail
        go_quiet (fail)
        go_wp2_with fail
        go_ret
        exact ⟨ret_bool (by rw [HN.out]), _, World.drewN_drewN ..⟩
      · go_wp2_with fail
        go_quiet (fail)
        clear hw1 e1 e2 e2' e3
        go_wp2_with fail
        go_roundw
        case rel => exact ⟨k + 1, _, by omega, .inl (by omega), by go_num, rfl, fun j u v hj hu hv => by
          by_cases e : j + 1 = k
          · obtain rfl : j = k - 1 := by omega
            have a := HX.out.symm.trans hu
            rw [show k - 1 + 1 = k by omega] at hv
            have b := HY.out.symm.trans hv
            injection a with a
            injection b with b
            omega
          · exact HK.out j u v (by omega) hu hv⟩
        case measure => simp [intOf]; omega
    · have HI := Lib.hid (show incB xs = true from incB_iff.2 fun j x y hx hy => HK.out j x y (by
        have := (List.getElem?_eq_some_iff.1 hy).1
        rw [HL.out] at this
        omega) hx hy)
      go_wp2_with fail
      go_ret
      exact ⟨ret_bool (by rw [HI.out]), _, rfl⟩
set_option maxRecDepth 100000 in
theorem hasCells_any (R C S : Int) (A : Option Addr) (n c : Nat) (B : Option Addr) (m d : Nat) (hs xs : List Int) (w : World) (h : GridA w R C S A n hs) (h' : Ints w B m xs) :
    Calls Try.prog 36 #[.agg #[.int .i64 R, .int .i64 C, .int .i64 S, .slice A n c], .slice B m d] w fun e w' => e = .returned (.bool (risesB xs 0 ((n : Int) - 1))) ∧ Below w.heap.size w w' := by
  have hn := h.1.2.1
  have B0 := (Below.refl w.heap.size w).alloc (Nat.le_refl _) (.cells #[.int .i64 R, .int .i64 C, .int .i64 S, .slice A n c] 26)
  have HI := Lib.hid (And.intro (h'.below B0) B0)
  clear h h' B0
  cases hi : incB xs
  · have HE := Lib.hid (show risesB xs 0 ((n : Int) - 1) = false by simp [risesB, hi])
    have HX := Lib.hid hi
    clear hi
    go_enter Try.func36, Try.ntmps36
    go_wp2_with fail
    refine (increasing_any _ _ _ xs _ HI.out.1).mono ?_
    rintro e w1 ⟨rfl, q, rfl⟩
    rw [HX.out]
    go_wp2_with fail
    go_ret
    exact ⟨ret_bool (by rw [HE.out]), below_drewN HI.out.2 _⟩
  · have HE := Lib.hid (show risesB xs 0 ((n : Int) - 1) = allB xs 0 ((n : Int) - 1) by simp [risesB, hi])
    have HX := Lib.hid hi
    clear hi
    go_enter Try.func36, Try.ntmps36
    go_wp2_with fail
    refine (increasing_any _ _ _ xs _ HI.out.1).mono ?_
    rintro e w1 ⟨rfl, q, rfl⟩
    rw [HX.out]
    go_wp2_with fail
    refine (allWithin_any _ _ _ _ _ xs _ (HI.out.1.drewN q)).mono ?_
    rintro e w2 ⟨rfl, hb2⟩
    have HB := Lib.hid hb2
    clear hb2
    go_wp2_with fail
    go_ret
    exact ⟨ret_bool (by rw [HE.out]), (below_drewN HI.out.2 _).trans (HB.out.mono (by simp))⟩
set_option maxRecDepth 100000 in
theorem cellsCode_any (R C S : Int) (A : Option Addr) (n c : Nat) (B : Option Addr) (m d : Nat) (hs xs : List Int) (w : World) (h : GridA w R C S A n hs) (h' : Ints w B m xs) :
    Calls Try.prog 21 #[.agg #[.int .i64 R, .int .i64 C, .int .i64 S, .slice A n c], .slice B m d] w fun e w' => e = .returned (.int .i64 (cellsC R C S hs xs)) ∧ Below w.heap.size w w' := by
  have hl := h.1.1
  have B0 := (Below.refl w.heap.size w).alloc (Nat.le_refl _) (.cells #[.int .i64 R, .int .i64 C, .int .i64 S, .slice A n c] 26)
  have HI := Lib.hid (And.intro (h.below B0) (And.intro (h'.below B0) (And.intro B0 (boxG_of w R C S A n c 26))))
  clear h h' B0
  cases hv : gridOk R C S hs
  · have HE := Lib.hid (show cellsC R C S hs xs = 1 by simp [cellsC, hv])
    have HX := Lib.hid hv
    have HL := Lib.hid hl
    clear hv hl
    go_enter Try.func21, Try.ntmps21
    go_wp2_with fail
    refine (ValidGrid_i _ _ _ _ _ _ hs _ HI.out.1).mono ?_
    rintro e w1 ⟨rfl, hb1⟩
    have HB := Lib.hid hb1
    clear hb1
    rw [HX.out]
    go_wp2_with fail
    go_ret
    exact ⟨ret_int (by rw [HE.out]), HI.out.2.2.1.trans (HB.out.mono (by simp))⟩
  · have HX := Lib.hid hv
    have hrc := (gridOk_iff.1 hv).2.2.2.1
    rw [hl] at hrc
    have HR := Lib.hid (show cellsC R C S hs xs = if risesB xs 0 ((n : Int) - 1) = true then 0 else 7 by simp [cellsC, hv, hrc])
    clear hv hl hrc
    cases hr : risesB xs 0 ((n : Int) - 1)
    all_goals
      have HE := Lib.hid (HR.out.trans (by rw [hr]))
      have HY := Lib.hid hr
      clear hr
      go_enter Try.func21, Try.ntmps21
      go_wp2_with fail
      refine (ValidGrid_i _ _ _ _ _ _ hs _ HI.out.1).mono ?_
      rintro e w1 ⟨rfl, hb1⟩
      have HB := Lib.hid hb1
      clear hb1
      rw [HX.out]
      obtain ⟨p0, p1, p2, p3⟩ := HI.out.2.2.2.below HB.out
      go_wp2_with fail
      clear p0 p1 p2 p3
      refine (hasCells_any _ _ _ _ _ _ _ _ _ hs xs _ (HI.out.1.below HB.out) (HI.out.2.1.below HB.out)).mono ?_
      rintro e w2 ⟨rfl, hb2⟩
      have HB2 := Lib.hid hb2
      clear hb2
      rw [HY.out]
      go_wp2_with fail
      go_ret
      exact ⟨ret_int (by rw [HE.out]; rfl), (HI.out.2.2.1.trans (HB.out.mono (by simp))).trans (HB2.out.mono (HI.out.2.2.1.trans (HB.out.mono (by simp))).size)⟩
def areaV (R C S : Int) (hs xs : List Int) : Int := if cellsC R C S hs xs = 0 then (xs.length : Int) * S * S else 0
set_option maxRecDepth 100000 in
theorem AreaOf_i (R C S : Int) (A : Option Addr) (n c : Nat) (B : Option Addr) (m d : Nat) (hs xs : List Int) (w : World) (h : GridA w R C S A n hs) (h' : Ints w B m xs) :
    Calls Try.prog 9 #[.agg #[.int .i64 R, .int .i64 C, .int .i64 S, .slice A n c], .slice B m d] w fun e w' => e = .returned (.tuple #[.int .i64 (areaV R C S hs xs), .int .i64 (cellsC R C S hs xs)]) ∧ Below w.heap.size w w' := by
  have hl := h'.1
  have B0 := (Below.refl w.heap.size w).alloc (Nat.le_refl _) (.cells #[.int .i64 R, .int .i64 C, .int .i64 S, .slice A n c] 26)
  have HI := Lib.hid (And.intro (h.below B0) (And.intro (h'.below B0) (And.intro B0 (boxG_of w R C S A n c 26))))
  clear h h' B0
  have hcb := cellsC_bd R C S hs xs
  obtain ⟨K, hK⟩ : ∃ K, K = cellsC R C S hs xs := ⟨_, rfl⟩
  rw [← hK] at hcb ⊢
  by_cases h0 : K = 0
  · have hc0 := cellsC_ok (hK.symm.trans h0)
    obtain ⟨⟨r1, r2⟩, ⟨c1, c2⟩, ⟨s1, s2⟩, _⟩ := gridOk_iff.1 hc0.1
    have hm := mul64 r1 r2 c1 c2
    have hle := rises_len hc0.2 (by omega)
    rw [hl] at hle
    have HE := Lib.hid (show areaV R C S hs xs = (m : Int) * S * S by unfold areaV; rw [← hK, if_pos h0, hl])
    have m1 : 0 ≤ (m : Int) * S := Int.mul_nonneg (by omega) (by omega)
    have m2 : (m : Int) * S ≤ 64 * 100 := Int.mul_le_mul (by omega) s2 (by omega) (by omega)
    have m3 : 0 ≤ (m : Int) * S * S := Int.mul_nonneg m1 (by omega)
    have m4 : (m : Int) * S * S ≤ 6400 * 100 := Int.mul_le_mul m2 s2 (by omega) (by omega)
    have HK := Lib.hid hK
    have HL := Lib.hid hl
    subst h0
    clear hK hl hc0 hcb
    go_enter Try.func9, Try.ntmps9
    go_wp2_with fail
    refine (cellsCode_any _ _ _ _ _ _ _ _ _ hs xs _ HI.out.1 HI.out.2.1).mono ?_
    rintro e w1 ⟨rfl, hb1⟩
    have HB := Lib.hid hb1
    clear hb1
    rw [← HK.out]
    obtain ⟨p0, p1, p2, p3⟩ := HI.out.2.2.2.below HB.out
    go_wp2_with fail
    go_ret2
    exact ⟨ret_int2 (by rw [HE.out]) rfl, HI.out.2.2.1.trans (HB.out.mono (by simp))⟩
  · have HE := Lib.hid (show areaV R C S hs xs = 0 by unfold areaV; rw [← hK, if_neg h0])
    have hd : (K != 0) = true := by simp [h0]
    have hd2 : (K == 0) = false := by simp [h0]
    have HK := Lib.hid hK
    have HL := Lib.hid hl
    clear hK hl
    go_enter Try.func9, Try.ntmps9
    go_wp2_with fail
    refine (cellsCode_any _ _ _ _ _ _ _ _ _ hs xs _ HI.out.1 HI.out.2.1).mono ?_
    rintro e w1 ⟨rfl, hb1⟩
    have HB := Lib.hid hb1
    clear hb1
    rw [← HK.out]
    go_wp2_with fail
    go_ret2
    exact ⟨ret_int2 (by rw [HE.out]) rfl, HI.out.2.2.1.trans (HB.out.mono (by simp))⟩
end Go.Proofs.Ytknppcgoooaaaaa
