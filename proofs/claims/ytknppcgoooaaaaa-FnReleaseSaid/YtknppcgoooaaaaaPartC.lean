/-
  IsConnected, both sides.
-/
import Derived.Test.YtknppcgoooaaaaaPartP
namespace Go.Proofs.Ytknppcgoooaaaaa
open Go.ChangeShapes Go.WideShapes Go.ChangeAt Go.RowKit Go.Deep
set_option linter.unusedVariables false

set_option maxRecDepth 100000 in
theorem IsConnected_i (R C S : Int) (A : Option Addr) (n c : Nat) (B : Option Addr) (m d : Nat) (hs xs : List Int) (w : World) (h : GridA w R C S A n hs) (h' : Ints w B m xs) :
    Calls Try.prog 11 #[.agg #[.int .i64 R, .int .i64 C, .int .i64 S, .slice A n c], .slice B m d] w fun e w' => e = .returned (.bool (connV (cellsC R C S hs xs) R C xs)) ∧ Below w.heap.size w w' := by
  have B0 := (Below.refl w.heap.size w).alloc (Nat.le_refl _) (.cells #[.int .i64 R, .int .i64 C, .int .i64 S, .slice A n c] 26)
  have HI := Lib.hid (And.intro (h.below B0) (And.intro (h'.below B0) (And.intro B0 (boxG_of w R C S A n c 26))))
  clear h h' B0
  have hcb := cellsC_bd R C S hs xs
  obtain ⟨K, hK⟩ : ∃ K, K = cellsC R C S hs xs := ⟨_, rfl⟩
  rw [← hK] at hcb ⊢
  by_cases h0 : K = 0
  · have hc0 := cellsC_ok (hK.symm.trans h0)
    have HC0 := Lib.hid hc0
    obtain ⟨L, hL⟩ : ∃ L, L = (partsF (near R C) xs).length := ⟨_, rfl⟩
    have HE := Lib.hid (show connV K R C xs = decide (L = 1) by rw [connV, hL]; simp [h0])
    have HLE := Lib.hid hL
    have HK := Lib.hid hK
    subst h0
    clear hK hc0 hcb hL
    go_enter Try.func11, Try.ntmps11
    obtain ⟨p0, p1, p2, p3⟩ := HI.out.2.2.2
    go_wp2_with fail
    refine (cellsCode_any _ _ _ _ _ _ _ _ _ hs xs _ HI.out.1 HI.out.2.1).mono ?_
    rintro e w1 ⟨rfl, hb1⟩
    have HB := Lib.hid (And.intro hb1 (HI.out.2.2.1.trans (hb1.mono HI.out.2.2.1.size)))
    clear hb1 p0 p1 p2 p3
    rw [← HK.out]
    obtain ⟨p0, p1, p2, p3⟩ := HI.out.2.2.2.below HB.out.1
    go_wp2_with fail
    refine (parts_i R C S A n c B m d hs xs _ (HI.out.1.below HB.out.1) (HI.out.2.1.below HB.out.1) HC0.out.1 HC0.out.2).mono ?_
    rintro e w2 ⟨o, rfl, hr2, hb2⟩
    obtain ⟨A', c', rfl⟩ : ∃ A' c', o = .slice A' L c' := by
      obtain ⟨cs, f, dd, q1, q2, q3⟩ := hr2
      obtain ⟨A', c', e, _⟩ := own_form q1
      exact ⟨A', c', by rw [HLE.out]; exact e⟩
    have HF := Lib.hid (HB.out.2.trans (hb2.mono HB.out.2.size))
    clear hr2 hb2
    go_wp2_with fail
    go_ret
    exact ⟨ret_bool (by rw [HE.out]; first | rfl | (by_cases hh : L = 1 <;> simp [hh] <;> omega)), HF.out⟩
  · have HE := Lib.hid (show connV K R C xs = false by simp [connV, h0])
    have hd : (K != 0) = true := by simp [h0]
    have hd2 : (K == 0) = false := by simp [h0]
    have HK := Lib.hid hK
    clear hK
    go_enter Try.func11, Try.ntmps11
    go_wp2_with fail
    refine (cellsCode_any _ _ _ _ _ _ _ _ _ hs xs _ HI.out.1 HI.out.2.1).mono ?_
    rintro e w1 ⟨rfl, hb1⟩
    have HB := Lib.hid hb1
    clear hb1
    rw [← HK.out]
    go_wp2_with fail
    go_ret
    exact ⟨ret_bool (by rw [HE.out]), HI.out.2.2.1.trans (HB.out.mono HI.out.2.2.1.size)⟩
end Go.Proofs.Ytknppcgoooaaaaa
