/-
  Proves: for every input the law FnVolumes returns true, and its arguments read as before. No condition.
-/
import Derived.Test.YtbakmcjngadebaaLift
import Derived.Test.YtbakmcjngadebaaDrawV
import Derived.Test.YtbakmcjngadebaaVolM
namespace Go.Proofs.Ytbakmcjngadebaa.fnVolumes
open Go.ChangeShapes Go.WideShapes Go.ChangeAt Go.RowKit Go.Deep
set_option linter.unusedVariables false

theorem b10Abs_any (n : Int) (w : World) (h : -9223372036854775807 ≤ n ∧ n ≤ 9223372036854775807) :
    Calls Try.prog 48 #[.int .i64 n] w fun e w' => e = .returned (.int .i64 (absI n)) ∧ w = w' := by
  by_cases hn : n < 0
  · go_enter Try.func48, Try.ntmps48
    go_wp2
    go_ret
    exact ⟨ret_int (by unfold absI; rw [if_pos hn]), rfl⟩
  · go_enter Try.func48, Try.ntmps48
    go_wp2
    go_ret
    exact ⟨ret_int (by unfold absI; rw [if_neg (by omega)]), rfl⟩
/-- A number below m that a byte chooses. -/
theorem b10At_any (A : Option Addr) (n c : Nat) (m : Int) (w : World) (h : Byts w A n) (hm : 1 ≤ m) (hm2 : m ≤ 1000000000000) :
    Calls Try.prog 46 #[.slice A n c, .int .i64 0, .int .i64 m] w fun e w' => (∃ x : Int, e = .returned (.int .i64 x) ∧ 0 ≤ x ∧ x < m) ∧ w = w' := by
  have hn := h.1
  by_cases h1 : m ≤ 1
  · go_enter Try.func46, Try.ntmps46
    go_wp2
    go_ret
    exact ⟨⟨0, rfl, by omega, by omega⟩, rfl⟩
  · by_cases h0 : 0 < n
    · obtain ⟨b, off, x, rfl, hc, hx1, hx2⟩ := h.at_ h0
      have hmd := mod_bd (x := x) (m := m) hx1 (by omega)
      have h0i : (0 : Int) < (n : Int) := by omega
      rw [Nat.add_zero] at hc
      clear h
      go_enter Try.func46, Try.ntmps46
      go_wp2
      go_ret
      exact ⟨⟨_, rfl, hmd.1, hmd.2⟩, rfl⟩
    · have hmd := mod_bd (x := 11) (m := m) (by omega) (by omega)
      obtain rfl : n = 0 := by omega
      clear h
      go_enter Try.func46, Try.ntmps46
      go_wp2
      go_ret
      exact ⟨⟨_, rfl, hmd.1, hmd.2⟩, rfl⟩
theorem absI_le {n m : Int} (h1 : n ≤ m) (h2 : -m ≤ n) : absI n ≤ m := by
  unfold absI
  split <;> omega
set_option maxRecDepth 100000 in
set_option maxHeartbeats 4000000 in
theorem walk (A0 : Option Addr) (n0 c0 : Nat) (z0 : Unit) (A1 : Option Addr) (n1 c1 : Nat) (z1 : Unit) (w : World) (h0 : Byts w A0 n0) (h1 : Byts w A1 n1) :
    Calls Try.prog 12 #[.slice A0 n0 c0, .slice A1 n1 c1] w fun e w' => e = .returned (.bool true) ∧ Below w.heap.size w w' := by
  have hm0 := h0.1
  have hm1 := h1.1
  by_cases hn0 : n0 ≤ 1048576
  rotate_left
  · have hd : decide (1048576 < n0) = true := by simp; omega
    go_enter Try.func12, Try.ntmps12
    go_wp2_with (go_at_call 43; refine (b10Long_any _ _ _ _ hm0).mono ?_; rintro e w' ⟨rfl, rfl⟩)
    go_ret
    exact ⟨rfl, Below.refl _ _⟩
  by_cases hn1 : n1 ≤ 1048576
  rotate_left
  · have hd0 : decide (1048576 < n0) = false := by simp; omega
    have hd : decide (1048576 < n1) = true := by simp; omega
    go_enter Try.func12, Try.ntmps12
    go_wp2_with (go_at_call 43; refine (b10Long_any _ _ _ _ (by omega)).mono ?_; rintro e w' ⟨rfl, rfl⟩)
    go_ret
    exact ⟨rfl, Below.refl _ _⟩
  have hd0 : decide (1048576 < n0) = false := by simp; omega
  have hd1 : decide (1048576 < n1) = false := by simp; omega
  have HH := Lib.hid (And.intro h0 h1)
  clear h0 h1
  go_enter Try.func12, Try.ntmps12
  go_wp2_with (go_at_call 43; refine (b10Long_any _ _ _ _ (by omega)).mono ?_; rintro e w' ⟨rfl, rfl⟩)
  refine (DrawSlabTonnes_d _ _ _ _ HH.out.1).mono ?_
  rintro e w1 ⟨⟨s, d, r, rfl, hs, hd, hr⟩, hb1⟩
  have HB1 := Lib.hid hb1
  clear hb1
  have hcase : (inB s 0 1000000 && inB d 0 1000 && inB r 1 1000) = true ∨ (inB s 0 1000000 && inB d 0 1000 && inB r 1 1000) = false := by cases (inB s 0 1000000 && inB d 0 1000 && inB r 1 1000) <;> simp
  rcases hcase with hok | hno
  rotate_left
  · have HT := Lib.hid (show tonA s d r = 0 ∧ tonC s d r = 2 by rw [tonA, tonC, if_neg (by rw [hno]; simp), if_neg (by rw [hno]; simp)]; exact ⟨rfl, rfl⟩)
    clear hno
    go_wp2_with fail
    refine (SlabTonnes_i s d r _).mono ?_
    rintro e w2 ⟨rfl, q2, rfl⟩
    rw [HT.out.1, HT.out.2]
    have HB := Lib.hid (below_drewN HB1.out q2)
    go_wp2_with fail
    refine (DrawSplitTonnes_d _ _ _ _ (HH.out.2.below HB.out)).mono ?_
    rintro e wa ⟨⟨t, A', m, c', ws, rfl, ht, hws, hm65, hwb⟩, hba⟩
    have HBA := Lib.hid (HB.out.trans (hba.mono HB.out.size))
    have HL := Lib.hid hws.1
    obtain ⟨Y, hY⟩ : ∃ Y, Y = splitR t ws m := ⟨_, rfl⟩
    have HY := Lib.hid hY
    have OK := Lib.hid (splitR_ok t ws HL.out)
    rw [← hY] at OK
    have hYl := OK.out.2
    clear hY hba
    go_wp2_with fail
    refine (SplitTonnes_i t A' m c' ws _ hws).mono ?_
    rintro e wb ⟨A2, c2, rfl, hf2, hb2⟩
    rw [← HY.out] at hf2 ⊢
    have HBB2 := Lib.hid (HBA.out.trans (hb2.mono HBA.out.size))
    have HI2 := Lib.hid (hf2.ints OK.out.1)
    clear hf2 hb2 hws
    by_cases hc : splitC t ws = 0
    · obtain ⟨j1, j2, j3, j4⟩ := split_kept HL.out hc
      rw [← HY.out] at j1 j2 j4
      have HJ := Lib.hid (show joinV Y = t ∧ joinS Y = cls t ∧ joinC Y = 0 by
        have e1 : (joinK Y && inB Y.sum 0 100000000) = true := by rw [j1, j2, j3]; rfl
        rw [joinV, joinS, joinC, if_pos e1, if_pos e1, if_pos j1, j2, if_pos j3]
        exact ⟨rfl, rfl, rfl⟩)
      have HSZ := Lib.hid (show sizeA t = cls t ∧ sizeC t = 0 by rw [sizeA, sizeC, if_pos j3, if_pos j3]; exact ⟨rfl, rfl⟩)
      have HC := Lib.hid hc
      have HLY := Lib.hid j4
      clear j1 j2 j3 j4 hc
      rw [HC.out]
      go_wp2_with fail
      refine (JoinTonnes_i _ _ _ Y _ HI2.out).mono ?_
      rintro e wc ⟨rfl, hb3⟩
      rw [HJ.out.1, HJ.out.2.1, HJ.out.2.2]
      have HF := Lib.hid (HBB2.out.trans (hb3.mono HBB2.out.size))
      clear hb3
      rw [HLY.out]
      go_wp2_with fail
      refine (SizeClass_i t _).mono ?_
      rintro e wd ⟨rfl, rfl⟩
      rw [HSZ.out.1, HSZ.out.2]
      generalize cls t = ct
      go_wp2_with fail
      go_ret
      exact ⟨rfl, HF.out⟩
    · have HYN := Lib.hid (show Y = [] by rw [HY.out, splitR, if_neg hc])
      have hc2 : splitC t ws ≠ 0 := hc
      generalize splitC t ws = sc at hc hc2 ⊢
      rw [HYN.out]
      go_wp2_with fail
      go_ret
      exact ⟨rfl, HBB2.out⟩
  have hok2 := hok
  simp only [Bool.and_eq_true, inB_iff] at hok2
  obtain ⟨⟨ks, kd⟩, kr⟩ := hok2
  have HX : ∀ p : Int, 0 ≤ p → p ≤ s → tonA p d r = divN (p * d * r) 100000 ∧ tonC p d r = 0 ∧ 0 ≤ divN (p * d * r) 100000 ∧ divN (p * d * r) 100000 ≤ 10000001 := by
    intro p hp hps
    have e : (inB p 0 1000000 && inB d 0 1000 && inB r 1 1000) = true := by simp only [Bool.and_eq_true, inB_iff]; omega
    have m1 := mul_bd hp (show p ≤ 1000000 by omega) kd.1 kd.2
    have m2 := mul_bd m1.1 m1.2 (show 0 ≤ r by omega) kr.2
    have m3 := divN_lo (a := p * d * r) (b := 100000) m2.1 (by omega)
    have m4 := divN_le (p * d * r) 100000 m2.1 (by omega)
    exact ⟨by rw [tonA, if_pos e], by rw [tonC, if_pos e], m4.1, by omega⟩
  have HX := Lib.hid HX
  have hMx := HX.out s ks.1 (Int.le_refl _)
  obtain ⟨M, hM⟩ : ∃ M, M = divN (s * d * r) 100000 := ⟨_, rfl⟩
  rw [← hM] at hMx
  have HM := Lib.hid (And.intro hM (And.intro hMx.1 hMx.2.1))
  have hMb := hMx.2.2
  clear hMx hM hok
  go_wp2_with fail
  refine (SlabTonnes_i s d r _).mono ?_
  rintro e w2 ⟨rfl, q2, rfl⟩
  rw [HM.out.2.1, HM.out.2.2]
  have HB2 := Lib.hid (below_drewN HB1.out q2)
  go_wp2_with fail
  refine (b10At_any _ _ _ _ _ (HH.out.2.below HB2.out) (by omega) (by omega)).mono ?_
  rintro e w3 ⟨⟨p, rfl, hp1, hp2⟩, rfl⟩
  obtain ⟨a, ha⟩ : ∃ a, a = divN (p * d * r) 100000 := ⟨_, rfl⟩
  obtain ⟨b, hb⟩ : ∃ b, b = divN ((s - p) * d * r) 100000 := ⟨_, rfl⟩
  have hpa := HX.out p hp1 (by omega)
  have hpb := HX.out (s - p) (by omega) (by omega)
  have hsum := slab_parts hp1 (show p ≤ s by omega) kd.1 (show 0 ≤ r by omega)
  rw [← ha] at hpa hsum
  rw [← hb] at hpb hsum
  rw [← HM.out.1] at hsum
  have HA := Lib.hid (And.intro hpa.1 hpa.2.1)
  have HBB := Lib.hid (And.intro hpb.1 hpb.2.1)
  have hpa2 := hpa.2.2
  have hpb2 := hpb.2.2
  have habs := absI_le hsum.1 (by omega)
  clear hpa hpb ha hb
  go_wp2_with fail
  refine (SlabTonnes_i p d r _).mono ?_
  rintro e w4 ⟨rfl, q4, rfl⟩
  rw [HA.out.1, HA.out.2]
  go_wp2_with fail
  refine (SlabTonnes_i (s - p) d r _).mono ?_
  rintro e w5 ⟨rfl, q5, rfl⟩
  rw [HBB.out.1, HBB.out.2]
  obtain ⟨v, hv⟩ : ∃ v, v = divN (s * d) 100 := ⟨_, rfl⟩
  have hv0 : 0 ≤ v := by
    rw [hv]
    exact (divN_le _ _ (Int.mul_nonneg ks.1 kd.1) (by omega)).1
  have e2 : (inB s 0 1000000 && inB d 0 1000) = true := by simp only [Bool.and_eq_true, inB_iff]; omega
  have HV := Lib.hid (show slabA s d = v ∧ slabC s d = 0 by rw [slabA, slabC, if_pos e2, if_pos e2, hv]; exact ⟨rfl, rfl⟩)
  clear hv e2
  go_wp2_with fail
  refine (SlabVolume_i s d _).mono ?_
  rintro e w6 ⟨rfl, q6, rfl⟩
  rw [HV.out.1, HV.out.2]
  have HB6 := Lib.hid (below_drewN HB1.out (q2 + q4 + q5 + q6))
  obtain ⟨x, hx⟩ : ∃ x, x = cls M := ⟨_, rfl⟩
  obtain ⟨y, hy⟩ : ∃ y, y = cls (M + 1) := ⟨_, rfl⟩
  have hxy := cls_next M
  rw [← hx, ← hy] at hxy
  have hxb : 0 ≤ x ∧ x ≤ 10 := by rw [hx]; unfold cls; (repeat' split) <;> omega
  have HXY := Lib.hid (show (sizeA M = x ∧ sizeC M = 0) ∧ sizeA (M + 1) = y ∧ sizeC (M + 1) = 0 by
    have e1 : inB M 0 100000000 = true := inB_iff.2 (by omega)
    have e2 : inB (M + 1) 0 100000000 = true := inB_iff.2 (by omega)
    rw [sizeA, sizeC, sizeA, sizeC, if_pos e1, if_pos e1, if_pos e2, if_pos e2, hx, hy]
    exact ⟨⟨rfl, rfl⟩, rfl, rfl⟩)
  clear hx hy
  go_wp2_with (go_at_call 48; refine (b10Abs_any _ _ (by omega)).mono ?_; rintro e w' ⟨rfl, rfl⟩)
  refine (SizeClass_i M _).mono ?_
  rintro e w7 ⟨rfl, rfl⟩
  rw [HXY.out.1.1, HXY.out.1.2]
  go_wp2_with fail
  refine (SizeClass_i (M + 1) _).mono ?_
  rintro e w7 ⟨rfl, rfl⟩
  rw [HXY.out.2.1, HXY.out.2.2]
  by_cases hs0 : 0 < s
  · have hback := depth_back (s := s) (d := d) (r := r) (by omega) kd.1 (by omega)
    rw [← HM.out.1] at hback
    have hsr := mul_bd (a := s) (b := r) ks.1 ks.2 (by omega) kr.2
    have hsr1 : 1 ≤ s * r := pos_mul (by omega) (by omega)
    obtain ⟨D, hD⟩ : ∃ D, D = divN (M * 100000) (s * r) := ⟨_, rfl⟩
    rw [← hD] at hback
    have hDb := divN_le (M * 100000) (s * r) (by omega) hsr1
    rw [← hD] at hDb
    have hDs : -2000000000000000000 ≤ (D - d) * s ∧ (D - d) * s ≤ 2000000000000000000 := by
      have a1 := Int.mul_le_mul_of_nonneg_right (show D - d ≤ 1000000200000 by omega) (show 0 ≤ s by omega)
      have a2 := Int.mul_le_mul_of_nonneg_right (show -1000 ≤ D - d by omega) (show 0 ≤ s by omega)
      omega
    have hab2 := absI_le hback.1 hback.2
    have HD := Lib.hid (show depA M s r = D ∧ depC M s r = 0 by
      have e1 : (inB M 0 100000000 && inB s 1 1000000 && inB r 1 1000) = true := by simp only [Bool.and_eq_true, inB_iff]; omega
      rw [depA, depC, if_pos e1, if_pos e1, hD]
      exact ⟨rfl, rfl⟩)
    clear hD
    go_wp2_with fail
    refine (DepositDepth_i M s r _).mono ?_
    rintro e w8 ⟨rfl, q8, rfl⟩
    rw [HD.out.1, HD.out.2]
    have HB := Lib.hid (below_drewN HB1.out (q2 + q4 + q5 + q6 + q8))
    go_wp2_with (go_at_call 48; refine (b10Abs_any _ _ (by omega)).mono ?_; rintro e w' ⟨rfl, rfl⟩)
    refine (DrawSplitTonnes_d _ _ _ _ (HH.out.2.below HB.out)).mono ?_
    rintro e wa ⟨⟨t, A', m, c', ws, rfl, ht, hws, hm65, hwb⟩, hba⟩
    have HBA := Lib.hid (HB.out.trans (hba.mono HB.out.size))
    have HL := Lib.hid hws.1
    obtain ⟨Y, hY⟩ : ∃ Y, Y = splitR t ws m := ⟨_, rfl⟩
    have HY := Lib.hid hY
    have OK := Lib.hid (splitR_ok t ws HL.out)
    rw [← hY] at OK
    have hYl := OK.out.2
    clear hY hba
    go_wp2_with fail
    refine (SplitTonnes_i t A' m c' ws _ hws).mono ?_
    rintro e wb ⟨A2, c2, rfl, hf2, hb2⟩
    rw [← HY.out] at hf2 ⊢
    have HBB2 := Lib.hid (HBA.out.trans (hb2.mono HBA.out.size))
    have HI2 := Lib.hid (hf2.ints OK.out.1)
    clear hf2 hb2 hws
    by_cases hc : splitC t ws = 0
    · obtain ⟨j1, j2, j3, j4⟩ := split_kept HL.out hc
      rw [← HY.out] at j1 j2 j4
      have HJ := Lib.hid (show joinV Y = t ∧ joinS Y = cls t ∧ joinC Y = 0 by
        have e1 : (joinK Y && inB Y.sum 0 100000000) = true := by rw [j1, j2, j3]; rfl
        rw [joinV, joinS, joinC, if_pos e1, if_pos e1, if_pos j1, j2, if_pos j3]
        exact ⟨rfl, rfl, rfl⟩)
      have HSZ := Lib.hid (show sizeA t = cls t ∧ sizeC t = 0 by rw [sizeA, sizeC, if_pos j3, if_pos j3]; exact ⟨rfl, rfl⟩)
      have HC := Lib.hid hc
      have HLY := Lib.hid j4
      clear j1 j2 j3 j4 hc
      rw [HC.out]
      go_wp2_with fail
      refine (JoinTonnes_i _ _ _ Y _ HI2.out).mono ?_
      rintro e wc ⟨rfl, hb3⟩
      rw [HJ.out.1, HJ.out.2.1, HJ.out.2.2]
      have HF := Lib.hid (HBB2.out.trans (hb3.mono HBB2.out.size))
      clear hb3
      rw [HLY.out]
      go_wp2_with fail
      refine (SizeClass_i t _).mono ?_
      rintro e wd ⟨rfl, rfl⟩
      rw [HSZ.out.1, HSZ.out.2]
      generalize cls t = ct
      go_wp2_with fail
      go_ret
      exact ⟨rfl, HF.out⟩
    · have HYN := Lib.hid (show Y = [] by rw [HY.out, splitR, if_neg hc])
      have hc2 : splitC t ws ≠ 0 := hc
      generalize splitC t ws = sc at hc hc2 ⊢
      rw [HYN.out]
      go_wp2_with fail
      go_ret
      exact ⟨rfl, HBB2.out⟩
  · have HB := Lib.hid HB6.out
    go_wp2_with fail
    refine (DrawSplitTonnes_d _ _ _ _ (HH.out.2.below HB.out)).mono ?_
    rintro e wa ⟨⟨t, A', m, c', ws, rfl, ht, hws, hm65, hwb⟩, hba⟩
    have HBA := Lib.hid (HB.out.trans (hba.mono HB.out.size))
    have HL := Lib.hid hws.1
    obtain ⟨Y, hY⟩ : ∃ Y, Y = splitR t ws m := ⟨_, rfl⟩
    have HY := Lib.hid hY
    have OK := Lib.hid (splitR_ok t ws HL.out)
    rw [← hY] at OK
    have hYl := OK.out.2
    clear hY hba
    go_wp2_with fail
    refine (SplitTonnes_i t A' m c' ws _ hws).mono ?_
    rintro e wb ⟨A2, c2, rfl, hf2, hb2⟩
    rw [← HY.out] at hf2 ⊢
    have HBB2 := Lib.hid (HBA.out.trans (hb2.mono HBA.out.size))
    have HI2 := Lib.hid (hf2.ints OK.out.1)
    clear hf2 hb2 hws
    by_cases hc : splitC t ws = 0
    · obtain ⟨j1, j2, j3, j4⟩ := split_kept HL.out hc
      rw [← HY.out] at j1 j2 j4
      have HJ := Lib.hid (show joinV Y = t ∧ joinS Y = cls t ∧ joinC Y = 0 by
        have e1 : (joinK Y && inB Y.sum 0 100000000) = true := by rw [j1, j2, j3]; rfl
        rw [joinV, joinS, joinC, if_pos e1, if_pos e1, if_pos j1, j2, if_pos j3]
        exact ⟨rfl, rfl, rfl⟩)
      have HSZ := Lib.hid (show sizeA t = cls t ∧ sizeC t = 0 by rw [sizeA, sizeC, if_pos j3, if_pos j3]; exact ⟨rfl, rfl⟩)
      have HC := Lib.hid hc
      have HLY := Lib.hid j4
      clear j1 j2 j3 j4 hc
      rw [HC.out]
      go_wp2_with fail
      refine (JoinTonnes_i _ _ _ Y _ HI2.out).mono ?_
      rintro e wc ⟨rfl, hb3⟩
      rw [HJ.out.1, HJ.out.2.1, HJ.out.2.2]
      have HF := Lib.hid (HBB2.out.trans (hb3.mono HBB2.out.size))
      clear hb3
      rw [HLY.out]
      go_wp2_with fail
      refine (SizeClass_i t _).mono ?_
      rintro e wd ⟨rfl, rfl⟩
      rw [HSZ.out.1, HSZ.out.2]
      generalize cls t = ct
      go_wp2_with fail
      go_ret
      exact ⟨rfl, HF.out⟩
    · have HYN := Lib.hid (show Y = [] by rw [HY.out, splitR, if_neg hc])
      have hc2 : splitC t ws ≠ 0 := hc
      generalize splitC t ws = sc at hc hc2 ⊢
      rw [HYN.out]
      go_wp2_with fail
      go_ret
      exact ⟨rfl, HBB2.out⟩

set_option maxRecDepth 100000 in
theorem lifted (os : Os) (started : os.Started) (H : Type) (enc : TypeId × Value → H) :
    ReturnsInHanded {} Try.checked os 12 .any (Rows.fnVolumesSpec.pre6 enc Try.prog Try.f12 Rows.fnVolumesRow.domain false) (Rows.fnVolumesSpec.post enc Try.prog Try.f12 false true false false) := by
  refine returnsInHanded_of_change (C := Try.checked) own started (by kernel_rfl) Try.func12
    (ChangeSpec.witness6 (enc := enc) (C := Try.checked) false ⟨#[], #[.slice none 0 0, .slice none 0 0], []⟩ 8 (by kernel_rfl) (by kernel_rfl) (by kernel_rfl) (by kernel_rfl)) ?_
  intro W base args ds gs before hval0 hW hcnd _
  have hval : ∀ (j : Nat) t v, Try.f12.params[j]? = some t → args[j]? = some v → Value.okWide Try.prog W .any base t v := hval0
  have hW' := hW
  obtain ⟨p, q, hA0, hV, rfl, hfz, hnd⟩ := hW
  have hA : DataW.TrodAll enc Try.prog W 0 (fun _ => true) true Try.f12.params.toList args.toList ds p := hA0
  rw [Try.params12] at hA hval
  obtain ⟨v0, vs0, d0, ds0, p0, q0, hargs, rfl, rfl, h0, r0⟩ := trodAll_cons hA
  obtain ⟨v1, vs1, d1, ds1, p1, q1, rfl, rfl, rfl, h1, r1⟩ := trodAll_cons r0
  obtain ⟨rfl, rfl, rfl⟩ := trodAll_nil r1
  obtain rfl : args = #[v0, v1] := by cases args; simp_all
  obtain ⟨rfl, rfl⟩ := trodVars_none hV
  have k0 := h0
  have lt0 : ∀ x ∈ p0, x.block < W.heap.size := by obtain ⟨m, hm⟩ := k0; exact DataW.trod_lt m _ _ _ hm
  obtain ⟨a0, n0, c0, rfl⟩ := okWide_slice Try.underlying51 (hval 0 51 v0 rfl rfl)
  obtain ⟨z0, w0⟩ := bytes_open Try.underlying51 Try.underlying5 (by kernel_rfl) h0
  have k1 := h1
  have lt1 : ∀ x ∈ p1, x.block < W.heap.size := by obtain ⟨m, hm⟩ := k1; exact DataW.trod_lt m _ _ _ hm
  obtain ⟨a1, n1, c1, rfl⟩ := okWide_slice Try.underlying51 (hval 1 51 v1 rfl rfl)
  obtain ⟨z1, w1⟩ := bytes_open Try.underlying51 Try.underlying5 (by kernel_rfl) h1
  clear hA0 hval0
  refine (walk a0 n0 c0 z0 a1 n1 c1 z1 W w0 w1).mono fun e W' ⟨he, bel⟩ => ?_
  subst he
  exact ⟨_, rfl, _, _, _, [], _, [], hW', trodAll_mk1 (shut_bool Try.underlying4 _), (trodAll_cons_mk (Below.trod laidOut (by kernel_rfl) (of_decide_eq_true (by kernel_rfl)) k0 bel lt0) (trodAll_cons_mk (Below.trod laidOut (by kernel_rfl) (of_decide_eq_true (by kernel_rfl)) k1 bel lt1) trodAll_mk0)), rfl, bel.frame _, fun h => by cases h⟩

theorem over : Rows.fnVolumesRow.holds Try.pinned (OpenSpec.ofChange Rows.fnVolumesSpec) :=
  OpenClaim.holds_of_wide 12 Try.f12 rfl rfl rfl rfl rfl rfl rfl ⟨rfl, rfl, rfl, rfl, rfl⟩ rfl rfl rfl rfl rfl (by kernel_rfl) Try.func12 (by kernel_rfl)
    (of_decide_eq_true (by kernel_rfl)) (by unfold Func.isWrapper; first | (rw [if_pos (by decide +kernel)]; kernel_rfl) | (rw [if_neg (by decide +kernel)]; exact ⟨rfl, rfl⟩))
    (fun os started H enc _ => lifted os started H enc)

/-- The statement. -/
theorem proved : Rows.FnVolumesSaid := over
end Go.Proofs.Ytbakmcjngadebaa.fnVolumes
