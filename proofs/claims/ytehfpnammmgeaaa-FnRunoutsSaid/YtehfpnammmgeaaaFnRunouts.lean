/-
  Proves: for every input the law FnRunouts returns true, and its arguments read as before. No condition.
-/
import Derived.Test.YtehfpnammmgeaaaLift
import Derived.Test.YtehfpnammmgeaaaDrawQ
import Derived.Test.YtehfpnammmgeaaaRunM
namespace Go.Proofs.Ytehfpnammmgeaaa.fnRunouts
open Go.ChangeShapes Go.WideShapes Go.ChangeAt Go.RowKit Go.Deep
set_option linter.unusedVariables false

theorem b10Div_any (a b : Int) (w : World) (ha : 0 ≤ a) (ha2 : a ≤ 1000000000000000) (hb : 1 ≤ b) (hb2 : b ≤ 1000000000000000) :
    Calls Try.prog 28 #[.int .i64 a, .int .i64 b] w fun e w' => e = .returned (.int .i64 (divN a b)) ∧ w = w' := by
  have hd : divN a b = (2 * a + b) / (2 * b) := by unfold divN; rw [if_neg (by omega)]
  rw [hd]
  clear hd
  have hn : ¬ a < 0 := by omega
  go_enter Try.func28, Try.ntmps28
  go_wp2
  go_ret
  exact ⟨rfl, rfl⟩
set_option maxRecDepth 100000 in
set_option maxHeartbeats 4000000 in
theorem walk (A0 : Option Addr) (n0 c0 : Nat) (z0 : Unit) (A1 : Option Addr) (n1 c1 : Nat) (z1 : Unit) (w : World) (h0 : Byts w A0 n0) (h1 : Byts w A1 n1) :
    Calls Try.prog 4 #[.slice A0 n0 c0, .slice A1 n1 c1] w fun e w' => e = .returned (.bool true) ∧ Below w.heap.size w w' := by
  have hm0 := h0.1
  have hm1 := h1.1
  by_cases hn0 : n0 ≤ 1048576
  rotate_left
  · have hd : decide (1048576 < n0) = true := by simp; omega
    go_enter Try.func4, Try.ntmps4
    go_wp2_with (go_at_call 19; refine (b10Long_any _ _ _ _ hm0).mono ?_; rintro e w' ⟨rfl, rfl⟩)
    go_ret
    exact ⟨rfl, Below.refl _ _⟩
  by_cases hn1 : n1 ≤ 1048576
  rotate_left
  · have hd0 : decide (1048576 < n0) = false := by simp; omega
    have hd : decide (1048576 < n1) = true := by simp; omega
    go_enter Try.func4, Try.ntmps4
    go_wp2_with (go_at_call 19; refine (b10Long_any _ _ _ _ (by omega)).mono ?_; rintro e w' ⟨rfl, rfl⟩)
    go_ret
    exact ⟨rfl, Below.refl _ _⟩
  have hd0 : decide (1048576 < n0) = false := by simp; omega
  have hd1 : decide (1048576 < n1) = false := by simp; omega
  have HH := Lib.hid (And.intro h0 h1)
  clear h0 h1
  go_enter Try.func4, Try.ntmps4
  go_wp2_with (go_at_call 19; refine (b10Long_any _ _ _ _ (by omega)).mono ?_; rintro e w' ⟨rfl, rfl⟩)
  refine (DrawTangentFor_d _ _ _ _ HH.out.1).mono ?_
  rintro e w1 ⟨⟨A2, m, c2, ps, d, rfl, hps, hd⟩, hb1⟩
  have hmm := hps.2.1
  have HP := Lib.hid hps
  have HB1 := Lib.hid hb1
  clear hps hb1
  go_wp2_with fail
  refine (TangentFor_i _ _ _ d ps _ HP.out).mono ?_
  rintro e w2 ⟨rfl, hb2⟩
  have HB2 := Lib.hid (HB1.out.trans (hb2.mono HB1.out.size))
  replace HP := Lib.hid (HP.out.below hb2)
  clear hb2
  by_cases hc : tfC ps d = 0
  rotate_left
  · have HB := Lib.hid HB2.out
    generalize tfC ps d = sc at hc ⊢
    go_wp2_with fail
    refine (DrawRunoutOf_d _ _ _ _ (HH.out.2.below HB.out)).mono ?_
    rintro e wa ⟨⟨A3, m3, c3, qs, a, b, rfl, hqs, ha, hb⟩, hba⟩
    have hm3 := hqs.2.1
    have HL := Lib.hid hqs.1
    have HQ := Lib.hid hqs
    have HBA := Lib.hid (HB.out.trans (hba.mono HB.out.size))
    clear hqs hba
    go_wp2_with fail
    refine (RunoutOf_i _ _ _ a b qs _ HQ.out).mono ?_
    rintro e wb ⟨rfl, hb2⟩
    have HBB := Lib.hid (HBA.out.trans (hb2.mono HBA.out.size))
    replace HQ := Lib.hid (HQ.out.below hb2)
    clear hb2
    go_wp2_with fail
    refine (AlphaOf_i _ _ _ a b qs _ HQ.out).mono ?_
    rintro e wc ⟨rfl, hb3⟩
    have HBC := Lib.hid (HBB.out.trans (hb3.mono HBB.out.size))
    replace HQ := Lib.hid (HQ.out.below hb3)
    clear hb3
    go_wp2_with fail
    refine (BetaPoint_i _ _ _ qs _ HQ.out).mono ?_
    rintro e wd ⟨rfl, hb4⟩
    have HBD := Lib.hid (HBC.out.trans (hb4.mono HBC.out.size))
    replace HQ := Lib.hid (HQ.out.below hb4)
    clear hb4
    by_cases hal : alphaC qs a b = 0
    · obtain ⟨y1, y2, y3, y4, y5, y6, y7, y8, y9, y10⟩ := alpha_yes hal
      rw [y1, y2, y3, hal, y9]
      rw [y9] at y10
      generalize betaA qs = k at y4 y5 y8 y10 ⊢
      have HT := Lib.hid y5
      generalize hbe : tanA qs k = beta at y8 y10 ⊢
      have HBE := Lib.hid hbe
      have hab := mul_bd (a := a) (b := beta) (by omega) y6.2 y8.1 y8.2
      generalize hal2 : divN (a * beta) 1000 = dv at y10 ⊢
      have HDV := Lib.hid hal2
      generalize hx : stopA qs (dv - b) = sa
      generalize hy : stopC qs (dv - b) = sc2
      have HXY := Lib.hid (And.intro hx hy)
      rw [HL.out] at y4
      clear y1 y2 y3 y5 y9 hal hbe hal2 hx hy
      go_wp2_with fail
      refine (TangentOf_s _ _ _ k qs _ HQ.out).mono ?_
      rintro e we ⟨rfl, hb5⟩
      rw [HBE.out, HT.out]
      have HBE5 := Lib.hid (HBD.out.trans (hb5.mono HBD.out.size))
      replace HQ := Lib.hid (HQ.out.below hb5)
      clear hb5
      go_wp2_with fail
      refine (StopOf_i _ _ _ (dv - b) qs _ HQ.out).mono ?_
      rintro e wf ⟨rfl, hb6⟩
      rw [HXY.out.1, HXY.out.2]
      have HF := Lib.hid (HBE5.out.trans (hb6.mono HBE5.out.size))
      clear hb6
      go_wp2_with (go_at_call 28; refine (b10Div_any _ _ _ (by omega) (by omega) (by omega) (by omega)).mono ?_; rintro e w' ⟨rfl, rfl⟩; rw [HDV.out])
      go_ret
      exact ⟨by simp, HF.out⟩
    · obtain ⟨y1, y2, y3⟩ := alpha_no hal
      rw [y1, y2, y3]
      clear y1 y2 y3
      generalize alphaC qs a b = ac at hal ⊢
      generalize betaA qs = k
      generalize betaC qs = kc
      go_wp2_with fail
      go_ret
      exact ⟨by simp, HBD.out⟩
  obtain ⟨⟨t1, t2⟩, j1, j2, j3, j4⟩ := tangent_just hc
  rw [hc]
  generalize tfA ps d = t at t1 t2 j1 j2 j3 j4 ⊢
  generalize hst : stopA ps t = stop at j2 j4
  have HST := Lib.hid (And.intro hst j1)
  clear hst j1 hc
  go_wp2_with fail
  refine (StopOf_i _ _ _ t ps _ HP.out).mono ?_
  rintro e w3 ⟨rfl, hb3⟩
  rw [HST.out.1, HST.out.2]
  have HB3 := Lib.hid (HB2.out.trans (hb3.mono HB2.out.size))
  replace HP := Lib.hid (HP.out.below hb3)
  clear hb3
  go_wp2_with fail
  refine (StopOf_i _ _ _ (t - 1) ps _ HP.out).mono ?_
  rintro e w4 ⟨rfl, hb4⟩
  have HB4 := Lib.hid (HB3.out.trans (hb4.mono HB3.out.size))
  replace HP := Lib.hid (HP.out.below hb4)
  clear hb4
  generalize stopA ps (t - 1) = bf at j3 ⊢
  generalize stopC ps (t - 1) = cb at j3 ⊢
  go_wp2_with fail
  refine (StopOf_i _ _ _ (t + 1) ps _ HP.out).mono ?_
  rintro e w5 ⟨rfl, hb5⟩
  have HB5 := Lib.hid (HB4.out.trans (hb5.mono HB4.out.size))
  clear hb5
  generalize stopA ps (t + 1) = lt at j4 ⊢
  generalize stopC ps (t + 1) = cl at j4 ⊢
  have HB := Lib.hid HB5.out
  by_cases hcb : cb = 0
  · have k3 := j3 hcb
    subst hcb
    clear j3
    by_cases htl : t < 3000
    · obtain ⟨rfl, k4⟩ := j4 htl
      clear j4
      go_wp2_with fail
      refine (DrawRunoutOf_d _ _ _ _ (HH.out.2.below HB.out)).mono ?_
      rintro e wa ⟨⟨A3, m3, c3, qs, a, b, rfl, hqs, ha, hb⟩, hba⟩
      have hm3 := hqs.2.1
      have HL := Lib.hid hqs.1
      have HQ := Lib.hid hqs
      have HBA := Lib.hid (HB.out.trans (hba.mono HB.out.size))
      clear hqs hba
      go_wp2_with fail
      refine (RunoutOf_i _ _ _ a b qs _ HQ.out).mono ?_
      rintro e wb ⟨rfl, hb2⟩
      have HBB := Lib.hid (HBA.out.trans (hb2.mono HBA.out.size))
      replace HQ := Lib.hid (HQ.out.below hb2)
      clear hb2
      go_wp2_with fail
      refine (AlphaOf_i _ _ _ a b qs _ HQ.out).mono ?_
      rintro e wc ⟨rfl, hb3⟩
      have HBC := Lib.hid (HBB.out.trans (hb3.mono HBB.out.size))
      replace HQ := Lib.hid (HQ.out.below hb3)
      clear hb3
      go_wp2_with fail
      refine (BetaPoint_i _ _ _ qs _ HQ.out).mono ?_
      rintro e wd ⟨rfl, hb4⟩
      have HBD := Lib.hid (HBC.out.trans (hb4.mono HBC.out.size))
      replace HQ := Lib.hid (HQ.out.below hb4)
      clear hb4
      by_cases hal : alphaC qs a b = 0
      · obtain ⟨y1, y2, y3, y4, y5, y6, y7, y8, y9, y10⟩ := alpha_yes hal
        rw [y1, y2, y3, hal, y9]
        rw [y9] at y10
        generalize betaA qs = k at y4 y5 y8 y10 ⊢
        have HT := Lib.hid y5
        generalize hbe : tanA qs k = beta at y8 y10 ⊢
        have HBE := Lib.hid hbe
        have hab := mul_bd (a := a) (b := beta) (by omega) y6.2 y8.1 y8.2
        generalize hal2 : divN (a * beta) 1000 = dv at y10 ⊢
        have HDV := Lib.hid hal2
        generalize hx : stopA qs (dv - b) = sa
        generalize hy : stopC qs (dv - b) = sc2
        have HXY := Lib.hid (And.intro hx hy)
        rw [HL.out] at y4
        clear y1 y2 y3 y5 y9 hal hbe hal2 hx hy
        go_wp2_with fail
        refine (TangentOf_s _ _ _ k qs _ HQ.out).mono ?_
        rintro e we ⟨rfl, hb5⟩
        rw [HBE.out, HT.out]
        have HBE5 := Lib.hid (HBD.out.trans (hb5.mono HBD.out.size))
        replace HQ := Lib.hid (HQ.out.below hb5)
        clear hb5
        go_wp2_with fail
        refine (StopOf_i _ _ _ (dv - b) qs _ HQ.out).mono ?_
        rintro e wf ⟨rfl, hb6⟩
        rw [HXY.out.1, HXY.out.2]
        have HF := Lib.hid (HBE5.out.trans (hb6.mono HBE5.out.size))
        clear hb6
        go_wp2_with (go_at_call 28; refine (b10Div_any _ _ _ (by omega) (by omega) (by omega) (by omega)).mono ?_; rintro e w' ⟨rfl, rfl⟩; rw [HDV.out])
        go_ret
        exact ⟨by simp, HF.out⟩
      · obtain ⟨y1, y2, y3⟩ := alpha_no hal
        rw [y1, y2, y3]
        clear y1 y2 y3
        generalize alphaC qs a b = ac at hal ⊢
        generalize betaA qs = k
        generalize betaC qs = kc
        go_wp2_with fail
        go_ret
        exact ⟨by simp, HBD.out⟩
    · clear j4
      go_wp2_with fail
      refine (DrawRunoutOf_d _ _ _ _ (HH.out.2.below HB.out)).mono ?_
      rintro e wa ⟨⟨A3, m3, c3, qs, a, b, rfl, hqs, ha, hb⟩, hba⟩
      have hm3 := hqs.2.1
      have HL := Lib.hid hqs.1
      have HQ := Lib.hid hqs
      have HBA := Lib.hid (HB.out.trans (hba.mono HB.out.size))
      clear hqs hba
      go_wp2_with fail
      refine (RunoutOf_i _ _ _ a b qs _ HQ.out).mono ?_
      rintro e wb ⟨rfl, hb2⟩
      have HBB := Lib.hid (HBA.out.trans (hb2.mono HBA.out.size))
      replace HQ := Lib.hid (HQ.out.below hb2)
      clear hb2
      go_wp2_with fail
      refine (AlphaOf_i _ _ _ a b qs _ HQ.out).mono ?_
      rintro e wc ⟨rfl, hb3⟩
      have HBC := Lib.hid (HBB.out.trans (hb3.mono HBB.out.size))
      replace HQ := Lib.hid (HQ.out.below hb3)
      clear hb3
      go_wp2_with fail
      refine (BetaPoint_i _ _ _ qs _ HQ.out).mono ?_
      rintro e wd ⟨rfl, hb4⟩
      have HBD := Lib.hid (HBC.out.trans (hb4.mono HBC.out.size))
      replace HQ := Lib.hid (HQ.out.below hb4)
      clear hb4
      by_cases hal : alphaC qs a b = 0
      · obtain ⟨y1, y2, y3, y4, y5, y6, y7, y8, y9, y10⟩ := alpha_yes hal
        rw [y1, y2, y3, hal, y9]
        rw [y9] at y10
        generalize betaA qs = k at y4 y5 y8 y10 ⊢
        have HT := Lib.hid y5
        generalize hbe : tanA qs k = beta at y8 y10 ⊢
        have HBE := Lib.hid hbe
        have hab := mul_bd (a := a) (b := beta) (by omega) y6.2 y8.1 y8.2
        generalize hal2 : divN (a * beta) 1000 = dv at y10 ⊢
        have HDV := Lib.hid hal2
        generalize hx : stopA qs (dv - b) = sa
        generalize hy : stopC qs (dv - b) = sc2
        have HXY := Lib.hid (And.intro hx hy)
        rw [HL.out] at y4
        clear y1 y2 y3 y5 y9 hal hbe hal2 hx hy
        go_wp2_with fail
        refine (TangentOf_s _ _ _ k qs _ HQ.out).mono ?_
        rintro e we ⟨rfl, hb5⟩
        rw [HBE.out, HT.out]
        have HBE5 := Lib.hid (HBD.out.trans (hb5.mono HBD.out.size))
        replace HQ := Lib.hid (HQ.out.below hb5)
        clear hb5
        go_wp2_with fail
        refine (StopOf_i _ _ _ (dv - b) qs _ HQ.out).mono ?_
        rintro e wf ⟨rfl, hb6⟩
        rw [HXY.out.1, HXY.out.2]
        have HF := Lib.hid (HBE5.out.trans (hb6.mono HBE5.out.size))
        clear hb6
        go_wp2_with (go_at_call 28; refine (b10Div_any _ _ _ (by omega) (by omega) (by omega) (by omega)).mono ?_; rintro e w' ⟨rfl, rfl⟩; rw [HDV.out])
        go_ret
        exact ⟨by simp, HF.out⟩
      · obtain ⟨y1, y2, y3⟩ := alpha_no hal
        rw [y1, y2, y3]
        clear y1 y2 y3
        generalize alphaC qs a b = ac at hal ⊢
        generalize betaA qs = k
        generalize betaC qs = kc
        go_wp2_with fail
        go_ret
        exact ⟨by simp, HBD.out⟩
  · clear j3
    by_cases htl : t < 3000
    · obtain ⟨rfl, k4⟩ := j4 htl
      clear j4
      go_wp2_with fail
      refine (DrawRunoutOf_d _ _ _ _ (HH.out.2.below HB.out)).mono ?_
      rintro e wa ⟨⟨A3, m3, c3, qs, a, b, rfl, hqs, ha, hb⟩, hba⟩
      have hm3 := hqs.2.1
      have HL := Lib.hid hqs.1
      have HQ := Lib.hid hqs
      have HBA := Lib.hid (HB.out.trans (hba.mono HB.out.size))
      clear hqs hba
      go_wp2_with fail
      refine (RunoutOf_i _ _ _ a b qs _ HQ.out).mono ?_
      rintro e wb ⟨rfl, hb2⟩
      have HBB := Lib.hid (HBA.out.trans (hb2.mono HBA.out.size))
      replace HQ := Lib.hid (HQ.out.below hb2)
      clear hb2
      go_wp2_with fail
      refine (AlphaOf_i _ _ _ a b qs _ HQ.out).mono ?_
      rintro e wc ⟨rfl, hb3⟩
      have HBC := Lib.hid (HBB.out.trans (hb3.mono HBB.out.size))
      replace HQ := Lib.hid (HQ.out.below hb3)
      clear hb3
      go_wp2_with fail
      refine (BetaPoint_i _ _ _ qs _ HQ.out).mono ?_
      rintro e wd ⟨rfl, hb4⟩
      have HBD := Lib.hid (HBC.out.trans (hb4.mono HBC.out.size))
      replace HQ := Lib.hid (HQ.out.below hb4)
      clear hb4
      by_cases hal : alphaC qs a b = 0
      · obtain ⟨y1, y2, y3, y4, y5, y6, y7, y8, y9, y10⟩ := alpha_yes hal
        rw [y1, y2, y3, hal, y9]
        rw [y9] at y10
        generalize betaA qs = k at y4 y5 y8 y10 ⊢
        have HT := Lib.hid y5
        generalize hbe : tanA qs k = beta at y8 y10 ⊢
        have HBE := Lib.hid hbe
        have hab := mul_bd (a := a) (b := beta) (by omega) y6.2 y8.1 y8.2
        generalize hal2 : divN (a * beta) 1000 = dv at y10 ⊢
        have HDV := Lib.hid hal2
        generalize hx : stopA qs (dv - b) = sa
        generalize hy : stopC qs (dv - b) = sc2
        have HXY := Lib.hid (And.intro hx hy)
        rw [HL.out] at y4
        clear y1 y2 y3 y5 y9 hal hbe hal2 hx hy
        go_wp2_with fail
        refine (TangentOf_s _ _ _ k qs _ HQ.out).mono ?_
        rintro e we ⟨rfl, hb5⟩
        rw [HBE.out, HT.out]
        have HBE5 := Lib.hid (HBD.out.trans (hb5.mono HBD.out.size))
        replace HQ := Lib.hid (HQ.out.below hb5)
        clear hb5
        go_wp2_with fail
        refine (StopOf_i _ _ _ (dv - b) qs _ HQ.out).mono ?_
        rintro e wf ⟨rfl, hb6⟩
        rw [HXY.out.1, HXY.out.2]
        have HF := Lib.hid (HBE5.out.trans (hb6.mono HBE5.out.size))
        clear hb6
        go_wp2_with (go_at_call 28; refine (b10Div_any _ _ _ (by omega) (by omega) (by omega) (by omega)).mono ?_; rintro e w' ⟨rfl, rfl⟩; rw [HDV.out])
        go_ret
        exact ⟨by simp, HF.out⟩
      · obtain ⟨y1, y2, y3⟩ := alpha_no hal
        rw [y1, y2, y3]
        clear y1 y2 y3
        generalize alphaC qs a b = ac at hal ⊢
        generalize betaA qs = k
        generalize betaC qs = kc
        go_wp2_with fail
        go_ret
        exact ⟨by simp, HBD.out⟩
    · clear j4
      go_wp2_with fail
      refine (DrawRunoutOf_d _ _ _ _ (HH.out.2.below HB.out)).mono ?_
      rintro e wa ⟨⟨A3, m3, c3, qs, a, b, rfl, hqs, ha, hb⟩, hba⟩
      have hm3 := hqs.2.1
      have HL := Lib.hid hqs.1
      have HQ := Lib.hid hqs
      have HBA := Lib.hid (HB.out.trans (hba.mono HB.out.size))
      clear hqs hba
      go_wp2_with fail
      refine (RunoutOf_i _ _ _ a b qs _ HQ.out).mono ?_
      rintro e wb ⟨rfl, hb2⟩
      have HBB := Lib.hid (HBA.out.trans (hb2.mono HBA.out.size))
      replace HQ := Lib.hid (HQ.out.below hb2)
      clear hb2
      go_wp2_with fail
      refine (AlphaOf_i _ _ _ a b qs _ HQ.out).mono ?_
      rintro e wc ⟨rfl, hb3⟩
      have HBC := Lib.hid (HBB.out.trans (hb3.mono HBB.out.size))
      replace HQ := Lib.hid (HQ.out.below hb3)
      clear hb3
      go_wp2_with fail
      refine (BetaPoint_i _ _ _ qs _ HQ.out).mono ?_
      rintro e wd ⟨rfl, hb4⟩
      have HBD := Lib.hid (HBC.out.trans (hb4.mono HBC.out.size))
      replace HQ := Lib.hid (HQ.out.below hb4)
      clear hb4
      by_cases hal : alphaC qs a b = 0
      · obtain ⟨y1, y2, y3, y4, y5, y6, y7, y8, y9, y10⟩ := alpha_yes hal
        rw [y1, y2, y3, hal, y9]
        rw [y9] at y10
        generalize betaA qs = k at y4 y5 y8 y10 ⊢
        have HT := Lib.hid y5
        generalize hbe : tanA qs k = beta at y8 y10 ⊢
        have HBE := Lib.hid hbe
        have hab := mul_bd (a := a) (b := beta) (by omega) y6.2 y8.1 y8.2
        generalize hal2 : divN (a * beta) 1000 = dv at y10 ⊢
        have HDV := Lib.hid hal2
        generalize hx : stopA qs (dv - b) = sa
        generalize hy : stopC qs (dv - b) = sc2
        have HXY := Lib.hid (And.intro hx hy)
        rw [HL.out] at y4
        clear y1 y2 y3 y5 y9 hal hbe hal2 hx hy
        go_wp2_with fail
        refine (TangentOf_s _ _ _ k qs _ HQ.out).mono ?_
        rintro e we ⟨rfl, hb5⟩
        rw [HBE.out, HT.out]
        have HBE5 := Lib.hid (HBD.out.trans (hb5.mono HBD.out.size))
        replace HQ := Lib.hid (HQ.out.below hb5)
        clear hb5
        go_wp2_with fail
        refine (StopOf_i _ _ _ (dv - b) qs _ HQ.out).mono ?_
        rintro e wf ⟨rfl, hb6⟩
        rw [HXY.out.1, HXY.out.2]
        have HF := Lib.hid (HBE5.out.trans (hb6.mono HBE5.out.size))
        clear hb6
        go_wp2_with (go_at_call 28; refine (b10Div_any _ _ _ (by omega) (by omega) (by omega) (by omega)).mono ?_; rintro e w' ⟨rfl, rfl⟩; rw [HDV.out])
        go_ret
        exact ⟨by simp, HF.out⟩
      · obtain ⟨y1, y2, y3⟩ := alpha_no hal
        rw [y1, y2, y3]
        clear y1 y2 y3
        generalize alphaC qs a b = ac at hal ⊢
        generalize betaA qs = k
        generalize betaC qs = kc
        go_wp2_with fail
        go_ret
        exact ⟨by simp, HBD.out⟩

set_option maxRecDepth 100000 in
theorem lifted (os : Os) (started : os.Started) (H : Type) (enc : TypeId × Value → H) :
    ReturnsInHanded {} Try.checked os 4 .any (Rows.fnRunoutsSpec.pre6 enc Try.prog Try.f4 Rows.fnRunoutsRow.domain false) (Rows.fnRunoutsSpec.post enc Try.prog Try.f4 false true false false) := by
  refine returnsInHanded_of_change (C := Try.checked) own started (by kernel_rfl) Try.func4
    (ChangeSpec.witness6 (enc := enc) (C := Try.checked) false ⟨#[], #[.slice none 0 0, .slice none 0 0], []⟩ 8 (by kernel_rfl) (by kernel_rfl) (by kernel_rfl) (by kernel_rfl)) ?_
  intro W base args ds gs before hval0 hW hcnd _
  have hval : ∀ (j : Nat) t v, Try.f4.params[j]? = some t → args[j]? = some v → Value.okWide Try.prog W .any base t v := hval0
  have hW' := hW
  obtain ⟨p, q, hA0, hV, rfl, hfz, hnd⟩ := hW
  have hA : DataW.TrodAll enc Try.prog W 0 (fun _ => true) true Try.f4.params.toList args.toList ds p := hA0
  rw [Try.params4] at hA hval
  obtain ⟨v0, vs0, d0, ds0, p0, q0, hargs, rfl, rfl, h0, r0⟩ := trodAll_cons hA
  obtain ⟨v1, vs1, d1, ds1, p1, q1, rfl, rfl, rfl, h1, r1⟩ := trodAll_cons r0
  obtain ⟨rfl, rfl, rfl⟩ := trodAll_nil r1
  obtain rfl : args = #[v0, v1] := by cases args; simp_all
  obtain ⟨rfl, rfl⟩ := trodVars_none hV
  have k0 := h0
  have lt0 : ∀ x ∈ p0, x.block < W.heap.size := by obtain ⟨m, hm⟩ := k0; exact DataW.trod_lt m _ _ _ hm
  obtain ⟨a0, n0, c0, rfl⟩ := okWide_slice Try.underlying30 (hval 0 30 v0 rfl rfl)
  obtain ⟨z0, w0⟩ := bytes_open Try.underlying30 Try.underlying5 (by kernel_rfl) h0
  have k1 := h1
  have lt1 : ∀ x ∈ p1, x.block < W.heap.size := by obtain ⟨m, hm⟩ := k1; exact DataW.trod_lt m _ _ _ hm
  obtain ⟨a1, n1, c1, rfl⟩ := okWide_slice Try.underlying30 (hval 1 30 v1 rfl rfl)
  obtain ⟨z1, w1⟩ := bytes_open Try.underlying30 Try.underlying5 (by kernel_rfl) h1
  clear hA0 hval0
  refine (walk a0 n0 c0 z0 a1 n1 c1 z1 W w0 w1).mono fun e W' ⟨he, bel⟩ => ?_
  subst he
  exact ⟨_, rfl, _, _, _, [], _, [], hW', trodAll_mk1 (shut_bool Try.underlying4 _), (trodAll_cons_mk (Below.trod laidOut (by kernel_rfl) (of_decide_eq_true (by kernel_rfl)) k0 bel lt0) (trodAll_cons_mk (Below.trod laidOut (by kernel_rfl) (of_decide_eq_true (by kernel_rfl)) k1 bel lt1) trodAll_mk0)), rfl, bel.frame _, fun h => by cases h⟩

theorem over : Rows.fnRunoutsRow.holds Try.pinned (OpenSpec.ofChange Rows.fnRunoutsSpec) :=
  OpenClaim.holds_of_wide 4 Try.f4 rfl rfl rfl rfl rfl rfl rfl ⟨rfl, rfl, rfl, rfl, rfl⟩ rfl rfl rfl rfl rfl (by kernel_rfl) Try.func4 (by kernel_rfl)
    (of_decide_eq_true (by kernel_rfl)) (by unfold Func.isWrapper; first | (rw [if_pos (by decide +kernel)]; kernel_rfl) | (rw [if_neg (by decide +kernel)]; exact ⟨rfl, rfl⟩))
    (fun os started H enc _ => lifted os started H enc)

/-- The statement. -/
theorem proved : Rows.FnRunoutsSaid := over
end Go.Proofs.Ytehfpnammmgeaaa.fnRunouts
