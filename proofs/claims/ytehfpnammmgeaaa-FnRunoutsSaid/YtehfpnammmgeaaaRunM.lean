/-
  What FnRunouts asks: the tangent for a stop is just enough; a runout is the stop with its tangent. No program in sight.
-/
import Derived.Test.YtehfpnammmgeaaaPathU
import Derived.Test.YtehfpnammmgeaaaPathA
import Derived.Test.YtehfpnammmgeaaaPathS
namespace Go.Proofs.Ytehfpnammmgeaaa
open Go.RowKit

theorem stopV_found {ps : Pth} {t : Int} (h : 0 ≤ stopV ps t) : 1 ≤ stopV ps t ∧ stopV ps t ≤ lastD ps ∧ stopP ps t (stopV ps t) = true ∧ ∀ x, 1 ≤ x → x < stopV ps t → stopP ps t x = false := by
  rcases firstI_cases (stopP ps t) 1 (lastD ps) with ⟨m, h1, h2, h3, h4, h5⟩ | ⟨h1, _⟩
  · have e : stopV ps t = m := h5
    rw [e]
    exact ⟨h1, h2, h3, h4⟩
  · have e : stopV ps t = -1 := h1
    omega
/-- A steeper line stops no later. -/
theorem stopV_mono {ps : Pth} {t s : Int} (hts : t ≤ s) (h : 0 ≤ stopV ps t) : 0 ≤ stopV ps s ∧ stopV ps s ≤ stopV ps t := by
  obtain ⟨a1, a2, a3, _⟩ := stopV_found h
  have hs := stopP_mono a1 hts a3
  rcases firstI_cases (stopP ps s) 1 (lastD ps) with ⟨m, h1, h2, h3, h4, h5⟩ | ⟨h1, h2⟩
  · have e : stopV ps s = m := h5
    rw [e]
    refine ⟨by omega, ?_⟩
    rcases Int.lt_or_le (stopV ps t) m with h | h
    · have := h4 _ a1 h
      rw [hs] at this
      cases this
    · exact h
  · have := h2 _ a1 a2
    rw [hs] at this
    cases this
theorem stop_of {ps : Pth} {t : Int} (hp : pathOk ps = true) (h1 : 1 ≤ t) (h2 : t ≤ 3000) : (0 ≤ stopV ps t → stopC ps t = 0 ∧ stopA ps t = stopV ps t) ∧ (stopV ps t < 0 → stopC ps t = 3 ∧ stopA ps t = 0) := by
  have hc : codeP ps t 0 = 0 := codeP_of hp (inB_iff.2 ⟨h1, h2⟩) (inB_zero hp)
  unfold stopC stopA
  rw [if_pos hc, if_pos hc]
  constructor
  · intro h
    rw [if_neg (by omega), if_neg (by omega)]
    exact ⟨rfl, rfl⟩
  · intro h
    rw [if_pos h, if_pos h]
    exact ⟨rfl, rfl⟩
theorem tangent_just {ps : Pth} {d : Int} (h : tfC ps d = 0) :
    (1 ≤ tfA ps d ∧ tfA ps d ≤ 3000) ∧ stopC ps (tfA ps d) = 0 ∧ stopA ps (tfA ps d) ≤ d ∧ (stopC ps (tfA ps d - 1) = 0 → d < stopA ps (tfA ps d - 1)) ∧ (tfA ps d < 3000 → stopC ps (tfA ps d + 1) = 0 ∧ stopA ps (tfA ps d + 1) ≤ stopA ps (tfA ps d)) := by
  unfold tfC at h
  by_cases hc : codeP ps 1 d = 0
  · rw [if_pos hc] at h
    by_cases hn : tfV ps d < 0
    · rw [if_pos hn] at h; omega
    · obtain ⟨hp, _, hd⟩ := codeP_ok hc
      have hA : tfA ps d = tfV ps d := by rw [tfA, if_pos hc, if_neg hn]
      rw [hA]
      rcases firstI_cases (tanP ps d) 1 3000 with ⟨m, h1, h2, h3, h4, h5⟩ | ⟨h1, _⟩
      · have e : tfV ps d = m := h5
        rw [e]
        have h3' : 0 ≤ stopV ps m ∧ stopV ps m ≤ d := by simpa [tanP] using h3
        obtain ⟨s1, s2⟩ := (stop_of hp h1 h2).1 h3'.1
        refine ⟨⟨h1, h2⟩, s1, by omega, fun hb => ?_, fun hl => ?_⟩
        · by_cases hm : m - 1 = 0
          · exfalso
            rw [hm] at hb
            have hc0 : codeP ps 0 0 = 2 := by
              have : (inB 0 1 3000 && inB 0 0 (lastD ps)) = false := by
                have : inB 0 1 3000 = false := inB_not.2 (by omega)
                rw [this]
                rfl
              rw [codeP, if_pos hp, this]
              rfl
            rw [stopC, if_neg (by rw [hc0]; omega), hc0] at hb
            omega
          · have hf := h4 (m - 1) (by omega) (by omega)
            have so := stop_of hp (show 1 ≤ m - 1 by omega) (show m - 1 ≤ 3000 by omega)
            rcases Int.lt_or_le (stopV ps (m - 1)) 0 with hv | hv
            · have := (so.2 hv).1
              omega
            · rw [(so.1 hv).2]
              have : ¬ (0 ≤ stopV ps (m - 1) ∧ stopV ps (m - 1) ≤ d) := by simpa [tanP] using hf
              omega
        · obtain ⟨v1, v2⟩ := stopV_mono (show m ≤ m + 1 by omega) h3'.1
          obtain ⟨u1, u2⟩ := (stop_of hp (show 1 ≤ m + 1 by omega) (show m + 1 ≤ 3000 by omega)).1 v1
          exact ⟨u1, by omega⟩
      · have e : tfV ps d = -1 := h1
        omega
  · rw [if_neg hc] at h; exact absurd h hc
theorem alpha_no {ps : Pth} {a b : Int} (h : alphaC ps a b ≠ 0) : runA ps a b = 0 ∧ runC ps a b = alphaC ps a b ∧ alphaA ps a b = 0 := by
  refine ⟨by rw [runA, if_neg h], by rw [runC, if_neg h], ?_⟩
  unfold alphaA
  rw [if_neg]
  intro hk
  apply h
  unfold alphaOkB at hk
  simp only [Bool.and_eq_true, decide_eq_true_eq] at hk
  obtain ⟨⟨⟨k1, k2⟩, k3⟩, k4⟩ := hk
  unfold alphaC
  have k2' : (inB a 1 2000 && inB b 0 1000) = true := by rw [k2.1, k2.2]; rfl
  rw [if_pos k1, if_pos k2', if_neg (by omega), if_pos k4]
theorem alpha_yes {ps : Pth} {a b : Int} (h : alphaC ps a b = 0) :
    runA ps a b = stopA ps (alphaA ps a b) ∧ runC ps a b = stopC ps (alphaA ps a b) ∧ betaC ps = 0 ∧ (1 ≤ betaA ps ∧ betaA ps < (ps.length : Int) - 1) ∧ tanC ps (betaA ps) = 0 ∧
      (1 ≤ a ∧ a ≤ 2000) ∧ (0 ≤ b ∧ b ≤ 1000) ∧ (0 ≤ tanA ps (betaA ps) ∧ tanA ps (betaA ps) ≤ 9000001) ∧ alphaA ps a b = divN (a * tanA ps (betaA ps)) 1000 - b ∧ (1 ≤ alphaA ps a b ∧ alphaA ps a b ≤ 3000) := by
  refine ⟨by rw [runA, if_pos h], by rw [runC, if_pos h], ?_⟩
  unfold alphaC at h
  by_cases hp : pathOk ps = true
  · rw [if_pos hp] at h
    by_cases hab : (inB a 1 2000 && inB b 0 1000) = true
    · rw [if_pos hab] at h
      by_cases hb : betaI ps < 0
      · rw [if_pos hb] at h; omega
      · rw [if_neg hb] at h
        by_cases hi : inB (alphaT ps a b) 1 3000 = true
        · obtain ⟨b1, b2, b3⟩ := betaI_bd ps hb
          have hbA : betaA ps = betaI ps := by rw [betaA, if_pos hp, if_neg hb]
          have hbC : betaC ps = 0 := by rw [betaC, if_pos hp, if_neg hb]
          have hin : inB (betaI ps) 1 ((ps.length : Int) - 1) = true := inB_iff.2 (by omega)
          have hab' := hab
          simp only [Bool.and_eq_true, inB_iff] at hab'
          have hok : alphaOkB ps a b = true := by
            unfold alphaOkB
            rw [hp, hab, hi]
            simp
            omega
          have hT : tanA ps (betaI ps) = tanV ps (betaI ps).toNat := by rw [tanA, if_pos (by rw [hp, hin]; rfl)]
          have hTC : tanC ps (betaI ps) = 0 := by rw [tanC, if_pos hp, if_pos hin]
          have hbd := tanV_bd hp b1 (by omega)
          have hAl : alphaA ps a b = alphaT ps a b := by rw [alphaA, if_pos hok]
          rw [hbA, hbC, hT, hTC, hAl]
          exact ⟨rfl, ⟨by omega, by omega⟩, rfl, hab'.1, hab'.2, hbd, rfl, inB_iff.1 hi⟩
        · rw [if_neg hi] at h; omega
    · rw [if_neg hab] at h; omega
  · rw [if_neg hp] at h; omega
end Go.Proofs.Ytehfpnammmgeaaa
