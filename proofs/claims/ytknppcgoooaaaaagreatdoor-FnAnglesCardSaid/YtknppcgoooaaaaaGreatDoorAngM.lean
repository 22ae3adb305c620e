/-
  What FnAngles asks of stops, speeds, the ground and the tangents. No program in sight.
-/
import Derived.Test.YtknppcgoooaaaaaGreatDoorPathT
import Derived.Test.YtknppcgoooaaaaaGreatDoorPathS
import Derived.Test.YtknppcgoooaaaaaGreatDoorTxtP
namespace Go.Proofs.YtknppcgoooaaaaaGreatDoor
open Go.RowKit

theorem rootN_nn {a : Int} (h : a ≤ 9223372030926249000) : 0 ≤ rootN a := by
  rcases firstI_cases (rootP a) 0 3037000498 with ⟨m, h1, h2, h3, h4, h5⟩ | ⟨h1, h2⟩
  · have e : rootN a = m := h5
    omega
  · have := h2 3037000498 (by omega) (by omega)
    rw [root_big h] at this
    cases this
theorem speedV_nn {a : Int} (h : a ≤ 300000000000) : 0 ≤ speedV a := by
  have := speed_arg h
  exact rootN_nn (by omega)
theorem gnd_zero {ps : Pth} (hp : pathOk ps = true) : groundV ps 0 = 1000 * hAt ps 0 := by
  obtain ⟨l1, l2, l3⟩ := pathOk_len hp
  have h0 := lastD_bd hp
  have g : gIdx ps 0 = 1 := gIdx_eq (Nat.le_refl 1) (by omega) (by
    have := path_mono hp (show 0 < 1 by omega) (show 1 < ps.length by omega)
    omega) (fun j h1 h2 => by omega)
  unfold groundV betw
  rw [g]
  unfold lineN
  rw [if_pos (by simp only [Nat.sub_self]; omega)]
theorem above_zero {ps : Pth} (hp : pathOk ps = true) (t : Int) : aboveV ps t 0 = 0 := by
  unfold aboveV lineV
  rw [gnd_zero hp, Int.mul_zero]
  omega
theorem fastR_inv {ps : Pth} (hp : pathOk ps = true) (t : Int) : ∀ k : Nat, (0 ≤ (fastR ps t k).1 ∧ (fastR ps t k).1 ≤ (k : Int)) ∧ (fastR ps t k).2 = aboveV ps t (fastR ps t k).1 := by
  intro k
  induction k with
  | zero => exact ⟨⟨by simp [fastR], by simp [fastR]⟩, by simp [fastR, above_zero hp]⟩
  | succ k ih =>
    unfold fastR
    split
    · exact ⟨⟨by simp only; omega, by simp only; omega⟩, rfl⟩
    · exact ⟨⟨ih.1.1, by omega⟩, ih.2⟩
theorem stopV_at {ps : Pth} {t : Int} (h : 0 ≤ stopV ps t) : 1 ≤ stopV ps t ∧ stopV ps t ≤ lastD ps ∧ stopP ps t (stopV ps t) = true ∧ ∀ x, 1 ≤ x → x < stopV ps t → stopP ps t x = false := by
  rcases firstI_cases (stopP ps t) 1 (lastD ps) with ⟨m, h1, h2, h3, h4, h5⟩ | ⟨h1, _⟩
  · have e : stopV ps t = m := h5
    rw [e]
    exact ⟨h1, h2, h3, h4⟩
  · have e : stopV ps t = -1 := h1
    omega
theorem ang_fast {ps : Pth} {t : Int} (h : codeP ps t 0 = 0) :
    (0 ≤ fastB ps t ∧ fastB ps t ≤ 20000) ∧ (0 ≤ stopV ps t → fastB ps t < stopV ps t) ∧ codeP ps t (fastB ps t) = 0 ∧ spdA ps t (fastB ps t) = fastS ps t ∧ 0 ≤ fastS ps t := by
  obtain ⟨hp, ht, hd⟩ := codeP_ok h
  have hld := lastD_bd hp
  have ht' := inB_iff.1 ht
  have hB : fastB ps t = (fastR ps t (endF ps t - 1).toNat).1 := by rw [fastB, if_pos h]
  have hS : fastS ps t = speedV (fastR ps t (endF ps t - 1).toNat).2 := by rw [fastS, if_pos h]
  obtain ⟨⟨i1, i2⟩, i3⟩ := fastR_inv hp t (endF ps t - 1).toNat
  rw [← hB] at i1 i2 i3
  have hend : (0 ≤ stopV ps t → fastB ps t < stopV ps t) ∧ fastB ps t ≤ lastD ps := by
    unfold endF at i2
    by_cases hs : stopV ps t < 0
    · rw [if_pos hs] at i2
      exact ⟨fun h => by omega, by omega⟩
    · rw [if_neg hs] at i2
      have := stopV_at (show 0 ≤ stopV ps t by omega)
      exact ⟨fun h => by omega, by omega⟩
  have hc : codeP ps t (fastB ps t) = 0 := codeP_of hp ht (inB_iff.2 ⟨i1, hend.2⟩)
  have hab := aboveV_bd hp (show 0 ≤ t by omega) (by omega) i1 hend.2
  refine ⟨⟨i1, by omega⟩, hend.1, hc, ?_, ?_⟩
  · unfold spdA
    rw [if_pos hc, if_neg (by intro hh; have := hend.1 hh.1; omega), hS, i3]
  · rw [hS, i3]
    exact speedV_nn hab.2
theorem stop_ok {ps : Pth} {t : Int} (h : stopC ps t = 0) : codeP ps t 0 = 0 ∧ 0 ≤ stopV ps t ∧ stopA ps t = stopV ps t := by
  unfold stopC at h
  by_cases hc : codeP ps t 0 = 0
  · rw [if_pos hc] at h
    by_cases hs : stopV ps t < 0
    · rw [if_pos hs] at h; omega
    · exact ⟨hc, by omega, by rw [stopA, if_pos hc, if_neg hs]⟩
  · rw [if_neg hc] at h
    exact absurd h hc
theorem ang_stop {ps : Pth} {t : Int} (h : stopC ps t = 0) :
    (1 ≤ stopA ps t ∧ stopA ps t ≤ 20000) ∧ codeP ps 1 (stopA ps t) = 0 ∧ codeP ps t (stopA ps t) = 0 ∧ lineA ps t (stopA ps t) ≤ gndA ps (stopA ps t) ∧ spdA ps t (stopA ps t) = 0 ∧ fastB ps t < stopA ps t ∧
      (1 < stopA ps t → codeP ps 1 (stopA ps t - 1) = 0 ∧ codeP ps t (stopA ps t - 1) = 0 ∧ gndA ps (stopA ps t - 1) < lineA ps t (stopA ps t - 1)) := by
  obtain ⟨hc, hs, he⟩ := stop_ok h
  obtain ⟨hp, ht, _⟩ := codeP_ok hc
  have hld := lastD_bd hp
  obtain ⟨s1, s2, s3, s4⟩ := stopV_at hs
  have hf := (ang_fast hc).2.1 hs
  rw [he]
  have hi1 : inB 1 1 3000 = true := in1
  have c1 : codeP ps 1 (stopV ps t) = 0 := codeP_of hp hi1 (inB_iff.2 ⟨by omega, s2⟩)
  have c2 : codeP ps t (stopV ps t) = 0 := codeP_of hp ht (inB_iff.2 ⟨by omega, s2⟩)
  refine ⟨⟨s1, by omega⟩, c1, c2, ?_, ?_, hf, fun h1 => ?_⟩
  · unfold lineA gndA
    rw [if_pos c1, if_pos c2]
    have : aboveV ps t (stopV ps t) ≤ 0 := by simpa [stopP] using s3
    unfold aboveV at this
    omega
  · unfold spdA
    rw [if_pos c2, if_pos ⟨hs, Int.le_refl _⟩]
  · have c3 : codeP ps 1 (stopV ps t - 1) = 0 := codeP_of hp hi1 (inB_iff.2 ⟨by omega, by omega⟩)
    have c4 : codeP ps t (stopV ps t - 1) = 0 := codeP_of hp ht (inB_iff.2 ⟨by omega, by omega⟩)
    refine ⟨c3, c4, ?_⟩
    unfold lineA gndA
    rw [if_pos c3, if_pos c4]
    have : ¬ aboveV ps t (stopV ps t - 1) ≤ 0 := by simpa [stopP] using s4 (stopV ps t - 1) (by omega) (by omega)
    unfold aboveV at this
    omega
theorem spd_last (ps : Pth) (t d : Int) : (codeP ps t d ≠ 0 → spdA ps t d = 0) ∧ (codeP ps t d = 0 → 0 ≤ spdA ps t d) := by
  constructor
  · intro h
    rw [spdA, if_neg h]
  · intro h
    obtain ⟨hp, ht, hd⟩ := codeP_ok h
    have ht' := inB_iff.1 ht
    have hd' := inB_iff.1 hd
    have hab := aboveV_bd hp (show 0 ≤ t by omega) (by omega) hd'.1 hd'.2
    rw [spdA, if_pos h]
    split
    · exact Int.le_refl 0
    · exact speedV_nn hab.2
theorem divN_near {a b : Int} (ha : 0 ≤ a) (hb : 1 ≤ b) : -b ≤ 2 * (divN a b * b - a) ∧ 2 * (divN a b * b - a) ≤ b := by
  have e : divN a b = (2 * a + b) / (2 * b) := by unfold divN; rw [if_neg (by omega)]
  rw [e]
  have h1 := Int.emod_add_mul_ediv (2 * a + b) (2 * b)
  have h2 := Int.emod_nonneg (2 * a + b) (show 2 * b ≠ 0 by omega)
  have h3 := Int.emod_lt_of_pos (2 * a + b) (show 0 < 2 * b by omega)
  generalize (2 * a + b) / (2 * b) = q at h1 ⊢
  have h4 : 2 * b * q = 2 * (q * b) := by rw [Int.mul_assoc, Int.mul_comm b q]
  rw [h4] at h1
  generalize q * b = z at h1 ⊢
  omega
theorem ang_tan {ps : Pth} (hp : pathOk ps = true) {i : Nat} (hi : 1 ≤ i) (hn : i < ps.length) :
    tanC ps (i : Int) = 0 ∧ (1 ≤ dAt ps i ∧ dAt ps i ≤ 20000) ∧ (0 ≤ tanA ps (i : Int) ∧ tanA ps (i : Int) ≤ 9000001) ∧ (0 ≤ hAt ps i ∧ hAt ps i ≤ hAt ps 0 ∧ hAt ps 0 ≤ 9000) ∧
      (-(dAt ps i) ≤ 2 * (tanA ps (i : Int) * dAt ps i - 1000 * (hAt ps 0 - hAt ps i)) ∧ 2 * (tanA ps (i : Int) * dAt ps i - 1000 * (hAt ps 0 - hAt ps i)) ≤ dAt ps i) ∧
      codeP ps 1 (dAt ps i) = 0 ∧ gndA ps (dAt ps i) = 1000 * hAt ps i := by
  obtain ⟨l1, l2, l3⟩ := pathOk_len hp
  have hin : inB (i : Int) 1 ((ps.length : Int) - 1) = true := inB_iff.2 ⟨by omega, by omega⟩
  have hT : tanA ps (i : Int) = tanV ps i := by rw [tanA, if_pos (by rw [hp, hin]; rfl)]; rfl
  have hC : tanC ps (i : Int) = 0 := by rw [tanC, if_pos hp, if_pos hin]
  have pt := ptOk_iff.1 ((pathOk_iff.1 hp).2.2.2 i hn)
  have pt0 := ptOk_iff.1 ((pathOk_iff.1 hp).2.2.2 0 (by omega))
  have hm := path_mono hp (show 0 < i by omega) hn
  have hd1 : 1 ≤ dAt ps i := by omega
  have htv := tanV_bd hp hi hn
  have hnear := divN_near (a := 1000 * (hAt ps 0 - hAt ps i)) (b := dAt ps i) (by omega) hd1
  have hlast : dAt ps i ≤ lastD ps := by
    unfold lastD
    rcases Nat.lt_or_ge i (ps.length - 1) with h | h
    · have := path_mono hp h (by omega)
      omega
    · have : i = ps.length - 1 := by omega
      rw [← this]
      exact Int.le_refl _
  have hcd : codeP ps 1 (dAt ps i) = 0 := codeP_of hp in1 (inB_iff.2 ⟨by omega, hlast⟩)
  refine ⟨hC, ⟨hd1, by omega⟩, by rw [hT]; exact htv, ⟨by omega, by omega, by omega⟩, by rw [hT]; exact hnear, hcd, ?_⟩
  unfold gndA
  rw [if_pos hcd]
  have g : gIdx ps (dAt ps i) = i := gIdx_eq hi hn (Int.le_refl _) (fun j h1 h2 => path_mono hp h2 hn)
  have hm' := path_mono hp (show i - 1 < i by omega) hn
  unfold groundV betw
  rw [g]
  unfold lineN
  rw [if_neg (by omega), if_pos (Int.le_refl _)]
theorem ang_read {ps : Pth} (hp : pathOk ps = true) : rp (pthS ps) = some ps := by
  rw [pthS, if_pos hp]
  exact rp_iff.2 ⟨hp, rfl⟩
end Go.Proofs.YtknppcgoooaaaaaGreatDoor
