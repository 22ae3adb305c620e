/-
  What FnReturns asks of return periods, values of some years, risks and zones. No program in sight.
-/
import Derived.Test.YtbakmcjngadebaaZoneV
import Derived.Test.YtbakmcjngadebaaEvZ
import Derived.Test.YtbakmcjngadebaaVolM
namespace Go.Proofs.Ytbakmcjngadebaa
open Go.RowKit
set_option linter.unusedVariables false

theorem divN_anti {a b c : Int} (ha : 0 ≤ a) (hb : 1 ≤ b) (hbc : b ≤ c) : divN a c ≤ divN a b := by
  have h1 := divN_lo (a := a) (b := c) ha (by omega)
  have h2 := divN_lo (a := a) (b := b) ha hb
  have h3 := divN_le a b ha hb
  have h4 := divN_le a c ha (by omega)
  rcases Int.lt_or_le (divN a b) (divN a c) with h | h
  · exfalso
    obtain ⟨q, hq⟩ : ∃ q, q = divN a c := ⟨_, rfl⟩
    obtain ⟨p, hp⟩ : ∃ p, p = divN a b := ⟨_, rfl⟩
    rw [← hq] at h1 h h4
    rw [← hp] at h2 h h3
    have e1 : b * (2 * q - 1) ≤ c * (2 * q - 1) := Int.mul_le_mul_of_nonneg_right hbc (by omega)
    have e2 : b * (2 * p + 1) ≤ b * (2 * q - 1) := Int.mul_le_mul_of_nonneg_left (by omega) (by omega)
    have f1 : b * (2 * p + 1) = 2 * (b * p) + b := by rw [Int.mul_add, Int.mul_one, ← Int.mul_assoc, Int.mul_comm b 2, Int.mul_assoc]
    have f2 : c * (2 * q - 1) = 2 * (c * q) - c := by rw [Int.mul_sub, Int.mul_one, ← Int.mul_assoc, Int.mul_comm c 2, Int.mul_assoc]
    omega
  · exact h
theorem cnt_mono (xs : List Int) (v : Int) : cnt xs (v + 1) ≤ cnt xs v := by
  unfold cnt
  refine List.countP_mono_left fun x _ h => ?_
  simp at h ⊢
  omega
theorem cnt_pos {xs : List Int} {x : Int} (h : x ∈ xs) : cnt xs x ≠ 0 := by
  unfold cnt
  have : 0 < List.countP (fun y => decide (x ≤ y)) xs := List.countP_pos_iff.2 ⟨x, h, by simp⟩
  omega
theorem retC_ok {xs : List Int} {v : Int} (h : retC xs v = 0) : maxB xs = true ∧ inB v 0 1000000000000 = true ∧ cnt xs v ≠ 0 ∧ retA xs v = retY xs v := by
  unfold retC at h
  by_cases h1 : (maxB xs && inB v 0 1000000000000) = true
  · rw [if_pos h1] at h
    by_cases h2 : cnt xs v = 0
    · rw [if_pos h2] at h; omega
    · have h1' := h1
      simp only [Bool.and_eq_true] at h1'
      exact ⟨h1'.1, h1'.2, h2, by rw [retA, if_pos h1]⟩
  · rw [if_neg h1] at h; omega
/-- A greater value comes back no earlier. -/
theorem ret_grow {xs : List Int} {v : Int} (h : retC xs v = 0) : 100 ≤ retA xs v ∧ (retC xs (v + 1) = 0 → retA xs v ≤ retA xs (v + 1)) := by
  obtain ⟨h1, h2, h3, h4⟩ := retC_ok h
  refine ⟨by rw [h4]; exact retY_pos h3, fun h' => ?_⟩
  obtain ⟨k1, k2, k3, k4⟩ := retC_ok h'
  rw [h4, k4, retY, retY, if_neg h3, if_neg k3]
  have hm := cnt_mono xs v
  exact divN_anti (by omega) (by omega) (by omega)
theorem retY_bd (xs : List Int) (v : Int) : 0 ≤ retY xs v := by
  unfold retY
  split
  · omega
  · exact (divN_le _ _ (by omega) (by omega)).1
theorem vBest_facts (xs : List Int) (y : Int) (ys : List Int) (k : Nat) : -1 ≤ vBest xs y (ys.take k) ∧ (vBest xs y (ys.take k) = -1 ∨ (vBest xs y (ys.take k) ∈ ys ∧ retY xs (vBest xs y (ys.take k)) ≤ y)) ∧ ∀ x ∈ ys.take k, retY xs x ≤ y → x ≤ vBest xs y (ys.take k) := by
  induction k with
  | zero => simp [vBest]
  | succ k ih =>
    obtain ⟨i1, i2, i3⟩ := ih
    cases hx : ys[k]? with
    | none =>
      have : ys.take (k + 1) = ys.take k := by rw [List.take_add_one, hx]; simp
      rw [this]
      exact ⟨i1, i2, i3⟩
    | some x =>
      rw [vBest_snoc hx]
      have ht := take_snoc hx
      rw [ht]
      have hmem := List.mem_of_getElem? hx
      unfold vStep
      by_cases hy : retY xs x ≤ y
      · rw [if_pos hy]
        refine ⟨by omega, ?_, fun z hz hzy => ?_⟩
        · rcases Int.le_total (vBest xs y (ys.take k)) x with h | h
          · right
            rw [Int.max_eq_right h]
            exact ⟨hmem, hy⟩
          · rw [Int.max_eq_left h]
            exact i2
        · rw [List.mem_append] at hz
          rcases hz with hz | hz
          · have := i3 z hz hzy; omega
          · simp at hz
            omega
      · rw [if_neg hy]
        refine ⟨i1, i2, fun z hz hzy => ?_⟩
        rw [List.mem_append] at hz
        rcases hz with hz | hz
        · exact i3 z hz hzy
        · simp at hz
          subst hz
          exact absurd hzy hy
/-- The value of some years comes back within them, and is the greatest that does. -/
theorem value_back {xs : List Int} {y : Int} (h : vC xs y = 0) :
    vA xs y ∈ xs ∧ retC xs (vA xs y) = 0 ∧ retA xs (vA xs y) ≤ y ∧ (maxB xs = true) ∧ ∀ x ∈ xs, retC xs x = 0 ∧ (retA xs x ≤ y → x ≤ vA xs y) := by
  unfold vC at h
  by_cases h1 : (maxB xs && inB y 100 10000) = true
  · rw [if_pos h1] at h
    by_cases h2 : vBest xs y xs < 0
    · rw [if_pos h2] at h; omega
    · have hA : vA xs y = vBest xs y xs := by rw [vA, if_pos h1, if_neg h2]
      have h1' := h1
      simp only [Bool.and_eq_true] at h1'
      have hf := vBest_facts xs y xs xs.length
      rw [List.take_length] at hf
      obtain ⟨f1, f2, f3⟩ := hf
      have hin : ∀ x ∈ xs, retC xs x = 0 := by
        intro x hx
        have hm := h1'.1
        unfold maxB at hm
        simp only [Bool.and_eq_true] at hm
        have hb := allB_mem hm.1 x hx
        rw [retC, if_pos (by rw [h1'.1, inB_iff.2 hb]; rfl), if_neg (cnt_pos hx)]
      rcases f2 with f2 | ⟨f2, f4⟩
      · omega
      · rw [hA]
        refine ⟨f2, hin _ f2, ?_, h1'.1, fun x hx => ⟨hin x hx, fun hxy => ?_⟩⟩
        · rw [(retC_ok (hin _ f2)).2.2.2]
          exact f4
        · rw [(retC_ok (hin x hx)).2.2.2] at hxy
          exact f3 x hx hxy
  · rw [if_neg h1] at h; omega

/-! ### Risks -/
theorem riskK_ok {es : List Ev} {c v : Int} (h : riskK es c v = 0) : evOk es = true ∧ es.length ≠ 0 ∧ inB c 0 (((pAt es 0).length : Int) - 1) = true ∧ inB v 0 1000000000 = true := by
  unfold riskK at h
  by_cases h1 : evOk es = true
  · rw [if_pos h1] at h
    by_cases h2 : es.length = 0 ∨ inB c 0 (((pAt es 0).length : Int) - 1) = false ∨ inB v 0 1000000000 = false
    · rw [if_pos h2] at h; omega
    · refine ⟨h1, fun e => h2 (.inl e), ?_, ?_⟩
      · cases hc : inB c 0 (((pAt es 0).length : Int) - 1)
        · exact absurd (.inr (.inl hc)) h2
        · rfl
      · cases hc : inB v 0 1000000000
        · exact absurd (.inr (.inr hc)) h2
        · rfl
  · rw [if_neg h1] at h; omega
theorem riskK_of {es : List Ev} {c v : Int} (h1 : evOk es = true) (h2 : es.length ≠ 0) (h3 : inB c 0 (((pAt es 0).length : Int) - 1) = true) (h4 : inB v 0 1000000000 = true) : riskK es c v = 0 := by
  rw [riskK, if_pos h1, if_neg]
  rw [h3, h4]
  simp [h2]
theorem riskS_zero {es : List Ev} (h : evOk es = true) (c k : Nat) : riskS es c 0 k = 0 := by
  induction k with
  | zero => simp [riskS]
  | succ k ih =>
    cases hx : es[k]? with
    | none =>
      have : riskS es c 0 (k + 1) = riskS es c 0 k := by
        unfold riskS
        rw [List.take_add_one, hx]
        simp
      rw [this, ih]
    | some e =>
      obtain ⟨y, ps⟩ := e
      have hf := ev_facts h hx
      rw [riskS_snoc hx, ih, riskT, Int.zero_mul, divN_zero _ (by omega)]
      rfl
theorem riskS_mono {es : List Ev} (h : evOk es = true) {c : Nat} {v : Int} (hv : 0 ≤ v) (hc : c < (pAt es 0).length) (k : Nat) : riskS es c v k ≤ riskS es c (v + 1) k := by
  induction k with
  | zero => simp [riskS]
  | succ k ih =>
    cases hx : es[k]? with
    | none =>
      have e1 : ∀ u, riskS es c u (k + 1) = riskS es c u k := by
        intro u
        unfold riskS
        rw [List.take_add_one, hx]
        simp
      rw [e1, e1]
      exact ih
    | some e =>
      obtain ⟨y, ps⟩ := e
      obtain ⟨f1, f2, f3, f4, f5⟩ := ev_facts h hx
      have hcl : c < ps.length := by omega
      have hx2 : ps[c]? = some ps[c] := List.getElem?_eq_getElem hcl
      have hb := allB_iff.1 f4 c _ hx2
      rw [riskS_snoc hx, riskS_snoc hx]
      have : riskT c v (y, ps) ≤ riskT c (v + 1) (y, ps) := by
        unfold riskT
        have e2 : ps.getD c 0 = ps[c] := by rw [List.getD_eq_getElem?_getD, hx2]; rfl
        simp only [e2]
        exact divN_mono (Int.mul_nonneg hv (by omega)) (Int.mul_le_mul_of_nonneg_right (by omega) (by omega)) (by omega)
      omega
theorem risk_facts {es : List Ev} {c v : Int} (h : riskK es c v = 0) :
    riskK es c 0 = 0 ∧ riskA es c 0 = 0 ∧ 0 ≤ riskA es c v ∧ (riskK es c (v + 1) = 0 → riskA es c v ≤ riskA es c (v + 1)) ∧ zonesC es = 0 ∧ (0 ≤ c ∧ c < ((zonesR es).length : Int)) ∧
      (zonesR es)[c.toNat]? = some (zw es c.toNat es.length) ∧ ∀ (i : Nat) y ps, es[i]? = some (y, ps) → ∃ x, ps[c.toNat]? = some x ∧ c < (ps.length : Int) ∧ zoneC x y = 0 ∧ zoneA x y = zoneV x y := by
  obtain ⟨h1, h2, h3, h4⟩ := riskK_ok h
  have hc := inB_iff.1 h3
  have hv := inB_iff.1 h4
  have hcl : c.toNat < (pAt es 0).length := by omega
  have k0 : riskK es c 0 = 0 := riskK_of h1 h2 h3 (inB_iff.2 (by omega))
  have hb := riskS_bd h1 (v := v) ⟨hv.1, hv.2⟩ hcl es.length
  have zC : zonesC es = 0 := by rw [zonesC, if_pos h1, if_neg h2]
  have zR : zonesR es = zonesL es (pAt es 0).length := by rw [zonesR, if_pos zC]
  refine ⟨k0, by rw [riskA, if_pos k0]; exact riskS_zero h1 _ _, by rw [riskA, if_pos h]; exact hb.1, fun h' => ?_, zC, ?_, ?_, fun i y ps hx => ?_⟩
  · rw [riskA, if_pos h, riskA, if_pos h']
    exact riskS_mono h1 hv.1 hcl _
  · rw [zR, zonesL_len]; omega
  · rw [zR]
    simp [zonesL, hcl]
  · obtain ⟨f1, f2, f3, f4, f5⟩ := ev_facts h1 hx
    have hcp : c.toNat < ps.length := by omega
    have hx2 : ps[c.toNat]? = some ps[c.toNat] := List.getElem?_eq_getElem hcp
    have hb := allB_iff.1 f4 _ _ hx2
    have e : (inB ps[c.toNat] 0 1000000 && inB y 1 300) = true := by simp only [Bool.and_eq_true, inB_iff]; omega
    exact ⟨ps[c.toNat], hx2, by omega, by rw [zoneC, if_pos e], by rw [zoneA, if_pos e]⟩
theorem risk_none {es : List Ev} {c v : Int} (h : riskK es c v ≠ 0) : riskA es c v = 0 := by rw [riskA, if_neg h]
end Go.Proofs.Ytbakmcjngadebaa
