/-
  The risk of a cell, both sides.
-/
import Derived.Test.YtbakmcjngadebaaEvV
import Derived.Test.YtbakmcjngadebaaZoneY
namespace Go.Proofs.Ytbakmcjngadebaa
open Go.ChangeShapes Go.WideShapes Go.ChangeAt Go.RowKit Go.Deep
set_option linter.unusedVariables false

theorem ev_facts {es : List Ev} (h : evOk es = true) {i : Nat} {y : Int} {ps : List Int} (hx : es[i]? = some (y, ps)) :
    (1 ≤ y ∧ y ≤ 300) ∧ 1 ≤ ps.length ∧ ps.length ≤ 64 ∧ allB ps 0 1000000 = true ∧ ps.length = (pAt es 0).length := by
  have hi : i < es.length := (List.getElem?_eq_some_iff.1 hx).1
  have := evI_iff.1 ((evOk_iff.1 h).2 i hi)
  rw [yAt_eq hx, pAt_eq hx] at this
  exact ⟨this.1, this.2.1, this.2.2.1, this.2.2.2.1, this.2.2.2.2.1⟩
def riskT (c : Nat) (v : Int) (e : Ev) : Int := divN (v * min 30000 (e.2.getD c 0)) (30000 * e.1)
def riskS (es : List Ev) (c : Nat) (v : Int) (k : Nat) : Int := ((es.take k).map (riskT c v)).sum
theorem riskS_snoc {es : List Ev} {c : Nat} {v : Int} {k : Nat} {e : Ev} (h : es[k]? = some e) : riskS es c v (k + 1) = riskS es c v k + riskT c v e := by
  unfold riskS
  rw [List.take_add_one, h, List.map_append, List.sum_append]
  simp
def riskK (es : List Ev) (c v : Int) : Int :=
  if evOk es = true then (if es.length = 0 ∨ inB c 0 (((pAt es 0).length : Int) - 1) = false ∨ inB v 0 1000000000 = false then 2 else 0) else 1
def riskA (es : List Ev) (c v : Int) : Int := if riskK es c v = 0 then riskS es c.toNat v es.length else 0
theorem riskT_bd {c : Nat} {v y x : Int} {ps : List Int} (hv : 0 ≤ v ∧ v ≤ 1000000000) (hy : 1 ≤ y ∧ y ≤ 300) (hx : ps[c]? = some x) (hx0 : 0 ≤ x) :
    (0 ≤ v * min 30000 x ∧ v * min 30000 x ≤ 30000000000000) ∧ riskT c v (y, ps) = divN (v * min 30000 x) (30000 * y) ∧ 0 ≤ riskT c v (y, ps) ∧ riskT c v (y, ps) ≤ 30000000000001 := by
  have e : riskT c v (y, ps) = divN (v * min 30000 x) (30000 * y) := by simp [riskT, hx]
  have m1 : 0 ≤ v * min 30000 x := Int.mul_nonneg hv.1 (by omega)
  have m2 : v * min 30000 x ≤ 1000000000 * 30000 := Int.mul_le_mul hv.2 (by omega) (by omega) (by omega)
  have := divN_le (v * min 30000 x) (30000 * y) m1 (by omega)
  rw [e]
  omega
theorem riskS_bd {es : List Ev} (h : evOk es = true) {c : Nat} {v : Int} (hv : 0 ≤ v ∧ v ≤ 1000000000) (hc : c < (pAt es 0).length) (k : Nat) : 0 ≤ riskS es c v k ∧ riskS es c v k ≤ 30000000000001 * (k : Int) := by
  induction k with
  | zero => simp [riskS]
  | succ k ih =>
    cases hx : es[k]? with
    | none =>
      have : riskS es c v (k + 1) = riskS es c v k := by
        unfold riskS
        rw [List.take_add_one, hx]
        simp
      rw [this]
      omega
    | some e =>
      obtain ⟨y, ps⟩ := e
      obtain ⟨f1, f2, f3, f4, f5⟩ := ev_facts h hx
      have hcl : c < ps.length := by omega
      have hx2 : ps[c]? = some ps[c] := List.getElem?_eq_getElem hcl
      have hb := allB_iff.1 f4 c _ hx2
      have := riskT_bd (c := c) hv f1 hx2 hb.1
      rw [riskS_snoc hx]
      omega
set_option maxRecDepth 100000 in
set_option maxHeartbeats 2000000 in
theorem RiskOf_s (A : Option Addr) (n c : Nat) (a v : Int) (es : List Ev) (w : World) (h : Evs w A n es) (ha : -9223372036854775808 ≤ a ∧ a ≤ 9223372036854775807) (hv : -9223372036854775808 ≤ v ∧ v ≤ 9223372036854775807) :
    Calls Try.prog 41 #[.slice A n c, .int .i64 a, .int .i64 v] w fun e w' => e = .returned (.tuple #[.int .i64 (riskA es a v), .int .i64 (riskK es a v)]) ∧ Below w.heap.size w w' := by
  have hn := h.2.1
  have HL := Lib.hid h.1
  cases h1 : evOk es
  · have HA := Lib.hid (show riskA es a v = 0 ∧ riskK es a v = 1 by simp [riskA, riskK, h1])
    go_enter Try.func41, Try.ntmps41
    go_wp2_with fail
    refine (l16Ok_any _ _ _ es _ h).mono ?_
    rintro e w1 ⟨rfl, q1, rfl⟩
    rw [h1]
    go_wp2_with fail
    go_ret2
    exact ⟨ret_int2 (by rw [HA.out.1]) (by rw [HA.out.2]), below_drewN (Below.refl _ _) _⟩
  · have HO := Lib.hid h1
    by_cases hn0 : n = 0
    · have HA := Lib.hid (show riskA es a v = 0 ∧ riskK es a v = 2 by simp [riskA, riskK, h1, HL.out, hn0])
      subst hn0
      go_enter Try.func41, Try.ntmps41
      go_wp2_with fail
      refine (l16Ok_any _ _ _ es _ h).mono ?_
      rintro e w1 ⟨rfl, q1, rfl⟩
      rw [h1]
      go_wp2_with fail
      go_ret2
      exact ⟨ret_int2 (by rw [HA.out.1]) (by rw [HA.out.2]), below_drewN (Below.refl _ _) _⟩
    · obtain ⟨b, off, y0, P0, m0, d0, ps0, rfl, HX0, hd1, hd2, hy0, hp0⟩ := h.at_ (show 0 < n by omega)
      simp only [Nat.zero_mul, Nat.add_zero] at hd1 hd2
      have hm63 := hp0.2.1
      have HM0 := Lib.hid (show (pAt es 0).length = m0 by rw [pAt_eq HX0.out, hp0.1])
      have hm0 : 0 < m0 := by have := (ev_facts h1 HX0.out).2.1; rw [hp0.1] at this; omega
      have hnp : 0 < n := by omega
      have hn0' : ¬ (n : Int) = 0 := by omega
      have HH := Lib.hid (And.intro h hp0)
      cases h2 : inB a 0 ((m0 : Int) - 1) <;> cases h3 : inB v 0 1000000000
      case true.true =>
        have h8 := (evOk_iff.1 h1).1
        rw [HL.out] at h8
        have h2' := inB_iff.1 h2
        have h3' := inB_iff.1 h3
        obtain ⟨ca, rfl⟩ : ∃ ca : Nat, a = (ca : Int) := ⟨a.toNat, by omega⟩
        have hca : ca < m0 := by omega
        have HA := Lib.hid (show riskA es ca v = riskS es ca v n ∧ riskK es ca v = 0 by
          have : riskK es ca v = 0 := by simp [riskK, h1, HM0.out, h2, h3, HL.out]; omega
          exact ⟨by rw [riskA, if_pos this, HL.out]; simp, this⟩)
        have HI := Lib.hid (And.intro h2 h3)
        clear hp0
        go_enter Try.func41, Try.ntmps41
        go_wp2_with fail
        refine (l16Ok_any _ _ _ es _ h).mono ?_
        rintro e w1 ⟨rfl, q1, rfl⟩
        rw [h1]
        clear h h1
        go_wp2_with ((go_at_call 71; refine (l00In_any _ _ _ _).mono ?_; rintro e w' ⟨rfl, rfl⟩))
        rw [show ((n : Int) == 0) = false by simpa using hn0']
        clear h2 h3
        go_loopw [8, 9] (fun t i wr => ∃ k : Nat, k ≤ n ∧ i = .int .i64 k ∧ Below w.heap.size w wr ∧ t = .int .i64 (riskS es ca v k)) (fun _ i _ => n - (intOf i).toNat)
        case atStart => exact ⟨0, Nat.zero_le _, rfl, below_drewN (Below.refl _ _) _, rfl⟩
        case round =>
          obtain ⟨k, hk, rfl, hbl, rfl⟩ := hrel
          have hsb := riskS_bd HO.out h3' (by rw [HM0.out]; exact hca) k
          obtain ⟨t, ht⟩ : ∃ t, t = riskS es ca v k := ⟨_, rfl⟩
          rw [← ht] at hsb ⊢
          have HT := Lib.hid ht
          clear ht
          by_cases hlt : k < n
          · obtain ⟨b', off', y, P, m, d, ps, hAA, HX, hc1, hc2, hy, hp⟩ := (HH.out.1.below hbl).at_ hlt
            obtain ⟨rfl, rfl⟩ : b = b' ∧ off = off' := by
              injection hAA with hAA
              injection hAA with e1 e2 _
              exact ⟨e1, e2⟩
            obtain ⟨f1, f2, f3, f4, f5⟩ := ev_facts HO.out HX.out
            rw [HM0.out, hp.1] at f5
            subst f5
            obtain ⟨b2, off2, x, rfl, HX2, hcx, hx1, hx2⟩ := hp.at_ hca
            have hxb := allB_iff.1 f4 ca x HX2.out
            obtain ⟨hm1, hm2, hm3⟩ := riskT_bd (c := ca) h3' f1 HX2.out hxb.1
            rw [hm2] at hm3
            have HS := Lib.hid (show riskS es ca v (k + 1) = t + divN (v * min 30000 x) (30000 * y) by rw [riskS_snoc HX.out, hm2, HT.out])
            have hw1 : IntKind.i64.wrap (v * min 30000 x) = v * min 30000 x := IntWalk.i64_in _ (by omega)
            have hw2 : IntKind.i64.wrap (30000 * y) = 30000 * y := IntWalk.i64_in _ (by omega)
            have hw3 : IntKind.i64.wrap (t + divN (v * min 30000 x) (30000 * y)) = t + divN (v * min 30000 x) (30000 * y) := IntWalk.i64_in _ (by omega)
            have HC := fun W : World => Lib.hid (l01Div_any (v * min 30000 x) (30000 * y) W (by omega) (by omega) (by omega) (by omega))
            have HB := Lib.hid hbl
            have hki : (k : Int) < (n : Int) := by omega
            have hci : (ca : Int) < (m : Int) := by omega
            clear hm2 hbl hp f4 hAA
            go_wp2_with fail
            go_quiet ((first | (go_at_call 86; exact quiet_left (l00Min_any _ _ _)) | (go_at_call 81; exact quiet_left (HC _).out)))
            go_wp2_with fail
            go_roundw
            case rel => exact ⟨k + 1, by omega, by go_num, below_drewN HB.out _, by rw [HS.out]⟩
            case measure => simp [intOf]; omega
          · obtain rfl : k = n := by omega
            clear hlt
            have HB := Lib.hid hbl
            clear hbl
            go_wp2_with fail
            go_ret2
            exact ⟨ret_int2 (by rw [HA.out.1, HT.out]) (by rw [HA.out.2]), HB.out⟩
      all_goals
        have HA := Lib.hid (show riskA es a v = 0 ∧ riskK es a v = 2 by
          have : riskK es a v = 2 := by simp [riskK, h1, HM0.out, h2, h3]
          exact ⟨by rw [riskA, if_neg (by rw [this]; omega)], this⟩)
        clear hp0
        go_enter Try.func41, Try.ntmps41
        go_wp2_with fail
        refine (l16Ok_any _ _ _ es _ h).mono ?_
        rintro e w1 ⟨rfl, q1, rfl⟩
        rw [h1]
        clear h h1
        go_wp2_with ((go_at_call 71; refine (l00In_any _ _ _ _).mono ?_; rintro e w' ⟨rfl, rfl⟩))
        go_ret2
        exact ⟨ret_int2 (by rw [HA.out.1]) (by rw [HA.out.2]), below_drewN (Below.refl _ _) _⟩
theorem indexValid_e (A : Option Addr) (n c : Nat) (k : Int) (w : World) (hn : n ≤ 9223372036854775807) :
    Calls Try.prog 87 #[.slice A n c, .int .i64 k] w fun e w' => e = .returned (.bool (inB k 0 ((n : Int) - 1))) ∧ w = w' := by
  go_enter Try.func87, Try.ntmps87
  go_wp2_with ((go_at_call 74; refine (within_any _ _ _ _).mono ?_; rintro e w' ⟨rfl, rfl⟩))
  go_ret
  exact ⟨rfl, rfl⟩
set_option maxRecDepth 100000 in
set_option maxHeartbeats 2000000 in
theorem RiskOf_i (A : Option Addr) (n c : Nat) (a v : Int) (es : List Ev) (w : World) (h : Evs w A n es) (ha : -9223372036854775808 ≤ a ∧ a ≤ 9223372036854775807) (hv : -9223372036854775808 ≤ v ∧ v ≤ 9223372036854775807) :
    Calls Try.prog 42 #[.slice A n c, .int .i64 a, .int .i64 v] w fun e w' => e = .returned (.tuple #[.int .i64 (riskA es a v), .int .i64 (riskK es a v)]) ∧ Below w.heap.size w w' := by
  have hn := h.2.1
  have HL := Lib.hid h.1
  cases h1 : evOk es
  · have HA := Lib.hid (show riskA es a v = 0 ∧ riskK es a v = 1 by simp [riskA, riskK, h1])
    go_enter Try.func42, Try.ntmps42
    go_wp2_with fail
    refine (ValidEvents_i _ _ _ es _ h).mono ?_
    rintro e w1 ⟨rfl, hb1⟩
    rw [h1]
    go_wp2_with fail
    go_ret2
    exact ⟨ret_int2 (by rw [HA.out.1]) (by rw [HA.out.2]), hb1⟩
  · have HO := Lib.hid h1
    by_cases hn0 : n = 0
    · have HA := Lib.hid (show riskA es a v = 0 ∧ riskK es a v = 2 by simp [riskA, riskK, h1, HL.out, hn0])
      subst hn0
      go_enter Try.func42, Try.ntmps42
      go_wp2_with fail
      refine (ValidEvents_i _ _ _ es _ h).mono ?_
      rintro e w1 ⟨rfl, hb1⟩
      rw [h1]
      go_wp2_with fail
      go_ret2
      exact ⟨ret_int2 (by rw [HA.out.1]) (by rw [HA.out.2]), hb1⟩
    · obtain ⟨b, off, y0, P0, m0, d0, ps0, rfl, HX0, hd1, hd2, hy0, hp0⟩ := h.at_ (show 0 < n by omega)
      simp only [Nat.zero_mul, Nat.add_zero] at hd1 hd2
      have hm63 := hp0.2.1
      have HM0 := Lib.hid (show (pAt es 0).length = m0 by rw [pAt_eq HX0.out, hp0.1])
      have hm0 : 0 < m0 := by have := (ev_facts h1 HX0.out).2.1; rw [hp0.1] at this; omega
      have hnp : 0 < n := by omega
      have hn0' : ¬ (n : Int) = 0 := by omega
      have HH := Lib.hid (And.intro h hp0)
      cases h2 : inB a 0 ((m0 : Int) - 1) <;> cases h3 : inB v 0 1000000000
      case true.true =>
        have h8 := (evOk_iff.1 h1).1
        rw [HL.out] at h8
        have h2' := inB_iff.1 h2
        have h3' := inB_iff.1 h3
        obtain ⟨ca, rfl⟩ : ∃ ca : Nat, a = (ca : Int) := ⟨a.toNat, by omega⟩
        have hca : ca < m0 := by omega
        have HA := Lib.hid (show riskA es ca v = riskS es ca v n ∧ riskK es ca v = 0 by
          have : riskK es ca v = 0 := by simp [riskK, h1, HM0.out, h2, h3, HL.out]; omega
          exact ⟨by rw [riskA, if_pos this, HL.out]; simp, this⟩)
        have HI := Lib.hid (And.intro h2 h3)
        clear hp0
        go_enter Try.func42, Try.ntmps42
        go_wp2_with fail
        refine (ValidEvents_i _ _ _ es _ h).mono ?_
        rintro e w1 ⟨rfl, hb1⟩
        rw [h1]
        have HB1 := Lib.hid hb1
        have HE := Lib.hid (HH.out.1.below hb1)
        replace hd1 := cell_kept hb1 hd1
        replace hd2 := cell_kept hb1 hd2
        clear h h1 hb1
        go_wp2_with (first | ((go_at_call 74; refine (within_any _ _ _ _).mono ?_; rintro e w' ⟨rfl, rfl⟩)) | (go_at_call 87; refine (indexValid_e _ _ _ _ _ hm63).mono ?_; rintro e w' ⟨rfl, rfl⟩))
        rw [show ((n : Int) == 0) = false by simpa using hn0']
        clear h2 h3 hd1 hd2
        go_loopw [8, 35] (fun t i wr => ∃ k : Nat, k ≤ n ∧ i = .int .i64 k ∧ Below w.heap.size w wr ∧ t = .int .i64 (riskS es ca v k)) (fun _ i _ => n - (intOf i).toNat)
        case atStart => exact ⟨0, Nat.zero_le _, rfl, HB1.out, rfl⟩
        case round =>
          obtain ⟨k, hk, rfl, hbl, rfl⟩ := hrel
          have hsb := riskS_bd HO.out h3' (by rw [HM0.out]; exact hca) k
          obtain ⟨t, ht⟩ : ∃ t, t = riskS es ca v k := ⟨_, rfl⟩
          rw [← ht] at hsb ⊢
          have HT := Lib.hid ht
          clear ht
          by_cases hlt : k < n
          · obtain ⟨b', off', y, P, m, d, ps, hAA, HX, hc1, hc2, hy, hp⟩ := (HH.out.1.below hbl).at_ hlt
            obtain ⟨rfl, rfl⟩ : b = b' ∧ off = off' := by
              injection hAA with hAA
              injection hAA with e1 e2 _
              exact ⟨e1, e2⟩
            obtain ⟨f1, f2, f3, f4, f5⟩ := ev_facts HO.out HX.out
            rw [HM0.out, hp.1] at f5
            subst f5
            obtain ⟨b2, off2, x, rfl, HX2, hcx, hx1, hx2⟩ := hp.at_ hca
            have hxb := allB_iff.1 f4 ca x HX2.out
            obtain ⟨hm1, hm2, hm3⟩ := riskT_bd (c := ca) h3' f1 HX2.out hxb.1
            obtain ⟨z, hz⟩ : ∃ z, z = min 30000 x := ⟨_, rfl⟩
            rw [← hz] at hm1 hm2
            rw [hm2] at hm3
            have HS := Lib.hid (show riskS es ca v (k + 1) = t + divN (v * z) (30000 * y) by rw [riskS_snoc HX.out, hm2, HT.out])
            have HB := Lib.hid (hbl.trans (((Below.refl wr.heap.size wr).alloc (Nat.le_refl _) (.cells #[.int .i64 y, .slice (some ⟨b2, off2, none⟩) m d] 68)).mono hbl.size))
            have hbw : b2 < wr.heap.size := cell_lt hcx
            have hki : (k : Int) < (n : Int) := by omega
            have hci : (ca : Int) < (m : Int) := by omega
            clear hm2 hbl hp f4 hAA
            by_cases hmn : 30000 < x
            · obtain rfl : z = 30000 := by omega
              have hw1 : IntKind.i64.wrap (v * 30000) = v * 30000 := IntWalk.i64_in _ (by omega)
              have hw2 : IntKind.i64.wrap (30000 * y) = 30000 * y := IntWalk.i64_in _ (by omega)
              have hw3 : IntKind.i64.wrap (t + divN (v * 30000) (30000 * y)) = t + divN (v * 30000) (30000 * y) := IntWalk.i64_in _ (by omega)
              have HC := fun W : World => Lib.hid (divRound_any (v * 30000) (30000 * y) W (by omega) (by omega) (by omega) (by omega))
              clear hz
              go_wp2_with fail
              go_quiet ((go_at_call 82; exact Calls.quiet_of (HC _).out))
              go_wp2_with fail
              go_roundw
              case rel => exact ⟨k + 1, by omega, by go_num, below_drewN HB.out _, by rw [HS.out]⟩
              case measure => simp [intOf]; omega
            · obtain rfl : z = x := by omega
              have hw1 : IntKind.i64.wrap (v * z) = v * z := IntWalk.i64_in _ (by omega)
              have hw2 : IntKind.i64.wrap (30000 * y) = 30000 * y := IntWalk.i64_in _ (by omega)
              have hw3 : IntKind.i64.wrap (t + divN (v * z) (30000 * y)) = t + divN (v * z) (30000 * y) := IntWalk.i64_in _ (by omega)
              have HC := fun W : World => Lib.hid (divRound_any (v * z) (30000 * y) W (by omega) (by omega) (by omega) (by omega))
              clear hz
              go_wp2_with fail
              go_quiet ((go_at_call 82; exact Calls.quiet_of (HC _).out))
              go_wp2_with fail
              go_roundw
              case rel => exact ⟨k + 1, by omega, by go_num, below_drewN HB.out _, by rw [HS.out]⟩
              case measure => simp [intOf]; omega
          · obtain rfl : k = n := by omega
            clear hlt
            have HB := Lib.hid hbl
            clear hbl
            go_wp2_with fail
            go_ret2
            exact ⟨ret_int2 (by rw [HA.out.1, HT.out]) (by rw [HA.out.2]), HB.out⟩
      all_goals
        have HA := Lib.hid (show riskA es a v = 0 ∧ riskK es a v = 2 by
          have : riskK es a v = 2 := by simp [riskK, h1, HM0.out, h2, h3]
          exact ⟨by rw [riskA, if_neg (by rw [this]; omega)], this⟩)
        clear hp0
        go_enter Try.func42, Try.ntmps42
        go_wp2_with fail
        refine (ValidEvents_i _ _ _ es _ h).mono ?_
        rintro e w1 ⟨rfl, hb1⟩
        rw [h1]
        have HB1 := Lib.hid hb1
        replace hd1 := cell_kept hb1 hd1
        replace hd2 := cell_kept hb1 hd2
        clear h h1 hb1
        go_wp2_with (first | ((go_at_call 74; refine (within_any _ _ _ _).mono ?_; rintro e w' ⟨rfl, rfl⟩)) | (go_at_call 87; refine (indexValid_e _ _ _ _ _ hm63).mono ?_; rintro e w' ⟨rfl, rfl⟩))
        go_ret2
        exact ⟨ret_int2 (by rw [HA.out.1]) (by rw [HA.out.2]), HB1.out⟩
end Go.Proofs.Ytbakmcjngadebaa
