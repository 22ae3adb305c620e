/-
  When events are valid: the program's side and the reference's.
-/
import Derived.Test.YtbakmcjngadebaaEvW
import Derived.Test.YtbakmcjngadebaaScal
namespace Go.Proofs.Ytbakmcjngadebaa
open Go.ChangeShapes Go.WideShapes Go.ChangeAt Go.RowKit Go.Deep
set_option linter.unusedVariables false

theorem box_ev (w : World) (y : Int) (P : Option Addr) (m d : Nat) (T : TypeId) :
    (w.alloc (.cells #[.int .i64 y, .slice P m d] T)).cell? ⟨w.heap.size, 0, none⟩ = some (.int .i64 y) ∧ (w.alloc (.cells #[.int .i64 y, .slice P m d] T)).cell? ⟨w.heap.size, 1, none⟩ = some (.slice P m d) := by
  constructor <;> go_simp
set_option maxRecDepth 100000 in
set_option maxHeartbeats 2000000 in
theorem ValidEvents_i (A : Option Addr) (n c : Nat) (es : List Ev) (w : World) (h : Evs w A n es) :
    Calls Try.prog 33 #[.slice A n c] w fun e w' => e = .returned (.bool (evOk es)) ∧ Below w.heap.size w w' := by
  have hn := h.2.1
  have HL := Lib.hid h.1
  by_cases h8 : n ≤ 8
  rotate_left
  · have HT := Lib.hid (show evOk es = false from evOk_no fun hh => by have := hh.1; rw [HL.out] at this; omega)
    go_enter Try.func33, Try.ntmps33
    go_wp2_with fail
    go_ret
    exact ⟨ret_bool (by rw [HT.out]), Below.refl _ _⟩
  go_enter Try.func33, Try.ntmps33
  go_wp2_with fail
  go_loopw [10] (fun i wr => ∃ k : Nat, k ≤ n ∧ i = .int .i64 k ∧ Below w.heap.size w wr ∧ Hid (∀ j, j < k → evI es j = true)) (fun i _ => n - (intOf i).toNat)
  case atStart => exact ⟨0, Nat.zero_le _, rfl, Below.refl _ _, fun j hj => absurd hj (by omega)⟩
  case round =>
    obtain ⟨k, hk, rfl, hbl, HK⟩ := hrel
    by_cases hlt : k < n
    · obtain ⟨b, off, y, P, m, d, ps, rfl, HX, hc1, hc2, hy, hp⟩ := (h.below hbl).at_ hlt
      obtain ⟨b', off', y0, P0, m0, d0, ps0, hAA, HX0, hd1, hd2, hy0, hp0⟩ := (h.below hbl).at_ (show 0 < n by omega)
      obtain ⟨rfl, rfl⟩ : b = b' ∧ off = off' := by
        injection hAA with hAA
        injection hAA with e1 e2 _
        exact ⟨e1, e2⟩
      simp only [Nat.zero_mul, Nat.add_zero] at hd1 hd2
      have hm := hp.1
      have hm63 := hp.2.1
      have hkL : k < es.length := by rw [HL.out]; exact hlt
      have HN : Hid (¬ ((1 ≤ y ∧ y ≤ 300) ∧ 1 ≤ m ∧ m ≤ 64 ∧ allB ps 0 1000000 = true ∧ m = m0 ∧ (k = 0 ∨ yAt es (k - 1) < y)) → evOk es = false) := by
        intro hh
        refine evOk_pt hkL ?_
        rw [yAt_eq HX.out, pAt_eq HX.out, pAt_eq HX0.out, hm, hp0.1]
        exact hh
      have HY : Hid ((1 ≤ y ∧ y ≤ 300) → 1 ≤ m → m ≤ 64 → allB ps 0 1000000 = true → m = m0 → (k = 0 ∨ yAt es (k - 1) < y) → evI es k = true) := by
        intro a1 a2 a3 a4 a5 a6
        rw [evI_iff, yAt_eq HX.out, pAt_eq HX.out, pAt_eq HX0.out, hm, hp0.1]
        exact ⟨a1, a2, a3, a4, a5, a6⟩
      have HM0 := Lib.hid hp0.1
      have HB := Lib.hid hbl
      have HP := Lib.hid (And.intro hp h)
      have hBx := (Below.refl wr.heap.size wr).alloc (Nat.le_refl _) (.cells #[.int .i64 y, .slice P m d] 68)
      have hpx := hp.below hBx
      have HBx := Lib.hid hBx
      have HPx := Lib.hid hpx
      have hz0 : m = 0 → k = 0 ∨ True := fun _ => .inr trivial
      clear hbl h hp hp0 hAA hm hBx hpx hz0 hkL
      have hki : (k : Int) < (n : Int) := by omega
      cases hi1 : inB y 1 300
      · have hw1 := inB_not.1 hi1
        go_wp2_with ((go_at_call 74; refine (within_any _ _ _ _).mono ?_; rintro e w' ⟨rfl, rfl⟩))
        go_ret
        exact ⟨ret_bool (HN.out (fun hh => by omega)).symm, HB.out.trans (HBx.out.mono HB.out.size)⟩
      · have hw1 := inB_iff.1 hi1
        have HI1 := Lib.hid hi1
        by_cases hi2 : m < 1
        · go_wp2_with ((go_at_call 74; refine (within_any _ _ _ _).mono ?_; rintro e w' ⟨rfl, rfl⟩))
          go_ret
          exact ⟨ret_bool (HN.out (fun hh => by omega)).symm, HB.out.trans (HBx.out.mono HB.out.size)⟩
        · by_cases hi3 : 64 < m
          · go_wp2_with ((go_at_call 74; refine (within_any _ _ _ _).mono ?_; rintro e w' ⟨rfl, rfl⟩))
            go_ret
            exact ⟨ret_bool (HN.out (fun hh => by omega)).symm, HB.out.trans (HBx.out.mono HB.out.size)⟩
          · cases hi4 : allB ps 0 1000000
            · have HI4 := Lib.hid hi4
              go_wp2_with ((go_at_call 74; refine (within_any _ _ _ _).mono ?_; rintro e w' ⟨rfl, rfl⟩))
              refine (allWithin_any _ _ _ _ _ ps _ HPx.out).mono ?_
              rintro e w2 ⟨rfl, hb2⟩
              have HF := Lib.hid (HB.out.trans ((HBx.out.trans (hb2.mono HBx.out.size)).mono HB.out.size))
              clear hb2
              rw [HI4.out]
              go_wp2_with fail
              go_ret
              exact ⟨ret_bool (HN.out (fun hh => by rw [HI4.out] at hh; exact absurd hh.2.2.2.1 (by simp))).symm, HF.out⟩
            · have HI4 := Lib.hid hi4
              go_wp2_with ((go_at_call 74; refine (within_any _ _ _ _).mono ?_; rintro e w' ⟨rfl, rfl⟩))
              refine (allWithin_any _ _ _ _ _ ps _ HPx.out).mono ?_
              rintro e w2 ⟨rfl, hb2⟩
              have HF := Lib.hid (HB.out.trans ((HBx.out.trans (hb2.mono HBx.out.size)).mono HB.out.size))
              have HW := Lib.hid (HBx.out.trans (hb2.mono HBx.out.size))
              have x0 := cell_kept hb2 (box_ev wr y P m d 68).1
              have x1 := cell_kept hb2 (box_ev wr y P m d 68).2
              replace hd1 := cell_kept HW.out hd1
              replace hd2 := cell_kept HW.out hd2
              clear hb2 hc1 hc2 hi4
              rw [HI4.out]
              go_wp2_with fail
              by_cases hk0 : k = 0
              · have hk0' : decide (0 < k) = false := by simp; omega
                have HZ := Lib.hid hk0
                have HMM := Lib.hid (show m = m0 by
                  have e1 := HX.out
                  rw [hk0] at e1
                  have := e1.symm.trans HX0.out
                  injection this with this
                  injection this with e2 e3
                  rw [← HP.out.1.1, e3]
                  exact HM0.out)
                clear hk0 hd1 hd2
                go_quiet (fail)
                go_wp2_with fail
                go_roundw
                case rel => exact ⟨k + 1, by omega, by go_num, below_drewN HF.out _, fun j hj => by
                  by_cases e : j = k
                  · subst e
                    exact HY.out hw1 (by omega) (by omega) HI4.out HMM.out (.inl HZ.out)
                  · exact HK.out j (by omega)⟩
                case measure => simp [intOf]; omega
              · obtain ⟨b', off', y1, P1, m1, d1, ps1, hAA, HX1, hq1, hq2, hy1, hp1⟩ := (HP.out.2.below HB.out).at_ (show k - 1 < n by omega)
                obtain ⟨rfl, rfl⟩ : b = b' ∧ off = off' := by
                  injection hAA with hAA
                  injection hAA with e1 e2 _
                  exact ⟨e1, e2⟩
                replace hq1 := cell_kept HW.out hq1
                have HD := Lib.hid (yAt_eq HX1.out)
                clear hAA hq2 hp1
                have hpos : decide (0 < k) = true := by simp; omega
                have hk1 : ((k : Int) - 1).toNat = k - 1 := by omega
                have hk2 : (0 : Int) ≤ (k : Int) - 1 := by omega
                have hk3 : (k : Int) - 1 < (n : Int) := by omega
                have hk4 : IntKind.i64.wrap ((k : Int) - 1) = (k : Int) - 1 := IntWalk.i64_in _ (by omega)
                have hn0 : 0 < n := by omega
                by_cases hi5 : y ≤ y1
                · have hi5' : decide (y ≤ y1) = true := by simpa using hi5
                  go_quiet (fail)
                  go_wp2_with fail
                  go_ret
                  exact ⟨ret_bool (HN.out (fun hh => by rcases hh.2.2.2.2.2 with h | h; exact hk0 h; rw [HD.out] at h; omega)).symm, below_drewN HF.out _⟩
                · have hi5' : decide (y ≤ y1) = false := by simpa using hi5
                  by_cases hi6 : m = m0
                  · subst hi6
                    go_quiet (fail)
                    go_wp2_with fail
                    go_roundw
                    case rel => exact ⟨k + 1, by omega, by go_num, below_drewN HF.out _, fun j hj => by
                      by_cases e : j = k
                      · subst e
                        exact HY.out hw1 (by omega) (by omega) HI4.out rfl (.inr (by rw [HD.out]; omega))
                      · exact HK.out j (by omega)⟩
                    case measure => simp [intOf]; omega
                  · have hi6' : (m == m0) = false := by simpa using hi6
                    have hi6'' : (m != m0) = true := by simpa using hi6
                    go_quiet (fail)
                    go_wp2_with fail
                    go_ret
                    exact ⟨ret_bool (HN.out (fun hh => hi6 hh.2.2.2.2.1)).symm, below_drewN HF.out _⟩
    · obtain rfl : k = n := by omega
      clear hlt
      have HB := Lib.hid hbl
      have HT := Lib.hid (show evOk es = true from evOk_iff.2 ⟨by rw [HL.out]; exact h8, fun i hi => HK.out i (by rw [HL.out] at hi; exact hi)⟩)
      clear hbl h
      go_wp2_with fail
      go_ret
      exact ⟨ret_bool (by rw [HT.out]), HB.out⟩
set_option maxRecDepth 100000 in
set_option maxHeartbeats 2000000 in
theorem l16Ok_any (A : Option Addr) (n c : Nat) (es : List Ev) (w : World) (h : Evs w A n es) :
    Calls Try.prog 78 #[.slice A n c] w fun e w' => e = .returned (.bool (evOk es)) ∧ ∃ q, w' = w.drewN q := by
  have hn := h.2.1
  have HL := Lib.hid h.1
  go_enter Try.func78, Try.ntmps78
  go_wp2_with fail
  go_loopw [3] (fun i wr => ∃ k q : Nat, k ≤ n ∧ i = .int .i64 k ∧ wr = w.drewN q ∧ Hid (∀ j, j < k → evI es j = true)) (fun i _ => n - (intOf i).toNat)
  case atStart => exact ⟨0, 0, Nat.zero_le _, rfl, rfl, fun j hj => absurd hj (by omega)⟩
  case round =>
    obtain ⟨k, q, hk, rfl, rfl, HK⟩ := hrel
    by_cases hlt : k < n
    · obtain ⟨b, off, y, P, m, d, ps, rfl, HX, hc1, hc2, hy, hp⟩ := h.at_ hlt
      obtain ⟨b', off', y0, P0, m0, d0, ps0, hAA, HX0, hd1, hd2, hy0, hp0⟩ := h.at_ (show 0 < n by omega)
      obtain ⟨rfl, rfl⟩ : b = b' ∧ off = off' := by
        injection hAA with hAA
        injection hAA with e1 e2 _
        exact ⟨e1, e2⟩
      simp only [Nat.zero_mul, Nat.add_zero] at hd1 hd2
      have hm := hp.1
      have hm63 := hp.2.1
      have hkL : k < es.length := by rw [HL.out]; exact hlt
      have HN : Hid (¬ ((1 ≤ y ∧ y ≤ 300) ∧ 1 ≤ m ∧ m ≤ 64 ∧ allB ps 0 1000000 = true ∧ m = m0 ∧ (k = 0 ∨ yAt es (k - 1) < y)) → evOk es = false) := by
        intro hh
        refine evOk_pt hkL ?_
        rw [yAt_eq HX.out, pAt_eq HX.out, pAt_eq HX0.out, hm, hp0.1]
        exact hh
      have HY : Hid ((1 ≤ y ∧ y ≤ 300) → 1 ≤ m → m ≤ 64 → allB ps 0 1000000 = true → m = m0 → (k = 0 ∨ yAt es (k - 1) < y) → evI es k = true) := by
        intro a1 a2 a3 a4 a5 a6
        rw [evI_iff, yAt_eq HX.out, pAt_eq HX.out, pAt_eq HX0.out, hm, hp0.1]
        exact ⟨a1, a2, a3, a4, a5, a6⟩
      have HMM : Hid (k = 0 → m = m0) := by
        intro hk0
        have e1 := HX.out
        rw [hk0] at e1
        have := e1.symm.trans HX0.out
        injection this with this
        injection this with e2 e3
        rw [← hm, e3, hp0.1]
      have HP := Lib.hid (And.intro hp h)
      clear h hp hp0 hAA hm hkL
      have hki : (k : Int) < (n : Int) := by omega
      have hn0 : 0 < n := by omega
      cases hi1 : inB y 1 300
      · have hw1 := inB_not.1 hi1
        go_wp2_with fail
        go_quiet ((go_at_call 101; exact quiet_add_left (l16Years_any _ _)))
        go_wp2_with fail
        go_ret
        exact ⟨ret_bool (HN.out (fun hh => by omega)).symm, ⟨_, World.drewN_drewN ..⟩⟩
      · have hw1 := inB_iff.1 hi1
        have hm0 : 0 ≤ (m : Int) := by omega
        by_cases hi2 : m < 1
        · have hi2' : decide ((m : Int) < 1) = true := by simp; omega
          have hi2'' : m = 0 := by omega
          subst hi2''
          go_wp2_with fail
          go_quiet ((go_at_call 101; exact quiet_add_left (l16Years_any _ _)))
          go_wp2_with fail
          go_ret
          exact ⟨ret_bool (HN.out (fun hh => by omega)).symm, ⟨_, World.drewN_drewN ..⟩⟩
        · have hi2' : decide ((m : Int) < 1) = false := by simp; omega
          by_cases hi3 : 64 < m
          · have hi3' : decide (64 < (m : Int)) = true := by simp; omega
            go_wp2_with fail
            go_quiet ((go_at_call 101; exact quiet_add_left (l16Years_any _ _)))
            go_wp2_with fail
            go_ret
            exact ⟨ret_bool (HN.out (fun hh => by omega)).symm, ⟨_, World.drewN_drewN ..⟩⟩
          · have hi3' : decide (64 < (m : Int)) = false := by simp; omega
            by_cases hi6 : m = m0
            rotate_left
            · have hi6' : (m == m0) = false := by simpa using hi6
              have hi6'' : (m != m0) = true := by simpa using hi6
              have hi7 : decide (m = m0) = false := by simpa using hi6
              have hi8 : ((m : Int) == (m0 : Int)) = false := by simp; omega
              have hi9 : ((m : Int) != (m0 : Int)) = true := by simp; omega
              clear hi6
              go_wp2_with fail
              go_quiet ((go_at_call 101; exact quiet_add_left (l16Years_any _ _)))
              go_wp2_with fail
              go_ret
              exact ⟨ret_bool (HN.out (fun hh => by have := hh.2.2.2.2.1; subst this; simp at hi7)).symm, ⟨_, World.drewN_drewN ..⟩⟩
            subst hi6
            by_cases hk0 : k = 0
            · have hk0' : decide (0 < k) = false := by simp; omega
              have HZ := Lib.hid (show (k = 0 ∨ yAt es (k - 1) < y) from .inl hk0)
              clear hk0
              go_wp2_with fail
              go_quiet ((go_at_call 101; exact quiet_add_left (l16Years_any _ _)))
              go_wp2_with fail
              have HI := Lib.hid hi1
              rw [World.drewN_drewN, HI.out]
              generalize q + nq = q2
              clear hi1 hi2' hi3' hd1 hd2 hc1 hk0'
              go_loopw [5] (fun i wr => ∃ t q : Nat, t ≤ m ∧ i = .int .i64 t ∧ wr = w.drewN q ∧ Hid (∀ (j : Nat) (x : Int), j < t → ps[j]? = some x → inB x 0 1000000 = true)) (fun i _ => m - (intOf i).toNat)
              case atStart => exact ⟨0, q2, Nat.zero_le _, rfl, rfl, fun j x hj => absurd hj (by omega)⟩
              case round =>
                obtain ⟨t, q3, ht, rfl, rfl, HT⟩ := hrel
                by_cases htm : t < m
                · obtain ⟨b2, off2, x, rfl, HX2, hcx, hx1, hx2⟩ := HP.out.1.at_ htm
                  cases hbx : inB x 0 1000000
                  · have HA := Lib.hid (allB_no HX2.out hbx)
                    go_wp2_with ((go_at_call 100; refine (l16Pressure_any _ _).mono ?_; rintro e w' ⟨rfl, rfl⟩))
                    go_ret
                    exact ⟨ret_bool (HN.out (fun hh => by rw [HA.out] at hh; exact absurd hh.2.2.2.1 (by simp))).symm, ⟨_, rfl⟩⟩
                  · have HBX := Lib.hid hbx
                    go_wp2_with ((go_at_call 100; refine (l16Pressure_any _ _).mono ?_; rintro e w' ⟨rfl, rfl⟩))
                    go_roundw
                    case rel => exact ⟨t + 1, _, by omega, by go_num, rfl, fun j z hj hz => by
                      by_cases e : j = t
                      · subst e
                        have := HX2.out.symm.trans hz
                        injection this with e2
                        subst e2
                        exact HBX.out
                      · exact HT.out j z (by omega) hz⟩
                    case measure => simp [intOf]; omega
                · obtain rfl : t = m := by omega
                  clear htm
                  have HA := Lib.hid (allB_all (xs := ps) (lo := 0) (hi := 1000000) (fun j x hj hx => HT.out j x (by rw [← HP.out.1.1]; exact hj) hx))
                  go_wp2_with fail
                  go_roundw
                  case rel => exact ⟨k + 1, _, by omega, by go_num, rfl, fun j hj => by
                    by_cases e : j = k
                    · subst e
                      exact HY.out hw1 (by omega) (by omega) HA.out (by first | trivial | rfl) HZ.out
                    · exact HK.out j (by omega)⟩
                  case measure => simp [intOf]; omega
            · obtain ⟨b', off', y1, P1, m1, d1, ps1, hAA, HX1, hq1, hq2, hy1, hp1⟩ := HP.out.2.at_ (show k - 1 < n by omega)
              obtain ⟨rfl, rfl⟩ : b = b' ∧ off = off' := by
                injection hAA with hAA
                injection hAA with e1 e2 _
                exact ⟨e1, e2⟩
              have HD := Lib.hid (yAt_eq HX1.out)
              clear hAA hq2 hp1
              have hpos : decide (0 < k) = true := by simp; omega
              have hk1 : ((k : Int) - 1).toNat = k - 1 := by omega
              have hk2 : (0 : Int) ≤ (k : Int) - 1 := by omega
              have hk3 : (k : Int) - 1 < (n : Int) := by omega
              have hk4 : IntKind.i64.wrap ((k : Int) - 1) = (k : Int) - 1 := IntWalk.i64_in _ (by omega)
              by_cases hi5 : y ≤ y1
              · have hi5' : decide (y ≤ y1) = true := by simpa using hi5
                go_wp2_with fail
                go_quiet ((go_at_call 101; exact quiet_add_left (l16Years_any _ _)))
                go_wp2_with fail
                go_ret
                exact ⟨ret_bool (HN.out (fun hh => by rcases hh.2.2.2.2.2 with h | h; exact hk0 h; rw [HD.out] at h; omega)).symm, ⟨_, World.drewN_drewN ..⟩⟩
              · have hi5' : decide (y ≤ y1) = false := by simpa using hi5
                have HZ := Lib.hid (show (k = 0 ∨ yAt es (k - 1) < y) from .inr (by rw [HD.out]; omega))
                clear hk0
                go_wp2_with fail
                go_quiet ((go_at_call 101; exact quiet_add_left (l16Years_any _ _)))
                go_wp2_with fail
                have HI := Lib.hid hi1
                rw [World.drewN_drewN, HI.out]
                generalize q + nq = q2
                clear hi1 hi2' hi3' hd1 hd2 hc1 hi5' hk1 hk2 hk3 hk4 hpos hq1 hi5
                go_loopw [5] (fun i wr => ∃ t q : Nat, t ≤ m ∧ i = .int .i64 t ∧ wr = w.drewN q ∧ Hid (∀ (j : Nat) (x : Int), j < t → ps[j]? = some x → inB x 0 1000000 = true)) (fun i _ => m - (intOf i).toNat)
                case atStart => exact ⟨0, q2, Nat.zero_le _, rfl, rfl, fun j x hj => absurd hj (by omega)⟩
                case round =>
                  obtain ⟨t, q3, ht, rfl, rfl, HT⟩ := hrel
                  by_cases htm : t < m
                  · obtain ⟨b2, off2, x, rfl, HX2, hcx, hx1, hx2⟩ := HP.out.1.at_ htm
                    cases hbx : inB x 0 1000000
                    · have HA := Lib.hid (allB_no HX2.out hbx)
                      go_wp2_with ((go_at_call 100; refine (l16Pressure_any _ _).mono ?_; rintro e w' ⟨rfl, rfl⟩))
                      go_ret
                      exact ⟨ret_bool (HN.out (fun hh => by rw [HA.out] at hh; exact absurd hh.2.2.2.1 (by simp))).symm, ⟨_, rfl⟩⟩
                    · have HBX := Lib.hid hbx
                      go_wp2_with ((go_at_call 100; refine (l16Pressure_any _ _).mono ?_; rintro e w' ⟨rfl, rfl⟩))
                      go_roundw
                      case rel => exact ⟨t + 1, _, by omega, by go_num, rfl, fun j z hj hz => by
                        by_cases e : j = t
                        · subst e
                          have := HX2.out.symm.trans hz
                          injection this with e2
                          subst e2
                          exact HBX.out
                        · exact HT.out j z (by omega) hz⟩
                      case measure => simp [intOf]; omega
                  · obtain rfl : t = m := by omega
                    clear htm
                    have HA := Lib.hid (allB_all (xs := ps) (lo := 0) (hi := 1000000) (fun j x hj hx => HT.out j x (by rw [← HP.out.1.1]; exact hj) hx))
                    go_wp2_with fail
                    go_roundw
                    case rel => exact ⟨k + 1, _, by omega, by go_num, rfl, fun j hj => by
                      by_cases e : j = k
                      · subst e
                        exact HY.out hw1 (by omega) (by omega) HA.out (by first | trivial | rfl) HZ.out
                      · exact HK.out j (by omega)⟩
                    case measure => simp [intOf]; omega
    · obtain rfl : k = n := by omega
      clear hlt
      have HK2 := Lib.hid (show ∀ i, i < es.length → evI es i = true from fun i hi => HK.out i (by rw [HL.out] at hi; exact hi))
      by_cases h8 : k ≤ 8
      · have HT := Lib.hid (show evOk es = true from evOk_iff.2 ⟨by rw [HL.out]; exact h8, HK2.out⟩)
        clear h
        go_wp2_with fail
        go_ret
        exact ⟨ret_bool (by rw [HT.out]; simp; omega), ⟨_, rfl⟩⟩
      · have HT := Lib.hid (show evOk es = false from evOk_no fun hh => by have := hh.1; rw [HL.out] at this; omega)
        clear h
        go_wp2_with fail
        go_ret
        exact ⟨ret_bool (by rw [HT.out]; simp; omega), ⟨_, rfl⟩⟩
theorem ValidEvents_s (A : Option Addr) (n c : Nat) (es : List Ev) (w : World) (h : Evs w A n es) :
    Calls Try.prog 31 #[.slice A n c] w fun e w' => e = .returned (.bool (evOk es)) ∧ Below w.heap.size w w' := by
  go_enter Try.func31, Try.ntmps31
  go_wp2_with fail
  refine (l16Ok_any _ _ _ es _ h).mono ?_
  rintro e w1 ⟨rfl, q, rfl⟩
  go_wp2_with fail
  go_ret
  exact ⟨rfl, below_drewN (Below.refl _ _) _⟩
end Go.Proofs.Ytbakmcjngadebaa
