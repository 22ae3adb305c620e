/-
  The contracts of the law's helpers over paths, and when a path is valid.
-/
import Derived.Test.YtknppcgoooaaaaaGreatDoorPathM
import Derived.Test.YtknppcgoooaaaaaGreatDoorRows
import Derived.Test.YtknppcgoooaaaaaGreatDoorArith
namespace Go.Proofs.YtknppcgoooaaaaaGreatDoor
open Go.ChangeShapes Go.WideShapes Go.ChangeAt Go.RowKit Go.Deep
set_option linter.unusedVariables false

theorem info_ipt : (Tryz.prog.info? 36).map (fun i => (i.zero, i.size, i.bytes)) = some (some (.agg #[.int .i64 0, .int .i64 0]), 2, 16) := by kernel_rfl
theorem Fresh.pts {w w0 : World} {base e n c : Nat} {A A' : Option Addr} {ps : Pth} (h : Fresh w base e 2 A n c (ptCells ps)) (h' : Pts w0 A' n ps) : Pts w A n ps := by
  rcases Nat.eq_zero_or_pos n with rfl | h0
  · exact ⟨h'.1, h'.2.1, h'.2.2.1, fun h => absurd h (by omega)⟩
  · exact Pts.of_own (h.2 h0) h'.1.symm h'.2.1 h'.2.2.1

/-! ### When a path is valid -/
set_option maxRecDepth 100000 in
set_option maxHeartbeats 2000000 in
theorem ValidPath_i (A : Option Addr) (n c : Nat) (ps : Pth) (w : World) (h : Pts w A n ps) :
    Calls Tryz.prog 46 #[.slice A n c] w fun e w' => e = .returned (.bool (pathOk ps)) ∧ Below w.heap.size w w' := by
  have hn := h.2.1
  have HL := Lib.hid h.1
  by_cases h2 : 2 ≤ n
  · by_cases h24 : n ≤ 24
    · obtain ⟨b, off, x0, y0, rfl, HX0, hd1, hd2, hx01, hx02⟩ := h.at_ (show 0 < n by omega)
      simp only [Nat.zero_mul, Nat.add_zero] at hd1 hd2
      have HD := Lib.hid (dAt_eq HX0.out)
      have hn0 : 0 < n := by omega
      by_cases h00 : x0 = 0
      · subst h00
        have H0 := Lib.hid (And.intro h (And.intro hd1 hd2))
        clear h hd2
        go_enter Tryz.func46, Tryz.ntmps46
        go_wp2_with fail
        go_loopw [22] (fun i wr => ∃ k : Nat, k ≤ n ∧ i = .int .i64 k ∧ Below w.heap.size w wr ∧ Hid (∀ j, j < k → ptOk ps j = true)) (fun i _ => n - (intOf i).toNat)
        case atStart => exact ⟨0, Nat.zero_le _, rfl, Below.refl _ _, fun j hj => absurd hj (by omega)⟩
        case round =>
          clear hd1
          obtain ⟨k, hk, rfl, hbl, HK⟩ := hrel
          by_cases hlt : k < n
          · obtain ⟨b', off', x, y, hAA, HX, hc1, hc2, hx1, hx2⟩ := (H0.out.1.below hbl).at_ hlt
            obtain ⟨rfl, rfl⟩ : b = b' ∧ off = off' := by
              injection hAA with hAA
              injection hAA with e1 e2 _
              exact ⟨e1, e2⟩
            clear hAA
            have hd2 := cell_kept hbl H0.out.2.2
            have hxd := dAt_eq HX.out
            have hyd := hAt_eq HX.out
            have hy0 := hAt_eq HX0.out
            have HP := Lib.hid (And.intro hxd (And.intro hyd hy0))
            have hkL : k < ps.length := by rw [HL.out]; exact hlt
            have HN : Hid (¬ (0 ≤ x ∧ x ≤ 20000 ∧ 0 ≤ y ∧ y ≤ 9000 ∧ y ≤ y0 ∧ (k = 0 ∨ dAt ps (k - 1) < x)) → pathOk ps = false) := by
              intro hh
              refine pathOk_pt hkL (ptOk_no ?_)
              rw [hxd, hyd, hy0]
              exact hh
            have HE : Hid (k = 0 → x = 0) := by
              rintro rfl
              rw [← hxd, HD.out]
            have HB := Lib.hid hbl
            have hbw : b < wr.heap.size := cell_lt hc1
            clear hxd hyd hy0 hkL hbl
            have hki : (k : Int) < (n : Int) := by omega
            by_cases hi1 : 20000 < x
            · go_wp2_with fail
              go_quiet ((go_at_call 49; exact quiet_left (within_any _ _ _ _)))
              go_wp2_with fail
              go_ret
              exact ⟨ret_bool (HN.out (fun hh => by omega)).symm, below_drewN (HB.out.alloc HB.out.size _) _⟩
            · have hi1' : decide (20000 < x) = false := by simpa using hi1
              by_cases h9 : 9000 < y0
              · cases hi2 : inB y 0 9000
                · have hw2 := inB_not.1 hi2
                  have HW2 := Lib.hid hw2
                  clear hw2
                  go_wp2_with fail
                  go_quiet ((go_at_call 49; exact quiet_left (within_any _ _ _ _)))
                  go_wp2_with fail
                  go_ret
                  exact ⟨ret_bool (HN.out (fun hh => by have := HW2.out; omega)).symm, below_drewN (HB.out.alloc HB.out.size _) _⟩
                · have hw2 := inB_iff.1 hi2
                  have HW2 := Lib.hid (show 0 ≤ y ∧ y ≤ 9000 ∧ y ≤ y0 from ⟨hw2.1, by omega, by omega⟩)
                  clear hw2
                  by_cases hi4 : k = 0
                  · have hi4' : decide (0 < k) = false := by simp; omega
                    have HZ := Lib.hid hi4
                    clear hi4
                    go_wp2_with fail
                    go_quiet ((go_at_call 49; exact quiet_left (within_any _ _ _ _)))
                    go_wp2_with fail
                    go_roundw
                    case rel => exact ⟨k + 1, by omega, by go_num, below_drewN (HB.out.alloc HB.out.size _) _, fun j hj => by
                      by_cases e : j = k
                      · subst e
                        rw [ptOk_iff, HP.out.1, HP.out.2.1, HP.out.2.2]
                        exact ⟨by rw [HE.out HZ.out]; omega, by omega, HW2.out.1, HW2.out.2.1, HW2.out.2.2, .inl HZ.out⟩
                      · exact HK.out j (by omega)⟩
                    case measure => simp [intOf]; omega
                  · obtain ⟨b', off', x1, y1, hAA, HX1, hp1, hp2, hx11, hx12⟩ := (H0.out.1.below HB.out).at_ (show k - 1 < n by omega)
                    obtain ⟨rfl, rfl⟩ : b = b' ∧ off = off' := by
                      injection hAA with hAA
                      injection hAA with e1 e2 _
                      exact ⟨e1, e2⟩
                    clear hAA
                    have HD1 := Lib.hid (dAt_eq HX1.out)
                    have hpos : decide (0 < k) = true := by simp; omega
                    have hk1 : ((k : Int) - 1).toNat = k - 1 := by omega
                    have hk2 : (0 : Int) ≤ (k : Int) - 1 := by omega
                    have hk3 : (k : Int) - 1 < (n : Int) := by omega
                    have hk4 : IntKind.i64.wrap ((k : Int) - 1) = (k : Int) - 1 := IntWalk.i64_in _ (by omega)
                    have HJ := Lib.hid (show 0 ≤ x1 by have := ptOk_iff.1 (HK.out (k - 1) (by omega)); rw [HD1.out] at this; exact this.1)
                    by_cases hi5 : x ≤ x1
                    · go_wp2_with fail
                      go_quiet ((go_at_call 49; exact quiet_left (within_any _ _ _ _)))
                      go_wp2_with fail
                      go_ret
                      exact ⟨ret_bool (HN.out (fun hh => by rcases hh.2.2.2.2.2 with h | h; exact hi4 h; rw [HD1.out] at h; omega)).symm, below_drewN (HB.out.alloc HB.out.size _) _⟩
                    · have hi5' : decide (x ≤ x1) = false := by simpa using hi5
                      go_wp2_with fail
                      go_quiet ((go_at_call 49; exact quiet_left (within_any _ _ _ _)))
                      go_wp2_with fail
                      go_roundw
                      case rel => exact ⟨k + 1, by omega, by go_num, below_drewN (HB.out.alloc HB.out.size _) _, fun j hj => by
                        by_cases e : j = k
                        · subst e
                          rw [ptOk_iff, HP.out.1, HP.out.2.1, HP.out.2.2]
                          exact ⟨by have := HJ.out; omega, by omega, HW2.out.1, HW2.out.2.1, HW2.out.2.2, .inr (by rw [HD1.out]; omega)⟩
                        · exact HK.out j (by omega)⟩
                      case measure => simp [intOf]; omega
              · cases hi2 : inB y 0 y0
                · have hw2 := inB_not.1 hi2
                  have HW2 := Lib.hid hw2
                  clear hw2
                  go_wp2_with fail
                  go_quiet ((go_at_call 49; exact quiet_left (within_any _ _ _ _)))
                  go_wp2_with fail
                  go_ret
                  exact ⟨ret_bool (HN.out (fun hh => by have := HW2.out; omega)).symm, below_drewN (HB.out.alloc HB.out.size _) _⟩
                · have hw2 := inB_iff.1 hi2
                  have HW2 := Lib.hid (show 0 ≤ y ∧ y ≤ 9000 ∧ y ≤ y0 from ⟨hw2.1, by omega, by omega⟩)
                  clear hw2
                  by_cases hi4 : k = 0
                  · have hi4' : decide (0 < k) = false := by simp; omega
                    have HZ := Lib.hid hi4
                    clear hi4
                    go_wp2_with fail
                    go_quiet ((go_at_call 49; exact quiet_left (within_any _ _ _ _)))
                    go_wp2_with fail
                    go_roundw
                    case rel => exact ⟨k + 1, by omega, by go_num, below_drewN (HB.out.alloc HB.out.size _) _, fun j hj => by
                      by_cases e : j = k
                      · subst e
                        rw [ptOk_iff, HP.out.1, HP.out.2.1, HP.out.2.2]
                        exact ⟨by rw [HE.out HZ.out]; omega, by omega, HW2.out.1, HW2.out.2.1, HW2.out.2.2, .inl HZ.out⟩
                      · exact HK.out j (by omega)⟩
                    case measure => simp [intOf]; omega
                  · obtain ⟨b', off', x1, y1, hAA, HX1, hp1, hp2, hx11, hx12⟩ := (H0.out.1.below HB.out).at_ (show k - 1 < n by omega)
                    obtain ⟨rfl, rfl⟩ : b = b' ∧ off = off' := by
                      injection hAA with hAA
                      injection hAA with e1 e2 _
                      exact ⟨e1, e2⟩
                    clear hAA
                    have HD1 := Lib.hid (dAt_eq HX1.out)
                    have hpos : decide (0 < k) = true := by simp; omega
                    have hk1 : ((k : Int) - 1).toNat = k - 1 := by omega
                    have hk2 : (0 : Int) ≤ (k : Int) - 1 := by omega
                    have hk3 : (k : Int) - 1 < (n : Int) := by omega
                    have hk4 : IntKind.i64.wrap ((k : Int) - 1) = (k : Int) - 1 := IntWalk.i64_in _ (by omega)
                    have HJ := Lib.hid (show 0 ≤ x1 by have := ptOk_iff.1 (HK.out (k - 1) (by omega)); rw [HD1.out] at this; exact this.1)
                    by_cases hi5 : x ≤ x1
                    · go_wp2_with fail
                      go_quiet ((go_at_call 49; exact quiet_left (within_any _ _ _ _)))
                      go_wp2_with fail
                      go_ret
                      exact ⟨ret_bool (HN.out (fun hh => by rcases hh.2.2.2.2.2 with h | h; exact hi4 h; rw [HD1.out] at h; omega)).symm, below_drewN (HB.out.alloc HB.out.size _) _⟩
                    · have hi5' : decide (x ≤ x1) = false := by simpa using hi5
                      go_wp2_with fail
                      go_quiet ((go_at_call 49; exact quiet_left (within_any _ _ _ _)))
                      go_wp2_with fail
                      go_roundw
                      case rel => exact ⟨k + 1, by omega, by go_num, below_drewN (HB.out.alloc HB.out.size _) _, fun j hj => by
                        by_cases e : j = k
                        · subst e
                          rw [ptOk_iff, HP.out.1, HP.out.2.1, HP.out.2.2]
                          exact ⟨by have := HJ.out; omega, by omega, HW2.out.1, HW2.out.2.1, HW2.out.2.2, .inr (by rw [HD1.out]; omega)⟩
                        · exact HK.out j (by omega)⟩
                      case measure => simp [intOf]; omega
          · obtain rfl : k = n := by omega
            clear hlt
            have HB := Lib.hid hbl
            clear hbl
            have HT := Lib.hid (show pathOk ps = true from pathOk_iff.2 ⟨by rw [HL.out]; exact h2, by rw [HL.out]; exact h24, by rw [HD.out], fun i hi => HK.out i (by rw [HL.out] at hi; exact hi)⟩)
            go_wp2_with fail
            go_ret
            exact ⟨ret_bool (by rw [HT.out]), HB.out⟩
      · have HT := Lib.hid (show pathOk ps = false from pathOk_no fun hh => by have := hh.2.2.1; rw [HD.out] at this; exact h00 this)
        have hb0 : (x0 != 0) = true := by simpa using h00
        clear h
        go_enter Tryz.func46, Tryz.ntmps46
        go_wp2_with fail
        go_ret
        exact ⟨ret_bool (by rw [HT.out]), Below.refl _ _⟩
    · have HT := Lib.hid (show pathOk ps = false from pathOk_no fun hh => by have := hh.2.1; rw [HL.out] at this; omega)
      clear h
      go_enter Tryz.func46, Tryz.ntmps46
      go_wp2_with fail
      go_ret
      exact ⟨ret_bool (by rw [HT.out]), Below.refl _ _⟩
  · have HT := Lib.hid (show pathOk ps = false from pathOk_no fun hh => by have := hh.1; rw [HL.out] at this; omega)
    clear h
    go_enter Tryz.func46, Tryz.ntmps46
    go_wp2_with fail
    go_ret
    exact ⟨ret_bool (by rw [HT.out]), Below.refl _ _⟩
end Go.Proofs.YtknppcgoooaaaaaGreatDoor
