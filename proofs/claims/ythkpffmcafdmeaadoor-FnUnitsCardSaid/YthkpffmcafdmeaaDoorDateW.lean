/-
  Days and dates: the program's.
-/
import Derived.Test.YthkpffmcafdmeaaDoorDateM
import Derived.Test.YthkpffmcafdmeaaDoorArith
import Derived.Test.YthkpffmcafdmeaaDoorMem
namespace Go.Proofs.YthkpffmcafdmeaaDoor
open Go.ChangeShapes Go.WideShapes Go.ChangeAt Go.RowKit Go.Deep
set_option linter.unusedVariables false

def lpY (y : Int) : Bool := decide (y % 4 = 0)
theorem dI_lp (y : Int) (m : Nat) (h : y % 4 = 0) : dI y m = monD m + (if (decide (m = 0) || decide (m = 2)) = true then 1 else 0) := by
  unfold dI lpB; simp [h]
theorem dI_no (y : Int) (m : Nat) (h : ¬ y % 4 = 0) : dI y m = monD m := by
  unfold dI lpB; simp [h]
set_option maxRecDepth 100000 in
theorem mon_ix {m : Nat} (h : m ≤ 12) (W : World) : (Instr.index 132 (.agg #[.int .i64 365, .int .i64 31, .int .i64 28, .int .i64 31, .int .i64 30, .int .i64 31, .int .i64 30, .int .i64 31, .int .i64 31, .int .i64 30, .int .i64 31, .int .i64 30, .int .i64 31]) (.int .i64 (m : Int))).run Tryd.prog W = .ok (.int .i64 (monD m)) W := by
  have h13 : m = 0 ∨ m = 1 ∨ m = 2 ∨ m = 3 ∨ m = 4 ∨ m = 5 ∨ m = 6 ∨ m = 7 ∨ m = 8 ∨ m = 9 ∨ m = 10 ∨ m = 11 ∨ m = 12 := by omega
  rcases h13 with rfl | rfl | rfl | rfl | rfl | rfl | rfl | rfl | rfl | rfl | rfl | rfl | rfl <;> rfl
theorem mon_bd (m : Nat) : 0 ≤ monD m ∧ monD m ≤ 365 := by unfold monD; split <;> omega
set_option maxRecDepth 100000 in
set_option maxHeartbeats 1600000 in
theorem daysIn_any (y mi : Int) (m : Nat) (w : World) (hy : 0 ≤ y) (hy2 : y ≤ 100000) (hmi : mi = (m : Int)) (hm : m ≤ 12) :
    Calls Tryd.prog 106 #[.int .i64 y, .int .i64 mi] w fun e w' => e = .returned (.int .i64 (dI y m)) ∧ w = w' := by
  subst hmi
  have ik := fun W => mon_ix hm W
  obtain ⟨hb1, hb2⟩ := mon_bd m
  by_cases h4 : y % 4 = 0
  · have HE := Lib.hid (dI_lp y m h4)
    have hb : (y % 4 == 0) = true := by simpa using h4
    have hd : decide (y % 4 = 0) = true := by simpa using h4
    clear h4
    by_cases h0 : m = 0
    · subst h0
      have ik : ∀ W, (Instr.index 132 (.agg #[.int .i64 365, .int .i64 31, .int .i64 28, .int .i64 31, .int .i64 30, .int .i64 31, .int .i64 30, .int .i64 31, .int .i64 31, .int .i64 30, .int .i64 31, .int .i64 30, .int .i64 31]) (.int .i64 0)).run Tryd.prog W = .ok (.int .i64 365) W := ik
      go_enter Tryd.func106, Tryd.ntmps106
      go_wp2
      go_ret
      exact ⟨ret_int (by rw [HE.out]; simp [monD]), rfl⟩
    · by_cases h2 : m = 2
      · subst h2
        have ik : ∀ W, (Instr.index 132 (.agg #[.int .i64 365, .int .i64 31, .int .i64 28, .int .i64 31, .int .i64 30, .int .i64 31, .int .i64 30, .int .i64 31, .int .i64 31, .int .i64 30, .int .i64 31, .int .i64 30, .int .i64 31]) (.int .i64 2)).run Tryd.prog W = .ok (.int .i64 28) W := ik
        go_enter Tryd.func106, Tryd.ntmps106
        go_wp2
        go_ret
        exact ⟨ret_int (by rw [HE.out]; simp [monD]), rfl⟩
      · have HE2 := Lib.hid (show dI y m = monD m by rw [HE.out]; simp [h0, h2])
        have e1 : ((m : Int) == 0) = false := by simpa using h0
        have e2 : ((m : Int) == 2) = false := by rw [beq_eq_false_iff_ne]; omega
        have e3 : decide ((m : Int) = 0) = false := by simpa using h0
        have e4 : decide ((m : Int) = 2) = false := by simp; omega
        have e5 : decide (m = 0) = false := by simpa using h0
        have e6 : (m == 0) = false := by simpa using h0
        have e7 : (m == 2) = false := by simpa using h2
        clear h0 h2
        obtain ⟨v, hv⟩ : ∃ v, v = monD m := ⟨_, rfl⟩
        rw [← hv] at ik hb1 hb2
        have HV := Lib.hid hv
        clear hv
        go_enter Tryd.func106, Tryd.ntmps106
        go_wp2
        go_ret
        exact ⟨ret_int (by rw [HE2.out, HV.out]), rfl⟩
  · have hb : (y % 4 == 0) = false := by simpa using h4
    have hd : decide (y % 4 = 0) = false := by simpa using h4
    have HE := Lib.hid (dI_no y m h4)
    clear h4
    obtain ⟨v, hv⟩ : ∃ v, v = monD m := ⟨_, rfl⟩
    rw [← hv] at ik hb1 hb2
    have HV := Lib.hid hv
    clear hv
    go_enter Tryd.func106, Tryd.ntmps106
    go_wp2
    go_ret
    exact ⟨ret_int (by rw [HE.out, HV.out]), rfl⟩
theorem dayValid_any (d : Int) (w : World) :
    Calls Tryd.prog 105 #[.int .i64 d] w fun e w' => e = .returned (.bool (inB d 0 36524)) ∧ w = w' := by
  go_enter Tryd.func105, Tryd.ntmps105
  go_wp2_with (((go_at_call 85; refine (within_any _ _ _ _).mono ?_; rintro e w' ⟨rfl, rfl⟩)))
  go_ret
  exact ⟨rfl, rfl⟩
theorem weekdayOf_any (d : Int) (w : World) (h0 : 0 ≤ d) (h1 : d ≤ 100000) :
    Calls Tryd.prog 107 #[.int .i64 d] w fun e w' => e = .returned (.int .i64 ((d + 5) % 7)) ∧ w = w' := by
  go_enter Tryd.func107, Tryd.ntmps107
  go_wp2
  go_ret
  exact ⟨rfl, rfl⟩
/-- The weekday of a day, and its code. -/
def wkV (d : Int) : Int := if inB d 0 36524 = true then (d + 5) % 7 else 0
def wkC (d : Int) : Int := if inB d 0 36524 = true then 0 else 2
theorem WeekdayOf_i (d : Int) (w : World) :
    Calls Tryd.prog 58 #[.int .i64 d] w fun e w' => e = .returned (.tuple #[.int .i64 (wkV d), .int .i64 (wkC d)]) ∧ w = w' := by
  cases h : inB d 0 36524
  · have HE := Lib.hid h
    go_enter Tryd.func58, Tryd.ntmps58
    go_wp2_with (go_at_call 105; refine (dayValid_any _ _).mono ?_; rintro e w' ⟨rfl, rfl⟩)
    go_ret2
    exact ⟨ret_int2 (by rw [wkV, HE.out]; rfl) (by rw [wkC, HE.out]; rfl), rfl⟩
  · have HE := Lib.hid h
    obtain ⟨h1, h2⟩ := inB_iff.1 h
    go_enter Tryd.func58, Tryd.ntmps58
    go_wp2_with (first | (go_at_call 105; refine (dayValid_any _ _).mono ?_; rintro e w' ⟨rfl, rfl⟩) | (go_at_call 107; refine (weekdayOf_any _ _ (by omega) (by omega)).mono ?_; rintro e w' ⟨rfl, rfl⟩))
    go_ret2
    exact ⟨ret_int2 (by rw [wkV, HE.out]; rfl) (by rw [wkC, HE.out]; rfl), rfl⟩
def hrB (d h : Int) : Bool := inB d 0 36524 && inB h 0 23
theorem dayValid_b (d : Int) (b : Bool) (w : World) (hb : inB d 0 36524 = b) :
    Calls Tryd.prog 105 #[.int .i64 d] w fun e w' => e = .returned (.bool b) ∧ w = w' := by subst hb; exact dayValid_any d w
theorem within_b (n lo hi : Int) (b : Bool) (w : World) (hb : inB n lo hi = b) :
    Calls Tryd.prog 85 #[.int .i64 n, .int .i64 lo, .int .i64 hi] w fun e w' => e = .returned (.bool b) ∧ w = w' := by subst hb; exact within_any n lo hi w
theorem HourNumber_i (d h : Int) (w : World) :
    Calls Tryd.prog 60 #[.int .i64 d, .int .i64 h] w fun e w' => e = .returned (.tuple #[.int .i64 (if hrB d h = true then 24 * d + h else 0), .int .i64 (if hrB d h = true then 0 else 2)]) ∧ w = w' := by
  cases h1 : inB d 0 36524
  · have HE := Lib.hid (show hrB d h = false by simp [hrB, h1])
    have H1 := Lib.hid h1
    rw [HE.out]
    clear h1
    go_enter Tryd.func60, Tryd.ntmps60
    go_wp2_with (go_at_call 105; refine (dayValid_b _ _ _ H1.out).mono ?_; rintro e w' ⟨rfl, rfl⟩)
    go_ret2
    exact ⟨rfl, rfl⟩
  · cases h2 : inB h 0 23
    · have HE := Lib.hid (show hrB d h = false by simp [hrB, h1, h2])
      have H1 := Lib.hid (And.intro h1 h2)
      rw [HE.out]
      clear h1 h2
      go_enter Tryd.func60, Tryd.ntmps60
      go_wp2_with (first | (go_at_call 105; refine (dayValid_b _ _ _ H1.out.1).mono ?_; rintro e w' ⟨rfl, rfl⟩) | (go_at_call 85; refine (within_b _ _ _ _ _ H1.out.2).mono ?_; rintro e w' ⟨rfl, rfl⟩))
      go_ret2
      exact ⟨rfl, rfl⟩
    · have HE := Lib.hid (show hrB d h = true by simp [hrB, h1, h2])
      obtain ⟨a1, a2⟩ := inB_iff.1 h1
      obtain ⟨a3, a4⟩ := inB_iff.1 h2
      have H1 := Lib.hid (And.intro h1 h2)
      rw [HE.out]
      clear h1 h2
      go_enter Tryd.func60, Tryd.ntmps60
      go_wp2_with (first | (go_at_call 105; refine (dayValid_b _ _ _ H1.out.1).mono ?_; rintro e w' ⟨rfl, rfl⟩) | (go_at_call 85; refine (within_b _ _ _ _ _ H1.out.2).mono ?_; rintro e w' ⟨rfl, rfl⟩))
      go_ret2
      exact ⟨rfl, rfl⟩
theorem mth_ok {d : Int} (h0 : 0 ≤ d) (h1 : d ≤ 36524) : 1 ≤ mthF d ∧ mthF d ≤ 12 ∧ moF (yF d) (mthF d) ≤ rF d ∧ rF d < moF (yF d) (mthF d + 1) ∧ 0 ≤ rF d ∧ rF d < dI (yF d) 0 := by
  have hj := jF_ok (r := d % 1461) (by omega) (by omega)
  have hy : (2000 + 4 * (d / 1461)) % 4 = 0 := by omega
  have hs := yo_step hy hj.1
  have hr : 0 ≤ rF d ∧ rF d < dI (yF d) 0 := by
    unfold rF yF
    constructor <;> omega
  obtain ⟨m, a, b, c1, c2⟩ := m_ex hr.1 hr.2
  have hm : mthF d = m := mF_of a b c1 c2
  rw [hm]
  exact ⟨a, b, c1, c2, hr⟩
theorem DateOf_no (d : Int) (w : World) (h : inB d 0 36524 = false) :
    Calls Tryd.prog 54 #[.int .i64 d] w fun e w' => e = .returned (.tuple #[.int .i64 0, .int .i64 0, .int .i64 0, .int .i64 2]) ∧ w = w' := by
  go_enter Tryd.func54, Tryd.ntmps54
  go_wp2_with (go_at_call 105; refine (dayValid_any _ _).mono ?_; rintro e w' ⟨rfl, rfl⟩)
  exact bodyPost_ret (v := .tuple #[.int .i64 0, .int .i64 0, .int .i64 0, .int .i64 2]) (by simp [results, Tryd.results54, go_sem]) rfl ⟨rfl, rfl⟩
set_option maxHeartbeats 3200000 in
theorem DateOf_yes (d : Int) (w : World) (h0 : 0 ≤ d) (h1 : d ≤ 36524) :
    Calls Tryd.prog 54 #[.int .i64 d] w fun e w' => e = .returned (.tuple #[.int .i64 (yF d), .int .i64 (mthF d : Nat), .int .i64 (dtF d), .int .i64 0]) ∧ w = w' := by
  have hb : inB d 0 36524 = true := inB_iff.2 ⟨h0, h1⟩
  have HJ := Lib.hid (jF_ok (r := d % 1461) (by omega) (by omega))
  have HM := Lib.hid (mth_ok h0 h1)
  obtain ⟨Q, hQ⟩ : ∃ Q, Q = d / 1461 := ⟨_, rfl⟩
  obtain ⟨r, hr⟩ : ∃ r, r = d % 1461 := ⟨_, rfl⟩
  have hQ1 : 0 ≤ Q := by omega
  have hQ2 : Q ≤ 24 := by omega
  have hr1 : 0 ≤ r := by omega
  have hr2 : r < 1461 := by omega
  have HQ := Lib.hid (And.intro hQ hr)
  rw [← hr] at HJ
  clear hQ hr
  go_enter Tryd.func54, Tryd.ntmps54
  go_wp2_with (go_at_call 105; refine (dayValid_any _ _).mono ?_; rintro e w' ⟨rfl, rfl⟩)
  rw [← HQ.out.1, ← HQ.out.2]
  go_loop [6, 7] (fun yv rv => ∃ j : Nat, j ≤ jF r ∧ yoF j ≤ r ∧ yv = .int .i64 (2000 + Q * 4 + (j : Int)) ∧ rv = .int .i64 (r - yoF j)) (fun yv _ => (2200 - intOf yv).toNat)
  case atStart => exact ⟨0, Nat.zero_le _, by simp [yoF]; omega, by simp, by simp [yoF]⟩
  case round =>
    obtain ⟨j, hj, hjr, rfl, rfl⟩ := hrel
    obtain ⟨hj3, hj1, hj2⟩ := HJ.out
    have hst := yo_step (y := 2000 + Q * 4) (by omega) (show j ≤ 3 by omega)
    have hyl := year_len (2000 + Q * 4 + (j : Int))
    have hyo : 0 ≤ yoF j ∧ yoF j ≤ 1461 := by
      have : j = 0 ∨ j = 1 ∨ j = 2 ∨ j = 3 := by omega
      rcases this with rfl | rfl | rfl | rfl <;> simp [yoF]
    obtain ⟨y, hy⟩ : ∃ y, y = 2000 + Q * 4 + (j : Int) := ⟨_, rfl⟩
    have hy1 : 2000 ≤ y := by omega
    have hy2 : y ≤ 2100 := by omega
    rw [← hy] at hst hyl ⊢
    obtain ⟨D, hD⟩ : ∃ D, D = dI y 0 := ⟨_, rfl⟩
    rw [← hD] at hst hyl
    have hD1 : 365 ≤ D := by omega
    have hD2 : D ≤ 366 := by omega
    obtain ⟨u, hu⟩ : ∃ u, u = yoF j := ⟨_, rfl⟩
    rw [← hu] at hst hyo hjr ⊢
    have hu1 := hyo.1
    have hu2 := hyo.2
    have HD := Lib.hid hD
    have HY := Lib.hid hy
    have HU := Lib.hid hu
    have HS := Lib.hid hst
    have HJJ := Lib.hid (And.intro hj (And.intro hj3 (And.intro hj1 hj2)))
    clear hst hyl hyo hD hy hu hj hj3 hj1 hj2
    by_cases hge : D ≤ r - u
    · have hlt : j < jF r := by
        obtain ⟨g1, g2, g3, g4⟩ := HJJ.out
        rcases Nat.lt_or_ge j (jF r) with h | h
        · exact h
        · have : j = jF r := by omega
          rw [← this] at g4
          have := HS.out
          omega
      have HLT := Lib.hid hlt
      clear hlt
      go_wp2_with (go_at_call 106; refine (daysIn_any _ _ 0 _ (by omega) (by omega) (by rfl) (by omega)).mono ?_; rintro e w' ⟨rfl, rfl⟩; rw [← HD.out])
      go_round
      case rel => exact ⟨j + 1, by have := HLT.out; omega, by have := HS.out; omega, by have := HY.out; rw [this]; congr 1; omega, by have := HS.out; congr 1; omega⟩
      case measure => simp [intOf]; omega
    · have hje : j = jF r := by
        obtain ⟨g1, g2, g3, g4⟩ := HJJ.out
        have h5 := HS.out
        have h6 := HU.out
        exact (jF_of (by omega) (by omega) (by omega)).symm
      obtain ⟨Y, hY⟩ : ∃ Y, Y = yF d := ⟨_, rfl⟩
      obtain ⟨R, hR⟩ : ∃ R, R = rF d := ⟨_, rfl⟩
      have hyY : y = Y := by rw [hY, HY.out, yF, ← HQ.out.1, ← HQ.out.2, hje]; omega
      have hrR : r - u = R := by rw [hR, HU.out, rF, ← HQ.out.2, hje]
      have HM2 := HM.out
      have HDT := Lib.hid (show dtF d = R - moF Y (mthF d) + 1 by rw [hR, hY]; rfl)
      rw [← hY, ← hR] at HM2
      rw [hyY] at HD hy1 hy2 ⊢
      rw [hrR] at hge ⊢
      obtain ⟨M, hM⟩ : ∃ M, M = mthF d := ⟨_, rfl⟩
      rw [← hM] at HM2 HDT
      have HMM := Lib.hid HM2
      have hR0 := HM2.2.2.2.2.1
      have hR1 : R < 366 := by omega
      have HYY := Lib.hid (And.intro hY hM)
      clear HM2 hY hR hM hje hyY hrR
      go_wp2_with (go_at_call 106; refine (daysIn_any _ _ 0 _ (by omega) (by omega) (by rfl) (by omega)).mono ?_; rintro e w' ⟨rfl, rfl⟩; rw [← HD.out])
      go_loop [7, 8] (fun rv mv => ∃ m : Nat, 1 ≤ m ∧ m ≤ M ∧ mv = .int .i64 (m : Int) ∧ rv = .int .i64 (R - moF Y m)) (fun _ mv => (13 - intOf mv).toNat)
      case atStart => exact ⟨1, Nat.le_refl _, HMM.out.1, rfl, by rw [mo_one]; simp⟩
      case round =>
        obtain ⟨m, hm1, hm2, rfl, rfl⟩ := hrel
        obtain ⟨g1, g2, g3, g4, g5, g6⟩ := HMM.out
        have hms := mo_step (y := Y) hm1
        have hml := mon_le (y := Y) hm1
        have hmm := mo_mono (y := Y) (show m ≤ M from hm2)
        have hmz := mo_mono (y := Y) (show 1 ≤ m from hm1)
        rw [mo_one] at hmz
        have hm12 : m ≤ 12 := by omega
        obtain ⟨V, hV⟩ : ∃ V, V = moF Y m := ⟨_, rfl⟩
        obtain ⟨E, hE⟩ : ∃ E, E = dI Y m := ⟨_, rfl⟩
        rw [← hV, ← hE] at hms
        rw [← hE] at hml
        rw [← hV] at hmm hmz ⊢
        have hv1 : V ≤ R := by omega
        have hE1 := hml.1
        have hE2 := hml.2
        have HV := Lib.hid (And.intro hV (And.intro hE (And.intro hms (And.intro g3 g4))))
        clear hml hmm hms hV hE g3 g4 g5 g6
        by_cases hlt : E ≤ R - V
        · have HLT := Lib.hid (show m < M by
            obtain ⟨_, _, h5, h6, h7⟩ := HV.out
            rcases Nat.lt_or_ge m M with h | h
            · exact h
            · obtain rfl : m = M := by omega
              omega)
          go_wp2_with (go_at_call 106; refine (daysIn_any _ _ m _ (by omega) (by omega) (by rfl) (by omega)).mono ?_; rintro e w' ⟨rfl, rfl⟩; rw [← HV.out.2.1])
          go_round
          case rel => exact ⟨m + 1, by omega, by have := HLT.out; omega, by go_num, by rw [HV.out.2.2.1]; congr 1; omega⟩
          case measure => simp [intOf]; omega
        · have hme : m = M := by
            obtain ⟨_, _, h5, h6, h7⟩ := HV.out
            rcases Nat.lt_or_ge m M with h | h
            · have := mo_mono (y := Y) (show m + 1 ≤ M by omega)
              omega
            · omega
          subst hme
          go_wp2_with (go_at_call 106; refine (daysIn_any _ _ m _ (by omega) (by omega) (by rfl) (by omega)).mono ?_; rintro e w' ⟨rfl, rfl⟩; rw [← HV.out.2.1])
          exact bodyPost_ret (v := .tuple #[.int .i64 Y, .int .i64 (m : Int), .int .i64 (R - V + 1), .int .i64 0]) (by simp [results, Tryd.results54, go_sem]) rfl ⟨by rw [HDT.out, ← HYY.out.1, ← HYY.out.2, HV.out.1], rfl⟩
end Go.Proofs.YthkpffmcafdmeaaDoor
