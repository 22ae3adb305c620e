/-
  The contracts of how fast a mass is.
-/
import Derived.Test.YtknppcgoooaaaaaGreatDoorPathR
namespace Go.Proofs.YtknppcgoooaaaaaGreatDoor
open Go.ChangeShapes Go.WideShapes Go.ChangeAt Go.RowKit Go.Deep
set_option linter.unusedVariables false

theorem l00Max_any (a b : Int) (w : World) : Calls Tryz.prog 86 #[.int .i64 a, .int .i64 b] w fun e w' => e = .returned (.int .i64 (max a b)) ∧ w = w' := by
  by_cases h : b < a
  · go_enter Tryz.func86, Tryz.ntmps86
    go_wp2
    go_ret
    exact ⟨ret_int (by omega), rfl⟩
  · go_enter Tryz.func86, Tryz.ntmps86
    go_wp2
    all_goals go_ret
    all_goals exact ⟨ret_int (by omega), rfl⟩
theorem aboveV_bd {ps : Pth} (hp : pathOk ps = true) {t d : Int} (ht1 : 0 ≤ t) (ht2 : t ≤ 4000) (hd1 : 0 ≤ d) (hd2 : d ≤ lastD ps) : -300000000000 ≤ aboveV ps t d ∧ aboveV ps t d ≤ 300000000000 := by
  have h1 := groundV_bd hp hd2
  have hl := pathOk_len hp
  have h2 := pathOk_pts hp (i := 0) (by omega)
  have h3 := lastD_bd hp
  have hm := mul_bd ht1 ht2 hd1 (show d ≤ 20000 by omega)
  unfold aboveV lineV
  omega
def speedV (a : Int) : Int := rootN (divN (1962 * max 0 a) 10)
theorem speed_arg {a : Int} (h1 : a ≤ 300000000000) : 0 ≤ 1962 * max 0 a ∧ 1962 * max 0 a ≤ 588600000000000 ∧ 0 ≤ divN (1962 * max 0 a) 10 ∧ divN (1962 * max 0 a) 10 ≤ 588600000000001 := by
  have h2 : 0 ≤ 1962 * max 0 a ∧ 1962 * max 0 a ≤ 588600000000000 := by omega
  have := divN_le (1962 * max 0 a) 10 h2.1 (by omega)
  omega
set_option maxRecDepth 100000 in
theorem speedOf_any (a : Int) (w : World) (h1 : -300000000000 ≤ a) (h2 : a ≤ 300000000000) :
    Calls Tryz.prog 41 #[.int .i64 a] w fun e w' => e = .returned (.int .i64 (speedV a)) ∧ Below w.heap.size w w' := by
  have hs := speed_arg h2
  by_cases hneg : a < 0
  · have e : max 0 a = 0 := by omega
    rw [e] at hs
    have HE := Lib.hid (show speedV a = rootN (divN (1962 * 0) 10) by unfold speedV; rw [e])
    have HC := Lib.hid (show ∀ W : World, Calls Tryz.prog 76 #[.int .i64 (divN 0 10)] W fun e w' => e = .returned (.int .i64 (speedV a)) ∧ Below W.heap.size W w' from fun W => by
      rw [HE.out]
      exact RootOf_i _ W (by simpa using hs.2.2.1) (by have := hs.2.2.2; simp at this; simp; omega))
    clear e hs
    go_enter Tryz.func41, Tryz.ntmps41
    go_wp2_with (first | ((go_at_call 65; refine (divRound_any _ _ _ (by omega) (by omega) (by omega) (by omega)).mono ?_; rintro e w' ⟨rfl, nd, rfl⟩)) | (go_at_call 76; refine (HC.out _).mono ?_; rintro e w' ⟨rfl, hb⟩))
    go_ret
    exact ⟨rfl, (below_drewN (Below.refl _ _) nd).trans hb⟩
  · have e : max 0 a = a := by omega
    rw [e] at hs
    have HE := Lib.hid (show speedV a = rootN (divN (1962 * a) 10) by unfold speedV; rw [e])
    have HC := Lib.hid (show ∀ W : World, Calls Tryz.prog 76 #[.int .i64 (divN (1962 * a) 10)] W fun e w' => e = .returned (.int .i64 (speedV a)) ∧ Below W.heap.size W w' from fun W => by
      rw [HE.out]
      exact RootOf_i _ W hs.2.2.1 (by omega))
    clear e
    go_enter Tryz.func41, Tryz.ntmps41
    go_wp2_with (first | ((go_at_call 65; refine (divRound_any _ _ _ (by omega) (by omega) (by omega) (by omega)).mono ?_; rintro e w' ⟨rfl, nd, rfl⟩)) | (go_at_call 76; refine (HC.out _).mono ?_; rintro e w' ⟨rfl, hb⟩))
    go_ret
    exact ⟨rfl, (below_drewN (Below.refl _ _) nd).trans hb⟩
def spdA (ps : Pth) (t d : Int) : Int := if codeP ps t d = 0 then (if 0 ≤ stopV ps t ∧ stopV ps t ≤ d then 0 else speedV (aboveV ps t d)) else 0
set_option maxRecDepth 100000 in
set_option maxHeartbeats 1600000 in
theorem SpeedAt_i (A : Option Addr) (n c : Nat) (t d : Int) (ps : Pth) (w : World) (h : Pts w A n ps) :
    Calls Tryz.prog 11 #[.slice A n c, .int .i64 t, .int .i64 d] w fun e w' => e = .returned (.tuple #[.int .i64 (spdA ps t d), .int .i64 (codeP ps t d)]) ∧ Below w.heap.size w w' := by
  by_cases h0 : codeP ps t d = 0
  · obtain ⟨hp, ht, hd⟩ := codeP_ok h0
    have ht' := inB_iff.1 ht
    have hd' := inB_iff.1 hd
    have hab := aboveV_bd hp (show 0 ≤ t by omega) (by omega) hd'.1 hd'.2
    have hd2 := hd'.2
    have H0 := hid_and h0 hp
    clear h0 hp ht hd
    go_enter Tryz.func11, Tryz.ntmps11
    go_wp2_with fail
    refine (pathCode_any _ _ _ _ _ ps _ h).mono ?_
    rintro e w1 ⟨rfl, hb⟩
    have hh := h.below hb
    rw [H0.out.1]
    go_wp2_with fail
    refine (stopOf_any _ _ _ _ ps _ hh H0.out.2 (by omega) (by omega)).mono ?_
    rintro e w2 ⟨hpost, hb2⟩
    have hh2 := hh.below hb2
    have HB := Lib.hid (hb.trans (hb2.mono hb.size))
    clear hb hb2 hh h
    rcases hpost with ⟨m, h1, h2, h3, h4, rfl⟩ | ⟨h1, rfl⟩
    · have hI : stopV ps t = m := firstI_eq h1 h2 h3 h4
      have HI := Lib.hid hI
      clear h3 h4 hI
      by_cases hmd : m ≤ d
      · have HA := Lib.hid (show spdA ps t d = 0 by unfold spdA; rw [if_pos H0.out.1, HI.out, if_pos ⟨by omega, hmd⟩])
        go_wp2_with fail
        go_ret2
        exact ⟨ret_int2 (by rw [HA.out]) (by rw [H0.out.1]), HB.out⟩
      · have HA := Lib.hid (show spdA ps t d = speedV (aboveV ps t d) by unfold spdA; rw [if_pos H0.out.1, HI.out, if_neg (by omega)])
        go_wp2_with fail
        refine (aboveGround_any _ _ _ _ _ ps _ hh2 H0.out.2 (by omega) (by omega) (by omega) hd2).mono ?_
        rintro e w3 ⟨rfl, hb3⟩
        go_wp2_with fail
        refine (speedOf_any _ _ hab.1 hab.2).mono ?_
        rintro e w4 ⟨rfl, hb4⟩
        go_wp2_with fail
        go_ret2
        have HB3 := HB.out.trans (hb3.mono HB.out.size)
        exact ⟨ret_int2 (by rw [HA.out]) (by rw [H0.out.1]), HB3.trans (hb4.mono HB3.size)⟩
    · have hI : stopV ps t = -1 := firstI_no h1
      have HA := Lib.hid (show spdA ps t d = speedV (aboveV ps t d) by unfold spdA; rw [if_pos H0.out.1, hI, if_neg (by omega)])
      clear h1 hI
      go_wp2_with fail
      refine (aboveGround_any _ _ _ _ _ ps _ hh2 H0.out.2 (by omega) (by omega) (by omega) hd2).mono ?_
      rintro e w3 ⟨rfl, hb3⟩
      go_wp2_with fail
      refine (speedOf_any _ _ hab.1 hab.2).mono ?_
      rintro e w4 ⟨rfl, hb4⟩
      go_wp2_with fail
      go_ret2
      have HB3 := HB.out.trans (hb3.mono HB.out.size)
      exact ⟨ret_int2 (by rw [HA.out]) (by rw [H0.out.1]), HB3.trans (hb4.mono HB3.size)⟩
  · have hne : (codeP ps t d != 0) = true := by simpa using h0
    have HA := Lib.hid (show spdA ps t d = 0 by simp [spdA, h0])
    clear h0
    go_enter Tryz.func11, Tryz.ntmps11
    go_wp2_with fail
    refine (pathCode_any _ _ _ _ _ ps _ h).mono ?_
    rintro e w1 ⟨rfl, hb⟩
    go_wp2_with fail
    go_ret2
    exact ⟨ret_int2 (by rw [HA.out]) rfl, hb⟩
end Go.Proofs.YtknppcgoooaaaaaGreatDoor
