/-
  The contracts of where a mass is fastest.
-/
import Derived.Test.YtknppcgoooaaaaaGreatDoorPathZ
namespace Go.Proofs.YtknppcgoooaaaaaGreatDoor
open Go.ChangeShapes Go.WideShapes Go.ChangeAt Go.RowKit Go.Deep
set_option linter.unusedVariables false

def fastR (ps : Pth) (t : Int) : Nat → Int × Int
  | 0 => (0, 0)
  | k + 1 => if (fastR ps t k).2 < aboveV ps t ((k : Int) + 1) then ((k : Int) + 1, aboveV ps t ((k : Int) + 1)) else fastR ps t k
theorem fastR_yes {ps : Pth} {t d b m : Int} (hd : 1 ≤ d) (h : fastR ps t (d - 1).toNat = (b, m)) (hm : m < aboveV ps t d) : fastR ps t (d + 1 - 1).toNat = (d, aboveV ps t d) := by
  obtain ⟨k, rfl⟩ : ∃ k : Nat, d = (k : Int) + 1 := ⟨(d - 1).toNat, by omega⟩
  rw [show ((k : Int) + 1 - 1).toNat = k by omega] at h
  rw [show ((k : Int) + 1 + 1 - 1).toNat = k + 1 by omega]
  unfold fastR
  rw [h, if_pos hm]
theorem fastR_no {ps : Pth} {t d b m : Int} (hd : 1 ≤ d) (h : fastR ps t (d - 1).toNat = (b, m)) (hm : ¬ m < aboveV ps t d) : fastR ps t (d + 1 - 1).toNat = (b, m) := by
  obtain ⟨k, rfl⟩ : ∃ k : Nat, d = (k : Int) + 1 := ⟨(d - 1).toNat, by omega⟩
  rw [show ((k : Int) + 1 - 1).toNat = k by omega] at h
  rw [show ((k : Int) + 1 + 1 - 1).toNat = k + 1 by omega]
  unfold fastR
  rw [h, if_neg hm]
def endF (ps : Pth) (t : Int) : Int := if stopV ps t < 0 then lastD ps + 1 else stopV ps t
def fastB (ps : Pth) (t : Int) : Int := if codeP ps t 0 = 0 then (fastR ps t (endF ps t - 1).toNat).1 else 0
def fastS (ps : Pth) (t : Int) : Int := if codeP ps t 0 = 0 then speedV (fastR ps t (endF ps t - 1).toNat).2 else 0
theorem fast_end {ps : Pth} {t d b m : Int} (h0 : codeP ps t 0 = 0) (he : endF ps t = d) (h : fastR ps t (d - 1).toNat = (b, m)) : fastB ps t = b ∧ fastS ps t = speedV m := by
  unfold fastB fastS
  rw [if_pos h0, if_pos h0, he, h]
  exact ⟨rfl, rfl⟩
set_option maxRecDepth 100000 in
set_option maxHeartbeats 3200000 in
theorem FastestAt_i (A : Option Addr) (n c : Nat) (t : Int) (ps : Pth) (w : World) (h : Pts w A n ps) :
    Calls Tryz.prog 8 #[.slice A n c, .int .i64 t] w fun e w' => e = .returned (.tuple #[.int .i64 (fastB ps t), .int .i64 (fastS ps t), .int .i64 (codeP ps t 0)]) ∧ Below w.heap.size w w' := by
  by_cases h0 : codeP ps t 0 = 0
  · obtain ⟨hp, ht, hd⟩ := codeP_ok h0
    have ht' := inB_iff.1 ht
    have HL := Lib.hid h.1
    have hl := pathOk_len hp
    rw [HL.out] at hl
    have hld := lastD_bd hp
    have hab := Lib.hid (fun d (h1 : 0 ≤ d) (h2 : d ≤ lastD ps) => aboveV_bd hp (show 0 ≤ t by omega) (by omega) h1 h2)
    have H0 := hid_and h0 hp
    have hk1 : ((n : Int) - 1).toNat = n - 1 := by omega
    have hk2 : (0 : Int) ≤ (n : Int) - 1 := by omega
    have hk3 : (n : Int) - 1 < (n : Int) := by omega
    have hk4 : IntKind.i64.wrap ((n : Int) - 1) = (n : Int) - 1 := IntWalk.i64_in _ (by omega)
    clear h0 hp ht hd
    go_enter Tryz.func8, Tryz.ntmps8
    go_wp2_with fail
    refine (pathCode_any _ _ _ _ _ ps _ h).mono ?_
    rintro e w1 ⟨rfl, hb⟩
    have hh := h.below hb
    rw [H0.out.1]
    go_wp2_with fail
    refine (stopOf_any _ _ _ _ ps _ hh H0.out.2 (by omega) (by omega)).mono ?_
    rintro e w2 ⟨hpost, hb2⟩
    have hh2 := Lib.hid (hh.below hb2)
    have HB := Lib.hid (hb.trans (hb2.mono hb.size))
    clear hb hb2 hh h
    rcases hpost with ⟨S, h1, h2, h3, h4, rfl⟩ | ⟨h1, rfl⟩
    · have HE := Lib.hid (show endF ps t = S by have := firstI_eq h1 h2 h3 h4; unfold endF stopV; rw [this, if_neg (by omega)])
      have hS : S ≤ lastD ps + 1 := by omega
      clear h3 h4 hl
      go_wp2_with fail
      go_loopw [10, 11, 12] (fun bb mm dd wr => ∃ b m d : Int, 1 ≤ d ∧ d ≤ S ∧ 0 ≤ m ∧ m ≤ 300000000000 ∧ bb = .int .i64 b ∧ mm = .int .i64 m ∧ dd = .int .i64 d ∧ Hid (fastR ps t (d - 1).toNat = (b, m)) ∧ Hid (Below w.heap.size w wr ∧ Pts wr A n ps)) (fun _ _ dd _ => (S - intOf dd).toNat)
      case atStart => exact ⟨0, 0, 1, by omega, h1, by omega, by omega, rfl, rfl, rfl, Lib.hid rfl, hid_and HB.out hh2.out⟩
      case round =>
        obtain ⟨b, m, d, hd1, hd2, hm1, hm2, rfl, rfl, rfl, HR, HW⟩ := hrel
        by_cases hlt : d < S
        · have ha := hab.out d (by omega) (by omega)
          by_cases hma : m < aboveV ps t d
          · have HN := Lib.hid (fastR_yes hd1 HR.out hma)
            go_wp2_with fail
            refine (aboveGround_any _ _ _ _ _ ps _ HW.out.2 H0.out.2 (by omega) (by omega) (by omega) (by omega)).mono ?_
            rintro e w3 ⟨rfl, hb3⟩
            have HW3 := hid_and (HW.out.1.trans (hb3.mono HW.out.1.size)) (HW.out.2.below hb3)
            clear hb3
            go_wp2_with fail
            go_roundw
            case rel => exact ⟨_, _, d + 1, by omega, by omega, by omega, ha.2, rfl, rfl, by go_num, HN, HW3⟩
            case measure => simp [intOf]; omega
          · have HN := Lib.hid (fastR_no hd1 HR.out hma)
            go_wp2_with fail
            refine (aboveGround_any _ _ _ _ _ ps _ HW.out.2 H0.out.2 (by omega) (by omega) (by omega) (by omega)).mono ?_
            rintro e w3 ⟨rfl, hb3⟩
            have HW3 := hid_and (HW.out.1.trans (hb3.mono HW.out.1.size)) (HW.out.2.below hb3)
            clear hb3
            go_wp2_with fail
            go_roundw
            case rel => exact ⟨_, _, d + 1, by omega, by omega, hm1, hm2, rfl, rfl, by go_num, HN, HW3⟩
            case measure => simp [intOf]; omega
        · obtain rfl : d = S := by omega
          have HF := Lib.hid (fast_end H0.out.1 HE.out HR.out)
          go_wp2_with fail
          refine (speedOf_any _ _ (by omega) hm2).mono ?_
          rintro e w4 ⟨rfl, hb4⟩
          go_wp2_with fail
          go_ret3
          exact ⟨ret_int3 (by rw [HF.out.1]) (by rw [HF.out.2]) (by rw [H0.out.1]), HW.out.1.trans (hb4.mono HW.out.1.size)⟩
    · have HE0 := Lib.hid (show endF ps t = lastD ps + 1 by have := firstI_no h1; unfold endF stopV; rw [this, if_pos (by omega)])
      clear h1
      have HX2 := hh2
      obtain ⟨b0, off, xl, yl, rfl, HXL, hc1, hc2, hxl⟩ := hh2.out.ok H0.out.2 (show n - 1 < n by omega)
      have hLD : lastD ps = xl := by unfold lastD; rw [HL.out]; exact HXL.out.1
      have hws : IntKind.i64.wrap (xl + 1) = xl + 1 := IntWalk.i64_in _ (by omega)
      have HLD := Lib.hid hLD
      clear hLD hh2
      go_wp2_with fail
      have HE := Lib.hid (show endF ps t = xl + 1 by rw [HE0.out, HLD.out])
      have hld2 : 1 ≤ xl ∧ xl ≤ 20000 := by rw [← HLD.out]; omega
      generalize hSg : xl + 1 = S
      rw [hSg] at HE
      go_loopw [10, 11, 12] (fun bb mm dd wr => ∃ b m d : Int, 1 ≤ d ∧ d ≤ S ∧ 0 ≤ m ∧ m ≤ 300000000000 ∧ bb = .int .i64 b ∧ mm = .int .i64 m ∧ dd = .int .i64 d ∧ Hid (fastR ps t (d - 1).toNat = (b, m)) ∧ Hid (Below w.heap.size w wr ∧ Pts wr (some ⟨b0, off, none⟩) n ps)) (fun _ _ dd _ => (S - intOf dd).toNat)
      case atStart => exact ⟨0, 0, 1, by omega, by omega, by omega, by omega, rfl, rfl, rfl, Lib.hid rfl, hid_and HB.out HX2.out⟩
      case round =>
        obtain ⟨b, m, d, hd1, hd2, hm1, hm2, rfl, rfl, rfl, HR, HW⟩ := hrel
        by_cases hlt : d < S
        · have hdl : d ≤ lastD ps := by rw [HLD.out]; omega
          have ha := hab.out d (by omega) hdl
          by_cases hma : m < aboveV ps t d
          · have HN := Lib.hid (fastR_yes hd1 HR.out hma)
            go_wp2_with fail
            refine (aboveGround_any _ _ _ _ _ ps _ HW.out.2 H0.out.2 (by omega) (by omega) (by omega) hdl).mono ?_
            rintro e w3 ⟨rfl, hb3⟩
            have HW3 := hid_and (HW.out.1.trans (hb3.mono HW.out.1.size)) (HW.out.2.below hb3)
            clear hb3
            go_wp2_with fail
            go_roundw
            case rel => exact ⟨_, _, d + 1, by omega, by omega, by omega, ha.2, rfl, rfl, by go_num, HN, HW3⟩
            case measure => simp [intOf]; omega
          · have HN := Lib.hid (fastR_no hd1 HR.out hma)
            go_wp2_with fail
            refine (aboveGround_any _ _ _ _ _ ps _ HW.out.2 H0.out.2 (by omega) (by omega) (by omega) hdl).mono ?_
            rintro e w3 ⟨rfl, hb3⟩
            have HW3 := hid_and (HW.out.1.trans (hb3.mono HW.out.1.size)) (HW.out.2.below hb3)
            clear hb3
            go_wp2_with fail
            go_roundw
            case rel => exact ⟨_, _, d + 1, by omega, by omega, hm1, hm2, rfl, rfl, by go_num, HN, HW3⟩
            case measure => simp [intOf]; omega
        · obtain rfl : d = S := by omega
          have HF := Lib.hid (fast_end H0.out.1 HE.out HR.out)
          go_wp2_with fail
          refine (speedOf_any _ _ (by omega) hm2).mono ?_
          rintro e w4 ⟨rfl, hb4⟩
          go_wp2_with fail
          go_ret3
          exact ⟨ret_int3 (by rw [HF.out.1]) (by rw [HF.out.2]) (by rw [H0.out.1]), HW.out.1.trans (hb4.mono HW.out.1.size)⟩
  · have hne : (codeP ps t 0 != 0) = true := by simpa using h0
    have HA := hid_and (show fastB ps t = 0 by simp [fastB, h0]) (show fastS ps t = 0 by simp [fastS, h0])
    clear h0
    go_enter Tryz.func8, Tryz.ntmps8
    go_wp2_with fail
    refine (pathCode_any _ _ _ _ _ ps _ h).mono ?_
    rintro e w1 ⟨rfl, hb⟩
    go_wp2_with fail
    go_ret3
    exact ⟨ret_int3 (by rw [HA.out.1]) (by rw [HA.out.2]) rfl, hb⟩
end Go.Proofs.YtknppcgoooaaaaaGreatDoor
