/-
  The contracts of where a mass is fastest.
-/
import Derived.Test.YtehfpnammmgeaaaPathZ
namespace Go.Proofs.Ytehfpnammmgeaaa
open Go.ChangeShapes Go.WideShapes Go.ChangeAt Go.RowKit Go.Deep
set_option linter.unusedVariables false

def fastR (ps : Pth) (t : Int) : Nat → Int × Int
  | 0 => (0, 0)
  | k + 1 => if (fastR ps t k).2 < aboveV ps t ((k : Int) + 1) then ((k : Int) + 1, aboveV ps t ((k : Int) + 1)) else fastR ps t k
theorem fastR_yes {ps : Pth} {t d b m : Int} (hd : 1 ≤ d) (h : fastR ps t (d - 1).toNat = (b, m)) (hm : m < aboveV ps t d) : fastR ps t (d + 1 - 1).toNat = (d, aboveV ps t d) := by
  obtain ⟨k, rfl⟩ : ∃ k : Nat, d = (k : Int) + 1 := ⟨(d - 1).toNat, by omega⟩
  rw [show ((k : Int) + 1 - 1).toNat = k by omega] at h
  rw [show ((k : Int) + 1 + 1 - 1).toNat = k + 1 by omega]
  unfold fastR
  rw [h, if_pos hm]
theorem fastR_no {ps : Pth} {t d b m : Int} (hd : 1 ≤ d) (h : fastR ps t (d - 1).toNat = (b, m)) (hm : ¬ m < aboveV ps t d) : fastR ps t (d + 1 - 1).toNat = (b, m) := by
  obtain ⟨k, rfl⟩ : ∃ k : Nat, d = (k : Int) + 1 := ⟨(d - 1).toNat, by omega⟩
  rw [show ((k : Int) + 1 - 1).toNat = k by omega] at h
  rw [show ((k : Int) + 1 + 1 - 1).toNat = k + 1 by omega]
  unfold fastR
  rw [h, if_neg hm]
def endF (ps : Pth) (t : Int) : Int := if stopV ps t < 0 then lastD ps + 1 else stopV ps t
def fastB (ps : Pth) (t : Int) : Int := if codeP ps t 0 = 0 then (fastR ps t (endF ps t - 1).toNat).1 else 0
def fastS (ps : Pth) (t : Int) : Int := if codeP ps t 0 = 0 then speedV (fastR ps t (endF ps t - 1).toNat).2 else 0
theorem fast_end {ps : Pth} {t d b m : Int} (h0 : codeP ps t 0 = 0) (he : endF ps t = d) (h : fastR ps t (d - 1).toNat = (b, m)) : fastB ps t = b ∧ fastS ps t = speedV m := by
  unfold fastB fastS
  rw [if_pos h0, if_pos h0, he, h]
  exact ⟨rfl, rfl⟩
set_option maxRecDepth 100000 in
set_option maxHeartbeats 3200000 in
theorem FastestAt_i (A : Option Addr) (n c : Nat) (t : Int) (ps : Pth) (w : World) (h : Pts w A n ps) :
    Calls Try.prog 37 #[.slice A n c, .int .i64 t] w fun e w' => e = .returned (.tuple #[.int .i64 (fastB ps t), .int .i64 (fastS ps t), .int .i64 (codeP ps t 0)]) ∧ Below w.heap.size w w' := by
  by_cases h0 : codeP ps t 0 = 0
  · obtain ⟨hp, ht, hd⟩ := codeP_ok h0
    have ht' := inB_iff.1 ht
    have HL := Lib.hid h.1
    have hl := pathOk_len hp
    rw [HL.out] at hl
    have hld := lastD_bd hp
    have hab := Lib.hid (fun d (h1 : 0 ≤ d) (h2 : d ≤ lastD ps) => aboveV_bd hp (show 0 ≤ t by omega) (by omega) h1 h2)
    have H0 := hid_and h0 hp
    have hk1 : ((n : Int) - 1).toNat = n - 1 := by omega
    have hk2 : (0 : Int) ≤ (n : Int) - 1 := by omega
    have hk3 : (n : Int) - 1 < (n : Int) := by omega
    have hk4 : IntKind.i64.wrap ((n : Int) - 1) = (n : Int) - 1 := IntWalk.i64_in _ (by omega)
    clear h0 hp ht hd
    go_enter Try.func37, Try.ntmps37
    go_wp2_with fail
    refine (pathCode_any _ _ _ _ _ ps _ h).mono ?_
    rintro e w1 ⟨rfl, hb⟩
    have hh := h.below hb
    rw [H0.out.1]
    go_wp2_with fail
    refine (stopOf_any _ _ _ _ ps _ hh H0.out.2 (by omega) (by omega)).mono ?_
    rintro e w2 ⟨hpost, hb2⟩
    have hh2 := Lib.hid (hh.below hb2)
    have HB := Lib.hid (hb.trans (hb2.mono hb.size))
    clear hb hb2 hh h
    rcases hpost with ⟨S, h1, h2, h3, h4, rfl⟩ | ⟨h1, rfl⟩
    · have HE := Lib.hid (show endF ps t = S by have := firstI_eq h1 h2 h3 h4; unfold endF stopV; rw [this, if_neg (by omega)])
      have hS : S ≤ lastD ps + 1 := by omega
      clear h3 h4 hl
      go_wp2_with fail
      go_loopw [10, 11, 12] (fun bb mm dd wr => ∃ b m d : Int, 1 ≤ d ∧ d ≤ S ∧ 0 ≤ m ∧ m ≤ 300000000000 ∧ bb = .int .i64 b ∧ mm = .int .i64 m ∧ dd = .int .i64 d ∧ Hid (fastR ps t (d - 1).toNat = (b, m)) ∧ Hid (Below w.heap.size w wr ∧ Pts wr A n ps)) (fun _ _ dd _ => (S - intOf dd).toNat)
      case atStart => exact ⟨0, 0, 1, by omega, h1, by omega, by omega, rfl, rfl, rfl, Lib.hid rfl, hid_and HB.out hh2.out⟩
      case round =>
        obtain ⟨b, m, d, hd1, hd2, hm1, hm2, rfl, rfl, rfl, HR, HW⟩ := hrel
        by_cases hlt : d < S
        · have ha := hab.out d (by omega) (by omega)
          by_cases hma : m < aboveV ps t d
          · have HN := Lib.hid (fastR_yes hd1 HR.out hma)
            go_wp2_with fail
            refine (aboveGround_any _ _ _ _ _ ps _ HW.out.2 H0.out.2 (by omega) (by omega) (by omega) (by omega)).mono ?_
            rintro e w3 ⟨rfl, hb3⟩
            have HW3 := hid_and (HW.out.1.trans (hb3.mono HW.out.1.size)) (HW.out.2.below hb3)
            clear hb3
            go_wp2_with fail
            go_roundw
            case rel => exact ⟨_, _, d + 1, by omega, by omega, by omega, ha.2, rfl, rfl, by go_num, HN, HW3⟩
            case measure => simp [intOf]; omega
          · have HN := Lib.hid (fastR_no hd1 HR.out hma)
            go_wp2_with fail
            refine (aboveGround_any _ _ _ _ _ ps _ HW.out.2 H0.out.2 (by omega) (by omega) (by omega) (by omega)).mono ?_
            rintro e w3 ⟨rfl, hb3⟩
            have HW3 := hid_and (HW.out.1.trans (hb3.mono HW.out.1.size)) (HW.out.2.below hb3)
            clear hb3
            go_wp2_with fail
            go_roundw
            case rel => exact ⟨_, _, d + 1, by omega, by omega, hm1, hm2, rfl, rfl, by go_num, HN, HW3⟩
            case measure => simp [intOf]; omega
        · obtain rfl : d = S := by omega
          have HF := Lib.hid (fast_end H0.out.1 HE.out HR.out)
          go_wp2_with fail
          refine (speedOf_any _ _ (by omega) hm2).mono ?_
          rintro e w4 ⟨rfl, hb4⟩
          go_wp2_with fail
          go_ret3
          exact ⟨ret_int3 (by rw [HF.out.1]) (by rw [HF.out.2]) (by rw [H0.out.1]), HW.out.1.trans (hb4.mono HW.out.1.size)⟩
    · have HE0 := Lib.hid (show endF ps t = lastD ps + 1 by have := firstI_no h1; unfold endF stopV; rw [this, if_pos (by omega)])
      clear h1
      have HX2 := hh2
      obtain ⟨b0, off, xl, yl, rfl, HXL, hc1, hc2, hxl⟩ := hh2.out.ok H0.out.2 (show n - 1 < n by omega)
      have hLD : lastD ps = xl := by unfold lastD; rw [HL.out]; exact HXL.out.1
      have hws : IntKind.i64.wrap (xl + 1) = xl + 1 := IntWalk.i64_in _ (by omega)
      have HLD := Lib.hid hLD
      clear hLD hh2
      go_wp2_with fail
      have HE := Lib.hid (show endF ps t = xl + 1 by rw [HE0.out, HLD.out])
      have hld2 : 1 ≤ xl ∧ xl ≤ 20000 := by rw [← HLD.out]; omega
      generalize hSg : xl + 1 = S
      rw [hSg] at HE
      go_loopw [10, 11, 12] (fun bb mm dd wr => ∃ b m d : Int, 1 ≤ d ∧ d ≤ S ∧ 0 ≤ m ∧ m ≤ 300000000000 ∧ bb = .int .i64 b ∧ mm = .int .i64 m ∧ dd = .int .i64 d ∧ Hid (fastR ps t (d - 1).toNat = (b, m)) ∧ Hid (Below w.heap.size w wr ∧ Pts wr (some ⟨b0, off, none⟩) n ps)) (fun _ _ dd _ => (S - intOf dd).toNat)
      case atStart => exact ⟨0, 0, 1, by omega, by omega, by omega, by omega, rfl, rfl, rfl, Lib.hid rfl, hid_and HB.out HX2.out⟩
      case round =>
        obtain ⟨b, m, d, hd1, hd2, hm1, hm2, rfl, rfl, rfl, HR, HW⟩ := hrel
        by_cases hlt : d < S
        · have hdl : d ≤ lastD ps := by rw [HLD.out]; omega
          have ha := hab.out d (by omega) hdl
          by_cases hma : m < aboveV ps t d
          · have HN := Lib.hid (fastR_yes hd1 HR.out hma)
            go_wp2_with fail
            refine (aboveGround_any _ _ _ _ _ ps _ HW.out.2 H0.out.2 (by omega) (by omega) (by omega) hdl).mono ?_
            rintro e w3 ⟨rfl, hb3⟩
            have HW3 := hid_and (HW.out.1.trans (hb3.mono HW.out.1.size)) (HW.out.2.below hb3)
            clear hb3
            go_wp2_with fail
            go_roundw
            case rel => exact ⟨_, _, d + 1, by omega, by omega, by omega, ha.2, rfl, rfl, by go_num, HN, HW3⟩
            case measure => simp [intOf]; omega
          · have HN := Lib.hid (fastR_no hd1 HR.out hma)
            go_wp2_with fail
            refine (aboveGround_any _ _ _ _ _ ps _ HW.out.2 H0.out.2 (by omega) (by omega) (by omega) hdl).mono ?_
            rintro e w3 ⟨rfl, hb3⟩
            have HW3 := hid_and (HW.out.1.trans (hb3.mono HW.out.1.size)) (HW.out.2.below hb3)
            clear hb3
            go_wp2_with fail
            go_roundw
            case rel => exact ⟨_, _, d + 1, by omega, by omega, hm1, hm2, rfl, rfl, by go_num, HN, HW3⟩
            case measure => simp [intOf]; omega
        · obtain rfl : d = S := by omega
          have HF := Lib.hid (fast_end H0.out.1 HE.out HR.out)
          go_wp2_with fail
          refine (speedOf_any _ _ (by omega) hm2).mono ?_
          rintro e w4 ⟨rfl, hb4⟩
          go_wp2_with fail
          go_ret3
          exact ⟨ret_int3 (by rw [HF.out.1]) (by rw [HF.out.2]) (by rw [H0.out.1]), HW.out.1.trans (hb4.mono HW.out.1.size)⟩
  · have hne : (codeP ps t 0 != 0) = true := by simpa using h0
    have HA := hid_and (show fastB ps t = 0 by simp [fastB, h0]) (show fastS ps t = 0 by simp [fastS, h0])
    clear h0
    go_enter Try.func37, Try.ntmps37
    go_wp2_with fail
    refine (pathCode_any _ _ _ _ _ ps _ h).mono ?_
    rintro e w1 ⟨rfl, hb⟩
    go_wp2_with fail
    go_ret3
    exact ⟨ret_int3 (by rw [HA.out.1]) (by rw [HA.out.2]) rfl, hb⟩
set_option maxRecDepth 100000 in
set_option maxHeartbeats 3200000 in
theorem FastestAt_s (A : Option Addr) (n c : Nat) (t : Int) (ps : Pth) (w : World) (h : Pts w A n ps) :
    Calls Try.prog 36 #[.slice A n c, .int .i64 t] w fun e w' => e = .returned (.tuple #[.int .i64 (fastB ps t), .int .i64 (fastS ps t), .int .i64 (codeP ps t 0)]) ∧ Below w.heap.size w w' := by
  cases hp : pathOk ps
  · have HA := hid_and (hid_and (show fastB ps t = 0 by simp [fastB, codeP, hp]) (show fastS ps t = 0 by simp [fastS, codeP, hp])) (show codeP ps t 0 = 1 by simp [codeP, hp])
    go_enter Try.func36, Try.ntmps36
    go_wp2_with fail
    refine (l14Ok_any _ _ _ ps _ h).mono ?_
    rintro e w1 ⟨rfl, hb⟩
    go_wp2_with fail
    go_ret3
    exact ⟨ret_int3 (by rw [HA.out.1.out.1]) (by rw [HA.out.1.out.2]) (by rw [HA.out.2]), hb⟩
  · have HP := Lib.hid hp
    have hz := inB_zero hp
    cases h1 : inB t 1 3000
    · have HA := hid_and (hid_and (show fastB ps t = 0 by simp [fastB, codeP, hp, h1]) (show fastS ps t = 0 by simp [fastS, codeP, hp, h1])) (show codeP ps t 0 = 2 by simp [codeP, hp, h1])
      clear hz
      go_enter Try.func36, Try.ntmps36
      go_wp2_with fail
      refine (l14Ok_any _ _ _ ps _ h).mono ?_
      rintro e w1 ⟨rfl, hb⟩
      go_wp2_with ((go_at_call 42; refine (l14Is_any _ _).mono ?_; rintro e w' ⟨rfl, rfl⟩))
      go_ret3
      exact ⟨ret_int3 (by rw [HA.out.1.out.1]) (by rw [HA.out.1.out.2]) (by rw [HA.out.2]), hb⟩
    · have ht := inB_iff.1 h1
      have HC0 := Lib.hid (codeP_of hp h1 hz)
      have HL := Lib.hid h.1
      have hl := pathOk_len hp
      rw [HL.out] at hl
      have hld := lastD_bd hp
      have hab := Lib.hid (fun d (h1 : 0 ≤ d) (h2 : d ≤ lastD ps) => aboveV_bd hp (show 0 ≤ t by omega) (by omega) h1 h2)
      have hgb := Lib.hid (fun d (h2 : d ≤ lastD ps) => groundV_bd hp h2)
      have hk1 : ((n : Int) - 1).toNat = n - 1 := by omega
      have hk2 : (0 : Int) ≤ (n : Int) - 1 := by omega
      have hk3 : (n : Int) - 1 < (n : Int) := by omega
      have hk4 : IntKind.i64.wrap ((n : Int) - 1) = (n : Int) - 1 := IntWalk.i64_in _ (by omega)
      have hn24 : n ≤ 24 := hl.2.1
      clear hz hl
      go_enter Try.func36, Try.ntmps36
      go_wp2_with fail
      refine (l14Ok_any _ _ _ ps _ h).mono ?_
      rintro e w1 ⟨rfl, hb⟩
      have H := Lib.hid (h.below hb)
      have HB := Lib.hid hb
      rw [HP.out]
      clear h hp hb
      obtain ⟨b, off, xl, yl, rfl, HXL, hc1, hc2, hxl⟩ := H.out.ok HP.out (show n - 1 < n by omega)
      have hLD : lastD ps = xl := by unfold lastD; rw [HL.out]; exact HXL.out.1
      rw [hLD] at hld
      have HLD := Lib.hid hLD
      clear hLD
      go_wp2_with ((go_at_call 42; refine (l14Is_any _ _).mono ?_; rintro e w' ⟨rfl, rfl⟩))
      go_loopw [7, 8, 9, 10] (fun bb mm i dd wr => ∃ (k : Nat) (bv m d : Int) (q : Nat), 1 ≤ d ∧ d ≤ xl + 1 ∧ 0 ≤ m ∧ m ≤ 300000000000 ∧ bb = .int .i64 bv ∧ mm = .int .i64 m ∧ dd = .int .i64 d ∧ i = .int .i64 k ∧ wr = w1.drewN q ∧ 1 ≤ k ∧ Hid (fastR ps t (d - 1).toNat = (bv, m)) ∧ Hid ((d ≤ xl → k ≤ gIdx ps d) ∧ ∀ x, 1 ≤ x → x < d → stopP ps t x = false)) (fun _ _ _ dd _ => (xl + 1 - intOf dd).toNat)
      case atStart => exact ⟨1, 0, 0, 1, 0, by omega, by omega, by omega, by omega, rfl, rfl, rfl, rfl, rfl, by omega, Lib.hid rfl, fun hd => (gIdx_ok HP.out (by rw [HLD.out]; exact hd)).1, fun x h1 h2 => by omega⟩
      case round =>
        obtain ⟨k, bv, m, d, q, hd1, hd2, hm1, hm2, rfl, rfl, rfl, rfl, rfl, hk0, HR, HM⟩ := hrel
        by_cases hlt : d ≤ xl
        · have hdl : d ≤ lastD ps := by rw [HLD.out]; exact hlt
          have hG := gIdx_ok HP.out hdl
          have hkg := HM.out.1 hlt
          obtain ⟨g, hg⟩ : ∃ g, g = gIdx ps d := ⟨_, rfl⟩
          rw [← hg] at hG hkg
          have hg1 := hG.1
          have hg2 : g < n := by rw [← HL.out]; exact hG.2.1
          have HG := hid_and hG.2.2 hg
          clear hG hg
          go_wp2_with fail
          go_loopw [9] (fun i wr2 => ∃ k2 q2 : Nat, 1 ≤ k2 ∧ k2 ≤ g ∧ i = .int .i64 k2 ∧ wr2 = w1.drewN q2) (fun i _ => g - (intOf i).toNat)
          case atStart => exact ⟨k, q, hk0, hkg, rfl, rfl⟩
          case round =>
            obtain ⟨k2, q2, hj1, hj2, rfl, rfl⟩ := hrel
            obtain ⟨b', off', x, y, hAA, HX, hd1', hd2', hx1, hx2, hx3, hx4⟩ := H.out.ok HP.out (show k2 < n by omega)
            obtain ⟨rfl, rfl⟩ : b = b' ∧ off = off' := by
              injection hAA with hAA
              injection hAA with e1 e2 _
              exact ⟨e1, e2⟩
            have hki : (k2 : Int) < (n : Int) := by omega
            clear hAA
            by_cases hk2g : k2 < g
            · have hlt2 : x < d := by have := HG.out.1.2 k2 hj1 hk2g; rw [HX.out.1] at this; exact this
              go_wp2_with fail
              go_roundw
              case rel => exact ⟨k2 + 1, _, by omega, by omega, by go_num, rfl⟩
              case measure => simp [intOf]; omega
            · obtain rfl : k2 = g := by omega
              have hge : d ≤ x := by have := HG.out.1.1; rw [HX.out.1] at this; exact this
              have HV := Lib.hid (show aboveV ps t d = lineV ps t d - betw ps k2 d by unfold aboveV groundV; rw [← HG.out.2])
              have ha := hab.out d (by omega) hdl
              have hgb1 := hgb.out d hdl
              have hwa : IntKind.i64.wrap (lineV ps t d - betw ps k2 d) = aboveV ps t d := by rw [HV.out] at ha ⊢; exact IntWalk.i64_in _ (by omega)
              by_cases hst : aboveV ps t d ≤ 0
              · have HS := Lib.hid (show endF ps t = d by
                  have : stopV ps t = d := by unfold stopV; rw [HLD.out]; exact firstI_eq hd1 hlt (by unfold stopP; simpa using hst) HM.out.2
                  unfold endF; rw [this, if_neg (by omega)])
                have HF := Lib.hid (fast_end HC0.out HS.out HR.out)
                go_wp2_with (first | (go_at_call 69; refine (l14Between_any _ _ _ _ _ ps _ (H.out.drewN _) HP.out hj1 hg2).mono ?_; rintro e w2 ⟨rfl, nq, rfl⟩) | (go_at_call 44; refine (l14Line_any _ _ _ _ _ ps _ (H.out.drewN _) HP.out (by omega) (by omega) (by omega) (by omega)).mono ?_; rintro e w2 ⟨rfl, nq, rfl⟩) | (go_at_call 70; refine (l14Speed_any _ _ (by omega) hm2).mono ?_; rintro e w2 ⟨rfl, nq, rfl⟩))
                go_ret3
                exact ⟨ret_int3 (by rw [HF.out.1]) (by rw [HF.out.2]) (by rw [HC0.out]), below_drewN HB.out _⟩
              · have HS := Lib.hid (show stopP ps t d = false by unfold stopP; simpa using hst)
                by_cases hma : m < aboveV ps t d
                · have HN := Lib.hid (fastR_yes hd1 HR.out hma)
                  go_wp2_with (first | (go_at_call 69; refine (l14Between_any _ _ _ _ _ ps _ (H.out.drewN _) HP.out hj1 hg2).mono ?_; rintro e w2 ⟨rfl, nq, rfl⟩) | (go_at_call 44; refine (l14Line_any _ _ _ _ _ ps _ (H.out.drewN _) HP.out (by omega) (by omega) (by omega) (by omega)).mono ?_; rintro e w2 ⟨rfl, nq, rfl⟩))
                  go_roundw
                  case rel => exact ⟨k2, _, _, d + 1, _, by omega, by omega, by omega, ha.2, rfl, rfl, by go_num, rfl, rfl, hj1, HN, fun hd => by rw [HG.out.2]; exact gIdx_mono HP.out (by omega) (by rw [HLD.out]; exact hd), fun x h1 h2 => by
                    by_cases e : x = d
                    · rw [e]; exact HS.out
                    · exact HM.out.2 x h1 (by omega)⟩
                  case measure => simp [intOf]; omega
                · have HN := Lib.hid (fastR_no hd1 HR.out hma)
                  go_wp2_with (first | (go_at_call 69; refine (l14Between_any _ _ _ _ _ ps _ (H.out.drewN _) HP.out hj1 hg2).mono ?_; rintro e w2 ⟨rfl, nq, rfl⟩) | (go_at_call 44; refine (l14Line_any _ _ _ _ _ ps _ (H.out.drewN _) HP.out (by omega) (by omega) (by omega) (by omega)).mono ?_; rintro e w2 ⟨rfl, nq, rfl⟩))
                  go_roundw
                  case rel => exact ⟨k2, _, _, d + 1, _, by omega, by omega, hm1, hm2, rfl, rfl, by go_num, rfl, rfl, hj1, HN, fun hd => by rw [HG.out.2]; exact gIdx_mono HP.out (by omega) (by rw [HLD.out]; exact hd), fun x h1 h2 => by
                    by_cases e : x = d
                    · rw [e]; exact HS.out
                    · exact HM.out.2 x h1 (by omega)⟩
                  case measure => simp [intOf]; omega
        · have HS := Lib.hid (show endF ps t = d by
            have : stopV ps t = -1 := by unfold stopV; rw [HLD.out]; exact firstI_no (fun x h1 h2 => HM.out.2 x h1 (by omega))
            unfold endF; rw [this, if_pos (by omega), HLD.out]; omega)
          have HF := Lib.hid (fast_end HC0.out HS.out HR.out)
          go_wp2_with (go_at_call 70; refine (l14Speed_any _ _ (by omega) hm2).mono ?_; rintro e w2 ⟨rfl, nq, rfl⟩)
          go_ret3
          exact ⟨ret_int3 (by rw [HF.out.1]) (by rw [HF.out.2]) (by rw [HC0.out]), below_drewN HB.out _⟩
end Go.Proofs.Ytehfpnammmgeaaa
