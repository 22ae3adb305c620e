/-
  The contracts of the tangent of a runout.
-/
import Derived.Test.YtehfpnammmgeaaaPathB
namespace Go.Proofs.Ytehfpnammmgeaaa
open Go.ChangeShapes Go.WideShapes Go.ChangeAt Go.RowKit Go.Deep
set_option linter.unusedVariables false

theorem tanV_bd {ps : Pth} (hp : pathOk ps = true) {k : Nat} (hk : 1 ≤ k) (hkn : k < ps.length) : 0 ≤ tanV ps k ∧ tanV ps k ≤ 9000001 := by
  have h1 := pathOk_pts hp hkn
  have h0 := pathOk_pts hp (i := 0) (by omega)
  have hl := pathOk_len hp
  have h2 := path_mono hp (i := 0) (j := k) (by omega) hkn
  rw [hl.2.2] at h2
  have := divN_le (1000 * (hAt ps 0 - hAt ps k)) (dAt ps k) (by omega) (by omega)
  unfold tanV
  omega
/-- The alpha of a path, as it is reckoned: the tangent before it is tested. -/
def alphaT (ps : Pth) (a b : Int) : Int := divN (a * tanV ps (betaI ps).toNat) 1000 - b
def alphaOkB (ps : Pth) (a b : Int) : Bool := pathOk ps && (inB a 1 2000 && inB b 0 1000) && decide (0 ≤ betaI ps) && inB (alphaT ps a b) 1 3000
def alphaA (ps : Pth) (a b : Int) : Int := if alphaOkB ps a b = true then alphaT ps a b else 0
def alphaC (ps : Pth) (a b : Int) : Int :=
  if pathOk ps = true then (if (inB a 1 2000 && inB b 0 1000) = true then (if betaI ps < 0 then 3 else if inB (alphaT ps a b) 1 3000 = true then 0 else 6) else 2) else 1
theorem betaI_bd (ps : Pth) (h : ¬ betaI ps < 0) : 1 ≤ (betaI ps).toNat ∧ (betaI ps).toNat + 1 < ps.length ∧ (((betaI ps).toNat : Nat) : Int) = betaI ps := by
  unfold betaI firstI at *
  cases e : (List.range ((ps.length : Int) - 2 + 1 - 1).toNat).find? (fun j : Nat => betaP ps (1 + (j : Int))) with
  | none => rw [e] at h; simp at h
  | some j =>
    rw [List.find?_range_eq_some] at e
    have hj := e.2.1
    rw [List.mem_range] at hj
    simp only
    omega
set_option maxRecDepth 100000 in
set_option maxHeartbeats 1600000 in
theorem AlphaOf_i (A : Option Addr) (n c : Nat) (a b : Int) (ps : Pth) (w : World) (h : Pts w A n ps) :
    Calls Try.prog 25 #[.slice A n c, .int .i64 a, .int .i64 b] w fun e w' => e = .returned (.tuple #[.int .i64 (alphaA ps a b), .int .i64 (alphaC ps a b)]) ∧ Below w.heap.size w w' := by
  have HL := Lib.hid h.1
  cases hp : pathOk ps
  · have HA := hid_and (show alphaA ps a b = 0 by simp [alphaA, alphaOkB, hp]) (show alphaC ps a b = 1 by simp [alphaC, hp])
    go_enter Try.func25, Try.ntmps25
    go_wp2_with fail
    refine (ValidPath_i _ _ _ ps _ h).mono ?_
    rintro e w1 ⟨rfl, hb⟩
    go_wp2_with fail
    go_ret2
    exact ⟨ret_int2 (by rw [HA.out.1]) (by rw [HA.out.2]), hb⟩
  · have HP := Lib.hid hp
    cases ha : inB a 1 2000
    · have HA := hid_and (show alphaA ps a b = 0 by simp [alphaA, alphaOkB, hp, ha]) (show alphaC ps a b = 2 by simp [alphaC, hp, ha])
      go_enter Try.func25, Try.ntmps25
      go_wp2_with fail
      refine (ValidPath_i _ _ _ ps _ h).mono ?_
      rintro e w1 ⟨rfl, hb⟩
      go_wp2_with ((go_at_call 58; refine (within_any _ _ _ _).mono ?_; rintro e w' ⟨rfl, rfl⟩))
      go_ret2
      exact ⟨ret_int2 (by rw [HA.out.1]) (by rw [HA.out.2]), hb⟩
    · cases hbb : inB b 0 1000
      · have HA := hid_and (show alphaA ps a b = 0 by simp [alphaA, alphaOkB, hp, ha, hbb]) (show alphaC ps a b = 2 by simp [alphaC, hp, ha, hbb])
        go_enter Try.func25, Try.ntmps25
        go_wp2_with fail
        refine (ValidPath_i _ _ _ ps _ h).mono ?_
        rintro e w1 ⟨rfl, hb⟩
        go_wp2_with ((go_at_call 58; refine (within_any _ _ _ _).mono ?_; rintro e w' ⟨rfl, rfl⟩))
        go_ret2
        exact ⟨ret_int2 (by rw [HA.out.1]) (by rw [HA.out.2]), hb⟩
      · have ha' := inB_iff.1 ha
        have hb' := inB_iff.1 hbb
        have HAB := hid_and ha hbb
        by_cases hneg : betaI ps < 0
        · have HA := hid_and (show alphaA ps a b = 0 by simp [alphaA, alphaOkB, hp, ha, hbb]; omega) (show alphaC ps a b = 3 by simp [alphaC, hp, ha, hbb, hneg])
          have HN := Lib.hid hneg
          go_enter Try.func25, Try.ntmps25
          go_wp2_with fail
          refine (ValidPath_i _ _ _ ps _ h).mono ?_
          rintro e w1 ⟨rfl, hb⟩
          have hh := h.below hb
          go_wp2_with ((go_at_call 58; refine (within_any _ _ _ _).mono ?_; rintro e w' ⟨rfl, rfl⟩))
          refine (betaPoint_any _ _ _ ps _ hh HP.out).mono ?_
          rintro e w2 ⟨hpost, hb2⟩
          have hh2 := hh.below hb2
          have HB := Lib.hid (hb.trans (hb2.mono hb.size))
          clear hb hb2 hh h
          rcases hpost with ⟨m, h1, h2, h3, h4, rfl⟩ | ⟨h1, rfl⟩
          · exfalso
            have : betaI ps = m := by unfold betaI; rw [HL.out]; exact firstI_eq h1 h2 h3 h4
            have := HN.out
            omega
          · clear h1
            go_wp2_with fail
            go_ret2
            exact ⟨ret_int2 (by rw [HA.out.1]) (by rw [HA.out.2]), HB.out⟩
        · have hbd := betaI_bd ps hneg
          rw [HL.out] at hbd
          obtain ⟨k, hk⟩ : ∃ k, k = (betaI ps).toNat := ⟨_, rfl⟩
          rw [← hk] at hbd
          have hkI := hbd.2.2
          have htb := tanV_bd hp (k := k) hbd.1 (by rw [HL.out]; omega)
          have hm := mul_bd (show 0 ≤ a by omega) ha'.2 htb.1 htb.2
          have hdv := divN_le (a * tanV ps k) 1000 hm.1 (by omega)
          have HT := Lib.hid (show alphaT ps a b = divN (a * tanV ps k) 1000 - b by unfold alphaT; rw [hk])
          have HK := Lib.hid hkI
          have hk1 := hbd.1
          have hk2 : k < n := by omega
          clear hk hbd hkI
          cases hin : inB (divN (a * tanV ps k) 1000 - b) 1 3000
          · have HA := hid_and (show alphaA ps a b = 0 by simp [alphaA, alphaOkB, hp, ha, hbb, HT.out, hin]) (show alphaC ps a b = 6 by simp [alphaC, hp, ha, hbb, hneg, HT.out, hin])
            clear hneg
            go_enter Try.func25, Try.ntmps25
            go_wp2_with fail
            refine (ValidPath_i _ _ _ ps _ h).mono ?_
            rintro e w1 ⟨rfl, hb⟩
            have hh := h.below hb
            go_wp2_with ((go_at_call 58; refine (within_any _ _ _ _).mono ?_; rintro e w' ⟨rfl, rfl⟩))
            refine (betaPoint_any _ _ _ ps _ hh HP.out).mono ?_
            rintro e w2 ⟨hpost, hb2⟩
            have hh2 := hh.below hb2
            have HB := Lib.hid (hb.trans (hb2.mono hb.size))
            clear hb hb2 hh h
            rcases hpost with ⟨m, h1, h2, h3, h4, rfl⟩ | ⟨h1, rfl⟩
            · have hmk : m = k := by
                have : betaI ps = m := by unfold betaI; rw [HL.out]; exact firstI_eq h1 h2 h3 h4
                rw [HK.out]; exact this.symm
              subst hmk
              clear h3 h4 h1 h2
              go_wp2_with (first | (go_at_call 61; refine (tangentOf_any _ _ _ k ps _ hh2 HP.out hk1 hk2).mono ?_; rintro e w' ⟨rfl, q2, rfl⟩; rw [show divN (1000 * (hAt ps 0 - hAt ps k)) (dAt ps k) = tanV ps k from rfl]) | (first | (go_at_call 60; refine (divRound_any _ _ _ (by omega) (by omega) (by omega) (by omega)).mono ?_; rintro e w' ⟨rfl, nd, rfl⟩) | (go_at_call 58; refine (within_any _ _ _ _).mono ?_; rintro e w' ⟨rfl, rfl⟩)))
              go_ret2
              exact ⟨ret_int2 (by rw [HA.out.1]) (by rw [HA.out.2]), below_drewN HB.out _⟩
            · exfalso
              have : betaI ps = -1 := by unfold betaI; rw [HL.out]; exact firstI_no h1
              have := HK.out
              omega
          · have HA := hid_and (show alphaA ps a b = divN (a * tanV ps k) 1000 - b by simp [alphaA, alphaOkB, hp, ha, hbb, HT.out, hin]; omega) (show alphaC ps a b = 0 by simp [alphaC, hp, ha, hbb, hneg, HT.out, hin])
            clear hneg
            go_enter Try.func25, Try.ntmps25
            go_wp2_with fail
            refine (ValidPath_i _ _ _ ps _ h).mono ?_
            rintro e w1 ⟨rfl, hb⟩
            have hh := h.below hb
            go_wp2_with ((go_at_call 58; refine (within_any _ _ _ _).mono ?_; rintro e w' ⟨rfl, rfl⟩))
            refine (betaPoint_any _ _ _ ps _ hh HP.out).mono ?_
            rintro e w2 ⟨hpost, hb2⟩
            have hh2 := hh.below hb2
            have HB := Lib.hid (hb.trans (hb2.mono hb.size))
            clear hb hb2 hh h
            rcases hpost with ⟨m, h1, h2, h3, h4, rfl⟩ | ⟨h1, rfl⟩
            · have hmk : m = k := by
                have : betaI ps = m := by unfold betaI; rw [HL.out]; exact firstI_eq h1 h2 h3 h4
                rw [HK.out]; exact this.symm
              subst hmk
              clear h3 h4 h1 h2
              go_wp2_with (first | (go_at_call 61; refine (tangentOf_any _ _ _ k ps _ hh2 HP.out hk1 hk2).mono ?_; rintro e w' ⟨rfl, q2, rfl⟩; rw [show divN (1000 * (hAt ps 0 - hAt ps k)) (dAt ps k) = tanV ps k from rfl]) | (first | (go_at_call 60; refine (divRound_any _ _ _ (by omega) (by omega) (by omega) (by omega)).mono ?_; rintro e w' ⟨rfl, nd, rfl⟩) | (go_at_call 58; refine (within_any _ _ _ _).mono ?_; rintro e w' ⟨rfl, rfl⟩)))
              go_ret2
              exact ⟨ret_int2 (by rw [HA.out.1]) (by rw [HA.out.2]), below_drewN HB.out _⟩
            · exfalso
              have : betaI ps = -1 := by unfold betaI; rw [HL.out]; exact firstI_no h1
              have := HK.out
              omega
set_option maxRecDepth 100000 in
set_option maxHeartbeats 1600000 in
theorem l14Alpha_any (A : Option Addr) (n c : Nat) (a b : Int) (ps : Pth) (w : World) (h : Pts w A n ps) :
    Calls Try.prog 67 #[.slice A n c, .int .i64 a, .int .i64 b] w fun e w' => e = .returned (.tuple #[.int .i64 (alphaA ps a b), .int .i64 (alphaC ps a b)]) ∧ Below w.heap.size w w' := by
  have HL := Lib.hid h.1
  cases hp : pathOk ps
  · have HA := hid_and (show alphaA ps a b = 0 by simp [alphaA, alphaOkB, hp]) (show alphaC ps a b = 1 by simp [alphaC, hp])
    go_enter Try.func67, Try.ntmps67
    go_wp2_with fail
    refine (l14Ok_any _ _ _ ps _ h).mono ?_
    rintro e w1 ⟨rfl, hb⟩
    go_wp2_with fail
    go_ret2
    exact ⟨ret_int2 (by rw [HA.out.1]) (by rw [HA.out.2]), hb⟩
  · have HP := Lib.hid hp
    cases ha : inB a 1 2000
    · have HA := hid_and (show alphaA ps a b = 0 by simp [alphaA, alphaOkB, hp, ha]) (show alphaC ps a b = 2 by simp [alphaC, hp, ha])
      go_enter Try.func67, Try.ntmps67
      go_wp2_with fail
      refine (l14Ok_any _ _ _ ps _ h).mono ?_
      rintro e w1 ⟨rfl, hb⟩
      go_wp2_with ((go_at_call 62; refine (l00In_any _ _ _ _).mono ?_; rintro e w' ⟨rfl, rfl⟩))
      go_ret2
      exact ⟨ret_int2 (by rw [HA.out.1]) (by rw [HA.out.2]), hb⟩
    · cases hbb : inB b 0 1000
      · have HA := hid_and (show alphaA ps a b = 0 by simp [alphaA, alphaOkB, hp, ha, hbb]) (show alphaC ps a b = 2 by simp [alphaC, hp, ha, hbb])
        go_enter Try.func67, Try.ntmps67
        go_wp2_with fail
        refine (l14Ok_any _ _ _ ps _ h).mono ?_
        rintro e w1 ⟨rfl, hb⟩
        go_wp2_with ((go_at_call 62; refine (l00In_any _ _ _ _).mono ?_; rintro e w' ⟨rfl, rfl⟩))
        go_ret2
        exact ⟨ret_int2 (by rw [HA.out.1]) (by rw [HA.out.2]), hb⟩
      · have ha' := inB_iff.1 ha
        have hb' := inB_iff.1 hbb
        have HAB := hid_and ha hbb
        by_cases hneg : betaI ps < 0
        · have HA := hid_and (show alphaA ps a b = 0 by simp [alphaA, alphaOkB, hp, ha, hbb]; omega) (show alphaC ps a b = 3 by simp [alphaC, hp, ha, hbb, hneg])
          have HN := Lib.hid hneg
          go_enter Try.func67, Try.ntmps67
          go_wp2_with fail
          refine (l14Ok_any _ _ _ ps _ h).mono ?_
          rintro e w1 ⟨rfl, hb⟩
          have hh := h.below hb
          go_wp2_with ((go_at_call 62; refine (l00In_any _ _ _ _).mono ?_; rintro e w' ⟨rfl, rfl⟩))
          refine (l14Beta_any _ _ _ ps _ hh HP.out).mono ?_
          rintro e w2 ⟨rfl, q, rfl⟩
          go_wp2_with fail
          go_ret2
          exact ⟨ret_int2 (by rw [HA.out.1]) (by rw [HA.out.2]), below_drewN hb _⟩
        · have hbd := betaI_bd ps hneg
          rw [HL.out] at hbd
          obtain ⟨k, hk⟩ : ∃ k, k = (betaI ps).toNat := ⟨_, rfl⟩
          rw [← hk] at hbd
          have hkI := hbd.2.2
          have htb := tanV_bd hp (k := k) hbd.1 (by rw [HL.out]; omega)
          have hm := mul_bd (show 0 ≤ a by omega) ha'.2 htb.1 htb.2
          have hdv := divN_le (a * tanV ps k) 1000 hm.1 (by omega)
          have HT := Lib.hid (show alphaT ps a b = divN (a * tanV ps k) 1000 - b by unfold alphaT; rw [hk])
          have HK := Lib.hid hkI
          have hk1 := hbd.1
          have hk2 : k < n := by omega
          clear hk hbd hkI
          cases hin : inB (divN (a * tanV ps k) 1000 - b) 1 3000
          · have HA := hid_and (show alphaA ps a b = 0 by simp [alphaA, alphaOkB, hp, ha, hbb, HT.out, hin]) (show alphaC ps a b = 6 by simp [alphaC, hp, ha, hbb, hneg, HT.out, hin])
            clear hneg
            go_enter Try.func67, Try.ntmps67
            go_wp2_with fail
            refine (l14Ok_any _ _ _ ps _ h).mono ?_
            rintro e w1 ⟨rfl, hb⟩
            have hh := h.below hb
            go_wp2_with ((go_at_call 62; refine (l00In_any _ _ _ _).mono ?_; rintro e w' ⟨rfl, rfl⟩))
            refine (l14Beta_any _ _ _ ps _ hh HP.out).mono ?_
            rintro e w2 ⟨rfl, q, rfl⟩
            rw [← HK.out]
            have hh2 := hh.drewN q
            go_wp2_with (first | (go_at_call 63; refine (l14Tangent_any _ _ _ k ps _ hh2 HP.out hk1 hk2).mono ?_; rintro e w' ⟨rfl, q2, rfl⟩; rw [show divN (1000 * (hAt ps 0 - hAt ps k)) (dAt ps k) = tanV ps k from rfl]) | (first | (go_at_call 85; refine (l01Div_any _ _ _ (by omega) (by omega) (by omega) (by omega)).mono ?_; rintro e w' ⟨rfl, rfl⟩) | (go_at_call 42; refine (l14Is_any _ _).mono ?_; rintro e w' ⟨rfl, rfl⟩)))
            go_ret2
            exact ⟨ret_int2 (by rw [HA.out.1]) (by rw [HA.out.2]), below_drewN hb _⟩
          · have HA := hid_and (show alphaA ps a b = divN (a * tanV ps k) 1000 - b by simp [alphaA, alphaOkB, hp, ha, hbb, HT.out, hin]; omega) (show alphaC ps a b = 0 by simp [alphaC, hp, ha, hbb, hneg, HT.out, hin])
            clear hneg
            go_enter Try.func67, Try.ntmps67
            go_wp2_with fail
            refine (l14Ok_any _ _ _ ps _ h).mono ?_
            rintro e w1 ⟨rfl, hb⟩
            have hh := h.below hb
            go_wp2_with ((go_at_call 62; refine (l00In_any _ _ _ _).mono ?_; rintro e w' ⟨rfl, rfl⟩))
            refine (l14Beta_any _ _ _ ps _ hh HP.out).mono ?_
            rintro e w2 ⟨rfl, q, rfl⟩
            rw [← HK.out]
            have hh2 := hh.drewN q
            go_wp2_with (first | (go_at_call 63; refine (l14Tangent_any _ _ _ k ps _ hh2 HP.out hk1 hk2).mono ?_; rintro e w' ⟨rfl, q2, rfl⟩; rw [show divN (1000 * (hAt ps 0 - hAt ps k)) (dAt ps k) = tanV ps k from rfl]) | (first | (go_at_call 85; refine (l01Div_any _ _ _ (by omega) (by omega) (by omega) (by omega)).mono ?_; rintro e w' ⟨rfl, rfl⟩) | (go_at_call 42; refine (l14Is_any _ _).mono ?_; rintro e w' ⟨rfl, rfl⟩)))
            go_ret2
            exact ⟨ret_int2 (by rw [HA.out.1]) (by rw [HA.out.2]), below_drewN hb _⟩
theorem AlphaOf_s (A : Option Addr) (n c : Nat) (a b : Int) (ps : Pth) (w : World) (h : Pts w A n ps) :
    Calls Try.prog 33 #[.slice A n c, .int .i64 a, .int .i64 b] w fun e w' => e = .returned (.tuple #[.int .i64 (alphaA ps a b), .int .i64 (alphaC ps a b)]) ∧ Below w.heap.size w w' := by
  go_enter Try.func33, Try.ntmps33
  go_wp2_with fail
  refine (l14Alpha_any _ _ _ _ _ ps _ h).mono ?_
  rintro e w1 ⟨rfl, hb⟩
  go_wp2_with fail
  go_ret2
  exact ⟨rfl, hb⟩
end Go.Proofs.Ytehfpnammmgeaaa
