/-
  The layer at a height; a further layer.
-/
import Derived.Test.YtknppcgoooaaaaaGreatDoorProA
import Derived.Deep.DeepCutAuto
import Derived.Deep.RegionLaw
namespace Go.Proofs.YtknppcgoooaaaaaGreatDoor
open Go.ChangeShapes Go.WideShapes Go.ChangeAt Go.RowKit Go.Deep
set_option linter.unusedVariables false

theorem thick_mono {ls : List Ly} (hok : ∀ x ∈ ls, LyOk x) {j k : Nat} (h : j ≤ k) : sumF thickL (ls.take j) ≤ sumF thickL (ls.take k) := by
  induction h with
  | refl => exact Int.le_refl _
  | step hk ih =>
    rename_i k'
    rw [List.take_add_one]
    cases hx : ls[k']? with
    | none => simpa using ih
    | some x =>
      have o := hok x (List.mem_of_getElem? hx)
      have := (thick_bd o.i o.d).1
      rw [Option.toList_some, sumF_append, sumF_cons, sumF_nil]
      have e : thickL x = divN x.ice x.dens := rfl
      omega
set_option maxRecDepth 100000 in
set_option maxHeartbeats 1600000 in
theorem LayerAt_i (A : Option Addr) (n c k : Nat) (ls : List Ly) (x : Ly) (h : Int) (w : World) (H : Lys w A n ls) (hk : ls[k]? = some x) (h1 : sumF thickL (ls.take k) ≤ h) (h2 : h < sumF thickL (ls.take k) + thickL x) :
    Calls Tryz.prog 29 #[.slice A n c, .int .i64 h] w fun e w' => e = .returned (.tuple #[.int .i64 (k : Int), .int .i64 0]) ∧ Below w.heap.size w w' := by
  have hn := H.2.1
  have HL := Lib.hid H.1
  have hkn : k < n := by have := (List.getElem?_eq_some_iff.1 hk).1; rw [H.1] at this; exact this
  have HS := Lib.hid (fun j => thickS_bd H j)
  have HMO := Lib.hid (fun (j : Nat) (hj : j ≤ k) => thick_mono H.2.2.1 hj)
  have hT : sumF thickL (ls.take (k + 1)) ≤ sumF thickL ls := by
    have h3 := thick_mono H.2.2.1 (show k + 1 ≤ n by omega)
    rwa [List.take_of_length_le (show ls.length ≤ n by rw [H.1]; exact Nat.le_refl _)] at h3
  have hT2 := (HS.out n).2
  rw [List.take_of_length_le (show ls.length ≤ n by rw [H.1]; exact Nat.le_refl _)] at hT2
  rw [sumF_take thickL hk] at hT
  have h00 := (HS.out k).1
  obtain ⟨T, hTT⟩ : ∃ T, T = sumF thickL ls := ⟨_, rfl⟩
  rw [← hTT] at hT hT2
  have HTT := Lib.hid hTT
  have HX := Lib.hid hk
  obtain ⟨Sk, hSk⟩ : ∃ Sk, Sk = sumF thickL (ls.take k) := ⟨_, rfl⟩
  rw [← hSk] at h1 h2 hT h00
  have HSK := Lib.hid hSk
  obtain ⟨tx, htx⟩ : ∃ tx, tx = thickL x := ⟨_, rfl⟩
  rw [← htx] at h2 hT
  have HTX := Lib.hid htx
  clear hTT hk hSk htx
  have HI := Lib.hid (show inB h 0 (T - 1) = true from inB_iff.2 (by omega))
  go_enter Tryz.func29, Tryz.ntmps29
  go_wp2_with fail
  refine (ValidProfile_t A n _ ls _ H).mono ?_
  rintro e w1 ⟨rfl, hb1⟩
  have HH1 := Lib.hid (And.intro hb1 (H.below hb1))
  clear hb1 H
  go_wp2_with fail
  refine (heightOf_t A n _ ls _ HH1.out.2).mono ?_
  rintro e w2 ⟨rfl, hb2⟩
  rw [← HTT.out]
  have HH := Lib.hid (And.intro (HH1.out.1.trans (hb2.mono HH1.out.1.size)) (HH1.out.2.below hb2))
  clear hb2 HH1
  go_wp2_with fail
  refine (within_t h 0 (T - 1) _ (by omega) (by omega)).mono ?_
  rintro e w3 ⟨rfl, rfl⟩
  go_wp2_with fail
  go_loopw [1, 6] (fun hv jv wr => ∃ j : Nat, j ≤ k ∧ jv = .int .i64 j ∧ hv = .int .i64 (h - sumF thickL (ls.take j)) ∧ Hid (Below w.heap.size w wr ∧ Lys wr A n ls)) (fun _ jv _ => k - (intOf jv).toNat)
  case atStart => exact ⟨0, Nat.zero_le _, rfl, by simp [sumF], HH.out⟩
  case round =>
    clear HH
    obtain ⟨j, hj, rfl, rfl, HH⟩ := hrel
    have hsj := HS.out j
    have hmj := HMO.out j hj
    obtain ⟨S, hS⟩ : ∃ S, S = sumF thickL (ls.take j) := ⟨_, rfl⟩
    rw [← hS] at hsj hmj ⊢
    rw [← HSK.out] at hmj
    have HSj := Lib.hid hS
    clear hS
    obtain ⟨b, off, f, i, v, d, g, hh, a, rfl, HX2, hc, hb⟩ := HH.out.2.at_ (show j < n by omega)
    have HB := Lib.hid hb
    have htb := thick_bd hb.2.1 hb.2.2.2.1
    have hji : (j : Int) < (n : Int) := by omega
    obtain ⟨c0, c1, c2, c3, c4, c5, c6⟩ := hc
    by_cases hjk : j < k
    · have hge : divN i d ≤ h - S := by
        have h3 := HMO.out (j + 1) (by omega)
        rw [sumF_take thickL HX2.out, ← HSj.out, ← HSK.out] at h3
        have e : thickL ⟨f, i, v, d, g, hh, a⟩ = divN i d := rfl
        omega
      have HSN := Lib.hid (show sumF thickL (ls.take (j + 1)) = S + divN i d by rw [sumF_take thickL HX2.out, ← HSj.out]; rfl)
      obtain ⟨q, hq⟩ : ∃ q, q = divN i d := ⟨_, rfl⟩
      rw [← hq] at hge htb HSN
      have HQ := Lib.hid hq
      clear hb hq
      go_wp2_with fail
      refine (thickness_t _ _ _ _ _ _ _ _ HB.out).mono ?_
      rintro e wa ⟨rfl, hba⟩
      rw [← HQ.out]
      replace c0 := cell_kept hba c0
      replace c1 := cell_kept hba c1
      replace c2 := cell_kept hba c2
      replace c3 := cell_kept hba c3
      replace c4 := cell_kept hba c4
      replace c5 := cell_kept hba c5
      replace c6 := cell_kept hba c6
      have HHa := Lib.hid (And.intro (HH.out.1.trans (hba.mono HH.out.1.size)) (HH.out.2.below hba))
      clear hba HH
      go_wp2_with fail
      refine (thickness_t _ _ _ _ _ _ _ _ HB.out).mono ?_
      rintro e wb ⟨rfl, hbb⟩
      rw [← HQ.out]
      have HHb := Lib.hid (And.intro (HHa.out.1.trans (hbb.mono HHa.out.1.size)) (HHa.out.2.below hbb))
      clear hbb HHa
      go_wp2_with fail
      go_roundw
      case rel => exact ⟨j + 1, by omega, by go_num, by rw [HSN.out]; congr 1; omega, HHb.out⟩
      case measure => simp [intOf]; omega
    · obtain rfl : j = k := by omega
      have hlt : h - S < divN i d := by
        have e := HX2.out.symm.trans HX.out
        simp only [Option.some.injEq] at e
        have e2 : thickL ⟨f, i, v, d, g, hh, a⟩ = divN i d := rfl
        rw [e, ← HTX.out] at e2
        have e3 : S = Sk := by rw [HSj.out, HSK.out]
        omega
      obtain ⟨q, hq⟩ : ∃ q, q = divN i d := ⟨_, rfl⟩
      rw [← hq] at hlt htb
      have HQ := Lib.hid hq
      clear hb hq hjk
      go_wp2_with fail
      refine (thickness_t _ _ _ _ _ _ _ _ HB.out).mono ?_
      rintro e wa ⟨rfl, hba⟩
      rw [← HQ.out]
      have HHa := Lib.hid (HH.out.1.trans (hba.mono HH.out.1.size))
      clear hba HH
      go_wp2_with fail
      go_ret2
      exact ⟨rfl, HHa.out⟩
end Go.Proofs.YtknppcgoooaaaaaGreatDoor
