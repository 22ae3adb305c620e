/-
  Fixed-point texts: the program's.
-/
import Derived.Test.YthkpffmcafdmeaaDoorFixN
import Derived.Test.YthkpffmcafdmeaaDoorRdI
import Derived.Test.YthkpffmcafdmeaaDoorBasI
namespace Go.Proofs.YthkpffmcafdmeaaDoor
open Go.ChangeShapes Go.WideShapes Go.ChangeAt Go.RowKit Go.Deep
set_option linter.unusedVariables false

theorem FixedText_no (n p : Int) (w : World) (h : ¬ ((-1000000000 ≤ n ∧ n ≤ 1000000000) ∧ (1 ≤ p ∧ p ≤ 6))) :
    Calls Tryd.prog 45 #[.int .i64 n, .int .i64 p] w fun e w' => e = .returned (.string { data := #[] }) ∧ w = w' := by
  cases i1 : inB n (-1000000000) 1000000000
  · go_enter Tryd.func45, Tryd.ntmps45
    go_wp2_with fail
    refine (within_any _ _ _ _).mono ?_
    rintro e w1 ⟨rfl, rfl⟩
    rw [i1]
    go_wp2_with fail
    go_ret
    exact ⟨rfl, rfl⟩
  · have i2 : inB p 1 6 = false := by
      cases h2 : inB p 1 6
      · rfl
      · exact absurd ⟨inB_iff.1 i1, inB_iff.1 h2⟩ h
    go_enter Tryd.func45, Tryd.ntmps45
    go_wp2_with fail
    refine (within_any _ _ _ _).mono ?_
    rintro e w1 ⟨rfl, rfl⟩
    rw [i1]
    go_wp2_with fail
    refine (within_any _ _ _ _).mono ?_
    rintro e w1 ⟨rfl, rfl⟩
    rw [i2]
    go_wp2_with fail
    go_ret
    exact ⟨rfl, rfl⟩
set_option maxRecDepth 100000 in
set_option maxHeartbeats 3200000 in
theorem FixedText_yes (n : Int) (p : Nat) (w : World) (hT : Tab w) (hn : -1000000000 ≤ n ∧ n ≤ 1000000000) (hp : 1 ≤ p ∧ p ≤ 6) :
    Calls Tryd.prog 45 #[.int .i64 n, .int .i64 (p : Int)] w fun e w' => e = .returned (.string ⟨(fxT n p).toArray⟩) ∧ Below w.heap.size w w' := by
  have i1 := inB_iff.2 hn
  have i2 : inB (p : Int) 1 6 = true := inB_iff.2 (by omega)
  obtain ⟨a, ha⟩ : ∃ a, a = n.natAbs := ⟨_, rfl⟩
  have habs : absI n = (a : Int) := by rw [ha]; unfold absI; split <;> omega
  have ha2 : a ≤ 1000000000 := by omega
  have hD : (decB (a : Int)).data.toList = Lib.decDigits a := by show (Lib.itoa (a : Int)) = _; exact Lib.itoa_nonneg a
  have hds := decB_size (a : Int) (by omega) (by omega)
  have HD := Lib.hid hD
  have HA := Lib.hid (And.intro ha habs)
  have hL : (decB (a : Int)).size = (Lib.decDigits a).length := by rw [Lib.size_eq, hD]
  obtain ⟨L, hLL⟩ : ∃ L, L = (Lib.decDigits a).length := ⟨_, rfl⟩
  rw [← hLL] at hL
  have hL21 : L ≤ 21 := by omega
  have HL := Lib.hid (And.intro hL hLL)
  clear ha habs hD hL hLL hds
  go_enter Tryd.func45, Tryd.ntmps45
  go_wp2_with fail
  refine (within_any _ _ _ _).mono ?_
  rintro e w1 ⟨rfl, rfl⟩
  rw [i1]
  go_wp2_with fail
  refine (within_any _ _ _ _).mono ?_
  rintro e w1 ⟨rfl, rfl⟩
  rw [i2]
  go_wp2_with fail
  refine (abs_any _ _ (by omega) (by omega)).mono ?_
  rintro e w1 ⟨rfl, rfl⟩
  rw [HA.out.2]
  go_wp2_with fail
  refine (Decimal_i _ _ hT (by omega) (by omega)).mono ?_
  rintro e w1 ⟨rfl, hb1⟩
  have HB := Lib.hid hb1
  clear hb1 i1 i2
  obtain ⟨D0, hD0⟩ : ∃ D0, D0 = decB (a : Int) := ⟨_, rfl⟩
  rw [← hD0] at HD HL ⊢
  clear hD0
  go_wp2_with fail
  go_loopw [5] (fun dv wr => ∃ (k : Nat) (D : ByteArray), dv = .string D ∧ D.size = k + L ∧ k ≤ p + 1 - L ∧ Hid (D.data.toList = List.replicate k 48 ++ Lib.decDigits a) ∧ wr = w1) (fun dv _ => match dv with | .string D => 40 - D.size | _ => 0)
  case atStart => exact ⟨0, D0, rfl, by have := HL.out.1; omega, Nat.zero_le _, by rw [HD.out]; rfl, rfl⟩
  case round =>
    obtain ⟨k, D, rfl, hDs, hk, HDD, rfl⟩ := hrel
    by_cases hlt : D.size ≤ p
    · have hli : (D.size : Int) ≤ (p : Int) := by omega
      have hz : (9223372036854775807 < ({ data := #[48] } : ByteArray).size + D.size) = False := eq_false (by show ¬ 9223372036854775807 < 1 + D.size; omega)
      have hz2 : (9223372036854775807 < 1 + D.size) = False := eq_false (by omega)
      have HS := Lib.hid (show ({ data := #[48] } ++ D : ByteArray).size = k + 1 + L ∧ ({ data := #[48] } ++ D : ByteArray).data.toList = List.replicate (k + 1) 48 ++ Lib.decDigits a from ⟨by rw [ByteArray.size_append]; show 1 + D.size = _; omega, by
        rw [ByteArray.data_append, Array.toList_append, HDD.out, List.replicate_succ]; rfl⟩)
      go_wp2_with fail
      go_roundw
      case rel => exact ⟨k + 1, _, rfl, HS.out.1, by omega, HS.out.2, by first | rfl | trivial⟩
      case measure => have := HS.out.1; simp only []; omega
    · have hli : ¬ (D.size : Int) ≤ (p : Int) := by omega
      have hkk : k = p + 1 - L := by omega
      have HF := Lib.hid (show D.data.toList = fxD a p by rw [HDD.out, fxD, ← HL.out.2, hkk])
      have hD40 : D.size ≤ 40 := by omega
      have hfl := fxD_len a p
      obtain ⟨t, ht⟩ : ∃ t : Nat, (D.size : Int) - (p : Int) = (t : Int) := ⟨D.size - p, by omega⟩
      have htl : t + p = D.size := by omega
      have HTB := Lib.hid (show (D.extract 0 t).data.toList = (fxD a p).take ((fxD a p).length - p) ∧ (D.extract t D.size).data.toList = (fxD a p).drop ((fxD a p).length - p) from by
        have hl : (fxD a p).length = D.size := by rw [← HF.out, Lib.size_eq]
        rw [Lib.extract_data, Lib.extract_data, HF.out, hl, show D.size - p = t by omega]
        exact ⟨by simp, List.take_of_length_le (by rw [List.length_drop, hl]; omega)⟩)
      have hti : (t : Int) ≤ (D.size : Int) := by omega
      have hs1 : (D.extract 0 t).size ≤ 40 := by rw [ByteArray.size_extract]; omega
      have hs2 : (D.extract t D.size).size ≤ 40 := by rw [ByteArray.size_extract]; omega
      have HTT := Lib.hid ht
      clear hlt hDs hkk hfl HDD
      have hq1 : (9223372036854775807 < (D.extract 0 t).size + 1) = False := eq_false (by omega)
      have hq2 : (9223372036854775807 < (D.extract 0 t).size + ({ data := #[46] } : ByteArray).size) = False := hq1
      have hq3 : (9223372036854775807 < (D.extract 0 t).size + 1 + (D.extract t D.size).size) = False := eq_false (by omega)
      have hq4 : (9223372036854775807 < (D.extract 0 t ++ { data := #[46] }).size + (D.extract t D.size).size) = False := by rw [ByteArray.size_append]; exact hq3
      have HV := Lib.hid (show D.extract 0 t ++ { data := #[46] } ++ D.extract t D.size = ⟨(fxB a p).toArray⟩ from by
        refine ByteArray.ext (Array.ext' ?_)
        rw [ByteArray.data_append, ByteArray.data_append, Array.toList_append, Array.toList_append, HTB.out.1, HTB.out.2]
        show _ = fxB a p
        rw [fxB]; simp)
      have hvs : (D.extract 0 t ++ { data := #[46] } ++ D.extract t D.size).size ≤ 100 := by
        rw [ByteArray.size_append, ByteArray.size_append]
        show (D.extract 0 t).size + 1 + (D.extract t D.size).size ≤ 100
        omega
      clear HTB HF
      go_wp2_with fail
      go_quiet (fail)
      rw [HV.out] at hvs ⊢
      obtain ⟨U, hU⟩ : ∃ U : ByteArray, U = ⟨(fxB a p).toArray⟩ := ⟨_, rfl⟩
      rw [← hU] at hvs ⊢
      have HU := Lib.hid hU
      clear hq1 hq2 hq3 hq4 hs1 hs2 hU
      have HB2 := Lib.hid (below_drewN HB.out nq)
      by_cases hneg : n < 0
      · have hz : (9223372036854775807 < ({ data := #[45] } : ByteArray).size + U.size) = False := eq_false (by show ¬ 9223372036854775807 < 1 + U.size; omega)
        have hz2 : (9223372036854775807 < 1 + U.size) = False := eq_false (by omega)
        have HR := Lib.hid (show ({ data := #[45] } : ByteArray) ++ U = ⟨(fxT n p).toArray⟩ from by
          rw [HU.out]
          refine ByteArray.ext (Array.ext' ?_)
          rw [ByteArray.data_append, Array.toList_append]
          show [45] ++ fxB a p = fxT n p
          rw [fxT, if_pos hneg, ← HA.out.1]; rfl)
        go_wp2_with fail
        go_ret
        exact ⟨ret_str (by rw [← HR.out]), HB2.out⟩
      · have HR := Lib.hid (show U = ⟨(fxT n p).toArray⟩ from by rw [HU.out, fxT, if_neg hneg, ← HA.out.1])
        go_wp2_with fail
        go_ret
        exact ⟨ret_str (by rw [← HR.out]), HB2.out⟩
end Go.Proofs.YthkpffmcafdmeaaDoor
