/-
  Units: the contracts of what the law calls, numbers alone.
-/
import Derived.Test.YthkpffmcafdmeaaDoorUniN
import Derived.Test.YthkpffmcafdmeaaDoorUniD
import Derived.Test.YthkpffmcafdmeaaDoorDateT
import Derived.Test.YthkpffmcafdmeaaDoorTxtB
namespace Go.Proofs.YthkpffmcafdmeaaDoor
open Go.ChangeShapes Go.WideShapes Go.ChangeAt Go.RowKit Go.Deep
set_option linter.unusedVariables false

theorem SnowMass_ok (h d : Int) (w : World) (h0 : 0 ≤ h ∧ h ≤ 2000) (h1 : 1 ≤ d ∧ d ≤ 1000) :
    Calls Tryd.prog 48 #[.int .i64 h, .int .i64 d] w fun e w' => e = .returned (.tuple #[.int .i64 (10 * h * d), .int .i64 0]) ∧ w = w' := by
  have i1 := inB_iff.2 h0
  have i2 := inB_iff.2 h1
  have hb := mass_bd h0.1 h0.2 h1.1 h1.2
  go_enter Tryd.func48, Tryd.ntmps48
  go_wp2_with fail
  refine (within_any _ _ _ _).mono ?_
  rintro e w1 ⟨rfl, rfl⟩
  rw [i1]
  go_wp2_with fail
  refine (within_any _ _ _ _).mono ?_
  rintro e w1 ⟨rfl, rfl⟩
  rw [i2]
  go_wp2_with fail
  go_ret2
  exact ⟨rfl, rfl⟩
theorem SnowMass_no (h d : Int) (w : World) (hh : -9223372036854775808 ≤ h ∧ h ≤ 9223372036854775807) (hd : -9223372036854775808 ≤ d ∧ d ≤ 9223372036854775807) (hn : ¬ ((0 ≤ h ∧ h ≤ 2000) ∧ (1 ≤ d ∧ d ≤ 1000))) :
    Calls Tryd.prog 48 #[.int .i64 h, .int .i64 d] w fun e w' => e = .returned (.tuple #[.int .i64 0, .int .i64 2]) ∧ w = w' := by
  cases i1 : inB h 0 2000
  · go_enter Tryd.func48, Tryd.ntmps48
    go_wp2_with fail
    refine (within_any _ _ _ _).mono ?_
    rintro e w1 ⟨rfl, rfl⟩
    rw [i1]
    go_wp2_with fail
    go_ret2
    exact ⟨rfl, rfl⟩
  · have i2 : inB d 1 1000 = false := by
      cases h2 : inB d 1 1000
      · rfl
      · exact absurd ⟨inB_iff.1 i1, inB_iff.1 h2⟩ hn
    go_enter Tryd.func48, Tryd.ntmps48
    go_wp2_with fail
    refine (within_any _ _ _ _).mono ?_
    rintro e w1 ⟨rfl, rfl⟩
    rw [i1]
    go_wp2_with fail
    refine (within_any _ _ _ _).mono ?_
    rintro e w1 ⟨rfl, rfl⟩
    rw [i2]
    go_wp2_with fail
    go_ret2
    exact ⟨rfl, rfl⟩
theorem SnowHeight_ok (m d : Int) (w : World) (h0 : 0 ≤ m ∧ m ≤ 1000000000) (h1 : 1 ≤ d ∧ d ≤ 1000) :
    Calls Tryd.prog 49 #[.int .i64 m, .int .i64 d] w fun e w' => e = .returned (.tuple #[.int .i64 (divN m (10 * d)), .int .i64 0]) ∧ Below w.heap.size w w' := by
  have i1 := inB_iff.2 h0
  have i2 := inB_iff.2 h1
  go_enter Tryd.func49, Tryd.ntmps49
  go_wp2_with fail
  refine (within_any _ _ _ _).mono ?_
  rintro e w1 ⟨rfl, rfl⟩
  rw [i1]
  go_wp2_with fail
  refine (within_any _ _ _ _).mono ?_
  rintro e w1 ⟨rfl, rfl⟩
  rw [i2]
  go_wp2_with fail
  refine (divRound_any _ _ _ (by omega) (by omega) (by omega) (by omega)).mono ?_
  rintro e w1 ⟨rfl, q, rfl⟩
  go_wp2_with fail
  go_ret2
  exact ⟨rfl, below_drewN (Below.refl _ _) q⟩
theorem ShareOf_ok (x : Int) (w : World) (h0 : 0 ≤ x ∧ x ≤ 100000) :
    Calls Tryd.prog 52 #[.int .i64 x] w fun e w' => e = .returned (.tuple #[.int .i64 (shareN x), .int .i64 0]) ∧ Below w.heap.size w w' := by
  have i1 := inB_iff.2 h0
  go_enter Tryd.func52, Tryd.ntmps52
  go_wp2_with fail
  refine (within_any _ _ _ _).mono ?_
  rintro e w1 ⟨rfl, rfl⟩
  rw [i1]
  go_wp2_with fail
  refine (blend_any _ _ _ _ _ _ (by omega) (by omega) (by omega) (by omega)).mono ?_
  rintro e w1 ⟨rfl, q, rfl⟩
  go_wp2_with fail
  go_ret2
  exact ⟨rfl, below_drewN (Below.refl _ _) q⟩
theorem ShareOf_no (x : Int) (w : World) (h0 : ¬ (0 ≤ x ∧ x ≤ 100000)) :
    Calls Tryd.prog 52 #[.int .i64 x] w fun e w' => e = .returned (.tuple #[.int .i64 0, .int .i64 2]) ∧ w = w' := by
  have i1 : inB x 0 100000 = false := by
    cases h2 : inB x 0 100000
    · rfl
    · exact absurd (inB_iff.1 h2) h0
  go_enter Tryd.func52, Tryd.ntmps52
  go_wp2_with fail
  refine (within_any _ _ _ _).mono ?_
  rintro e w1 ⟨rfl, rfl⟩
  rw [i1]
  go_wp2_with fail
  go_ret2
  exact ⟨rfl, rfl⟩
abbrev bfV : Value := .agg #[.int .i64 30, .int .i64 160, .int .i64 340, .int .i64 550, .int .i64 800, .int .i64 1080, .int .i64 1390, .int .i64 1720, .int .i64 2080, .int .i64 2450, .int .i64 2850, .int .i64 3270]
set_option maxRecDepth 100000 in
theorem bf_ix {m : Nat} (h : m < 12) (W : World) : (Instr.index 106 bfV (.int .i64 (m : Int))).run Tryd.prog W = .ok (.int .i64 (bfAt m)) W := by
  have h13 : m = 0 ∨ m = 1 ∨ m = 2 ∨ m = 3 ∨ m = 4 ∨ m = 5 ∨ m = 6 ∨ m = 7 ∨ m = 8 ∨ m = 9 ∨ m = 10 ∨ m = 11 := by omega
  rcases h13 with rfl | rfl | rfl | rfl | rfl | rfl | rfl | rfl | rfl | rfl | rfl | rfl <;> rfl
theorem bfAt_bd (m : Nat) : 0 ≤ bfAt m ∧ bfAt m ≤ 3270 := by
  rcases Nat.lt_or_ge m 12 with h | h
  · have : ∀ m, m < 12 → 0 ≤ bfAt m ∧ bfAt m ≤ 3270 := by decide
    exact this m h
  · unfold bfAt
    rw [List.getD_eq_getElem?_getD, List.getElem?_eq_none (by simpa using h)]
    decide
set_option maxRecDepth 100000 in
set_option maxHeartbeats 1600000 in
theorem BeaufortOf_ok (x : Int) (w : World) (h0 : 0 ≤ x ∧ x ≤ 100000) :
    Calls Tryd.prog 51 #[.int .i64 x] w fun e w' => e = .returned (.tuple #[.int .i64 (bfC x 12), .int .i64 0]) ∧ w = w' := by
  have i1 := inB_iff.2 h0
  go_enter Tryd.func51, Tryd.ntmps51
  go_wp2_with fail
  refine (within_any _ _ _ _).mono ?_
  rintro e w1 ⟨rfl, rfl⟩
  rw [i1]
  go_wp2_with fail
  go_loopw [4, 6, 11] (fun fv _ iv wr => ∃ k : Nat, k ≤ 12 ∧ iv = .int .i64 k ∧ fv = .int .i64 (bfC x k) ∧ wr = w) (fun _ _ iv _ => 12 - (intOf iv).toNat)
  case atStart => exact ⟨0, by omega, rfl, rfl, rfl⟩
  case round =>
    obtain ⟨k, hk, rfl, rfl, rfl⟩ := hrel
    have hle := bf_le x k
    by_cases hlt : k < 12
    · have ix := fun W => bf_ix hlt W
      have hki : (k : Int) < 12 := by omega
      obtain ⟨t, ht⟩ : ∃ t, t = bfAt k := ⟨_, rfl⟩
      have htb := bfAt_bd k
      rw [← ht] at ix htb
      have HT := Lib.hid ht
      obtain ⟨f, hf⟩ : ∃ f, f = bfC x k := ⟨_, rfl⟩
      rw [← hf] at hle ⊢
      have HF := Lib.hid hf
      clear ht hf
      by_cases hc : t ≤ x
      · have HS := Lib.hid (show bfC x (k + 1) = f + 1 by rw [bfC, ← HF.out, ← HT.out, if_pos hc])
        go_wp2_with fail
        go_roundw
        case rel => exact ⟨k + 1, by omega, by go_num, by rw [HS.out]; go_num, by first | rfl | trivial⟩
        case measure => simp [intOf]; omega
      · have HS := Lib.hid (show bfC x (k + 1) = f by rw [bfC, ← HF.out, ← HT.out, if_neg hc]; rfl)
        go_wp2_with fail
        go_roundw
        case rel => exact ⟨k + 1, by omega, by go_num, by rw [HS.out], by first | rfl | trivial⟩
        case measure => simp [intOf]; omega
    · obtain rfl : k = 12 := by omega
      go_wp2_with fail
      go_ret2
      exact ⟨rfl, rfl⟩
theorem BeaufortOf_no (x : Int) (w : World) (h0 : ¬ (0 ≤ x ∧ x ≤ 100000)) :
    Calls Tryd.prog 51 #[.int .i64 x] w fun e w' => e = .returned (.tuple #[.int .i64 0, .int .i64 2]) ∧ w = w' := by
  have i1 : inB x 0 100000 = false := by
    cases h2 : inB x 0 100000
    · rfl
    · exact absurd (inB_iff.1 h2) h0
  go_enter Tryd.func51, Tryd.ntmps51
  go_wp2_with fail
  refine (within_any _ _ _ _).mono ?_
  rintro e w1 ⟨rfl, rfl⟩
  rw [i1]
  go_wp2_with fail
  go_ret2
  exact ⟨rfl, rfl⟩
def ckT (m : Nat) : List UInt8 := twoL (m / 60) ++ 58 :: twoL (m % 60)
theorem ck_app (m : Nat) : (⟨(twoL (m / 60)).toArray⟩ : ByteArray) ++ { data := #[58] } ++ ⟨(twoL (m % 60)).toArray⟩ = ⟨(ckT m).toArray⟩ := by
  rw [bA_lit, bA_app, bA_app, ckT]; simp
theorem ClockText_no (m : Int) (w : World) (h : ¬ (0 ≤ m ∧ m ≤ 1439)) :
    Calls Tryd.prog 42 #[.int .i64 m] w fun e w' => e = .returned (.string { data := #[] }) ∧ w = w' := by
  have i1 : inB m 0 1439 = false := by
    cases h2 : inB m 0 1439
    · rfl
    · exact absurd (inB_iff.1 h2) h
  go_enter Tryd.func42, Tryd.ntmps42
  go_wp2_with fail
  refine (within_any _ _ _ _).mono ?_
  rintro e w1 ⟨rfl, rfl⟩
  rw [i1]
  go_wp2_with fail
  go_ret
  exact ⟨rfl, rfl⟩
set_option maxRecDepth 100000 in
set_option maxHeartbeats 1600000 in
theorem ClockText_yes (m : Nat) (w : World) (h : m ≤ 1439) :
    Calls Tryd.prog 42 #[.int .i64 m] w fun e w' => e = .returned (.string ⟨(ckT m).toArray⟩) ∧ Below w.heap.size w w' := by
  have i1 : inB (m : Int) 0 1439 = true := inB_iff.2 (by omega)
  have D1 := Lib.hid (show (m : Int) / 60 = ((m / 60 : Nat) : Int) by omega)
  have D2 := Lib.hid (show (m : Int) % 60 = ((m % 60 : Nat) : Int) by omega)
  have hz1 : (⟨(twoL (m / 60)).toArray⟩ : ByteArray).size = 2 := rfl
  have hz2 : (⟨(twoL (m % 60)).toArray⟩ : ByteArray).size = 2 := rfl
  obtain ⟨T1, hT1⟩ : ∃ T1 : ByteArray, T1 = ⟨(twoL (m / 60)).toArray⟩ := ⟨_, rfl⟩
  obtain ⟨T2, hT2⟩ : ∃ T2 : ByteArray, T2 = ⟨(twoL (m % 60)).toArray⟩ := ⟨_, rfl⟩
  rw [← hT1] at hz1
  rw [← hT2] at hz2
  have HT := Lib.hid (And.intro hT1 hT2)
  clear hT1 hT2
  go_enter Tryd.func42, Tryd.ntmps42
  go_wp2_with fail
  refine (within_any _ _ _ _).mono ?_
  rintro e w1 ⟨rfl, rfl⟩
  rw [i1]
  go_wp2_with fail
  try rw [D1.out]
  refine (twoDigits_i (m / 60) _ (by omega)).mono ?_
  rintro e w1 ⟨rfl, hb1⟩
  rw [← HT.out.1]
  go_wp2_with fail
  try rw [D2.out]
  refine (twoDigits_i (m % 60) _ (by omega)).mono ?_
  rintro e w2 ⟨rfl, hb2⟩
  rw [← HT.out.2]
  have HB := Lib.hid (hb1.trans (hb2.mono hb1.size))
  clear hb1 hb2
  go_wp2_with fail
  go_ret
  exact ⟨ret_str (by rw [← ck_app, ← HT.out.1, ← HT.out.2]), HB.out⟩
theorem ReadClock_nil (w : World) :
    Calls Tryd.prog 43 #[.string { data := #[] }] w fun e w' => e = .returned (.tuple #[.int .i64 0, .bool false]) ∧ w = w' := by
  go_enter Tryd.func43, Tryd.ntmps43
  go_wp2_with fail
  go_ret2
  exact ⟨rfl, rfl⟩
set_option maxRecDepth 100000 in
set_option maxHeartbeats 3200000 in
theorem ReadClock_yes (m : Nat) (s : ByteArray) (w : World) (h : m ≤ 1439) (hs : s = ⟨(ckT m).toArray⟩) :
    Calls Tryd.prog 43 #[.string s] w fun e w' => e = .returned (.tuple #[.int .i64 m, .bool true]) ∧ Below w.heap.size w w' := by
  have hsl : s.data.toList = ckT m := by rw [hs]
  have hsz : s.size = 5 := by rw [Lib.size_eq, hsl]; rfl
  have e1 : (s.extract 0 2).data.toList = twoL (m / 60) := by rw [Lib.extract_data, hsl]; rfl
  have e2 : (s.extract 3 5).data.toList = twoL (m % 60) := by rw [Lib.extract_data, hsl]; rfl
  have HA := fun (W : World) => Lib.hid ((digitsOf_i (s.extract 0 2) W (by rw [Lib.size_eq, e1]; simp [twoL]) (by rw [e1]; exact two_dig (by omega))).mono (fun e w' (h : _ ∧ _) => (show e = .returned (.int .i64 ((m / 60 : Nat) : Int)) ∧ W = w' from ⟨by rw [h.1, e1, two_val (by omega)], h.2⟩)))
  have HB := fun (W : World) => Lib.hid ((digitsOf_i (s.extract 3 5) W (by rw [Lib.size_eq, e2]; simp [twoL]) (by rw [e2]; exact two_dig (by omega))).mono (fun e w' (h : _ ∧ _) => (show e = .returned (.int .i64 ((m % 60 : Nat) : Int)) ∧ W = w' from ⟨by rw [h.1, e2, two_val (by omega)], h.2⟩)))
  have HC := fun (W : World) => Lib.hid ((ClockText_yes m W h).mono (fun e w' (h : _ ∧ _) => (show e = .returned (.string s) ∧ Below W.heap.size W w' from ⟨by rw [h.1, hs], h.2⟩)))
  obtain ⟨q, hq⟩ : ∃ q, q = m / 60 := ⟨_, rfl⟩
  obtain ⟨r, hr⟩ : ∃ r, r = m % 60 := ⟨_, rfl⟩
  rw [← hq] at HA
  rw [← hr] at HB
  have hqr : 60 * (q : Int) + r = m := by omega
  have hqb : q ≤ 23 ∧ r ≤ 59 := by omega
  clear e1 e2 hsl hs hq hr
  go_enter Tryd.func43, Tryd.ntmps43
  go_wp2_with fail
  go_quiet ((go_at_call 95; first | (with_reducible exact quiet_left (HA _).out) | (with_reducible exact quiet_left (HB _).out)))
  have HB2 := Lib.hid (below_drewN (Below.refl w.heap.size w) nq)
  go_wp2_with fail
  try rw [hqr]
  refine ((HC _).out).mono ?_
  rintro e w2 ⟨rfl, hb2⟩
  have HB3 := Lib.hid (HB2.out.trans (hb2.mono HB2.out.size))
  clear hb2
  go_wp2_with fail
  go_ret2
  exact ⟨by first | rfl | rw [hqr], HB3.out⟩
end Go.Proofs.YthkpffmcafdmeaaDoor
