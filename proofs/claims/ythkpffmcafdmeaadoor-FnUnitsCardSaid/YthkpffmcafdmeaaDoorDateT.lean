/-
  Dates as texts and back; the draws of days.
-/
import Derived.Test.YthkpffmcafdmeaaDoorDateW
import Derived.Test.YthkpffmcafdmeaaDoorDecI
import Derived.Test.YthkpffmcafdmeaaDoorSrcP
import Derived.Deep.QuietTactic
import Derived.BigQuiet
namespace Go.Proofs.YthkpffmcafdmeaaDoor
open Go.ChangeShapes Go.WideShapes Go.ChangeAt Go.RowKit Go.Deep
set_option linter.unusedVariables false

set_option maxRecDepth 100000 in
set_option maxHeartbeats 3200000 in
theorem DayNumber_yes (Y dt q : Int) (m j : Nat) (w : World) (hq0 : 0 ≤ q) (hq1 : q ≤ 24) (hj : j ≤ 3) (hY : Y = 2000 + 4 * q + j) (hm1 : 1 ≤ m) (hm2 : m ≤ 12) (hd1 : 1 ≤ dt) (hd2 : dt ≤ dI Y m) :
    Calls Tryd.prog 56 #[.int .i64 Y, .int .i64 m, .int .i64 dt] w fun e w' => e = .returned (.tuple #[.int .i64 (1461 * q + yoF j + moF Y m + (dt - 1)), .int .i64 0]) ∧ w = w' := by
  have hY1 : 2000 ≤ Y := by omega
  have hY2 : Y ≤ 2099 := by omega
  have hq : (Y - 2000) / 4 = q := by omega
  have hY4 : Y / 4 = 500 + q := by omega
  have hb1 := inB_iff.2 (And.intro hY1 hY2)
  have hb2 : inB (m : Int) 1 12 = true := inB_iff.2 ⟨by omega, by omega⟩
  have hml := mon_le (y := Y) hm1
  have hdt : dt ≤ 31 := by omega
  have hb3 : inB dt 1 (dI Y m) = true := inB_iff.2 ⟨hd1, hd2⟩
  have HB := Lib.hid (And.intro hb1 (And.intro hb2 hb3))
  have HQ := Lib.hid (And.intro hq hY4)
  have HY := Lib.hid hY
  have hm3 : (m : Int) ≤ 12 := by omega
  clear hb1 hb2 hb3 hq hY4 hml hY hd2
  go_enter Tryd.func56, Tryd.ntmps56
  go_wp2_with (first | (go_at_call 85; first | (with_reducible refine (within_b Y 2000 2099 true _ HB.out.1).mono ?_; rintro e w' ⟨rfl, rfl⟩) | (with_reducible refine (within_b (m : Int) 1 12 true _ HB.out.2.1).mono ?_; rintro e w' ⟨rfl, rfl⟩) | (with_reducible refine (within_b dt 1 _ true _ HB.out.2.2).mono ?_; rintro e w' ⟨rfl, rfl⟩)) | (go_at_call 106; refine (daysIn_any _ _ m _ (by omega) (by omega) (by rfl) (by omega)).mono ?_; rintro e w' ⟨rfl, rfl⟩))
  go_loop [8, 9] (fun dv yv => ∃ i : Nat, i ≤ j ∧ dv = .int .i64 (1461 * q + yoF i + (dt - 1)) ∧ yv = .int .i64 (2000 + 4 * q + (i : Int))) (fun _ yv => (2200 - intOf yv).toNat)
  case atStart => exact ⟨0, Nat.zero_le _, by obtain ⟨h1, h2⟩ := HQ.out; congr 1; simp only [yoF]; omega, by obtain ⟨h1, h2⟩ := HQ.out; congr 1; omega⟩
  case round =>
    obtain ⟨i, hi, rfl, rfl⟩ := hrel
    have hst := yo_step (y := 2000 + 4 * q) (by omega) (show i ≤ 3 by omega)
    have hyl := year_len (2000 + 4 * q + (i : Int))
    have hyo : 0 ≤ yoF i ∧ yoF i ≤ 1461 := by
      have : i = 0 ∨ i = 1 ∨ i = 2 ∨ i = 3 := by omega
      rcases this with rfl | rfl | rfl | rfl <;> simp [yoF]
    obtain ⟨D, hD⟩ : ∃ D, D = dI (2000 + 4 * q + (i : Int)) 0 := ⟨_, rfl⟩
    rw [← hD] at hst hyl
    have hD1 : 365 ≤ D := by omega
    have hD2 : D ≤ 366 := by omega
    obtain ⟨u, hu⟩ : ∃ u, u = yoF i := ⟨_, rfl⟩
    rw [← hu] at hst hyo ⊢
    have hu1 := hyo.1
    have hu2 := hyo.2
    have HD := Lib.hid hD
    have HU := Lib.hid hu
    have HS := Lib.hid hst
    clear hst hyl hyo hD hu
    by_cases hlt : i < j
    · have hlt2 : 2000 + 4 * q + (i : Int) < Y := by have := HY.out; omega
      go_wp2_with (go_at_call 106; refine (daysIn_any _ _ 0 _ (by omega) (by omega) (by rfl) (by omega)).mono ?_; rintro e w' ⟨rfl, rfl⟩; rw [← HD.out])
      go_round
      case rel => exact ⟨i + 1, by omega, by have := HS.out; congr 1; omega, by congr 1; omega⟩
      case measure => simp [intOf]; omega
    · obtain rfl : i = j := by omega
      have hge : ¬ 2000 + 4 * q + (i : Int) < Y := by have := HY.out; omega
      go_wp2_with fail
      go_loop [8, 10] (fun dv mv => ∃ k : Nat, 1 ≤ k ∧ k ≤ m ∧ dv = .int .i64 (1461 * q + u + (dt - 1) + moF Y k) ∧ mv = .int .i64 (k : Int)) (fun _ mv => (13 - intOf mv).toNat)
      case atStart => exact ⟨1, Nat.le_refl _, hm1, by rw [mo_one]; simp, rfl⟩
      case round =>
        obtain ⟨k, hk1, hk2, rfl, rfl⟩ := hrel
        have hms := mo_step (y := Y) hk1
        have hml := mon_le (y := Y) hk1
        have hmz := mo_mono (y := Y) (show 1 ≤ k from hk1)
        have hmt := mo_mono (y := Y) (show k ≤ 13 by omega)
        rw [mo_one] at hmz
        rw [mo_all] at hmt
        have hyl := year_len Y
        obtain ⟨V, hV⟩ : ∃ V, V = moF Y k := ⟨_, rfl⟩
        obtain ⟨E, hE⟩ : ∃ E, E = dI Y k := ⟨_, rfl⟩
        rw [← hV, ← hE] at hms
        rw [← hE] at hml
        rw [← hV] at hmz hmt ⊢
        have hE1 := hml.1
        have hE2 := hml.2
        have hV2 : V ≤ 366 := by omega
        have HV := Lib.hid (And.intro hV (And.intro hE hms))
        clear hml hms hV hE hmt hyl
        by_cases hlt2 : k < m
        · have hlt3 : (k : Int) < (m : Int) := by omega
          go_wp2_with (go_at_call 106; refine (daysIn_any _ _ k _ (by omega) (by omega) (by rfl) (by omega)).mono ?_; rintro e w' ⟨rfl, rfl⟩; rw [← HV.out.2.1])
          go_round
          case rel => exact ⟨k + 1, by omega, by omega, by rw [HV.out.2.2]; congr 1; omega, by go_num⟩
          case measure => simp [intOf]; omega
        · obtain rfl : k = m := by omega
          go_wp2_with fail
          go_ret2
          exact ⟨ret_int2 (by rw [← HU.out, ← HV.out.1]; omega) rfl, rfl⟩
theorem l02DrawDay_d (q m : Nat) (w : World) (h : SrcP w q m) (hm : m ≤ 10000000000) :
    Calls Tryd.prog 104 #[.pointer (some ⟨q, 0, none⟩)] w fun e w' => (∃ x : Int, e = .returned (.int .i64 x) ∧ -1 ≤ x ∧ x ≤ 40000) ∧ SrcP w' q (m + 6) ∧ w.grownBy w' (some q) := by
  have HH := Lib.hid h
  clear h
  go_enter Tryd.func104, Tryd.ntmps104
  go_wp2_with fail
  refine (one_p q m 8 _ HH.out (by omega) (by omega)).mono ?_
  rintro e w1 ⟨⟨b, rfl⟩, hs1, hg1⟩
  have H1 := Lib.hid (And.intro hs1 hg1)
  clear hs1 hg1
  cases b
  · go_wp2_with fail
    refine (pick_p q _ 256 _ H1.out.1 (by omega) (by omega)).mono ?_
    rintro e w2 ⟨⟨x, rfl, hx1, hx2⟩, hs2, hg2⟩
    have H2 := Lib.hid (And.intro hs2 (H1.out.2.trans hg2))
    clear hs2 hg2
    have hx3 : x < 256 := by omega
    clear hx2
    go_wp2_with fail
    refine (pick_p q _ 200 _ H2.out.1 (by omega) (by omega)).mono ?_
    rintro e w3 ⟨⟨y, rfl, hy1, hy2⟩, hs3, hg3⟩
    have H3 := Lib.hid (And.intro hs3 (H2.out.2.trans hg3))
    clear hs3 hg3
    have hy3 : y < 200 := by omega
    clear hy2
    go_wp2_with fail
    go_ret
    exact ⟨⟨_, rfl, by omega, by omega⟩, H3.out.1, H3.out.2⟩
  · go_wp2_with fail
    refine (among_lit q _ [-1, 0, 59, 60, 36524, 36525, 366, 365] _ _ _ _ _ H1.out.1 (by omega) rfl rfl (by decide) (by decide) (by decide)).mono ?_
    rintro e w2 ⟨⟨x, hx, rfl⟩, hs2, hg2⟩
    have H2 := Lib.hid (And.intro (show SrcP w2 q (m + 6) from hs2.mono (by omega)) (H1.out.2.trans hg2))
    have hx3 : -1 ≤ x ∧ x ≤ 40000 := by
      simp only [List.mem_cons, List.not_mem_nil, or_false] at hx
      omega
    clear hs2 hg2 hx
    go_wp2_with fail
    go_ret
    exact ⟨⟨_, rfl, hx3.1, hx3.2⟩, H2.out.1, H2.out.2⟩
theorem DrawDateOf_d (A : Option Addr) (n c : Nat) (w : World) (h : Byts w A n) :
    Calls Tryd.prog 53 #[.slice A n c] w fun e w' => (∃ x : Int, e = .returned (.int .i64 x) ∧ -1 ≤ x ∧ x ≤ 40000) ∧ Below w.heap.size w w' := by
  go_enter Tryd.func53, Tryd.ntmps53
  go_wp2_with fail
  refine (from_p A n c _ h).mono ?_
  rintro e w1 ⟨rfl, hs1, hb1⟩
  have H1 := Lib.hid (And.intro hs1 hb1)
  clear hs1 hb1
  go_wp2_with fail
  refine (l02DrawDay_d _ _ _ H1.out.1 (by omega)).mono ?_
  rintro e w2 ⟨⟨x, rfl, hx1, hx2⟩, hs2, hg2⟩
  have H2 := Lib.hid (show Below w.heap.size w w2 from below_grown H1.out.2 hg2 H1.out.2.size (Nat.le_refl _))
  clear hs2 hg2
  go_wp2_with fail
  go_ret
  exact ⟨⟨_, rfl, hx1, hx2⟩, H2.out⟩
theorem DrawHourNumber_d (A : Option Addr) (n c : Nat) (w : World) (h : Byts w A n) :
    Calls Tryd.prog 59 #[.slice A n c] w fun e w' => (∃ x y : Int, e = .returned (.tuple #[.int .i64 x, .int .i64 y]) ∧ (-1 ≤ x ∧ x ≤ 40000) ∧ -1 ≤ y ∧ y ≤ 25) ∧ Below w.heap.size w w' := by
  go_enter Tryd.func59, Tryd.ntmps59
  go_wp2_with fail
  refine (from_p A n c _ h).mono ?_
  rintro e w1 ⟨rfl, hs1, hb1⟩
  have H1 := Lib.hid (And.intro hs1 hb1)
  clear hs1 hb1
  go_wp2_with fail
  refine (l02DrawDay_d _ _ _ H1.out.1 (by omega)).mono ?_
  rintro e w2 ⟨⟨x, rfl, hx1, hx2⟩, hs2, hg2⟩
  have H2 := Lib.hid (And.intro hs2 (show Below w.heap.size w w2 from below_grown H1.out.2 hg2 H1.out.2.size (Nat.le_refl _)))
  clear hs2 hg2
  go_wp2_with fail
  refine (pick_p _ _ 26 _ H2.out.1 (by omega) (by omega)).mono ?_
  rintro e w3 ⟨⟨y, rfl, hy1, hy2⟩, hs3, hg3⟩
  have H3 := Lib.hid (show Below w.heap.size w w3 from below_grown H2.out.2 hg3 H2.out.2.size (Nat.le_refl _))
  clear hs3 hg3
  have hy3 : y < 26 := by omega
  clear hy2
  go_wp2_with fail
  go_ret2
  exact ⟨⟨_, _, rfl, ⟨hx1, hx2⟩, by omega, by omega⟩, H3.out⟩
/-- A day as a text. -/
def dateL (d : Int) : List UInt8 := Lib.itoa (yF d) ++ 45 :: (twoL (mthF d) ++ 45 :: twoL (dtF d).toNat)
theorem DateText_no (d : Int) (w : World) (h : inB d 0 36524 = false) :
    Calls Tryd.prog 55 #[.int .i64 d] w fun e w' => e = .returned (.string { data := #[] }) ∧ w = w' := by
  go_enter Tryd.func55, Tryd.ntmps55
  go_wp2_with (go_at_call 54; refine (DateOf_no _ _ h).mono ?_; rintro e w' ⟨rfl, rfl⟩)
  go_ret
  exact ⟨rfl, rfl⟩
set_option maxHeartbeats 1600000 in
theorem DateText_yes (d : Int) (w : World) (h0 : 0 ≤ d) (h1 : d ≤ 36524) (ht : Tab w) :
    Calls Tryd.prog 55 #[.int .i64 d] w fun e w' => e = .returned (.string ⟨(dateL d).toArray⟩) ∧ Below w.heap.size w w' := by
  obtain ⟨_, g1, g2, g3, g4, g5, g6, g7⟩ := date_ok h0 h1
  have HDO := Lib.hid (DateOf_yes d w h0 h1)
  have HDL := Lib.hid (show dateL d = Lib.itoa (yF d) ++ 45 :: (twoL (mthF d) ++ 45 :: twoL (dtF d).toNat) from rfl)
  obtain ⟨t, hdt⟩ : ∃ t : Nat, dtF d = (t : Int) := ⟨(dtF d).toNat, by omega⟩
  rw [hdt] at HDO g5 g6 HDL
  rw [Int.toNat_natCast] at HDL
  obtain ⟨Y, hY⟩ : ∃ Y, Y = yF d := ⟨_, rfl⟩
  obtain ⟨M, hM⟩ : ∃ M, M = mthF d := ⟨_, rfl⟩
  rw [← hY, ← hM] at HDO HDL
  rw [← hY] at g1 g2
  rw [← hM] at g4
  have ht31 : t ≤ 31 := by omega
  rw [HDL.out]
  have HT := Lib.hid ht
  clear hY hM hdt g3 g5 g6 g7 ht HDL
  go_enter Tryd.func55, Tryd.ntmps55
  go_wp2_with fail
  refine HDO.out.mono ?_
  rintro e w' ⟨rfl, rfl⟩
  go_wp2_with fail
  refine (Decimal_i _ _ HT.out (by omega) (by omega)).mono ?_
  rintro e w1 ⟨rfl, hb1⟩
  have H1 := Lib.hid hb1
  clear hb1
  have hsz := decB_size Y (by omega) (by omega)
  obtain ⟨S, hS⟩ : ∃ S, S = decB Y := ⟨_, rfl⟩
  rw [← hS] at hsz ⊢
  have HS := Lib.hid hS
  clear hS
  go_wp2_with fail
  refine (twoDigits_i M _ (by omega)).mono ?_
  rintro e w2 ⟨rfl, hb2⟩
  have H2 := Lib.hid (H1.out.trans (hb2.mono H1.out.size))
  clear hb2
  obtain ⟨S2, hS2⟩ : ∃ S2 : ByteArray, S2 = ⟨(twoL M).toArray⟩ := ⟨_, rfl⟩
  have hsz2 : S2.size ≤ 2 := by rw [hS2]; exact Nat.le_refl _
  rw [← hS2]
  have HS2 := Lib.hid hS2
  clear hS2
  go_wp2_with fail
  refine (twoDigits_i t _ (by omega)).mono ?_
  rintro e w3 ⟨rfl, hb3⟩
  have H3 := Lib.hid (H2.out.trans (hb3.mono H2.out.size))
  clear hb3
  obtain ⟨S3, hS3⟩ : ∃ S3 : ByteArray, S3 = ⟨(twoL t).toArray⟩ := ⟨_, rfl⟩
  have hsz3 : S3.size ≤ 2 := by rw [hS3]; exact Nat.le_refl _
  rw [← hS3]
  have HS3 := Lib.hid hS3
  clear hS3
  go_wp2_with fail
  go_ret
  refine ⟨ret_str ?_, H3.out⟩
  rw [HS.out, HS2.out, HS3.out, decB, show ({ data := #[45] } : ByteArray) = ⟨([45] : List UInt8).toArray⟩ from rfl, ba_app, ba_app, ba_app, ba_app]
  simp
theorem itoa_four {Y : Int} (h1 : 2000 ≤ Y) (h2 : Y ≤ 2099) : (Lib.itoa Y).length = 4 ∧ digP (Lib.itoa Y) ∧ (vlF 0 (Lib.itoa Y) : Int) = Y := by
  obtain ⟨u, rfl⟩ : ∃ u : Nat, Y = (u : Int) := ⟨Y.toNat, by omega⟩
  rw [Lib.itoa_nonneg]
  refine ⟨?_, (dec_can u).dig, by rw [dec_val]⟩
  rw [Lib.decDigits, dif_neg (by omega), Lib.decDigits, dif_neg (by omega), Lib.decDigits, dif_neg (by omega), Lib.decDigits, dif_pos (by omega)]
  simp
theorem date_parts {d : Int} (h0 : 0 ≤ d) (h1 : d ≤ 36524) : (dateL d).length = 10 ∧ (dateL d).take 4 = Lib.itoa (yF d) ∧ ((dateL d).drop 5).take 2 = twoL (mthF d) ∧ (dateL d).drop 8 = twoL (dtF d).toNat := by
  obtain ⟨_, g1, g2, g3, g4, g5, g6, g7⟩ := date_ok h0 h1
  have h4 := (itoa_four g1 g2).1
  unfold dateL
  generalize Lib.itoa (yF d) = L at h4
  match L, h4 with
  | [a, b, c, e], _ => exact ⟨rfl, rfl, rfl, rfl⟩
set_option maxRecDepth 100000 in
set_option maxHeartbeats 3200000 in
theorem ReadDate_yes (d : Int) (s : ByteArray) (w : World) (h0 : 0 ≤ d) (h1 : d ≤ 36524) (ht : Tab w) (hs : s = ⟨(dateL d).toArray⟩) :
    Calls Tryd.prog 57 #[.string s] w fun e w' => e = .returned (.tuple #[.int .i64 d, .bool true]) ∧ Below w.heap.size w w' := by
  obtain ⟨⟨q, j, q0, q1, j3, hy, hd⟩, g1, g2, g3, g4, g5, g6, g7⟩ := date_ok h0 h1
  obtain ⟨p1, p2, p3, p4⟩ := date_parts h0 h1
  have hsl : s.data.toList = dateL d := by rw [hs]
  have hsz : s.size = 10 := by rw [Lib.size_eq, hsl, p1]
  have e1 : (s.extract 0 4).data.toList = Lib.itoa (yF d) := by rw [Lib.extract_data, hsl, ← p2]; simp
  have e2 : (s.extract 5 7).data.toList = twoL (mthF d) := by rw [Lib.extract_data, hsl, ← p3]
  have e3 : (s.extract 8 10).data.toList = twoL (dtF d).toNat := by rw [Lib.extract_data, hsl, ← p4, List.take_of_length_le (by rw [p4]; simp [twoL])]
  obtain ⟨t, hdt⟩ : ∃ t : Nat, dtF d = (t : Int) := ⟨(dtF d).toNat, by omega⟩
  rw [hdt] at g5 g6 hd e3
  rw [Int.toNat_natCast] at e3
  have f4 := itoa_four g1 g2
  have HA := fun (W : World) => Lib.hid ((digitsOf_i (s.extract 0 4) W (by rw [Lib.size_eq, e1, f4.1]; omega) (by rw [e1]; exact f4.2.1)).mono (fun e w' (h : _ ∧ _) => (show e = .returned (.int .i64 (yF d)) ∧ W = w' from ⟨by rw [h.1, e1, f4.2.2], h.2⟩)))
  have HB := fun (W : World) => Lib.hid ((digitsOf_i (s.extract 5 7) W (by rw [Lib.size_eq, e2]; simp [twoL]) (by rw [e2]; exact two_dig (by omega))).mono (fun e w' (h : _ ∧ _) => (show e = .returned (.int .i64 (mthF d : Nat)) ∧ W = w' from ⟨by rw [h.1, e2, two_val (by omega)], h.2⟩)))
  have HC := fun (W : World) => Lib.hid ((digitsOf_i (s.extract 8 10) W (by rw [Lib.size_eq, e3]; simp [twoL]) (by rw [e3]; exact two_dig (by omega))).mono (fun e w' (h : _ ∧ _) => (show e = .returned (.int .i64 (t : Nat)) ∧ W = w' from ⟨by rw [h.1, e3, two_val (by omega)], h.2⟩)))
  have HN := fun (W : World) => Lib.hid ((DayNumber_yes (yF d) (t : Int) q (mthF d) j W q0 q1 j3 hy g3 g4 g5 g6).mono (fun e w' (h : _ ∧ _) => (show e = .returned (.tuple #[.int .i64 d, .int .i64 0]) ∧ W = w' from ⟨by rw [h.1, ← hd], h.2⟩)))
  have HT := fun (W : World) (hT : Tab W) => Lib.hid ((DateText_yes d W h0 h1 hT).mono (fun e w' (h : _ ∧ _) => (show e = .returned (.string s) ∧ Below W.heap.size W w' from ⟨by rw [h.1, hs], h.2⟩)))
  have HTT := Lib.hid ht
  obtain ⟨Y, hY⟩ : ∃ Y, Y = yF d := ⟨_, rfl⟩
  obtain ⟨M, hM⟩ : ∃ M, M = mthF d := ⟨_, rfl⟩
  rw [← hY] at HA HN
  rw [← hM] at HB HN
  clear hY hM hd hy e1 e2 e3 hsl hs p1 p2 p3 p4 f4 g1 g2 g3 g4 g5 g6 g7 hdt ht q0 q1 j3
  go_enter Tryd.func57, Tryd.ntmps57
  go_wp2_with fail
  go_quiet ((first | (go_at_call 95; first | (with_reducible exact quiet_left (HA _).out) | (with_reducible exact quiet_left (HB _).out) | (with_reducible exact quiet_left (HC _).out) | (trace_state; fail)) | (go_at_call 56; first | (with_reducible exact quiet_left (HN _).out) | (trace_state; fail))))
  have HB2 := Lib.hid (below_drewN (Below.refl w.heap.size w) nq)
  go_wp2_with fail
  refine (HT _ (HTT.out.below HB2.out)).out.mono ?_
  rintro e w2 ⟨rfl, hb2⟩
  have HB3 := Lib.hid (HB2.out.trans (hb2.mono HB2.out.size))
  clear hb2
  go_wp2_with fail
  go_ret2
  exact ⟨rfl, HB3.out⟩
end Go.Proofs.YthkpffmcafdmeaaDoor
