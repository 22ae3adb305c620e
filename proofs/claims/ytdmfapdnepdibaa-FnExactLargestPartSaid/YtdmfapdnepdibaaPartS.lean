/-
  The parts of cells, the reference's.
-/
import Derived.Test.YtdmfapdnepdibaaPartR
import Derived.Test.YtdmfapdnepdibaaGridL
namespace Go.Proofs.Ytdmfapdnepdibaa
open Go.ChangeShapes Go.WideShapes Go.ChangeAt Go.RowKit Go.Deep
set_option linter.unusedVariables false

theorem sprN_good {nr : Int → List Int} {xs : List Int} {f : Int} (hf : f ∈ xs) (r : Nat) : Good nr xs f (sprN nr xs r [f]) :=
  Good.n r ⟨by simp, fun z hz => by simp at hz; subst hz; exact .base hf⟩
theorem hitB_no {nr : Int → List Int} {o : List Int} {c : Int} (h : ∀ (t : Nat) (z : Int), (nr c)[t]? = some z → hasB o z = false) : hitB nr o c = false := by
  cases hh : hitB nr o c
  · rfl
  · obtain ⟨z, hz, hzo⟩ := hitB_iff.1 hh
    obtain ⟨t, ht⟩ := List.mem_iff_getElem?.1 hz
    have := h t z ht
    rw [hasB_iff.2 hzo] at this
    cases this
set_option maxRecDepth 100000 in
set_option maxHeartbeats 1600000 in
theorem l11Spread_any (b : Nat) (R C S : Int) (A : Option Addr) (n c : Nat) (B : Option Addr) (m d : Nat) (f : Int) (xs : List Int) (w : World) (hg : BoxG w b R C S A n c) (h' : Ints w B m xs) (r1 : 1 ≤ R) (r2 : R ≤ 8) (c1 : 1 ≤ C) (c2 : C ≤ 8) (hRC : R * C = (n : Int)) (hx : ∀ z ∈ xs, 0 ≤ z ∧ z < R * C) (hf : f ∈ xs) :
    Calls Try.prog 85 #[.pointer (some ⟨b, 0, none⟩), .slice B m d, .int .i64 f] w fun e w' => SlI 2 w (spread (near R C) xs f) e w' := by
  have hmul := mul64 r1 r2 c1 c2
  have h64 : n ≤ 64 := by omega
  have hmb := h'.2.1
  have HL := Lib.hid h'.1
  have HX := Lib.hid (And.intro hx (And.intro hf hRC))
  have HGW := Lib.hid (And.intro hg h')
  have HB0 := Lib.hid ((Below.refl w.heap.size w).alloc (Nat.le_refl _) (.cells #[.int .i64 f] 2))
  have HO0 := Lib.hid (show (w.alloc (.cells #[.int .i64 f] 2)).ownsRow w.heap.size 2 1 (.slice (some ⟨w.heap.size, 0, none⟩) 1 1) 1 ([f].map (.int .i64)) from
    World.ownsRow_lit (base := w.heap.size) (e := 2) (size := 1) w #[.int .i64 f] 1 (Nat.le_refl _) (by unfold maxLen; simp) rfl)
  clear hg h' hx hf hmul hRC
  go_enter Try.func85, Try.ntmps85
  go_wp2_with fail
  go_loopw [7, 8, 9, 10, 11] (fun o rv _ _ _ wr => ∃ (r : Nat) (A' : Option Addr) (c' : Nat) (O : List Int), r ≤ m ∧ rv = .int .i64 r ∧ o = .slice A' O.length c' ∧ Hid (O = sprN (near R C) xs r [f]) ∧ Hid (Below w.heap.size w wr) ∧ Hid (Fresh wr w.heap.size 2 1 A' O.length c' (O.map (.int .i64)))) (fun _ rv _ _ _ _ => m - (intOf rv).toNat)
  case atStart => exact ⟨0, some ⟨w.heap.size, 0, none⟩, 1, [f], Nat.zero_le _, rfl, rfl, rfl, HB0.out, Fresh.of_own HO0.out⟩
  case round =>
    obtain ⟨r, A', c', O, hr, rfl, rfl, HO, HBL, HFR⟩ := hrel
    by_cases hlt : r < m
    · have hri : (r : Int) < (m : Int) := by omega
      go_wp2_with fail
      go_loopw [7, 9, 10, 11] (fun o iv _ _ wt => ∃ (i : Nat) (A5 : Option Addr) (c5 : Nat) (O5 : List Int), i ≤ m ∧ iv = .int .i64 i ∧ o = .slice A5 O5.length c5 ∧ Hid (O5 = sprTo (near R C) (xs.take i) O) ∧ Hid (Below w.heap.size w wt) ∧ Hid (Fresh wt w.heap.size 2 1 A5 O5.length c5 (O5.map (.int .i64)))) (fun _ iv _ _ _ => m - (intOf iv).toNat)
      case atStart => exact ⟨0, A', c', O, Nat.zero_le _, rfl, rfl, by show O = _; simp [sprTo], HBL, HFR⟩
      case round =>
        obtain ⟨i, A5, c5, O5, hi, rfl, rfl, HO5, HBL5, HFR5⟩ := hrel
        have hgood : Good (near R C) xs f O5 := by rw [HO5.out, HO.out]; exact (sprN_good HX.out.2.1 r).to _ (fun c hc => List.mem_of_mem_take hc)
        have hlen5 := pw_len hgood.pw (fun z hz => HX.out.1 z (hgood.conn z hz).mem) (by have := HX.out.2.2; omega)
        rw [HX.out.2.2] at hlen5
        have HI5 := Lib.hid (HFR5.out.ints fun z hz => by have := HX.out.1 z (hgood.conn z hz).mem; rw [HX.out.2.2] at this; omega)
        clear hgood
        by_cases hil : i < m
        · obtain ⟨bx, ox, x, rfl, HXc, hcx, _⟩ := (HGW.out.2.below HBL5.out).at_ hil
          have hxb := HX.out.1 x (List.mem_of_getElem? HXc.out)
          rw [HX.out.2.2] at hxb
          obtain ⟨K, hK⟩ : ∃ K : Nat, x = (K : Int) := ⟨x.toNat, by omega⟩
          subst hK
          have hKn : K < n := by omega
          have hii : (i : Int) < (m : Int) := by omega
          have HST := Lib.hid (sprTo_snoc (nr := near R C) (o := O) HXc.out)
          have HG5 := Lib.hid (HGW.out.1.below HBL5.out)
          clear hxb
          go_wp2_with fail
          refine (l00Has_any _ _ _ (K : Int) O5 _ HI5.out).mono ?_
          rintro e w2 ⟨rfl, q2, rfl⟩
          cases hh : hasB O5 (K : Int)
          · have HH := Lib.hid hh
            clear hh
            go_wp2_with fail
            refine (l09Near_any _ R C S A n c K _ (HG5.out.below (below_drewN (Below.refl _ _) q2)) r1 r2 c1 c2 hKn h64).mono ?_
            rintro e w3 ⟨A4, c4, rfl, hf4, hb4⟩
            have hnl := nearTo_len R C K 8
            have HNI := Lib.hid (show Ints w3 A4 (near R C K).length (near R C K) by
              rcases Nat.eq_zero_or_pos (near R C K).length with h0 | h0
              · have e0 : near R C K = [] := List.length_eq_zero_iff.1 h0
                rw [e0]
                exact Ints.nil _ _
              · exact Ints.of_own (hf4.2 h0) (nearTo_bd c1 (Nat.le_refl _) (by rw [HX.out.2.2]; omega)))
            have BQ := below_drewN HBL5.out q2
            have HB3 := Lib.hid (And.intro (BQ.trans (hb4.mono BQ.size)) (And.intro ((show Fresh (wr.drewN q2) w.heap.size 2 1 A5 O5.length c5 (O5.map (.int .i64)) from HFR5.out).below hb4) ((HI5.out.drewN q2).below hb4)))
            have hcx3 := cell_kept hb4 (show (wr.drewN q2).cell? ⟨bx, ox + i, none⟩ = some (.int .i64 (K : Int)) from hcx)
            obtain ⟨L, hL⟩ : ∃ L, L = near R C K := ⟨_, rfl⟩
            have hLl : L.length ≤ 8 := by rw [hL]; exact hnl
            rw [← hL] at HNI ⊢
            have HLE := Lib.hid hL
            clear hf4 hb4 hnl hL BQ hcx
            go_wp2_with fail
            go_loopw [7, 11] (fun o kv wt => ∃ k q : Nat, k ≤ L.length ∧ kv = .int .i64 k ∧ o = .slice A5 O5.length c5 ∧ wt = w3.drewN q ∧ Hid (∀ (t : Nat) (z : Int), t < k → L[t]? = some z → hasB O5 z = false)) (fun _ kv _ => L.length - (intOf kv).toNat)
            case atStart => exact ⟨0, 0, Nat.zero_le _, rfl, rfl, rfl, fun t z ht => absurd ht (by omega)⟩
            case round =>
              obtain ⟨k, q, hk, rfl, rfl, rfl, HNO⟩ := hrel
              by_cases hkl : k < L.length
              · obtain ⟨bn, on, z, rfl, HZ, hcz, _⟩ := HNI.out.at_ hkl
                have hkk : (k : Int) < (L.length : Int) := by omega
                go_wp2_with fail
                refine (l00Has_any _ _ _ z O5 _ (HB3.out.2.2.drewN q)).mono ?_
                rintro e w4 ⟨rfl, q4, rfl⟩
                cases hz : hasB O5 z
                · have HZN := Lib.hid hz
                  clear hz
                  go_wp2_with fail
                  go_roundw
                  case rel => exact ⟨k + 1, q + q4, by omega, by go_num, rfl, by first | rfl | exact World.drewN_drewN .., fun t z2 ht hz2 => by
                    by_cases e : t = k
                    · subst e
                      have := HZ.out
                      rw [hz2] at this
                      injection this with this
                      subst this
                      exact HZN.out
                    · exact HNO.out t z2 (by omega) hz2⟩
                  case measure => simp [intOf]; omega
                · have HS := Lib.hid (show sprTo (near R C) (xs.take (i + 1)) O = putL O5 (K : Int) by
                    rw [HST.out, ← HO5.out]
                    unfold sprOne
                    rw [if_neg (by simp [HH.out]), if_pos (hitB_iff.2 ⟨z, by rw [← HLE.out]; exact List.mem_of_getElem? HZ.out, hasB_iff.1 hz⟩)])
                  clear hz
                  go_wp2_with fail
                  refine (l00Put_any _ _ _ (K : Int) O5 _ (HB3.out.2.2.drewN (q + q4)) (by omega)).mono ?_
                  rintro e w5 ⟨A6, c6, rfl, hf6, hb6⟩
                  have BQ2 := below_drewN HB3.out.1 (q + q4)
                  have HF6 := Lib.hid (And.intro (BQ2.trans (hb6.mono BQ2.size)) (hf6.base BQ2.size))
                  clear hf6 hb6 BQ2
                  go_wp2_with fail
                  go_roundw
                  case rel => exact ⟨i + 1, A6, c6, putL O5 (K : Int), by omega, by go_num, rfl, HS.out.symm, HF6.out.1, HF6.out.2⟩
                  case measure => simp [intOf]; omega
              · obtain rfl : k = L.length := by omega
                have HS := Lib.hid (show sprTo (near R C) (xs.take (i + 1)) O = O5 by
                  rw [HST.out, ← HO5.out]
                  unfold sprOne
                  rw [if_neg (by simp [HH.out]), if_neg (by
                    rw [hitB_no (fun t z hz => by rw [← HLE.out] at hz; exact HNO.out t z (List.getElem?_eq_some_iff.1 hz).1 hz)]
                    simp)])
                clear hkl
                go_wp2_with fail
                go_roundw
                case rel => exact ⟨i + 1, A5, c5, O5, by omega, by go_num, rfl, HS.out.symm, below_drewN HB3.out.1 _, HB3.out.2.1⟩
                case measure => simp [intOf]; omega
          · have HS := Lib.hid (show sprTo (near R C) (xs.take (i + 1)) O = O5 by
              rw [HST.out, ← HO5.out]
              unfold sprOne
              rw [if_pos hh])
            clear hh
            go_wp2_with fail
            go_roundw
            case rel => exact ⟨i + 1, A5, c5, O5, by omega, by go_num, rfl, HS.out.symm, below_drewN HBL5.out _, HFR5.out⟩
            case measure => simp [intOf]; omega
        · obtain rfl : i = m := by omega
          have HS := Lib.hid (show O5 = sprN (near R C) xs (r + 1) [f] by
            rw [HO5.out, HO.out, List.take_of_length_le (by rw [HL.out]; omega)]
            rfl)
          clear hil hlen5
          go_wp2_with fail
          go_roundw
          case rel => exact ⟨r + 1, A5, c5, O5, by omega, by go_num, rfl, HS.out, HBL5.out, HFR5.out⟩
          case measure => simp [intOf]; omega
    · obtain rfl : r = m := by omega
      have HS := Lib.hid (show O = spread (near R C) xs f by rw [HO.out, spread, HL.out])
      clear hlt
      go_wp2_with fail
      go_ret
      rw [← HS.out]
      exact ⟨A', c', rfl, HFR.out, HBL.out⟩
end Go.Proofs.Ytdmfapdnepdibaa
