/-
  The cells from which the descent leads into cells, the reference's.
-/
import Derived.Test.YtmcaokbnbbmhhaaGridF
namespace Go.Proofs.Ytmcaokbnbbmhhaa
open Go.ChangeShapes Go.WideShapes Go.ChangeAt Go.RowKit Go.Deep
set_option linter.unusedVariables false

set_option maxRecDepth 100000 in
set_option maxHeartbeats 800000 in
theorem AboveCells_s (R C S : Int) (A : Option Addr) (n c : Nat) (B : Option Addr) (m d : Nat) (hs xs : List Int) (w : World) (h : GridA w R C S A n hs) (h' : Ints w B m xs) :
    Calls Try.prog 40 #[.agg #[.int .i64 R, .int .i64 C, .int .i64 S, .slice A n c], .slice B m d] w fun e w' => ResI 2 w (cellsR (cellsC R C S hs xs) n (aboveP R C S hs xs)) (cellsC R C S hs xs) e w' := by
  have hl := h.1.1
  have B0 := (Below.refl w.heap.size w).alloc (Nat.le_refl _) (.cells #[.int .i64 R, .int .i64 C, .int .i64 S, .slice A n c] 28)
  have HI := Lib.hid (And.intro (h.box (c := c) 28) (And.intro (h'.below B0) (And.intro B0 (boxG_of w R C S A n c 28))))
  have HW := Lib.hid (And.intro h.1 h')
  clear h h' B0
  obtain ⟨K, hK⟩ : ∃ K, K = cellsC R C S hs xs := ⟨_, rfl⟩
  have hcb := cellsC_bd R C S hs xs
  rw [← hK] at hcb ⊢
  by_cases h0 : K = 0
  · obtain ⟨⟨r1, r2⟩, ⟨c1, c2⟩, ⟨s1, s2⟩, hn, h64⟩ := cells_facts hl (hK.symm.trans h0)
    rw [cellsR_yes h0]
    have hm := mul64 r1 r2 c1 c2
    have HV := Lib.hid (And.intro (cellsC_ok (hK.symm.trans h0)).1 hl)
    have HK := Lib.hid hK
    have HL := Lib.hid (And.intro hl hn)
    subst h0
    clear hK hl hcb hn
    go_enter Try.func40, Try.ntmps40
    go_wp2_with fail
    refine (l11Ask_any _ _ _ _ _ _ _ _ _ _ hs xs _ HI.out.1 HI.out.2.1).mono ?_
    rintro e w1 ⟨rfl, q1, rfl⟩
    rw [← HK.out]
    obtain ⟨p0, p1, p2, p3⟩ := HI.out.2.2.2
    go_wp2_with fail
    have hown0 := World.ownsRow_lit (base := w.heap.size + 1) (e := 2) (size := 1) ((w.alloc (.cells #[.int .i64 R, .int .i64 C, .int .i64 S, .slice A n c] 28)).drewN q1) #[] 0 (by simp [World.drewN]) (by simp) rfl
    have hb0 := (below_drewN HI.out.2.2.1 q1).alloc (below_drewN HI.out.2.2.1 q1).size (.cells #[] 2)
    have hg0 := (HI.out.2.2.2.below (below_drewN (Below.refl _ _) q1)).below ((Below.refl _ _).alloc (Nat.le_refl _) (.cells #[] 2))
    have hz0 : w.heap.size + 1 ≤ (((w.alloc (.cells #[.int .i64 R, .int .i64 C, .int .i64 S, .slice A n c] 28)).drewN q1).alloc (.cells #[] 2)).heap.size := by simp [World.drewN]
    have HI2 := Lib.hid (HI.out.2.1.below (below_drewN (Below.refl _ _) q1) |>.below ((Below.refl _ _).alloc (Nat.le_refl _) (.cells #[] 2)))
    have HI3 := Lib.hid (HI.out.1.2.2.2.2.1.below (below_drewN (Below.refl _ _) q1) |>.below ((Below.refl _ _).alloc (Nat.le_refl _) (.cells #[] 2)))
    clear p0 p1 p2 p3
    go_loopw [7, 8] (fun o i wr => ∃ k : Nat, k ≤ n ∧ i = .int .i64 k ∧ Below w.heap.size w wr ∧ w.heap.size + 1 ≤ wr.heap.size ∧ BoxG wr w.heap.size R C S A n c ∧ (Ints wr A n hs ∧ Ints wr B m xs) ∧ wr.ownsRow (w.heap.size + 1) 2 1 o (cellsB k (aboveP R C S hs xs)).length ((cellsB k (aboveP R C S hs xs)).map (.int .i64))) (fun _ i _ => n - (intOf i).toNat)
    case atStart => exact ⟨0, Nat.zero_le _, rfl, hb0, hz0, hg0, ⟨HI3.out, HI2.out⟩, by simpa [cellsB] using hown0⟩
    case round =>
      clear hb0 hown0 hg0 hz0 HI2
      obtain ⟨k, hk, rfl, hbl, hz, hg, hx, hown⟩ := hrel
      have hlen := cellsB_len k (aboveP R C S hs xs)
      obtain ⟨A', c', rfl, _⟩ := own_form hown
      obtain ⟨p0, p1, p2, p3⟩ := hg
      by_cases hlt : k < n
      · have hki : (k : Int) < R * C := by have := HL.out.2; omega
        have HO := Lib.hid (And.intro hbl (And.intro hz (And.intro (show BoxG _ _ _ _ _ _ _ _ from ⟨p0, p1, p2, p3⟩) (And.intro hx hown))))
        clear hown hbl hz
        have hx := hx
        cases hp : hasB xs (k : Int)
        · go_wp2_with fail
          refine (l00Has_any _ _ _ _ xs _ hx.2).mono ?_
          rintro e w2 ⟨rfl, q2, rfl⟩
          rw [hp]
          have HP := Lib.hid hp
          clear hp
          go_wp2_with fail
          refine (l09Descent_any _ R C S A n c k hs _ (HO.out.2.2.1.below (below_drewN (Below.refl _ _) q2)) (hx.1.drewN q2) HV.out.1 hlt).mono ?_
          rintro e w3 ⟨A2, cc2, rfl, hf3, hb3⟩
          have HB := Lib.hid (And.intro (below_drewN HO.out.1 q2 |>.trans (hb3.mono (below_drewN HO.out.1 q2).size)) (And.intro (Nat.le_trans HO.out.2.1 hb3.size) (And.intro (HO.out.2.2.1.below (below_drewN (Below.refl _ _) q2) |>.below hb3) (And.intro (And.intro ((hx.1.drewN q2).below hb3) ((hx.2.drewN q2).below hb3)) (own_below (own_drewN HO.out.2.2.2.2 q2) hb3)))))
          have HWI := Lib.hid (desc_ints HV.out.1 HV.out.2 h64 hlt hf3)
          have hdl := descL_len HV.out.1 HV.out.2 (hg_nat hs k) k (Nat.le_refl _)
          have hbdk := hg_bd (gridOk_iff.1 HV.out.1).2.2.2.2 (k : Int)
          obtain ⟨L, hL⟩ : ∃ L, L = descL R C S hs (k : Int) := ⟨_, rfl⟩
          have hLl : L.length ≤ 5001 := by rw [hL]; have := hdl.1; unfold hg_nat at this; omega
          rw [← hL] at HWI ⊢
          have HLE := Lib.hid hL
          clear hf3 hb3 hdl hbdk hL hx
          go_wp2_with fail
          have hz3 := HB.out.2.1
          go_loopw [10, 11] (fun tp i wr' => ∃ j q : Nat, j ≤ L.length ∧ i = .int .i64 j ∧ tp = .bool ((L.take j).any (hasB xs)) ∧ wr' = w3.drewN q) (fun _ i _ => L.length - (intOf i).toNat)
          case atStart => exact ⟨0, 0, Nat.zero_le _, rfl, by simp, rfl⟩
          case round =>
            obtain ⟨j, q, hj, rfl, rfl, rfl⟩ := hrel
            by_cases hjl : j < L.length
            · obtain ⟨bn, on, z, rfl, HZ, hcz, _⟩ := HWI.out.at_ hjl
              have hji : (j : Int) < (L.length : Int) := by omega
              cases hT : (L.take j).any (hasB xs)
              · have HN := Lib.hid (show (L.take (j + 1)).any (hasB xs) = hasB xs z by rw [anyI_snoc HZ.out, hT]; rfl)
                clear hT
                go_wp2_with fail
                refine (l00Has_any _ _ _ _ xs _ (HB.out.2.2.2.1.2.drewN q)).mono ?_
                rintro e w4 ⟨rfl, q4, rfl⟩
                go_wp2_with fail
                go_roundw
                case rel => exact ⟨j + 1, q + q4, by omega, by go_num, by rw [HN.out], by first | rfl | exact World.drewN_drewN ..⟩
                case measure => simp [intOf]; omega
              · have HN := Lib.hid (show (L.take (j + 1)).any (hasB xs) = true by rw [anyI_snoc HZ.out, hT]; rfl)
                clear hT
                go_wp2_with fail
                go_roundw
                case rel => exact ⟨j + 1, _, by omega, by go_num, by rw [HN.out], rfl⟩
                case measure => simp [intOf]; omega
            · obtain rfl : j = L.length := by omega
              have HTk := Lib.hid (show aboveP R C S hs xs k = (L.take L.length).any (hasB xs) by
                unfold aboveP
                rw [← HLE.out, List.take_of_length_le (Nat.le_refl _), HP.out]
                simp)
              cases hT : (L.take L.length).any (hasB xs)
              · have HS := Lib.hid (show cellsB (k + 1) (aboveP R C S hs xs) = cellsB k (aboveP R C S hs xs) by rw [cellsB_succ, HTk.out, hT, if_neg (by simp)]; simp)
                clear hT hjl
                go_wp2_with fail
                go_roundw
                case rel => exact ⟨k + 1, by omega, by go_num, below_drewN HB.out.1 _, HB.out.2.1, HB.out.2.2.1, HB.out.2.2.2.1, by rw [HS.out]; exact HB.out.2.2.2.2⟩
                case measure => simp [intOf]; omega
              · have HS := Lib.hid (show cellsB (k + 1) (aboveP R C S hs xs) = cellsB k (aboveP R C S hs xs) ++ [(k : Int)] by rw [cellsB_succ, HTk.out, hT, if_pos rfl])
                clear hT hjl
                have HD := Lib.hid (And.intro (show (w3.drewN q).ownsRow (w.heap.size + 1) 2 1 (.slice A' (cellsB k (aboveP R C S hs xs)).length c') (cellsB k (aboveP R C S hs xs)).length ((cellsB k (aboveP R C S hs xs)).map (.int .i64)) from HB.out.2.2.2.2) (below_drewN HB.out.1 q))
                go_wp2_with (at_builtin; refine wp_app_int rfl (.tmp 48) (.tmp 50) 22 rfl (w.heap.size + 1) 2 Try.underlying22 info_int _ _ (cellsB k (aboveP R C S hs xs)) (k : Int) (by rfl) HD.out.1 (by rfl) (by omega) hz3 ?_; intro v' w4 hown3 hgrow3 hv3)
                obtain ⟨g, cc, rfl⟩ := hv3
                have HF := Lib.hid (And.intro (HD.out.2.grown hgrow3 HD.out.2.size (fun g h => Nat.le_of_succ_le (own_blk HD.out.1 g h))) (And.intro (Nat.le_trans HB.out.2.1 hgrow3.size) (And.intro (HB.out.2.2.1.grow (w := w3.drewN q) hgrow3 (fun g h e => by have := own_blk HD.out.1 g h; omega)) (And.intro (And.intro (Ints.old (w := w3.drewN q) HB.out.2.2.2.1.1 hgrow3 HW.out.1 (fun g h => Nat.le_of_succ_le (own_blk HD.out.1 g h))) (Ints.old (w := w3.drewN q) HB.out.2.2.2.1.2 hgrow3 HW.out.2 (fun g h => Nat.le_of_succ_le (own_blk HD.out.1 g h)))) hown3))))
                clear hown3 hgrow3
                go_wp2_with fail
                go_roundw
                case rel => exact ⟨k + 1, by omega, by go_num, HF.out.1, HF.out.2.1, HF.out.2.2.1, HF.out.2.2.2.1, by rw [HS.out]; simpa using HF.out.2.2.2.2⟩
                case measure => simp [intOf]; omega
        · have HS := Lib.hid (show cellsB (k + 1) (aboveP R C S hs xs) = cellsB k (aboveP R C S hs xs) by rw [cellsB_succ, if_neg (by simp [aboveP, hp])]; simp)
          go_wp2_with fail
          refine (l00Has_any _ _ _ _ xs _ hx.2).mono ?_
          rintro e w2 ⟨rfl, q2, rfl⟩
          rw [hp]
          go_wp2_with fail
          go_roundw
          case rel => exact ⟨k + 1, by omega, by go_num, below_drewN HO.out.1 _, HO.out.2.1, HO.out.2.2.1, HO.out.2.2.2.1, by rw [HS.out]; exact HO.out.2.2.2.2⟩
          case measure => simp [intOf]; omega
      · obtain rfl : k = n := by omega
        have hki : ¬ (k : Int) < R * C := by have := HL.out.2; omega
        have HO := Lib.hid (And.intro hbl hown)
        clear hlt hbl hown hx
        go_wp2_with fail
        go_ret2
        exact ResI.of (Fresh.of_own (own_base HO.out.2 (Nat.le_succ _))) (Nat.le_refl _) HO.out.1
  · have hd : (K != 0) = true := by simp [h0]
    rw [cellsR_no h0]
    have HK := Lib.hid hK
    have HL := Lib.hid hl
    clear hK hl
    go_enter Try.func40, Try.ntmps40
    go_wp2_with fail
    refine (l11Ask_any _ _ _ _ _ _ _ _ _ _ hs xs _ HI.out.1 HI.out.2.1).mono ?_
    rintro e w1 ⟨rfl, q1, rfl⟩
    rw [← HK.out]
    go_wp2_with fail
    go_ret2
    exact ResI.nil (below_drewN HI.out.2.2.1 _)
end Go.Proofs.Ytmcaokbnbbmhhaa
