/-
  Cells that grow, the reference's.
-/
import Derived.Test.YtmcaokbnbbmhhaaGridGr
namespace Go.Proofs.Ytmcaokbnbbmhhaa
open Go.ChangeShapes Go.WideShapes Go.ChangeAt Go.RowKit Go.Deep
set_option linter.unusedVariables false

theorem absI_max (d : Int) : max d (-d) = absI d := by unfold absI; split <;> omega
theorem inc_pw {xs : List Int} (h : xs.Pairwise (· < ·)) : incB xs = true := by
  rw [List.pairwise_iff_getElem] at h
  refine incB_iff.2 fun i x y hx hy => ?_
  obtain ⟨h1, e1⟩ := List.getElem?_eq_some_iff.1 hx
  obtain ⟨h2, e2⟩ := List.getElem?_eq_some_iff.1 hy
  rw [← e1, ← e2]
  exact h i (i + 1) h1 h2 (by omega)
theorem pw_len {xs : List Int} {n : Int} (h : xs.Pairwise (· < ·)) (hb : ∀ z ∈ xs, 0 ≤ z ∧ z < n) (hn : 0 ≤ n) : (xs.length : Int) ≤ n := by
  have := rises_len (xs := xs) (lo := 0) (hi := n - 1) (rises_iff.2 ⟨inc_pw h, allB_iff.2 fun j x hx => by have := hb x (List.mem_of_getElem? hx); omega⟩) (by omega)
  omega
theorem near_bd {R C c : Int} (c1 : 1 ≤ C) : ∀ z ∈ near R C c, 0 ≤ z ∧ z < R * C := by
  intro z hz
  obtain ⟨a, ha, rfl⟩ := mem_near.1 hz
  exact nb_bd (mem_dirs.1 ha).2 c1
theorem to_bd {R C most : Int} {hs l o : List Int} (c1 : 1 ≤ C) (ho : ∀ z ∈ o, 0 ≤ z ∧ z < R * C) : ∀ z ∈ growTo R C hs most l o, 0 ≤ z ∧ z < R * C := by
  intro z hz
  rcases (mem_to l o z).1 hz with h | ⟨c, _, h, _⟩
  · exact ho z h
  · exact near_bd c1 z h
theorem one_bd {R C most c : Int} {hs o l : List Int} (hl : ∀ z ∈ l, 0 ≤ z ∧ z < R * C) (ho : ∀ z ∈ o, 0 ≤ z ∧ z < R * C) : ∀ z ∈ growOne hs most c l o, 0 ≤ z ∧ z < R * C := by
  intro z hz
  rcases (mem_one l o z).1 hz with h | ⟨h, _⟩
  · exact ho z h
  · exact hl z h
theorem l00Max_g (a b : Int) (w : World) : Calls Try.prog 76 #[.int .i64 a, .int .i64 b] w fun e w' => e = .returned (.int .i64 (max a b)) ∧ w = w' := by
  by_cases h : b < a
  · go_enter Try.func76, Try.ntmps76
    go_wp2
    go_ret
    exact ⟨ret_int (by omega), rfl⟩
  · go_enter Try.func76, Try.ntmps76
    go_wp2
    all_goals go_ret
    all_goals exact ⟨ret_int (by omega), rfl⟩
set_option maxRecDepth 100000 in
set_option maxHeartbeats 400000 in
theorem l00Own_any (a : Addr) (n c : Nat) (xs : List Int) (w : World) (h : Ints w (some a) n xs) (hn : n ≤ 1048576) :
    Calls Try.prog 75 #[.slice (some a) n c] w fun e w' => SlI 2 w xs e w' := by
  have hl := h.1
  have HL := Lib.hid hl
  have HC := Lib.hid (h.below ((Below.refl _ _).alloc (Nat.le_refl _) (.cells #[] 2))).cells
  have hown := World.ownsRow_lit (base := w.heap.size) (e := 2) (size := 1) w #[] 0 (Nat.le_refl _) (by simp) rfl
  obtain ⟨i0, hi, hz0, hz1, hz2⟩ := info_parts info_int
  have HO := Lib.hid hown
  clear hown hl
  go_enter Try.func75, Try.ntmps75
  go_wp2_with (at_builtin; refine wpList_append_own _ rfl _ _ 22 rfl w.heap.size 2 i0 (.int .i64 0) 1 8 Try.underlying22 hi hz0 hz1 hz2 rfl (by decide) _ 0 [] rfl HO.out a n c (xs.map (.int .i64)) rfl (by simp [HL.out]) HC.out (ints_one _) (by unfold maxLen; omega) (by omega) (by simp) ?_; intro v' w1 hown1 hgrow1 hv1)
  go_ret
  obtain ⟨A', c', rfl, _⟩ := own_form hown1
  rw [Nat.zero_add, List.nil_append, ← HL.out] at hown1
  exact ⟨A', c', by rw [HL.out, Nat.zero_add]; rfl, Fresh.of_own hown1, ((Below.refl _ _).alloc (Nat.le_refl _) _).grown hgrow1 (by simp) (fun k hk => (HO.out.lt k hk).1)⟩
set_option maxRecDepth 100000 in
set_option maxHeartbeats 1600000 in
theorem GrowCells_s (R C S : Int) (A : Option Addr) (n c : Nat) (B : Addr) (m d : Nat) (most : Int) (hs xs : List Int) (w : World) (h : GridA w R C S A n hs) (h' : Ints w (some B) m xs) (hm2 : m ≤ 1048576) :
    Calls Try.prog 36 #[.agg #[.int .i64 R, .int .i64 C, .int .i64 S, .slice A n c], .slice (some B) m d, .int .i64 most] w fun e w' => ResI 2 w (cellsR (growC R C S hs xs most) n (growP R C hs xs most)) (growC R C S hs xs most) e w' := by
  have hl := h.1.1
  have hlx := h'.1
  have B0 := (Below.refl w.heap.size w).alloc (Nat.le_refl _) (.cells #[.int .i64 R, .int .i64 C, .int .i64 S, .slice A n c] 28)
  have HI := Lib.hid (And.intro (h.box (c := c) 28) (And.intro (h'.below B0) (And.intro B0 (boxG_of w R C S A n c 28))))
  clear h h' B0
  cases hv : gridOk R C S hs
  · have HE := Lib.hid (show growC R C S hs xs most = 1 by simp [growC, hv])
    have HX := Lib.hid hv
    rw [HE.out, cellsR_no (by omega)]
    clear hv hl hlx
    go_enter Try.func36, Try.ntmps36
    go_wp2_with fail
    refine (l09Ok_any _ _ _ _ _ _ _ hs _ HI.out.1).mono ?_
    rintro e w1 ⟨rfl, q1, rfl⟩
    rw [HX.out]
    go_wp2_with fail
    go_ret2
    exact ResI.nil (below_drewN HI.out.2.2.1 _)
  · have HX := Lib.hid hv
    cases h1 : inB most 0 5000
    · have HE := Lib.hid (show growC R C S hs xs most = 2 by simp [growC, hv, h1])
      rw [HE.out, cellsR_no (by omega)]
      clear hv hl hlx
      go_enter Try.func36, Try.ntmps36
      go_wp2_with fail
      refine (l09Ok_any _ _ _ _ _ _ _ hs _ HI.out.1).mono ?_
      rintro e w1 ⟨rfl, q1, rfl⟩
      rw [HX.out]
      go_wp2_with ((go_at_call 50; refine (l00In_any _ _ _ _).mono ?_; rintro e w' ⟨rfl, rfl⟩))
      go_ret2
      exact ResI.nil (below_drewN HI.out.2.2.1 _)
    · cases h2 : risesB xs 0 (R * C - 1)
      · have HE := Lib.hid (show growC R C S hs xs most = 7 by simp [growC, hv, h1, h2])
        have H2 := Lib.hid h2
        rw [HE.out, cellsR_no (by omega)]
        clear hv hl h2 hlx
        go_enter Try.func36, Try.ntmps36
        go_wp2_with fail
        refine (l09Ok_any _ _ _ _ _ _ _ hs _ HI.out.1).mono ?_
        rintro e w1 ⟨rfl, q1, rfl⟩
        rw [HX.out]
        go_wp2_with ((go_at_call 50; refine (l00In_any _ _ _ _).mono ?_; rintro e w' ⟨rfl, rfl⟩))
        refine (l11Cells_any _ _ _ _ _ _ _ _ _ _ hs xs _ (HI.out.1.drewN q1) (HI.out.2.1.drewN q1) HX.out).mono ?_
        rintro e w2 ⟨rfl, q2, rfl⟩
        rw [H2.out]
        go_wp2_with fail
        go_ret2
        exact ResI.nil (below_drewN HI.out.2.2.1 _)
      · have HE := Lib.hid (show growC R C S hs xs most = 0 by simp [growC, hv, h1, h2])
        have H2 := Lib.hid h2
        obtain ⟨⟨r1, r2⟩, ⟨c1, c2⟩, ⟨s1, s2⟩, hn, hall⟩ := gridOk_iff.1 hv
        have hmm := mul64 r1 r2 c1 c2
        rw [hl] at hn
        have h64 : n ≤ 64 := by omega
        have hm64 := rises_len h2 (by omega)
        rw [hlx] at hm64
        have bmost := inB_iff.1 h1
        have HA := Lib.hid (And.intro hl (And.intro hlx (And.intro hn (And.intro hall (And.intro (rises_iff.1 h2).1 (rises_iff.1 h2).2)))))
        rw [HE.out, cellsR_yes rfl]
        clear hv hl h2 hlx hn hall
        go_enter Try.func36, Try.ntmps36
        go_wp2_with fail
        refine (l09Ok_any _ _ _ _ _ _ _ hs _ HI.out.1).mono ?_
        rintro e w1 ⟨rfl, q1, rfl⟩
        rw [HX.out]
        go_wp2_with ((go_at_call 50; refine (l00In_any _ _ _ _).mono ?_; rintro e w' ⟨rfl, rfl⟩))
        refine (l11Cells_any _ _ _ _ _ _ _ _ _ _ hs xs _ (HI.out.1.drewN q1) (HI.out.2.1.drewN q1) HX.out).mono ?_
        rintro e w2 ⟨rfl, q2, rfl⟩
        rw [H2.out]
        go_wp2_with fail
        refine (l00Own_any _ _ _ xs _ (HI.out.2.1.drewN _) hm2).mono ?_
        rintro e w3 ⟨A3, c3, rfl, hf3, hb3⟩
        have BQ := below_drewN HI.out.2.2.1 (q1 + q2)
        have BQ2 := below_drewN (Below.refl (w.alloc (.cells #[.int .i64 R, .int .i64 C, .int .i64 S, .slice A n c] 28)).heap.size (w.alloc (.cells #[.int .i64 R, .int .i64 C, .int .i64 S, .slice A n c] 28))) (q1 + q2)
        have HB := Lib.hid (And.intro (BQ.trans (hb3.mono BQ.size)) (And.intro ((HI.out.2.2.2.below BQ2).below hb3) (And.intro ((HI.out.1.2.2.2.2.1.below BQ2).below hb3) ((HI.out.2.1.below BQ2).below hb3))))
        have HF3 := Lib.hid (hf3.base BQ.size)
        clear hf3 hb3 BQ BQ2
        go_wp2_with fail
        go_loopw [8, 9] (fun o i wr => ∃ (k : Nat) (A' : Option Addr) (c' : Nat) (O : List Int), k ≤ m ∧ i = .int .i64 k ∧ o = .slice A' O.length c' ∧ Hid (O = growTo R C hs most (xs.take k) xs) ∧ Below w3.heap.size w3 wr ∧ Fresh wr w.heap.size 2 1 A' O.length c' (O.map (.int .i64))) (fun _ i _ => m - (intOf i).toNat)
        case atStart => exact ⟨0, A3, c3, xs, Nat.zero_le _, rfl, rfl, by unfold growTo; rfl, Below.refl _ _, HF3.out⟩
        case round =>
          obtain ⟨k, A', c', O, hk, rfl, rfl, HO, hbl, hfr⟩ := hrel
          have xbd : ∀ z ∈ xs, 0 ≤ z ∧ z < R * C := fun z hz => by
            obtain ⟨j, hj⟩ := List.mem_iff_getElem?.1 hz
            have := allB_iff.1 HA.out.2.2.2.2.2 j z hj
            omega
          have XBD := Lib.hid xbd
          clear xbd
          by_cases hlt : k < m
          · obtain ⟨bx, ox, cc, hBA, HC, hcc, _⟩ := (HB.out.2.2.2.below hbl).at_ hlt
            injection hBA with hBA
            subst hBA
            have hcb := XBD.out cc (List.mem_of_getElem? HC.out)
            obtain ⟨K, hK⟩ : ∃ K : Nat, cc = (K : Int) := ⟨cc.toNat, by omega⟩
            subst hK
            have hKn : K < n := by have := HA.out.2.2.1; omega
            have hki : (k : Int) < (m : Int) := by omega
            have HBL := Lib.hid (And.intro hbl hfr)
            have hg := HB.out.2.1.below hbl
            clear hbl hfr
            go_wp2_with fail
            refine (l09Near_any _ R C S A n c K _ hg r1 r2 c1 c2 hKn h64).mono ?_
            rintro e w4 ⟨A4, c4, rfl, hf4, hb4⟩
            have hnl := nearTo_len R C K 8
            have HNI := Lib.hid (show Ints w4 A4 (near R C K).length (near R C K) by
              rcases Nat.eq_zero_or_pos (near R C K).length with h0 | h0
              · have e0 : near R C K = [] := List.length_eq_zero_iff.1 h0
                rw [e0]
                exact Ints.nil _ _
              · exact Ints.of_own (hf4.2 h0) (nearTo_bd c1 (Nat.le_refl _) hmm.2))
            have HB4 := Lib.hid (And.intro (HBL.out.1.trans (hb4.mono HBL.out.1.size)) (HBL.out.2.below hb4))
            clear hf4 hb4 hg
            obtain ⟨L, hL⟩ : ∃ L, L = near R C K := ⟨_, rfl⟩
            have hLl : L.length ≤ 8 := by rw [hL]; exact hnl
            rw [← hL] at HNI ⊢
            have HLE := Lib.hid hL
            clear hL hnl
            go_wp2_with fail
            go_loopw [8, 11] (fun o i wr => ∃ (j : Nat) (A5 : Option Addr) (c5 : Nat) (O5 : List Int), j ≤ L.length ∧ i = .int .i64 j ∧ o = .slice A5 O5.length c5 ∧ Hid (O5 = growOne hs most K (L.take j) O) ∧ Below w4.heap.size w4 wr ∧ Fresh wr w.heap.size 2 1 A5 O5.length c5 (O5.map (.int .i64))) (fun _ i _ => L.length - (intOf i).toNat)
            case atStart => exact ⟨0, A', c', O, Nat.zero_le _, rfl, rfl, by unfold growOne; rfl, Below.refl _ _, HB4.out.2⟩
            case round =>
              obtain ⟨j, A5, c5, O5, hj, rfl, rfl, HO5, hbl5, hfr5⟩ := hrel
              have HBW := Lib.hid (HB4.out.1.trans (hbl5.mono HB4.out.1.size))
              have HFR := Lib.hid (And.intro hbl5 hfr5)
              by_cases hjl : j < L.length
              · obtain ⟨bn, on, z, rfl, HZ, hcz, _⟩ := (HNI.out.below hbl5).at_ hjl
                have hzn : z ∈ near R C K := by have := List.mem_of_getElem? HZ.out; rw [HLE.out] at this; exact this
                have hzb := near_bd c1 z hzn
                obtain ⟨M, hM⟩ : ∃ M : Nat, z = (M : Int) := ⟨z.toNat, by omega⟩
                subst hM
                have hMn : M < n := by have := HA.out.2.2.1; omega
                have hints := HB.out.2.2.1.below HBW.out
                obtain ⟨b, off, xk, rfl, HXk, hck, _⟩ := hints.at_ hKn
                obtain ⟨b', off', xM, hA', HXM, hcM, _⟩ := hints.at_ hMn
                injection hA' with hA'
                injection hA' with hb' ho' _
                subst hb' ho'
                have bk := allB_iff.1 HA.out.2.2.2.1 _ _ HXk.out
                have bM := allB_iff.1 HA.out.2.2.2.1 _ _ HXM.out
                obtain ⟨bx2, ox2, K2, hA2, HC2, hcc2, _⟩ := (HB.out.2.2.2.below HBW.out).at_ hlt
                injection hA2 with hA2
                injection hA2 with hb2 ho2 _
                subst hb2 ho2
                have hK2 : K2 = (K : Int) := by have := HC2.out.symm.trans HC.out; injection this
                subst hK2
                obtain ⟨p0, p1, p2, p3⟩ := HB.out.2.1.below HBW.out
                have hji : (j : Int) < (L.length : Int) := by omega
                have hkI : (K : Int) < (n : Int) := by omega
                have hMI : (M : Int) < (n : Int) := by omega
                have hw1 : IntKind.i64.wrap (xM - xk) = xM - xk := IntWalk.i64_in _ (by omega)
                have HN := Lib.hid (show nearly hs most (K : Int) (M : Int) = decide (absI (xM - xk) ≤ most) by unfold nearly; rw [hg_eq HXk.out, hg_eq HXM.out])
                have HST := Lib.hid (growOne_snoc (hs := hs) (most := most) (c := (K : Int)) (o := O) HZ.out)
                have HMX := Lib.hid (absI_max (xM - xk))
                have obd : ∀ z ∈ O5, 0 ≤ z ∧ z < R * C := by
                  rw [HO5.out, HO.out]
                  exact one_bd (fun z hz => near_bd c1 z (by rw [← HLE.out]; exact List.mem_of_mem_take hz)) (to_bd c1 XBD.out)
                have opw : O5.Pairwise (· < ·) := by
                  rw [HO5.out, HO.out]
                  exact pw_one _ (pw_to _ (pw_inc HA.out.2.2.2.2.1))
                have olen := pw_len opw obd (by omega)
                have HOB := Lib.hid (And.intro obd opw)
                have HI5 := Lib.hid (hfr5.ints fun z hz => by have := obd z hz; omega)
                clear obd opw hzn hzb hints hbl5 hfr5
                by_cases hnr : absI (xM - xk) ≤ most
                · have HS := Lib.hid (show growOne hs most K (L.take (j + 1)) O = putL O5 (M : Int) by rw [HST.out, HN.out, if_pos (by simpa using hnr), HO5.out])
                  go_wp2_with fail
                  go_quiet (fail)
                  clear hw1
                  go_wp2_with fail
                  refine (l00Max_g _ _ _).mono ?_
                  rintro e w5 ⟨rfl, rfl⟩
                  rw [HMX.out]
                  go_wp2_with fail
                  refine (l00Put_any _ _ _ (M : Int) O5 _ (HI5.out.drewN nq) (by omega)).mono ?_
                  rintro e w5 ⟨A6, c6, rfl, hf6, hb6⟩
                  have hwz := (HB.out.1.trans (HBW.out.mono HB.out.1.size)).size
                  have HF6 := Lib.hid (And.intro ((below_drewN HFR.out.1 nq).trans (hb6.mono (below_drewN HFR.out.1 nq).size)) (hf6.base hwz))
                  clear hf6 hb6
                  go_wp2_with fail
                  go_roundw
                  case rel => exact ⟨j + 1, A6, c6, putL O5 (M : Int), by omega, by go_num, rfl, HS.out.symm, HF6.out.1, HF6.out.2⟩
                  case measure => simp [intOf]; omega
                · have HS := Lib.hid (show growOne hs most K (L.take (j + 1)) O = O5 by rw [HST.out, HN.out, if_neg (by simpa using hnr), HO5.out])
                  go_wp2_with fail
                  go_quiet (fail)
                  clear hw1
                  go_wp2_with fail
                  refine (l00Max_g _ _ _).mono ?_
                  rintro e w5 ⟨rfl, rfl⟩
                  rw [HMX.out]
                  go_wp2_with fail
                  go_roundw
                  case rel => exact ⟨j + 1, A5, c5, O5, by omega, by go_num, rfl, HS.out.symm, below_drewN HFR.out.1 _, HFR.out.2⟩
                  case measure => simp [intOf]; omega
              · obtain rfl : j = L.length := by omega
                have HS := Lib.hid (show O5 = growTo R C hs most (xs.take (k + 1)) xs by rw [growTo_snoc HC.out, ← HLE.out, ← HO.out, HO5.out, List.take_of_length_le (Nat.le_refl _)])
                clear hjl hbl5 hfr5
                go_wp2_with fail
                go_roundw
                case rel => exact ⟨k + 1, A5, c5, O5, by omega, by go_num, rfl, HS.out, HBW.out, HFR.out.2⟩
                case measure => simp [intOf]; omega
          · obtain rfl : k = m := by omega
            have HS := Lib.hid (show cellsB n (growP R C hs xs most) = O by
              rw [HO.out, List.take_of_length_le (by rw [HA.out.2.1]; omega)]
              exact (grow_link c1 HA.out.2.2.1 HA.out.2.2.2.2.1 HA.out.2.2.2.2.2).symm)
            have HF := Lib.hid (And.intro (HB.out.1.trans (hbl.mono HB.out.1.size)) hfr)
            clear hlt hbl hfr
            go_wp2_with fail
            go_ret2
            rw [HS.out]
            exact ResI.of HF.out.2 (Nat.le_refl _) HF.out.1
end Go.Proofs.Ytmcaokbnbbmhhaa
