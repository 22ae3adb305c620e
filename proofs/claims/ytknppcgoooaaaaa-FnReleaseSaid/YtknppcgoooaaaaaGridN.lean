/-
  The steps to the cells around a cell: the program's list of them.
-/
import Derived.Test.YtknppcgoooaaaaaGridW
namespace Go.Proofs.Ytknppcgoooaaaaa
open Go.ChangeShapes Go.WideShapes Go.ChangeAt Go.RowKit Go.Deep
set_option linter.unusedVariables false

/-- The cells of memory of a step in a direction: cell, direction, slope. -/
def stepCells (C S : Int) (hs : List Int) (k : Int) (a : Nat) : List Value := [.int .i64 (nbAt C k a), .int .i64 a, .int .i64 (fallAt C S hs k a)]
def stepsOf (C S : Int) (hs : List Int) (k : Int) (l : List Nat) : List Value := l.flatMap (stepCells C S hs k)
theorem stepsOf_len (C S : Int) (hs : List Int) (k : Int) (l : List Nat) : (stepsOf C S hs k l).length = l.length * 3 := by
  induction l with
  | nil => simp [stepsOf]
  | cons a t ih =>
    unfold stepsOf at ih ⊢
    rw [List.flatMap_cons, List.length_append, ih]
    simp [stepCells]
    omega
theorem stepsOf_snoc (C S : Int) (hs : List Int) (k : Int) (l : List Nat) (a : Nat) : stepsOf C S hs k (l ++ [a]) = stepsOf C S hs k l ++ stepCells C S hs k a := by simp [stepsOf]
theorem info_step : (Try.prog.info? 53).map (fun i => (i.zero, i.size, i.bytes)) = some (some (.agg #[.int .i64 0, .int .i64 0, .int .i64 0]), 3, 24) := by kernel_rfl
set_option maxRecDepth 100000 in
theorem next_ix {a : Nat} (h : a < 8) (W : World) : (Instr.index 82 (.agg #[.int .i64 (-1), .int .i64 0, .int .i64 (-1), .int .i64 1, .int .i64 0, .int .i64 1, .int .i64 1, .int .i64 1, .int .i64 1, .int .i64 0, .int .i64 1, .int .i64 (-1), .int .i64 0, .int .i64 (-1), .int .i64 (-1), .int .i64 (-1)]) (.int .i64 (a : Int))).run Try.prog W =
    .ok (.agg #[.int .i64 (dirR a), .int .i64 (dirC a)]) W := by
  rcases lt8 h with rfl | rfl | rfl | rfl | rfl | rfl | rfl | rfl <;> rfl
set_option maxRecDepth 100000 in
set_option maxHeartbeats 800000 in
theorem next_any (R C S : Int) (A : Option Addr) (n c : Nat) (k : Nat) (hs : List Int) (w : World) (h : GridA w R C S A n hs) (hv : gridOk R C S hs = true) (hk : k < n) :
    Calls Try.prog 37 #[.agg #[.int .i64 R, .int .i64 C, .int .i64 S, .slice A n c], .int .i64 k] w fun e w' => ∃ A' c', e = .returned (.slice A' (dirs R C k).length c') ∧
      w'.ownsRow w.heap.size 53 3 (.slice A' (dirs R C k).length c') (dirs R C k).length (stepsOf C S hs k (dirs R C k)) ∧ Below w.heap.size w w' := by
  have hl := h.1.1
  obtain ⟨⟨r1, r2⟩, ⟨c1, c2⟩, ⟨s1, s2⟩, hn, hall⟩ := gridOk_iff.1 hv
  have hm := mul64 r1 r2 c1 c2
  have h64 : n ≤ 64 := by omega
  have B0 := (Below.refl w.heap.size w).alloc (Nat.le_refl _) (.cells #[.int .i64 R, .int .i64 C, .int .i64 S, .slice A n c] 26)
  have hg0 := boxG_of w R C S A n c 26
  have hi0 := h.1.below B0
  have hown0 : (w.alloc (.cells #[.int .i64 R, .int .i64 C, .int .i64 S, .slice A n c] 26)).ownsRow (w.heap.size + 1) 53 3 (.slice none 0 0) (dirsTo R C k 0).length (stepsOf C S hs k (dirsTo R C k 0)) := ⟨by simp [dirsTo, stepsOf], .inl ⟨rfl, by simp [dirsTo]⟩⟩
  have HW := Lib.hid h
  have HA := Lib.hid (And.intro hl (And.intro hn (And.intro hall hv)))
  clear h hl hn hall hv
  go_enter Try.func37, Try.ntmps37
  go_wp2_with fail
  go_loopw [5, 21] (fun o i wr => ∃ a : Nat, a ≤ 8 ∧ i = .int .i64 a ∧ Below w.heap.size w wr ∧ w.heap.size + 1 ≤ wr.heap.size ∧ BoxG wr w.heap.size R C S A n c ∧ Ints wr A n hs ∧ wr.ownsRow (w.heap.size + 1) 53 3 o (dirsTo R C k a).length (stepsOf C S hs k (dirsTo R C k a))) (fun _ i _ => 8 - (intOf i).toNat)
  case atStart => exact ⟨0, Nat.zero_le _, rfl, B0, by simp, hg0, hi0, hown0⟩
  case round =>
    clear B0 hg0 hi0 hown0
    obtain ⟨a, ha, rfl, hbl, hz, hg, hx, hown⟩ := hrel
    obtain ⟨A', c', rfl, _⟩ := own_form hown
    by_cases hlt : a < 8
    · have HO := Lib.hid (And.intro hbl (And.intro hz (And.intro hg (And.intro hx hown))))
      obtain ⟨p0, p1, p2, p3⟩ := hg
      clear hown hbl hz hx
      have hix := fun W => next_ix hlt W
      have hai : (a : Int) < 8 := by omega
      have hd := dir_bd a
      go_wp2_with fail
      clear hix
      have hzz : w.heap.size < wr.heap.size := HO.out.2.1
      have hq0 : (k : Int).tdiv C = k / C := Int.tdiv_eq_ediv_of_nonneg (by omega)
      have hq1 : (k : Int).tmod C = k % C := Int.tmod_eq_emod_of_nonneg (by omega)
      have hrc := nb_rc (C := C) (k := k) (n := n) (a := a) (by omega) (by omega) (by omega) (by omega) (by omega)
      have hC0 : ¬ C = 0 := by omega
      have HD := Lib.hid (And.intro hai hd)
      go_quiet (fail)
      clear hq0 hq1 hC0 hai hd
      go_wp2_with fail
      have e1 : wrap64 (wrap64 ((k : Int) / C) + dirR a) = nbR C k a := by
        have h1 := Int.ediv_nonneg (show (0 : Int) ≤ k by omega) (show 0 ≤ C by omega)
        have h2 := Int.ediv_le_self C (show (0 : Int) ≤ k by omega)
        rw [show wrap64 ((k : Int) / C) = (k : Int) / C from IntWalk.wrap64_in _ (by omega)]
        exact IntWalk.wrap64_in _ (by have := HD.out.2; unfold nbR at hrc; omega)
      have e2 : wrap64 ((k : Int) % C + dirC a) = nbC C k a := IntWalk.wrap64_in _ (by have := HD.out.2; unfold nbC at hrc; omega)
      rw [e1, e2]
      clear e1 e2
      obtain ⟨r, hr⟩ : ∃ r, r = nbR C k a := ⟨_, rfl⟩
      obtain ⟨q, hq⟩ : ∃ q, q = nbC C k a := ⟨_, rfl⟩
      have HRQ := Lib.hid (And.intro hr hq)
      rw [← hr, ← hq] at hrc ⊢
      have hok : nbOk R C k a = (inB r 0 (R - 1) && inB q 0 (C - 1)) := by rw [hr, hq]; rfl
      have HOK := Lib.hid hok
      clear hr hq hok
      have hb1 := (Below.refl wr.heap.size wr).alloc (Nat.le_refl _) (.cells #[.int .i64 (dirR a), .int .i64 (dirC a)] 81)
      cases h1 : inB r 0 (R - 1)
      · have HN := Lib.hid (show nbOk R C k a = false by rw [HOK.out, h1]; rfl)
        have HB := Lib.hid (below_drewN hb1 nq)
        clear hb1
        go_wp2_with ((go_at_call 27; refine (within_any _ _ _ _).mono ?_; rintro e w' ⟨rfl, rfl⟩))
        go_roundw
        case rel => exact ⟨a + 1, by omega, by go_num, HO.out.1.trans (HB.out.mono HO.out.1.size), Nat.le_trans HO.out.2.1 HB.out.size, HO.out.2.2.1.below HB.out, HO.out.2.2.2.1.below HB.out, by rw [dirsTo_no HN.out]; exact own_below HO.out.2.2.2.2 HB.out⟩
        case measure => simp [intOf]; omega
      · cases h2 : inB q 0 (C - 1)
        · have HN := Lib.hid (show nbOk R C k a = false by rw [HOK.out, h1, h2]; rfl)
          have HB := Lib.hid (below_drewN hb1 nq)
          clear hb1
          go_wp2_with ((go_at_call 27; refine (within_any _ _ _ _).mono ?_; rintro e w' ⟨rfl, rfl⟩))
          go_roundw
          case rel => exact ⟨a + 1, by omega, by go_num, HO.out.1.trans (HB.out.mono HO.out.1.size), Nat.le_trans HO.out.2.1 HB.out.size, HO.out.2.2.1.below HB.out, HO.out.2.2.2.1.below HB.out, by rw [dirsTo_no HN.out]; exact own_below HO.out.2.2.2.2 HB.out⟩
          case measure => simp [intOf]; omega
        · have HY := Lib.hid (show nbOk R C k a = true by rw [HOK.out, h1, h2]; rfl)
          have i1 := inB_iff.1 h1
          have i2 := inB_iff.1 h2
          have m1 : 0 ≤ r * C := Int.mul_nonneg (by omega) (by omega)
          have m2 : r * C ≤ 7 * 8 := Int.mul_le_mul (by omega) (by omega) (by omega) (by omega)
          have hnb := nb_bd HY.out (by omega)
          obtain ⟨M, hM⟩ : ∃ M : Nat, (M : Int) = r * C + q := ⟨(r * C + q).toNat, by omega⟩
          have hMe : nbAt C k a = (M : Int) := by rw [hM, HRQ.out.1, HRQ.out.2]; rfl
          rw [hMe, ← HA.out.2.1, HA.out.1] at hnb
          have hMn : M < n := by omega
          obtain ⟨b, off, xk, rfl, HXk, hck, _⟩ := HO.out.2.2.2.1.at_ hk
          obtain ⟨b', off', xM, hA', HXM, hcM, _⟩ := HO.out.2.2.2.1.at_ hMn
          injection hA' with hA'
          injection hA' with hb' ho' _
          subst hb' ho'
          have bk := allB_iff.1 HA.out.2.2.1 _ _ HXk.out
          have bM := allB_iff.1 HA.out.2.2.1 _ _ HXM.out
          have HV := Lib.hid (And.intro hMe (And.intro (hg_eq HXk.out) (hg_eq HXM.out)))
          clear hMe hnb
          have hbw : b < wr.heap.size := cell_lt hck
          have HB := Lib.hid ((below_drewN hb1 nq).alloc (below_drewN hb1 nq).size (.cells #[.int .i64 (M : Int), .int .i64 a, .int .i64 0] 53))
          clear hb1
          go_wp2_with ((go_at_call 27; refine (within_any _ _ _ _).mono ?_; rintro e w' ⟨rfl, rfl⟩))
          rw [← hM]
          have HM := Lib.hid hM
          clear hM
          have hkI : (k : Int) < (n : Int) := by omega
          have hMI : (M : Int) < (n : Int) := by omega
          have hw1 : IntKind.i64.wrap (xk - xM) = xk - xM := IntWalk.i64_in _ (by omega)
          go_quiet (fail)
          clear hw1
          have hdl : (dirsTo R C k a).length ≤ 8 := by
            have := List.length_filter_le (nbOk R C k) (List.range a)
            rw [List.length_range] at this
            unfold dirsTo
            omega
          rcases Nat.mod_two_eq_zero_or_one a with hpa | hpa
          · have hpI : ((a : Int) % 2 == 0) = true := by simp; omega
            have HP := Lib.hid hpa
            clear hpa
            go_wp2_with (first | ((go_at_call 50; refine (divRound_any _ _ _ (by omega) (by omega) (by omega) (by omega)).mono ?_; rintro e w' ⟨rfl, nd, rfl⟩)) | (at_builtin; go_loud (refine wp_app rfl (.tmp 89) (.tmp 91) 70 rfl (w.heap.size + 1) 53 (.agg #[.int .i64 0, .int .i64 0, .int .i64 0]) 3 24 Try.underlying70 info_step rfl (by omega) _ _ (stepsOf C S hs k (dirsTo R C k a)) rfl (own_below HO.out.2.2.2.2 ((below_drewN HB.out _).setCell (by simp) _)) [.int .i64 (M : Int), .int .i64 a, .int .i64 (divN (1000 * (xk - xM)) S)] rfl (by show (Value.slice (some ⟨wr.heap.size + 1 + 1, 0, none⟩) 1 1 : Value) = _; simp [World.setCell]) (by intro u hu; simp at hu; rcases hu with rfl | rfl | rfl <;> rfl) (by unfold maxLen; omega) (by omega) (by simp [World.setCell]; omega) ?_); intro v' w3 hown3 hgrow3 hv3))
            have HT := Lib.hid ((below_drewN HB.out (nq + nd)).setCell (p := ⟨wr.heap.size + 1, 2, none⟩) (by simp) (.int .i64 (divN (1000 * (xk - xM)) S)))
            obtain ⟨g, cc, rfl⟩ := hv3
            have HBs := Lib.hid (own_blk (own_below HO.out.2.2.2.2 HT.out))
            have hs4 := HT.out.size
            have HF := Lib.hid (And.intro ((HO.out.1.trans (HT.out.mono HO.out.1.size)).grown hgrow3 (HO.out.1.trans (HT.out.mono HO.out.1.size)).size (fun g h => Nat.le_of_succ_le (HBs.out g h))) (And.intro (Nat.le_trans (Nat.le_trans HO.out.2.1 HT.out.size) hgrow3.size) (And.intro ((HO.out.2.2.1.below HT.out).grow hgrow3 (fun g h e => by have := HBs.out g h; omega)) (And.intro ((HO.out.2.2.2.1.below HT.out).old hgrow3 HW.out.1 (fun g h => Nat.le_of_succ_le (HBs.out g h))) hown3))))
            have HS := Lib.hid (show stepsOf C S hs k (dirsTo R C k (a + 1)) = stepsOf C S hs k (dirsTo R C k a) ++ [.int .i64 (M : Int), .int .i64 a, .int .i64 (divN (1000 * (xk - xM)) S)] ∧ (dirsTo R C k (a + 1)).length = (dirsTo R C k a).length + 1 by
              rw [dirsTo_yes HY.out, stepsOf_snoc]
              refine ⟨?_, by simp⟩
              congr 1
              simp only [stepCells, fallAt, HV.out.1, HV.out.2.1, HV.out.2.2, HP.out]
              rfl)
            clear hown3 hgrow3
            go_wp2_with fail
            go_roundw
            case rel => exact ⟨a + 1, by omega, by go_num, HF.out.1, HF.out.2.1, HF.out.2.2.1, HF.out.2.2.2.1, by rw [HS.out.1, HS.out.2]; exact HF.out.2.2.2.2⟩
            case measure => simp [intOf]; omega
          · have hpI : ((a : Int) % 2 == 0) = false := by simp; omega
            have HP := Lib.hid hpa
            clear hpa
            go_wp2_with (first | ((go_at_call 50; refine (divRound_any _ _ _ (by omega) (by omega) (by omega) (by omega)).mono ?_; rintro e w' ⟨rfl, nd, rfl⟩)) | (at_builtin; go_loud (refine wp_app rfl (.tmp 89) (.tmp 91) 70 rfl (w.heap.size + 1) 53 (.agg #[.int .i64 0, .int .i64 0, .int .i64 0]) 3 24 Try.underlying70 info_step rfl (by omega) _ _ (stepsOf C S hs k (dirsTo R C k a)) rfl (own_below HO.out.2.2.2.2 ((below_drewN HB.out _).setCell (by simp) _)) [.int .i64 (M : Int), .int .i64 a, .int .i64 (divN (1000000 * (xk - xM)) (1414 * S))] rfl (by show (Value.slice (some ⟨wr.heap.size + 1 + 1, 0, none⟩) 1 1 : Value) = _; simp [World.setCell]) (by intro u hu; simp at hu; rcases hu with rfl | rfl | rfl <;> rfl) (by unfold maxLen; omega) (by omega) (by simp [World.setCell]; omega) ?_); intro v' w3 hown3 hgrow3 hv3))
            have HT := Lib.hid ((below_drewN HB.out (nq + nd)).setCell (p := ⟨wr.heap.size + 1, 2, none⟩) (by simp) (.int .i64 (divN (1000000 * (xk - xM)) (1414 * S))))
            obtain ⟨g, cc, rfl⟩ := hv3
            have HBs := Lib.hid (own_blk (own_below HO.out.2.2.2.2 HT.out))
            have hs4 := HT.out.size
            have HF := Lib.hid (And.intro ((HO.out.1.trans (HT.out.mono HO.out.1.size)).grown hgrow3 (HO.out.1.trans (HT.out.mono HO.out.1.size)).size (fun g h => Nat.le_of_succ_le (HBs.out g h))) (And.intro (Nat.le_trans (Nat.le_trans HO.out.2.1 HT.out.size) hgrow3.size) (And.intro ((HO.out.2.2.1.below HT.out).grow hgrow3 (fun g h e => by have := HBs.out g h; omega)) (And.intro ((HO.out.2.2.2.1.below HT.out).old hgrow3 HW.out.1 (fun g h => Nat.le_of_succ_le (HBs.out g h))) hown3))))
            have HS := Lib.hid (show stepsOf C S hs k (dirsTo R C k (a + 1)) = stepsOf C S hs k (dirsTo R C k a) ++ [.int .i64 (M : Int), .int .i64 a, .int .i64 (divN (1000000 * (xk - xM)) (1414 * S))] ∧ (dirsTo R C k (a + 1)).length = (dirsTo R C k a).length + 1 by
              rw [dirsTo_yes HY.out, stepsOf_snoc]
              refine ⟨?_, by simp⟩
              congr 1
              simp only [stepCells, fallAt, HV.out.1, HV.out.2.1, HV.out.2.2, HP.out]
              rfl)
            clear hown3 hgrow3
            go_wp2_with fail
            go_roundw
            case rel => exact ⟨a + 1, by omega, by go_num, HF.out.1, HF.out.2.1, HF.out.2.2.1, HF.out.2.2.2.1, by rw [HS.out.1, HS.out.2]; exact HF.out.2.2.2.2⟩
            case measure => simp [intOf]; omega
    · obtain rfl : a = 8 := by omega
      have HO := Lib.hid (And.intro hbl hown)
      clear hlt hbl hown hx
      go_wp2_with fail
      go_ret
      exact ⟨A', c', rfl, own_base HO.out.2 (Nat.le_succ _), HO.out.1⟩
end Go.Proofs.Ytknppcgoooaaaaa
