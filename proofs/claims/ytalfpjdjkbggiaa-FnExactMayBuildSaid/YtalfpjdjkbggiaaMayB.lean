/-
  Where houses may be built: the greatest zone of a part of a line, against the greatest that is allowed.
-/
import Derived.Test.YtalfpjdjkbggiaaZoneX
namespace Go.Proofs.Ytalfpjdjkbggiaa
open Go.ChangeShapes Go.WideShapes Go.ChangeAt Go.RowKit Go.Deep
set_option linter.unusedVariables false

/-- All numbers of a part of a list are at most m. -/
def partB (xs : List Int) (f u : Nat) (m : Int) : Bool := ((xs.take (u + 1)).drop f).all fun x => decide (x ≤ m)
theorem partB_iff {xs : List Int} {f u : Nat} {m : Int} : partB xs f u m = true ↔ ∀ (j : Nat) (x : Int), f ≤ j → j ≤ u → xs[j]? = some x → x ≤ m := by
  unfold partB
  rw [List.all_eq_true]
  constructor
  · intro h j x h1 h2 hx
    have := h x (List.mem_iff_getElem?.2 ⟨j - f, by rw [List.getElem?_drop, List.getElem?_take, if_pos (by omega), show f + (j - f) = j by omega]; exact hx⟩)
    simpa using this
  · intro h x hx
    obtain ⟨j, hj⟩ := List.mem_iff_getElem?.1 hx
    rw [List.getElem?_drop, List.getElem?_take] at hj
    by_cases hc : f + j < u + 1
    · rw [if_pos hc] at hj
      simpa using h (f + j) x (by omega) (by omega) hj
    · rw [if_neg hc] at hj
      cases hj
theorem partB_no {xs : List Int} {f u : Nat} {m : Int} {j : Nat} {x : Int} (h1 : f ≤ j) (h2 : j ≤ u) (hx : xs[j]? = some x) (hm : m < x) : partB xs f u m = false := by
  cases hp : partB xs f u m
  · rfl
  · have := partB_iff.1 hp j x h1 h2 hx
    omega
def mayB (xs : List Int) (f u m : Int) : Bool :=
  lineB xs && (inB m 0 3 && (inB u 0 ((xs.length : Int) - 1) && (inB f 0 u && partB xs f.toNat u.toNat m)))
/-- The greatest number of a part. -/
def MaxIs (xs : List Int) (f u : Nat) (M : Int) : Prop := (∀ (j : Nat) (x : Int), f ≤ j → j ≤ u → xs[j]? = some x → x ≤ M) ∧ ∃ j : Nat, f ≤ j ∧ j ≤ u ∧ xs[j]? = some M
theorem max_part {xs : List Int} {f u : Nat} {M m : Int} (h : MaxIs xs f u M) : partB xs f u m = decide (M ≤ m) := by
  rw [Bool.eq_iff_iff, partB_iff, decide_eq_true_eq]
  constructor
  · intro hp
    obtain ⟨j, h1, h2, h3⟩ := h.2
    exact hp j M h1 h2 h3
  · intro hm j x h1 h2 hx
    have := h.1 j x h1 h2 hx
    omega
theorem part_max {xs : List Int} {f u : Nat} {M : Int} (hfu : f ≤ u) (h : MaxIs ((xs.take (u + 1)).drop f) 0 (u + 1 - f - 1) M) : MaxIs xs f u M := by
  have key : ∀ j, f ≤ j → j ≤ u → ((xs.take (u + 1)).drop f)[j - f]? = xs[j]? := fun j h1 h2 => by
    rw [List.getElem?_drop, List.getElem?_take, if_pos (by omega), show f + (j - f) = j by omega]
  refine ⟨fun j x h1 h2 hx => h.1 (j - f) x (by omega) (by omega) (by rw [key j h1 h2]; exact hx), ?_⟩
  obtain ⟨j, h1, h2, h3⟩ := h.2
  refine ⟨j + f, by omega, by omega, ?_⟩
  rw [← key (j + f) (by omega) (by omega), Nat.add_sub_cancel]
  exact h3
/-- A part of a slice of numbers. -/
theorem Ints.part {w : World} {b off n : Nat} {xs : List Int} (h : Ints w (some ⟨b, off, none⟩) n xs) {f u : Nat} (hfu : f ≤ u) (hu : u < n) : Ints w (some ⟨b, off + f, none⟩) (u + 1 - f) ((xs.take (u + 1)).drop f) := by
  obtain ⟨hl, hn, hx, hc⟩ := h
  obtain ⟨b', off', hA, hcell⟩ := hc (by omega)
  injection hA with hA
  injection hA with hb ho _
  subst hb ho
  refine ⟨by rw [List.length_drop, List.length_take]; omega, by omega, fun x hx' => hx x (List.mem_of_mem_take (List.mem_of_mem_drop hx')), fun _ => ⟨b, off + f, rfl, fun k hk => ?_⟩⟩
  rw [show off + f + k = off + (f + k) by omega, hcell (f + k) (by omega), List.getD_eq_getElem?_getD, List.getD_eq_getElem?_getD, List.getElem?_drop, List.getElem?_take, if_pos (by omega)]
theorem indexValid_i (A : Option Addr) (n c : Nat) (k : Int) (w : World) (hn : n ≤ 9223372036854775807) :
    Calls Try.prog 89 #[.slice A n c, .int .i64 k] w fun e w' => e = .returned (.bool (inB k 0 ((n : Int) - 1))) ∧ w = w' := by
  go_enter Try.func89, Try.ntmps89
  go_wp2_with ((go_at_call 55; refine (within_any _ _ _ _).mono ?_; rintro e w' ⟨rfl, rfl⟩))
  go_ret
  exact ⟨rfl, rfl⟩
theorem zoneOk_m (k : Int) (w : World) : Calls Try.prog 57 #[.int .i64 k] w fun e w' => e = .returned (.bool (inB k 0 3)) ∧ w = w' := by
  go_enter Try.func57, Try.ntmps57
  go_wp2_with ((go_at_call 55; refine (within_any _ _ _ _).mono ?_; rintro e w' ⟨rfl, rfl⟩))
  go_ret
  exact ⟨rfl, rfl⟩
theorem max_any (b off n c : Nat) (xs : List Int) (w : World) (h : Ints w (some ⟨b, off, none⟩) n xs) (h0 : 1 ≤ n) :
    Calls Try.prog 90 #[.slice (some ⟨b, off, none⟩) n c] w fun e w' => (∃ M, e = .returned (.int .i64 M) ∧ Hid (MaxIs xs 0 (n - 1) M)) ∧ ∃ q, w' = w.drewN q := by
  have HL := Lib.hid h.1
  have hn := h.2.1
  obtain ⟨b', off', x0, hA, HX0, hc0, hx0⟩ := h.at_ (k := 0) (by omega)
  injection hA with hA
  injection hA with hb ho _
  subst hb ho
  rw [Nat.add_zero] at hc0
  have hk0 : (0 : Int) < (n : Int) := by omega
  have hk1 : ¬ (n : Int) < 1 := by omega
  have hk2 : 0 < n := by omega
  go_enter Try.func90, Try.ntmps90
  go_wp2_with fail
  have HF := Lib.hid (And.intro hc0 (And.intro hk0 (And.intro hk1 hk2)))
  clear hc0 hk0 hk1 hk2
  go_loopw [3, 4] (fun m i wr => ∃ (k q : Nat) (M : Int), 1 ≤ k ∧ k ≤ n ∧ i = .int .i64 k ∧ m = .int .i64 M ∧ wr = w.drewN q ∧ (-9223372036854775808 ≤ M ∧ M ≤ 9223372036854775807) ∧ Hid (MaxIs xs 0 (k - 1) M)) (fun _ i _ => n - (intOf i).toNat)
  case atStart =>
    refine ⟨1, 0, x0, by omega, h0, rfl, rfl, rfl, hx0, ⟨fun j x h1 h2 hx => ?_, 0, by omega, by omega, HX0.out⟩⟩
    obtain rfl : j = 0 := by omega
    rw [HX0.out] at hx
    injection hx with hx
    omega
  case round =>
    obtain ⟨k, q, M, hk1, hk, rfl, rfl, rfl, hM, HM⟩ := hrel
    by_cases hlt : k < n
    · obtain ⟨b2, off2, x, hA, HX, hc, hx1, hx2⟩ := h.at_ hlt
      injection hA with hA
      injection hA with hb ho _
      subst hb ho
      have hki : (k : Int) < (n : Int) := by omega
      go_wp2_with fail
      go_roundw
      case rel =>
        refine ⟨k + 1, _, _, by omega, by omega, by go_num, rfl, rfl, by split <;> omega, ⟨fun j y h1 h2 hy => ?_, ?_⟩⟩
        · by_cases e : j = k
          · subst e
            rw [HX.out] at hy
            injection hy with hy
            split <;> omega
          · have := HM.out.1 j y h1 (by omega) hy
            split <;> omega
        · by_cases e : M < x
          · rw [if_pos e]
            exact ⟨k, by omega, by omega, HX.out⟩
          · rw [if_neg e]
            obtain ⟨j, h1, h2, h3⟩ := HM.out.2
            exact ⟨j, h1, by omega, h3⟩
      case measure => simp [intOf]; omega
    · obtain rfl : k = n := by omega
      clear hlt
      go_wp2_with fail
      go_ret
      exact ⟨⟨M, rfl, HM⟩, _, rfl⟩
set_option maxRecDepth 100000 in
set_option maxHeartbeats 800000 in
theorem MayBuild_i (A : Option Addr) (n c : Nat) (f u m : Int) (xs : List Int) (w : World) (h : Ints w A n xs) (hcap : n ≤ c) (hcm : c ≤ 1048576) (hf : -9223372036854775808 ≤ f ∧ f ≤ 9223372036854775807) (hu : -9223372036854775808 ≤ u ∧ u ≤ 9223372036854775807) :
    Calls Try.prog 47 #[.slice A n c, .int .i64 f, .int .i64 u, .int .i64 m] w fun e w' => e = .returned (.bool (mayB xs f u m)) ∧ Below w.heap.size w w' := by
  have HL := Lib.hid h.1
  have hn := h.2.1
  cases h1 : lineB xs
  · have HE := Lib.hid (show mayB xs f u m = false by simp [mayB, h1])
    go_enter Try.func47, Try.ntmps47
    go_wp2_with fail
    refine (zonesOk_any _ _ _ xs _ h).mono ?_
    rintro e w1 ⟨rfl, hb1⟩
    go_wp2_with fail
    go_ret
    exact ⟨ret_bool (by rw [HE.out]), hb1⟩
  · have H1 := Lib.hid h1
    cases h2 : inB f 0 ((n : Int) - 1)
    · have HE := Lib.hid (show mayB xs f u m = false by
        have := inB_not.1 h2
        cases e1 : inB u 0 ((xs.length : Int) - 1)
        · simp [mayB, e1]
        · have e2 := inB_iff.1 e1
          rw [HL.out] at e2
          have e3 : inB f 0 u = false := inB_not.2 (by omega)
          simp [mayB, e3])
      clear h1
      go_enter Try.func47, Try.ntmps47
      go_wp2_with fail
      refine (zonesOk_any _ _ _ xs _ h).mono ?_
      rintro e w1 ⟨rfl, hb1⟩
      rw [H1.out]
      go_wp2_with (first | (go_at_call 89; refine (indexValid_i _ _ _ _ _ hn).mono ?_; rintro e w' ⟨rfl, rfl⟩) | (go_at_call 57; refine (zoneOk_m _ _).mono ?_; rintro e w' ⟨rfl, rfl⟩))
      go_ret
      exact ⟨ret_bool (by rw [HE.out]), hb1⟩
    · cases h3 : inB u 0 ((n : Int) - 1)
      · have HE := Lib.hid (show mayB xs f u m = false by simp [mayB, HL.out, h3])
        clear h1
        go_enter Try.func47, Try.ntmps47
        go_wp2_with fail
        refine (zonesOk_any _ _ _ xs _ h).mono ?_
        rintro e w1 ⟨rfl, hb1⟩
        rw [H1.out]
        go_wp2_with (first | (go_at_call 89; refine (indexValid_i _ _ _ _ _ hn).mono ?_; rintro e w' ⟨rfl, rfl⟩) | (go_at_call 57; refine (zoneOk_m _ _).mono ?_; rintro e w' ⟨rfl, rfl⟩))
        go_ret
        exact ⟨ret_bool (by rw [HE.out]), hb1⟩
      · have b2 := inB_iff.1 h2
        have b3 := inB_iff.1 h3
        by_cases hfu : f ≤ u
        · cases h4 : inB m 0 3
          · have HE := Lib.hid (show mayB xs f u m = false by simp [mayB, h4])
            clear h1
            go_enter Try.func47, Try.ntmps47
            go_wp2_with fail
            refine (zonesOk_any _ _ _ xs _ h).mono ?_
            rintro e w1 ⟨rfl, hb1⟩
            rw [H1.out]
            go_wp2_with (first | (go_at_call 89; refine (indexValid_i _ _ _ _ _ hn).mono ?_; rintro e w' ⟨rfl, rfl⟩) | (go_at_call 57; refine (zoneOk_m _ _).mono ?_; rintro e w' ⟨rfl, rfl⟩))
            go_ret
            exact ⟨ret_bool (by rw [HE.out]), hb1⟩
          · obtain ⟨F, rfl⟩ : ∃ F : Nat, f = (F : Int) := ⟨f.toNat, by omega⟩
            obtain ⟨U, rfl⟩ : ∃ U : Nat, u = (U : Int) := ⟨u.toNat, by omega⟩
            have HE := Lib.hid (show mayB xs F U m = partB xs F U m by
              have e3 : inB (F : Int) 0 U = true := inB_iff.2 (by omega)
              simp [mayB, HL.out, h1, h3, h4, e3])
            obtain ⟨b, off, hA, _⟩ := h.2.2.2 (by omega)
            subst hA
            have HP := Lib.hid (h.part (f := F) (u := U) (by omega) (by omega))
            have hFU : F ≤ U := by omega
            have hUn : U < n := by omega
            have hdd : decide (U < F) = false := by simpa using hFU
            clear h1
            go_enter Try.func47, Try.ntmps47
            go_wp2_with fail
            refine (zonesOk_any _ _ _ xs _ h).mono ?_
            rintro e w1 ⟨rfl, hb1⟩
            rw [H1.out]
            go_wp2_with (first | (go_at_call 89; refine (indexValid_i _ _ _ _ _ hn).mono ?_; rintro e w' ⟨rfl, rfl⟩) | (go_at_call 57; refine (zoneOk_m _ _).mono ?_; rintro e w' ⟨rfl, rfl⟩))
            refine (max_any _ _ _ _ _ _ (HP.out.below hb1) (by omega)).mono ?_
            rintro e w2 ⟨⟨M, rfl, HM⟩, q, rfl⟩
            go_wp2_with fail
            go_ret
            exact ⟨ret_bool (by rw [HE.out, max_part (part_max (by omega) HM.out)]), below_drewN hb1 _⟩
        · have HE := Lib.hid (show mayB xs f u m = false by
            have e3 : inB f 0 u = false := inB_not.2 (by omega)
            simp [mayB, e3])
          clear h1
          go_enter Try.func47, Try.ntmps47
          go_wp2_with fail
          refine (zonesOk_any _ _ _ xs _ h).mono ?_
          rintro e w1 ⟨rfl, hb1⟩
          rw [H1.out]
          go_wp2_with (first | (go_at_call 89; refine (indexValid_i _ _ _ _ _ hn).mono ?_; rintro e w' ⟨rfl, rfl⟩) | (go_at_call 57; refine (zoneOk_m _ _).mono ?_; rintro e w' ⟨rfl, rfl⟩))
          go_ret
          exact ⟨ret_bool (by rw [HE.out]), hb1⟩
set_option maxRecDepth 100000 in
set_option maxHeartbeats 800000 in
theorem MayBuild_s (A : Option Addr) (n c : Nat) (f u m : Int) (xs : List Int) (w : World) (h : Ints w A n xs) (hcap : n ≤ c) (hcm : c ≤ 1048576) (hf : -9223372036854775808 ≤ f ∧ f ≤ 9223372036854775807) (hu : -9223372036854775808 ≤ u ∧ u ≤ 9223372036854775807) :
    Calls Try.prog 45 #[.slice A n c, .int .i64 f, .int .i64 u, .int .i64 m] w fun e w' => e = .returned (.bool (mayB xs f u m)) ∧ Below w.heap.size w w' := by
  have HL := Lib.hid h.1
  have hn := h.2.1
  cases h1 : lineB xs
  · have HE := Lib.hid (show mayB xs f u m = false by simp [mayB, h1])
    go_enter Try.func45, Try.ntmps45
    go_wp2_with fail
    refine (l16Line_any _ _ _ xs _ h).mono ?_
    rintro e w1 ⟨rfl, q1, rfl⟩
    go_wp2_with fail
    go_ret
    exact ⟨ret_bool (by rw [HE.out]), below_drewN (Below.refl _ _) _⟩
  · have H1 := Lib.hid h1
    clear h1
    cases h4 : inB m 0 3
    · have HE := Lib.hid (show mayB xs f u m = false by simp [mayB, h4])
      go_enter Try.func45, Try.ntmps45
      go_wp2_with fail
      refine (l16Line_any _ _ _ xs _ h).mono ?_
      rintro e w1 ⟨rfl, q1, rfl⟩
      rw [H1.out]
      go_wp2_with ((go_at_call 54; refine (l00In_any _ _ _ _).mono ?_; rintro e w' ⟨rfl, rfl⟩))
      go_ret
      exact ⟨ret_bool (by rw [HE.out]), below_drewN (Below.refl _ _) _⟩
    · cases h3 : inB u 0 ((n : Int) - 1)
      · have HE := Lib.hid (show mayB xs f u m = false by simp [mayB, HL.out, h3])
        go_enter Try.func45, Try.ntmps45
        go_wp2_with fail
        refine (l16Line_any _ _ _ xs _ h).mono ?_
        rintro e w1 ⟨rfl, q1, rfl⟩
        rw [H1.out]
        go_wp2_with ((go_at_call 54; refine (l00In_any _ _ _ _).mono ?_; rintro e w' ⟨rfl, rfl⟩))
        go_ret
        exact ⟨ret_bool (by rw [HE.out]), below_drewN (Below.refl _ _) _⟩
      · cases h2 : inB f 0 u
        · have HE := Lib.hid (show mayB xs f u m = false by simp [mayB, h2])
          go_enter Try.func45, Try.ntmps45
          go_wp2_with fail
          refine (l16Line_any _ _ _ xs _ h).mono ?_
          rintro e w1 ⟨rfl, q1, rfl⟩
          rw [H1.out]
          go_wp2_with ((go_at_call 54; refine (l00In_any _ _ _ _).mono ?_; rintro e w' ⟨rfl, rfl⟩))
          go_ret
          exact ⟨ret_bool (by rw [HE.out]), below_drewN (Below.refl _ _) _⟩
        · have HE := Lib.hid (show mayB xs f u m = partB xs f.toNat u.toNat m by simp [mayB, HL.out, H1.out, h3, h4, h2])
          have b2 := inB_iff.1 h2
          have b3 := inB_iff.1 h3
          obtain ⟨F, rfl⟩ : ∃ F : Nat, f = (F : Int) := ⟨f.toNat, by omega⟩
          obtain ⟨U, rfl⟩ : ∃ U : Nat, u = (U : Int) := ⟨u.toNat, by omega⟩
          simp only [Int.toNat_natCast] at HE
          go_enter Try.func45, Try.ntmps45
          go_wp2_with fail
          refine (l16Line_any _ _ _ xs _ h).mono ?_
          rintro e w1 ⟨rfl, q1, rfl⟩
          rw [H1.out]
          go_wp2_with ((go_at_call 54; refine (l00In_any _ _ _ _).mono ?_; rintro e w' ⟨rfl, rfl⟩))
          have HH := Lib.hid (And.intro h4 (And.intro h3 h2))
          clear h4 h3 h2
          go_loopw [9] (fun i wr => ∃ k q : Nat, F ≤ k ∧ k ≤ U + 1 ∧ i = .int .i64 k ∧ wr = w.drewN q ∧ Hid (∀ (j : Nat) (x : Int), F ≤ j → j < k → xs[j]? = some x → x ≤ m)) (fun i _ => U + 1 - (intOf i).toNat)
          case atStart => exact ⟨F, _, Nat.le_refl _, by omega, rfl, rfl, fun j x h1 h2 => absurd h1 (by omega)⟩
          case round =>
            obtain ⟨k, q, hk1, hk2, rfl, rfl, HK⟩ := hrel
            by_cases hlt : k ≤ U
            · obtain ⟨b, off, x, rfl, HX, hc, hx1, hx2⟩ := h.at_ (k := k) (by omega)
              have hki : (k : Int) < (n : Int) := by omega
              have hkn : k < n := by omega
              by_cases hxm : m < x
              · have HN := Lib.hid (partB_no hk1 hlt HX.out hxm)
                go_wp2_with fail
                go_ret
                exact ⟨ret_bool (by rw [HE.out, HN.out]), below_drewN (Below.refl _ _) _⟩
              · go_wp2_with fail
                go_roundw
                case rel => exact ⟨k + 1, _, by omega, by omega, by go_num, rfl, fun j y h1 h2 hy => by
                  by_cases e : j = k
                  · subst e
                    have := HX.out.symm.trans hy
                    injection this with e2
                    omega
                  · exact HK.out j y h1 (by omega) hy⟩
                case measure => simp [intOf]; omega
            · have HP := Lib.hid (show partB xs F U m = true from partB_iff.2 fun j x h1 h2 hx => HK.out j x h1 (by omega) hx)
              go_wp2_with fail
              go_ret
              exact ⟨ret_bool (by rw [HE.out, HP.out]), below_drewN (Below.refl _ _) _⟩
end Go.Proofs.Ytalfpjdjkbggiaa
