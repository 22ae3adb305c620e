/-
  A list of numbers as a text: the program's.
-/
import Derived.Test.YtknppcgoooaaaaaGreatDoorJoinO
import Derived.OwnWalk
namespace Go.Proofs.YtknppcgoooaaaaaGreatDoor
open Go.ChangeShapes Go.WideShapes Go.ChangeAt Go.RowKit Go.Deep
set_option linter.unusedVariables false

def lstS (xs : List Int) : List UInt8 := if fitsB xs = true then lstT xs else []
theorem decs_data (xs : List Int) : (xs.map decB).map (·.data.toList) = xs.map Lib.itoa := by
  rw [List.map_map]; exact List.map_congr_left fun x _ => rfl
theorem fits_not {xs : List Int} {k : Nat} {x : Int} (h : xs[k]? = some x) (hx : inB x (-1000000000000) 1000000000000 = false) : fitsB xs = false := by
  cases hf : fitsB xs
  · rfl
  · have h1 := (fits_iff.1 hf).2 x (List.mem_of_getElem? h)
    rcases inB_not.1 hx with h2 | h2 <;> omega
theorem within_l (n lo hi : Int) (b : Bool) (w : World) (hb : inB n lo hi = b) :
    Calls Tryz.prog 49 #[.int .i64 n, .int .i64 lo, .int .i64 hi] w fun e w' => e = .returned (.bool b) ∧ w = w' := by subst hb; exact within_any n lo hi w
set_option maxRecDepth 100000 in
set_option maxHeartbeats 3200000 in
theorem ListText_i (A : Option Addr) (n c : Nat) (xs : List Int) (w : World) (h : Ints w A n xs) (ht : Tab w) :
    Calls Tryz.prog 57 #[.slice A n c] w fun e w' => e = .returned (.string ⟨(lstS xs).toArray⟩) ∧ Below w.heap.size w w' := by
  have hl := h.1
  have hn63 := h.2.1
  by_cases h64 : n ≤ 64
  rotate_left
  · have HE := Lib.hid (show (⟨(lstS xs).toArray⟩ : ByteArray) = { data := #[] } by
      rw [lstS, if_neg (fun hf => h64 (by rw [← hl]; exact (fits_iff.1 hf).1))])
    rw [HE.out]
    have h65 : (64 : Int) < (n : Int) := by omega
    have h66 : 64 < n := by omega
    clear h ht hl h64
    go_enter Tryz.func57, Tryz.ntmps57
    go_wp2
    go_ret
    exact ⟨rfl, Below.refl _ _⟩
  have h65 : ¬ (64 : Int) < (n : Int) := by omega
  have h66 : ¬ 64 < n := by omega
  have h67 : decide (64 < n) = false := by simp; omega
  by_cases hz : n = 0
  · subst hz
    have hx : xs = [] := List.length_eq_zero_iff.1 hl
    subst hx
    clear h ht hl h64
    go_enter Tryz.func57, Tryz.ntmps57
    go_wp2
    go_ret
    exact ⟨rfl, Below.refl _ _⟩
  have hnz : ¬ (n : Int) = 0 := by omega
  have hnb : ((n : Int) == 0) = false := by rw [beq_eq_false_iff_ne]; omega
  have hnc : (n == 0) = false := by rw [beq_eq_false_iff_ne]; omega
  have HP := Lib.hid (And.intro h (And.intro ht hl))
  obtain ⟨i0, hi, hz0, hz1, hz2⟩ := info_parts info_str
  have HI := Lib.hid (And.intro hi (And.intro hz0 (And.intro hz1 hz2)))
  clear h ht hl hi hz0 hz1 hz2
  go_enter Tryz.func57, Tryz.ntmps57
  go_wp2_with (refine wpList_make_own _ rfl (.const (.int .i64 0)) (.tmp 13) 68 rfl w.heap.size 9 i0 (.string ByteArray.empty) 1 Tryz.underlying68 HI.out.1 HI.out.2.1 HI.out.2.2.1 .i64 .i64 (n : Int) n rfl rfl rfl (by rw [HI.out.2.2.2]; omega) (by unfold maxLen; omega) (Nat.le_refl _) ?_; intro w1 hown1 hgrow1)
  have H1 := Lib.hid (And.intro hown1 ((Below.refl w.heap.size w).grown hgrow1 (Nat.le_refl _) (fun k hk => by cases hk)))
  clear hown1 hgrow1 HI
  go_loopw [3, 17] (fun v iv wr => ∃ k : Nat, k ≤ n ∧ iv = .int .i64 k ∧ (∃ A' c', v = .slice A' k c') ∧ Hid (wr.ownsRow w.heap.size 9 1 v k (((xs.take k).map decB).map .string)) ∧ Hid (∀ x ∈ xs.take k, -1000000000000 ≤ x ∧ x ≤ 1000000000000) ∧ Hid (Below w.heap.size w wr)) (fun _ iv _ => n - (intOf iv).toNat)
  case atStart => exact ⟨0, Nat.zero_le _, rfl, ⟨_, _, rfl⟩, H1.out.1, (by intro x hx; simp at hx), H1.out.2⟩
  case round =>
    clear H1
    obtain ⟨k, hk, rfl, ⟨A', c', rfl⟩, HO, HF, HB⟩ := hrel
    by_cases hlt : k < n
    · obtain ⟨b, off, x, rfl, HX, hx, hx1, hx2⟩ := (HP.out.1.below HB.out).at_ hlt
      have hki : (k : Int) < (n : Int) := by omega
      cases hb : inB x (-1000000000000) 1000000000000
      · have HV := Lib.hid hb
        have HE := Lib.hid (show (⟨(lstS xs).toArray⟩ : ByteArray) = { data := #[] } by rw [lstS, fits_not HX.out hb]; rfl)
        clear hb
        go_wp2_with (go_at_call 49; refine (within_l _ _ _ _ _ HV.out).mono ?_; rintro e w' ⟨rfl, rfl⟩)
        go_ret
        exact ⟨ret_str (by rw [HE.out]), HB.out⟩
      · have HV := Lib.hid hb
        obtain ⟨y1, y2⟩ := inB_iff.1 hb
        clear hb
        have HF2 := Lib.hid (show ∀ y ∈ xs.take (k + 1), -1000000000000 ≤ y ∧ y ≤ 1000000000000 by
          rw [List.take_add_one, HX.out]
          intro y hy
          rcases List.mem_append.1 hy with hy | hy
          · exact HF.out y hy
          · simp at hy; subst hy; exact ⟨y1, y2⟩)
        go_wp2_with (go_at_call 49; refine (within_l _ _ _ _ _ HV.out).mono ?_; rintro e w' ⟨rfl, rfl⟩)
        refine (Decimal_i x _ (HP.out.2.1.below HB.out) (by omega) (by omega)).mono ?_
        rintro e w2 ⟨rfl, hb2⟩
        obtain ⟨S, hS⟩ : ∃ S, S = decB x := ⟨_, rfl⟩
        rw [← hS]
        have HO2 := Lib.hid (own_below HO.out hb2)
        have HB2 := Lib.hid (HB.out.trans (hb2.mono HB.out.size))
        have hbz : w.heap.size ≤ w2.heap.size := Nat.le_trans HB.out.size hb2.size
        have HS := Lib.hid hS
        clear hS hb2 HO HB
        go_wp2_with (refine wp_app_str rfl (.tmp 24) (.tmp 27) 68 rfl w.heap.size 9 Tryz.underlying68 info_str _ k ((xs.take k).map decB) _ rfl HO2.out rfl (by omega) hbz ?_; intro v' w3 hown3 hgrow3 hv3)
        have HB4 := Lib.hid (below_app HB2.out HO2.out hgrow3 hbz (Nat.le_refl _))
        have e1 : (xs.take k).map decB ++ [S] = (xs.take (k + 1)).map decB := by
          rw [List.take_add_one, HX.out]
          simp [HS.out]
        have HO4 := Lib.hid (show w3.ownsRow w.heap.size 9 1 v' (k + 1) (((xs.take (k + 1)).map decB).map .string) by rw [← e1]; exact hown3)
        obtain ⟨g3, c3, rfl⟩ := hv3
        clear hown3 hgrow3 e1 HO2 HB2
        go_wp2_with fail
        go_roundw
        case rel => exact ⟨k + 1, by omega, by go_num, ⟨_, _, rfl⟩, HO4.out, HF2.out, HB4.out⟩
        case measure => simp [intOf]; omega
    · obtain rfl : k = n := by omega
      have hall : ∀ x ∈ xs, -1000000000000 ≤ x ∧ x ≤ 1000000000000 := by
        have h1 := HF.out
        rwa [List.take_of_length_le (by rw [HP.out.2.2]; exact Nat.le_refl _)] at h1
      have hfit : fitsB xs = true := fits_iff.2 ⟨by rw [HP.out.2.2]; exact h64, hall⟩
      have hne : xs ≠ [] := fun e => by have := HP.out.2.2; rw [e] at this; simp at this; omega
      have hown : wr.ownsRow w.heap.size 9 1 (.slice A' k c') k ((xs.map decB).map .string) := by have := HO.out; rwa [List.take_of_length_le (by rw [HP.out.2.2]; exact Nat.le_refl _)] at this
      have KEY := Lib.hid ((join_row w.heap.size A' k c' (xs.map decB) { data := #[44] } wr hown (by omega) (by omega) (by rw [List.length_map, HP.out.2.2]) (by
        have h2 : (Lib.join ((xs.map decB).map (·.data.toList)) ({ data := #[44] } : ByteArray).data.toList).length ≤ ((xs.map decB).map (·.data.toList)).length * (100 + ({ data := #[44] } : ByteArray).data.toList.length) := join_le fun y hy => by
          rw [decs_data] at hy
          obtain ⟨x, hx, rfl⟩ := List.mem_map.1 hy
          have h3 := hall x hx
          have l1 := Lib.itoa_length_le x (by omega) (by omega)
          omega
        rw [decs_data, List.length_map, HP.out.2.2] at h2
        have h3 : ({ data := #[44] } : ByteArray).data.toList.length = 1 := rfl
        rw [h3] at h2
        rw [decs_data]
        omega)).mono (fun e w' (h : _ ∧ _) => (show e = .returned (.string ⟨(lstS xs).toArray⟩) ∧ Below wr.heap.size wr w' from ⟨by rw [h.1, decs_data, lstS, if_pos hfit, lstT, if_neg hne], h.2⟩)))
      clear hall hfit hne hown
      go_wp2_with fail
      refine KEY.out.mono ?_
      rintro e w4 ⟨rfl, hb4⟩
      have H4 := Lib.hid (HB.out.trans (hb4.mono HB.out.size))
      clear hb4
      go_wp2_with fail
      go_ret
      exact ⟨rfl, H4.out⟩
end Go.Proofs.YtknppcgoooaaaaaGreatDoor
