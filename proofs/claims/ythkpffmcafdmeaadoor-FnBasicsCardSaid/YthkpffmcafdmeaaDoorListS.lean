/-
  A list of numbers as a text: the reference's, at numbers that are not negative.
-/
import Derived.Test.YthkpffmcafdmeaaDoorDecS
import Derived.Test.YthkpffmcafdmeaaDoorTxtB
namespace Go.Proofs.YthkpffmcafdmeaaDoor
open Go.ChangeShapes Go.WideShapes Go.ChangeAt Go.RowKit Go.Deep
set_option linter.unusedVariables false

/-- The first numbers as a text. -/
def lstB (xs : List Int) (k : Nat) : ByteArray := ⟨(Lib.join ((xs.take k).map Lib.itoa) [44]).toArray⟩
theorem lstB_zero (xs : List Int) : lstB xs 0 = { data := #[] } := by simp [lstB, Lib.join_nil]
theorem lstB_one {xs : List Int} {x : Int} (h : xs[0]? = some x) : lstB xs 1 = decB x := by
  have e : xs.take 1 = [x] := by rw [List.take_one, List.head?_eq_getElem?, h]; rfl
  rw [lstB, e, List.map_singleton, Lib.join_one, decB]
theorem lstB_succ {xs : List Int} {k : Nat} {x : Int} (hk : 0 < k) (h : xs[k]? = some x) : lstB xs (k + 1) = lstB xs k ++ { data := #[44] } ++ decB x := by
  have e : xs.take (k + 1) = xs.take k ++ [x] := by rw [List.take_add_one, h]; rfl
  have hne : (xs.take k).map Lib.itoa ≠ [] := by
    have : k < xs.length := (List.getElem?_eq_some_iff.1 h).1
    intro e2
    have e3 := congrArg List.length e2
    simp only [List.length_map, List.length_take, List.length_nil] at e3
    omega
  rw [lstB, lstB, e, List.map_append, List.map_singleton, join_snoc', if_neg hne, decB, bA_lit, bA_app, bA_app]
  simp
theorem lstB_all {xs : List Int} (h : xs ≠ []) : lstB xs xs.length = ⟨(lstT xs).toArray⟩ := by rw [lstB, List.take_length, lstT, if_neg h]
set_option maxRecDepth 100000 in
set_option maxHeartbeats 3200000 in
theorem l01List_s (A : Option Addr) (n c : Nat) (xs : List Int) (w : World) (h : Ints w A n xs) (hn : n ≤ 64) (hb : ∀ x ∈ xs, 0 ≤ x ∧ x ≤ 1000000) :
    Calls Tryd.prog 113 #[.slice A n c] w fun e w' => e = .returned (.string ⟨(lstT xs).toArray⟩) ∧ Below w.heap.size w w' := by
  have hl := h.1
  by_cases hz : n = 0
  · subst hz
    have hx : xs = [] := List.length_eq_zero_iff.1 hl
    subst hx
    clear h hb hl
    go_enter Tryd.func113, Tryd.ntmps113
    go_wp2
    go_ret
    exact ⟨rfl, Below.refl _ _⟩
  have hnz : ¬ (n : Int) = 0 := by omega
  have hnb : ((n : Int) == 0) = false := by rw [beq_eq_false_iff_ne]; omega
  have hnc : (n == 0) = false := by rw [beq_eq_false_iff_ne]; omega
  have HP := Lib.hid (And.intro h (And.intro hb hl))
  clear h hb hl
  go_enter Tryd.func113, Tryd.ntmps113
  go_wp2_with fail
  go_loopw [3, 4] (fun ov iv wr => ∃ (k : Nat) (O : ByteArray), k ≤ n ∧ iv = .int .i64 k ∧ ov = .string O ∧ O.size ≤ 22 * k ∧ Hid (O = lstB xs k) ∧ Hid (Below w.heap.size w wr)) (fun _ iv _ => n - (intOf iv).toNat)
  case atStart => exact ⟨0, { data := #[] }, Nat.zero_le _, rfl, rfl, Nat.le_refl _, (lstB_zero xs).symm, Below.refl _ _⟩
  case round =>
    obtain ⟨k, O, hk, rfl, rfl, hO, HO, HB⟩ := hrel
    by_cases hlt : k < n
    · obtain ⟨b, off, x, rfl, HX, hx, _, _⟩ := (HP.out.1.below HB.out).at_ hlt
      have hki : (k : Int) < (n : Int) := by omega
      obtain ⟨x1, x2⟩ := HP.out.2.1 x (List.mem_of_getElem? HX.out)
      obtain ⟨u, rfl⟩ : ∃ u : Nat, x = (u : Int) := ⟨x.toNat, by omega⟩
      have hu : u ≤ 1000000 := by omega
      clear x1 x2
      have hs1 := decB_len (u : Int) (by omega) (by omega)
      by_cases hk0 : k = 0
      · subst hk0
        simp only [Nat.add_zero] at hx
        go_wp2_with fail
        refine (l01Dec_s u _ (by omega)).mono ?_
        rintro e w2 ⟨rfl, hb2⟩
        obtain ⟨S, hS⟩ : ∃ S, S = decB (u : Int) := ⟨_, rfl⟩
        rw [← hS] at hs1 ⊢
        have HE := Lib.hid (show O ++ S = lstB xs (0 + 1) by rw [lstB_one HX.out, hS, HO.out, lstB_zero, bA_nil])
        have HB2 := Lib.hid (HB.out.trans (hb2.mono HB.out.size))
        clear hS hb2
        go_wp2_with fail
        go_roundw
        case rel => exact ⟨0 + 1, _, by omega, by go_num, rfl, by simp only [ByteArray.size_append]; omega, HE.out, HB2.out⟩
        case measure => simp [intOf]; omega
      · have hk1 : 0 < k := by omega
        have hk2 : (0 : Int) < (k : Int) := by omega
        clear hk0
        go_wp2_with fail
        refine (l01Dec_s u _ (by omega)).mono ?_
        rintro e w2 ⟨rfl, hb2⟩
        obtain ⟨S, hS⟩ : ∃ S, S = decB (u : Int) := ⟨_, rfl⟩
        rw [← hS] at hs1 ⊢
        have HE := Lib.hid (show O ++ { data := #[44] } ++ S = lstB xs (k + 1) by rw [lstB_succ hk1 HX.out, hS, HO.out])
        have HB2 := Lib.hid (HB.out.trans (hb2.mono HB.out.size))
        clear hS hb2
        go_wp2_with fail
        go_roundw
        case rel => exact ⟨k + 1, _, by omega, by go_num, rfl, by simp only [ByteArray.size_append]; have e1 : ({ data := #[44] } : ByteArray).size = 1 := rfl; omega, HE.out, HB2.out⟩
        case measure => simp [intOf]; omega
    · obtain rfl : k = n := by omega
      have HE := Lib.hid (show O = ⟨(lstT xs).toArray⟩ by
        rw [HO.out, ← lstB_all (fun e => by have := HP.out.2.2; rw [e] at this; simp at this; omega), HP.out.2.2])
      go_wp2_with fail
      go_ret
      exact ⟨ret_str' HE.out, HB.out⟩
end Go.Proofs.YthkpffmcafdmeaaDoor
