/-
  Layers: the program's own questions, the heat a layer wants, copies; heat and draining in place.
-/
import Derived.Test.YtlfjjdglffiinaaLyW
import Derived.Shelf.Abstract
namespace Go.Proofs.Ytlfjjdglffiinaa
open Go.ChangeShapes Go.WideShapes Go.ChangeAt Go.RowKit Go.Deep
set_option linter.unusedVariables false

theorem info_ly : (Try.prog.info? 35).map (fun i => (i.zero, i.size, i.bytes)) = some (some (.agg #[.int .i64 0, .int .i64 0, .int .i64 0, .int .i64 0, .int .i64 0, .int .i64 0, .int .i64 0]), 7, 56) := by kernel_rfl
set_option maxRecDepth 100000 in
theorem ValidLayer_t (f i v d g h a : Int) (w : World) (B : Lb f i v d g h a) :
    Calls Try.prog 41 #[Lyv f i v d g h a] w fun e w' => e = .returned (.bool true) ∧ Below w.heap.size w w' := by
  obtain ⟨⟨b0, b0'⟩, ⟨b1, b1'⟩, ⟨b2, b2'⟩, ⟨b3, b3'⟩, ⟨b4, b4'⟩, ⟨b5, b5'⟩, b6, b6'⟩ := B
  go_enter Try.func41, Try.ntmps41
  go_wp2_with (go_at_call 32; refine (within_t _ _ _ _ (by omega) (by omega)).mono ?_; rintro e w' ⟨rfl, rfl⟩)
  go_ret
  exact ⟨rfl, (Below.refl _ _).alloc (Nat.le_refl _) _⟩
theorem vp1_t (f i v d g h a : Int) (w : World) (B : Lb f i v d g h a) :
    Calls Try.prog 51 #[Lyv f i v d g h a] w fun e w' => e = .returned (.bool false) ∧ Below w.heap.size w w' := by
  have HB := Lib.hid B
  clear B
  go_enter Try.func51, Try.ntmps51
  go_wp2_with fail
  refine (ValidLayer_t _ _ _ _ _ _ _ _ HB.out).mono ?_
  rintro e w1 ⟨rfl, hb⟩
  have HF := Lib.hid (((Below.refl w.heap.size w).alloc (Nat.le_refl _) _).trans (hb.mono (by simp)))
  clear hb
  go_wp2_with fail
  go_ret
  exact ⟨rfl, HF.out⟩
set_option maxRecDepth 100000 in
theorem indexLy_t (A : Option Addr) (n c : Nat) (ls : List Ly) (w : World) (H : Lys w A n ls) :
    Calls Try.prog 62 #[.slice A n c, .func (.func 51) #[] #[]] w fun e w' => e = .returned (.int .i64 (-1)) ∧ Below w.heap.size w w' := by
  have hn := H.2.1
  go_enter Try.func62, Try.ntmps62
  go_wp2_with fail
  go_loopw [5, 8] (fun _ i wr => ∃ j : Nat, j ≤ n ∧ i = .int .i64 j ∧ Below w.heap.size w wr) (fun _ i _ => n - (intOf i).toNat)
  case atStart => exact ⟨0, Nat.zero_le _, rfl, Below.refl _ _⟩
  case round =>
    obtain ⟨k, hk, rfl, hbl⟩ := hrel
    by_cases hlt : k < n
    · obtain ⟨b, off, f, i, v, d, g, h, a, rfl, HX, hc, hb⟩ := (H.below hbl).at_ hlt
      have hki : (k : Int) < (n : Int) := by omega
      have HC := Lib.hid (And.intro hb hbl)
      obtain ⟨c0, c1, c2, c3, c4, c5, c6⟩ := hc
      clear H hb hbl
      go_wp2_with fail
      refine (vp1_t _ _ _ _ _ _ _ _ HC.out.1).mono ?_
      rintro e w2 ⟨rfl, hb2⟩
      have HB2 := Lib.hid (HC.out.2.trans (hb2.mono HC.out.2.size))
      clear hb2 c0 c1 c2 c3 c4 c5 c6
      go_wp2_with fail
      go_roundw
      case rel => exact ⟨k + 1, by omega, by go_num, HB2.out⟩
      case measure => simp [intOf]; omega
    · obtain rfl : k = n := by omega
      have HB := Lib.hid hbl
      clear H hbl
      go_wp2_with fail
      go_ret
      exact ⟨rfl, HB.out⟩
theorem containsLy_t (A : Option Addr) (n c : Nat) (ls : List Ly) (w : World) (H : Lys w A n ls) :
    Calls Try.prog 50 #[.slice A n c, .func (.func 51) #[] #[]] w fun e w' => e = .returned (.bool false) ∧ Below w.heap.size w w' := by
  go_enter Try.func50, Try.ntmps50
  go_wp2_with fail
  refine (indexLy_t A n _ ls _ H).mono ?_
  rintro e w1 ⟨rfl, hb⟩
  have HB := Lib.hid hb
  clear hb H
  go_wp2_with fail
  go_ret
  exact ⟨rfl, HB.out⟩
theorem ValidProfile_t (A : Option Addr) (n c : Nat) (ls : List Ly) (w : World) (H : Lys w A n ls) :
    Calls Try.prog 30 #[.slice A n c] w fun e w' => e = .returned (.bool true) ∧ Below w.heap.size w w' := by
  have hn := H.2.1
  have hni : (n : Int) ≤ 16 := by omega
  have hnd : decide ((n : Int) ≤ 16) = true := by simp; omega
  go_enter Try.func30, Try.ntmps30
  go_wp2_with fail
  refine (containsLy_t A n _ ls _ H).mono ?_
  rintro e w1 ⟨rfl, hb⟩
  have HB := Lib.hid hb
  clear hb H
  go_wp2_with fail
  go_ret
  exact ⟨rfl, HB.out⟩
theorem abs_neg (n : Int) (w : World) (h1 : -4000 ≤ n) (h2 : n ≤ 0) : Calls Try.prog 53 #[.int .i64 n] w fun e w' => e = .returned (.int .i64 (-n)) ∧ w = w' :=
  (abs_any n w (by omega) (by omega)).mono fun e w' ⟨he, hw⟩ => ⟨by rw [he]; exact ret_int (by unfold absI; split <;> omega), hw⟩
theorem divUp_t (a : Int) (w : World) (h1 : 0 ≤ a) (h2 : a ≤ 1000000000000) : Calls Try.prog 52 #[.int .i64 a, .int .i64 1000] w fun e w' => e = .returned (.int .i64 ((a + 999) / 1000)) ∧ w = w' := by
  go_enter Try.func52, Try.ntmps52
  go_wp2_with fail
  go_ret
  exact ⟨ret_int (by omega), rfl⟩
set_option maxRecDepth 100000 in
theorem cold_t (f i v d g h a : Int) (w : World) (B : Lb f i v d g h a) :
    Calls Try.prog 31 #[Lyv f i v d g h a] w fun e w' => e = .returned (.int .i64 (coldN i g)) ∧ Below w.heap.size w w' := by
  obtain ⟨_, b1, _, _, b4, _⟩ := B
  obtain ⟨k1, k2, _, _⟩ := coldN_bd b1 b4
  have hw1 : IntKind.i64.wrap (i * 21) = i * 21 := IntWalk.i64_in _ (by omega)
  have hw2 : IntKind.i64.wrap (i * 21 * (-g)) = i * 21 * (-g) := IntWalk.i64_in _ (by omega)
  have HC := fun W : World => Lib.hid (divUp_t (i * 21 * (-g)) W k1 (by omega))
  go_enter Try.func31, Try.ntmps31
  go_wp2_with fail
  go_quiet ((first | (go_at_call 53; exact quiet_left (abs_neg _ _ b4.1 b4.2)) | (go_at_call 52; exact quiet_left (HC _).out)))
  go_wp2_with fail
  go_ret
  exact ⟨rfl, below_drewN ((Below.refl _ _).alloc (Nat.le_refl _) _) _⟩
set_option maxRecDepth 100000 in
theorem ColdOf_i (A : Option Addr) (n c : Nat) (ls : List Ly) (w : World) (H : Lys w A n ls) :
    Calls Try.prog 10 #[.slice A n c] w fun e w' => e = .returned (.tuple #[.int .i64 (sumF coldL ls), .int .i64 0]) ∧ Below w.heap.size w w' := by
  have hn := H.2.1
  have HL := Lib.hid H.1
  go_enter Try.func10, Try.ntmps10
  go_wp2_with fail
  refine (ValidProfile_t A n _ ls _ H).mono ?_
  rintro e w1 ⟨rfl, hb1⟩
  have HB1 := Lib.hid hb1
  clear hb1
  go_wp2_with fail
  go_loopw [4, 6, 12] (fun p _ i wr => ∃ k : Nat, k ≤ n ∧ i = .int .i64 k ∧ p = .int .i64 (sumF coldL (ls.take k)) ∧ Below w.heap.size w wr) (fun _ _ i _ => n - (intOf i).toNat)
  case atStart => exact ⟨0, Nat.zero_le _, rfl, rfl, HB1.out⟩
  case round =>
    clear HB1
    obtain ⟨k, hk, rfl, rfl, hbl⟩ := hrel
    have hs := coldS_bd H k
    obtain ⟨p, hp⟩ : ∃ p, p = sumF coldL (ls.take k) := ⟨_, rfl⟩
    rw [← hp] at hs ⊢
    have HP := Lib.hid hp
    clear hp
    by_cases hlt : k < n
    · obtain ⟨b, off, f, i, v, d, g, h, a, rfl, HX, hc, hb⟩ := (H.below hbl).at_ hlt
      have hki : (k : Int) < (n : Int) := by omega
      have HC := Lib.hid (And.intro hb hbl)
      have hcb := coldN_bd hb.2.1 hb.2.2.2.2.1
      have HS := Lib.hid (sumF_take coldL HX.out)
      obtain ⟨c0, c1, c2, c3, c4, c5, c6⟩ := hc
      clear H hb hbl
      go_wp2_with fail
      refine (cold_t _ _ _ _ _ _ _ _ HC.out.1).mono ?_
      rintro e w2 ⟨rfl, hb2⟩
      have HF := Lib.hid ((HC.out.2.alloc HC.out.2.size _).trans (hb2.mono (by have := HC.out.2.size; simp; omega)))
      clear hb2 c0 c1 c2 c3 c4 c5 c6
      go_wp2_with fail
      go_roundw
      case rel => exact ⟨k + 1, by omega, by go_num, by rw [HS.out, ← HP.out]; rfl, HF.out⟩
      case measure => simp [intOf]; omega
    · obtain rfl : k = n := by omega
      have HB := Lib.hid hbl
      clear H hbl
      go_wp2_with fail
      go_ret2
      exact ⟨ret_int2 (by rw [HP.out, List.take_of_length_le (by rw [HL.out]; omega)]) rfl, HB.out⟩
end Go.Proofs.Ytlfjjdglffiinaa
