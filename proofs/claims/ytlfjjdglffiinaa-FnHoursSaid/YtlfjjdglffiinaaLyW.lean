/-
  Layers: what the program and the reference ask of valid ones, and the sums over them.
-/
import Derived.Test.YtlfjjdglffiinaaLyH
import Derived.Test.YtlfjjdglffiinaaArith
import Derived.Test.YtlfjjdglffiinaaSrcP
namespace Go.Proofs.Ytlfjjdglffiinaa
open Go.ChangeShapes Go.WideShapes Go.ChangeAt Go.RowKit Go.Deep
set_option linter.unusedVariables false

theorem within_t (n lo hi : Int) (w : World) (h1 : lo ≤ n) (h2 : n ≤ hi) : Calls Try.prog 32 #[.int .i64 n, .int .i64 lo, .int .i64 hi] w fun e w' => e = .returned (.bool true) ∧ w = w' :=
  (within_any n lo hi w).mono fun e w' ⟨he, hw⟩ => ⟨by rw [he, inB_iff.2 ⟨h1, h2⟩], hw⟩
theorem l00In_t (n lo hi : Int) (w : World) (h1 : lo ≤ n) (h2 : n ≤ hi) : Calls Try.prog 61 #[.int .i64 n, .int .i64 lo, .int .i64 hi] w fun e w' => e = .returned (.bool true) ∧ w = w' :=
  (l00In_any n lo hi w).mono fun e w' ⟨he, hw⟩ => ⟨by rw [he, inB_iff.2 ⟨h1, h2⟩], hw⟩
set_option maxRecDepth 100000 in
theorem l03One_t (b o : Nat) (f i v d g h a : Int) (w : World) (H : LyAt w b o f i v d g h a) (B : Lb f i v d g h a) :
    Calls Try.prog 49 #[.pointer (some ⟨b, o, none⟩)] w fun e w' => e = .returned (.bool true) ∧ w = w' := by
  obtain ⟨c0, c1, c2, c3, c4, c5, c6⟩ := H
  obtain ⟨⟨b0, b0'⟩, ⟨b1, b1'⟩, ⟨b2, b2'⟩, ⟨b3, b3'⟩, ⟨b4, b4'⟩, ⟨b5, b5'⟩, b6, b6'⟩ := B
  go_enter Try.func49, Try.ntmps49
  go_wp2_with (go_at_call 61; refine (l00In_t _ _ _ _ (by omega) (by omega)).mono ?_; rintro e w' ⟨rfl, rfl⟩)
  go_ret
  exact ⟨rfl, rfl⟩
set_option maxRecDepth 100000 in
theorem l03Ok_t (A : Option Addr) (n c : Nat) (ls : List Ly) (w : World) (H : Lys w A n ls) :
    Calls Try.prog 28 #[.slice A n c] w fun e w' => e = .returned (.bool true) ∧ w = w' := by
  have hn := H.2.1
  go_enter Try.func28, Try.ntmps28
  go_wp2_with fail
  go_loop [3] (fun i => ∃ k : Nat, k ≤ n ∧ i = .int .i64 k) (fun i => n - (intOf i).toNat)
  case atStart => exact ⟨0, Nat.zero_le _, rfl⟩
  case round =>
    obtain ⟨k, hk, rfl⟩ := hrel
    by_cases hlt : k < n
    · obtain ⟨b, off, f, i, v, d, g, h, a, rfl, HX, hc, hb⟩ := H.at_ hlt
      have hki : (k : Int) < (n : Int) := by omega
      have HC := Lib.hid (And.intro hc hb)
      clear H hc hb
      go_wp2_with (go_at_call 49; refine (l03One_t _ _ _ _ _ _ _ _ _ _ HC.out.1 HC.out.2).mono ?_; rintro e w' ⟨rfl, rfl⟩)
      go_round
      case rel => exact ⟨k + 1, by omega, by go_num⟩
      case measure => simp [intOf]; omega
    · obtain rfl : k = n := by omega
      clear H
      go_wp2_with fail
      go_ret
      exact ⟨ret_bool (by simp; omega), rfl⟩
theorem iceS_bd {w : World} {A : Option Addr} {n : Nat} {ls : List Ly} (H : Lys w A n ls) (k : Nat) : 0 ≤ sumF Ly.ice (ls.take k) ∧ sumF Ly.ice (ls.take k) ≤ 16000000 ∧ 0 ≤ sumF Ly.water (ls.take k) ∧ sumF Ly.water (ls.take k) ≤ 16000000 := by
  have hl : (ls.take k).length ≤ 16 := by have := H.1; have := H.2.1; simp; omega
  have h1 := sumF_bd Ly.ice 0 1000000 (ls.take k) fun x hx => by have := (H.2.2.1 x (List.mem_of_mem_take hx)).i; omega
  have h2 := sumF_bd Ly.water 0 1000000 (ls.take k) fun x hx => by have := (H.2.2.1 x (List.mem_of_mem_take hx)).v; omega
  omega
theorem coldS_bd {w : World} {A : Option Addr} {n : Nat} {ls : List Ly} (H : Lys w A n ls) (k : Nat) : 0 ≤ sumF coldL (ls.take k) ∧ sumF coldL (ls.take k) ≤ 1344000000 := by
  have hl : (ls.take k).length ≤ 16 := by have := H.1; have := H.2.1; simp; omega
  have h1 := sumF_bd coldL 0 84000000 (ls.take k) fun x hx => by
    have o := H.2.2.1 x (List.mem_of_mem_take hx)
    have := coldN_bd o.i o.g
    have e : coldL x = coldN x.ice x.deg := rfl
    omega
  omega
set_option maxRecDepth 100000 in
theorem l03Mass_t (A : Option Addr) (n c : Nat) (ls : List Ly) (w : World) (H : Lys w A n ls) :
    Calls Try.prog 29 #[.slice A n c] w fun e w' => e = .returned (.tuple #[.int .i64 (sumF Ly.ice ls), .int .i64 (sumF Ly.water ls)]) ∧ w = w' := by
  have hn := H.2.1
  have HL := Lib.hid H.1
  go_enter Try.func29, Try.ntmps29
  go_wp2_with fail
  go_loop [4, 5, 6] (fun p q i => ∃ k : Nat, k ≤ n ∧ i = .int .i64 k ∧ p = .int .i64 (sumF Ly.ice (ls.take k)) ∧ q = .int .i64 (sumF Ly.water (ls.take k))) (fun _ _ i => n - (intOf i).toNat)
  case atStart => exact ⟨0, Nat.zero_le _, rfl, rfl, rfl⟩
  case round =>
    obtain ⟨k, hk, rfl, rfl, rfl⟩ := hrel
    have hs := iceS_bd H k
    obtain ⟨p, hp⟩ : ∃ p, p = sumF Ly.ice (ls.take k) := ⟨_, rfl⟩
    obtain ⟨q, hq⟩ : ∃ q, q = sumF Ly.water (ls.take k) := ⟨_, rfl⟩
    rw [← hp, ← hq] at hs ⊢
    have HP := Lib.hid (And.intro hp hq)
    clear hp hq
    by_cases hlt : k < n
    · obtain ⟨b, off, f, i, v, d, g, h, a, rfl, HX, hc, hb⟩ := H.at_ hlt
      have hki : (k : Int) < (n : Int) := by omega
      obtain ⟨_, c1, c2, _⟩ := hc
      obtain ⟨_, b1, b2, _⟩ := hb
      have HS := Lib.hid (And.intro (sumF_take Ly.ice HX.out) (sumF_take Ly.water HX.out))
      clear H
      go_wp2_with fail
      go_round
      case rel => exact ⟨k + 1, by omega, by go_num, by rw [HS.out.1, ← HP.out.1], by rw [HS.out.2, ← HP.out.2]⟩
      case measure => simp [intOf]; omega
    · obtain rfl : k = n := by omega
      clear H
      go_wp2_with fail
      go_ret2
      exact ⟨ret_int2 (by rw [HP.out.1, List.take_of_length_le (by rw [HL.out]; omega)]) (by rw [HP.out.2, List.take_of_length_le (by rw [HL.out]; omega)]), rfl⟩
theorem MassOf_t (A : Option Addr) (n c : Nat) (ls : List Ly) (w : World) (H : Lys w A n ls) :
    Calls Try.prog 9 #[.slice A n c] w fun e w' => e = .returned (.tuple #[.int .i64 (sumF Ly.ice ls), .int .i64 (sumF Ly.water ls), .int .i64 0]) ∧ w = w' := by
  go_enter Try.func9, Try.ntmps9
  go_wp2_with (first | (go_at_call 28; refine (l03Ok_t _ _ _ ls _ H).mono ?_; rintro e w' ⟨rfl, rfl⟩) | (go_at_call 29; refine (l03Mass_t _ _ _ ls _ H).mono ?_; rintro e w' ⟨rfl, rfl⟩))
  go_ret3
  exact ⟨rfl, rfl⟩
theorem l03Cold_t (b o : Nat) (f i v d g h a : Int) (w : World) (H : LyAt w b o f i v d g h a) (B : Lb f i v d g h a) :
    Calls Try.prog 38 #[.pointer (some ⟨b, o, none⟩)] w fun e w' => e = .returned (.int .i64 (coldN i g)) ∧ ∃ m, w' = w.drewN m := by
  obtain ⟨c0, c1, c2, c3, c4, c5, c6⟩ := H
  obtain ⟨_, ⟨b1, b1'⟩, _, _, ⟨b4, b4'⟩, _⟩ := B
  have hm : -i * g = i * (-g) := by rw [Int.neg_mul, Int.mul_neg]
  have h0 : 0 ≤ i * (-g) := Int.mul_nonneg (by omega) (by omega)
  have h1 : i * (-g) ≤ 1000000 * 4000 := Int.mul_le_mul (by omega) (by omega) (by omega) (by omega)
  have h2 : 0 ≤ -i * g ∧ -i * g ≤ 4000000000 := by omega
  have HE := Lib.hid (show (-i * g * 21 + 999) / 1000 = coldN i g by unfold coldN; rw [hm, Int.mul_assoc i 21, Int.mul_comm 21, ← Int.mul_assoc])
  clear hm h0 h1
  go_enter Try.func38, Try.ntmps38
  have hw1 : IntKind.i64.wrap (-i) = -i := IntWalk.i64_in _ (by omega)
  have hw2 : IntKind.i64.wrap (-i * g) = -i * g := IntWalk.i64_in _ (by omega)
  have hw3 : IntKind.i64.wrap (-i * g * 21) = -i * g * 21 := IntWalk.i64_in _ (by omega)
  have hw4 : IntKind.i64.wrap (-i * g * 21 + 999) = -i * g * 21 + 999 := IntWalk.i64_in _ (by omega)
  go_wp2_with fail
  go_quiet (fail)
  go_wp2_with fail
  go_ret
  exact ⟨ret_int (by rw [HE.out]), ⟨_, rfl⟩⟩
set_option maxRecDepth 100000 in
theorem ColdOf_s (A : Option Addr) (n c : Nat) (ls : List Ly) (w : World) (H : Lys w A n ls) :
    Calls Try.prog 14 #[.slice A n c] w fun e w' => e = .returned (.tuple #[.int .i64 (sumF coldL ls), .int .i64 0]) ∧ Below w.heap.size w w' := by
  have hn := H.2.1
  have HL := Lib.hid H.1
  go_enter Try.func14, Try.ntmps14
  go_wp2_with (go_at_call 28; refine (l03Ok_t _ _ _ ls _ H).mono ?_; rintro e w' ⟨rfl, rfl⟩)
  go_loopw [4, 5] (fun p i wr => ∃ k : Nat, k ≤ n ∧ i = .int .i64 k ∧ p = .int .i64 (sumF coldL (ls.take k)) ∧ Below w.heap.size w wr) (fun _ i _ => n - (intOf i).toNat)
  case atStart => exact ⟨0, Nat.zero_le _, rfl, rfl, Below.refl _ _⟩
  case round =>
    obtain ⟨k, hk, rfl, rfl, hbl⟩ := hrel
    have hs := coldS_bd H k
    obtain ⟨p, hp⟩ : ∃ p, p = sumF coldL (ls.take k) := ⟨_, rfl⟩
    rw [← hp] at hs ⊢
    have HP := Lib.hid hp
    clear hp
    by_cases hlt : k < n
    · obtain ⟨b, off, f, i, v, d, g, h, a, rfl, HX, hc, hb⟩ := (H.below hbl).at_ hlt
      have hki : (k : Int) < (n : Int) := by omega
      have HC := Lib.hid (And.intro hc (And.intro hb hbl))
      have hcb := coldN_bd hb.2.1 hb.2.2.2.2.1
      have HS := Lib.hid (sumF_take coldL HX.out)
      clear H hc hb hbl
      go_wp2_with fail
      refine (l03Cold_t _ _ _ _ _ _ _ _ _ _ HC.out.1 HC.out.2.1).mono ?_
      rintro e w' ⟨rfl, m, rfl⟩
      go_wp2_with fail
      go_roundw
      case rel => exact ⟨k + 1, by omega, by go_num, by rw [HS.out, ← HP.out]; rfl, below_drewN HC.out.2.2 _⟩
      case measure => simp [intOf]; omega
    · obtain rfl : k = n := by omega
      have HB := Lib.hid hbl
      clear H hbl
      go_wp2_with fail
      go_ret2
      exact ⟨ret_int2 (by rw [HP.out, List.take_of_length_le (by rw [HL.out]; omega)]) rfl, HB.out⟩
end Go.Proofs.Ytlfjjdglffiinaa
