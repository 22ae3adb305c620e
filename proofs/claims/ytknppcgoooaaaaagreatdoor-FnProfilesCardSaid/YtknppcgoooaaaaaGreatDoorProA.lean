/-
  Profiles: masses, heights, thickness, the layer at a height, loads, equal profiles, a drawn layer.
-/
import Derived.Test.YtknppcgoooaaaaaGreatDoorLyX
import Derived.Test.YtknppcgoooaaaaaGreatDoorR8
import Derived.Deep.DeepCutAuto
namespace Go.Proofs.YtknppcgoooaaaaaGreatDoor
open Go.ChangeShapes Go.WideShapes Go.ChangeAt Go.RowKit Go.Deep
set_option linter.unusedVariables false

set_option maxRecDepth 100000 in
set_option maxHeartbeats 1600000 in
theorem MassOf_i (A : Option Addr) (n c : Nat) (ls : List Ly) (w : World) (H : Lys w A n ls) :
    Calls Tryz.prog 20 #[.slice A n c] w fun e w' => e = .returned (.tuple #[.int .i64 (sumF Ly.ice ls), .int .i64 (sumF Ly.water ls), .int .i64 0]) ∧ Below w.heap.size w w' := by
  have hn := H.2.1
  have HL := Lib.hid H.1
  go_enter Tryz.func20, Tryz.ntmps20
  go_wp2_with fail
  refine (ValidProfile_t A n _ ls _ H).mono ?_
  rintro e w1 ⟨rfl, hb1⟩
  have HB1 := Lib.hid hb1
  clear hb1
  go_wp2_with fail
  go_loopw [5, 6, 8, 14] (fun p q _ i wr => ∃ k : Nat, k ≤ n ∧ i = .int .i64 k ∧ p = .int .i64 (sumF Ly.ice (ls.take k)) ∧ q = .int .i64 (sumF Ly.water (ls.take k)) ∧ Below w.heap.size w wr) (fun _ _ _ i _ => n - (intOf i).toNat)
  case atStart => exact ⟨0, Nat.zero_le _, rfl, rfl, rfl, HB1.out⟩
  case round =>
    clear HB1
    obtain ⟨k, hk, rfl, rfl, rfl, hbl⟩ := hrel
    have hs := iceS_bd H k
    obtain ⟨p, hp⟩ : ∃ p, p = sumF Ly.ice (ls.take k) := ⟨_, rfl⟩
    obtain ⟨q, hq⟩ : ∃ q, q = sumF Ly.water (ls.take k) := ⟨_, rfl⟩
    rw [← hp, ← hq] at hs ⊢
    have HP := Lib.hid (And.intro hp hq)
    clear hp hq
    by_cases hlt : k < n
    · obtain ⟨b, off, f, i, v, d, g, h, a, rfl, HX, hc, hb⟩ := (H.below hbl).at_ hlt
      have hki : (k : Int) < (n : Int) := by omega
      have HC := Lib.hid hbl
      have HS := Lib.hid (And.intro (sumF_take Ly.ice HX.out) (sumF_take Ly.water HX.out))
      obtain ⟨c0, c1, c2, c3, c4, c5, c6⟩ := hc
      obtain ⟨_, b1, b2, _⟩ := hb
      have hw1 : IntKind.i64.wrap (p + i) = p + i := IntWalk.i64_in _ (by omega)
      have hw2 : IntKind.i64.wrap (q + v) = q + v := IntWalk.i64_in _ (by omega)
      clear H hbl
      go_wp2_with fail
      go_quiet (fail)
      go_wp2_with fail
      go_roundw
      case rel => exact ⟨k + 1, by omega, by go_num, by rw [HS.out.1, ← HP.out.1], by rw [HS.out.2, ← HP.out.2], below_drewN (HC.out.alloc HC.out.size _) _⟩
      case measure => simp [intOf]; omega
    · obtain rfl : k = n := by omega
      have HB := Lib.hid hbl
      clear H hbl
      go_wp2_with fail
      go_ret3
      exact ⟨by rw [HP.out.1, HP.out.2, List.take_of_length_le (by rw [HL.out]; omega)]; rfl, HB.out⟩
theorem thickS_bd {w : World} {A : Option Addr} {n : Nat} {ls : List Ly} (H : Lys w A n ls) (k : Nat) : 0 ≤ sumF thickL (ls.take k) ∧ sumF thickL (ls.take k) ≤ 16000016 := by
  have hl : (ls.take k).length ≤ 16 := by have := H.1; have := H.2.1; simp; omega
  have h1 := sumF_bd thickL 0 1000001 (ls.take k) fun x hx => by
    have o := H.2.2.1 x (List.mem_of_mem_take hx)
    exact thick_bd o.i o.d
  omega
set_option maxRecDepth 100000 in
set_option maxHeartbeats 1600000 in
theorem heightOf_t (A : Option Addr) (n c : Nat) (ls : List Ly) (w : World) (H : Lys w A n ls) :
    Calls Tryz.prog 55 #[.slice A n c] w fun e w' => e = .returned (.int .i64 (sumF thickL ls)) ∧ Below w.heap.size w w' := by
  have hn := H.2.1
  have HL := Lib.hid H.1
  go_enter Tryz.func55, Tryz.ntmps55
  go_wp2_with fail
  go_loopw [3, 5, 8] (fun p _ i wr => ∃ k : Nat, k ≤ n ∧ i = .int .i64 k ∧ p = .int .i64 (sumF thickL (ls.take k)) ∧ Below w.heap.size w wr) (fun _ _ i _ => n - (intOf i).toNat)
  case atStart => exact ⟨0, Nat.zero_le _, rfl, rfl, Below.refl _ _⟩
  case round =>
    obtain ⟨k, hk, rfl, rfl, hbl⟩ := hrel
    have hs := thickS_bd H k
    obtain ⟨p, hp⟩ : ∃ p, p = sumF thickL (ls.take k) := ⟨_, rfl⟩
    rw [← hp] at hs ⊢
    have HP := Lib.hid hp
    clear hp
    by_cases hlt : k < n
    · obtain ⟨b, off, f, i, v, d, g, h, a, rfl, HX, hc, hb⟩ := (H.below hbl).at_ hlt
      have hki : (k : Int) < (n : Int) := by omega
      have HC := Lib.hid (And.intro hb hbl)
      have htb := thick_bd hb.2.1 hb.2.2.2.1
      have HS := Lib.hid (sumF_take thickL HX.out)
      obtain ⟨c0, c1, c2, c3, c4, c5, c6⟩ := hc
      clear H hb hbl
      go_wp2_with fail
      refine (thickness_t _ _ _ _ _ _ _ _ HC.out.1).mono ?_
      rintro e w2 ⟨rfl, hb2⟩
      have HF := Lib.hid ((HC.out.2.alloc HC.out.2.size _).trans (hb2.mono (by have := HC.out.2.size; simp; omega)))
      clear hb2 c0 c1 c2 c3 c4 c5 c6
      go_wp2_with fail
      go_roundw
      case rel => exact ⟨k + 1, by omega, by go_num, by rw [HS.out, ← HP.out]; rfl, HF.out⟩
      case measure => simp [intOf]; omega
    · obtain rfl : k = n := by omega
      have HB := Lib.hid hbl
      clear H hbl
      go_wp2_with fail
      go_ret
      exact ⟨ret_int (by rw [HP.out, List.take_of_length_le (by rw [HL.out]; omega)]), HB.out⟩
theorem HeightOf_i (A : Option Addr) (n c : Nat) (ls : List Ly) (w : World) (H : Lys w A n ls) :
    Calls Tryz.prog 21 #[.slice A n c] w fun e w' => e = .returned (.tuple #[.int .i64 (sumF thickL ls), .int .i64 0]) ∧ Below w.heap.size w w' := by
  go_enter Tryz.func21, Tryz.ntmps21
  go_wp2_with fail
  refine (ValidProfile_t A n _ ls _ H).mono ?_
  rintro e w1 ⟨rfl, hb1⟩
  have HB1 := Lib.hid hb1
  have H1 := Lib.hid (H.below hb1)
  clear hb1 H
  go_wp2_with fail
  refine (heightOf_t A n _ ls _ H1.out).mono ?_
  rintro e w2 ⟨rfl, hb2⟩
  have HB2 := Lib.hid (HB1.out.trans (hb2.mono HB1.out.size))
  clear hb2
  go_wp2_with fail
  go_ret2
  exact ⟨rfl, HB2.out⟩
set_option maxRecDepth 100000 in
theorem ThicknessOf_i (f i v d t h a : Int) (w : World) (B : Lb f i v d t h a) :
    Calls Tryz.prog 27 #[Lyv f i v d t h a] w fun e w' => e = .returned (.tuple #[.int .i64 (divN i d), .int .i64 0]) ∧ Below w.heap.size w w' := by
  have HBB := Lib.hid B
  clear B
  have hba : Below w.heap.size w (w.alloc (.cells (lyArr f i v d t h a) 44)) := (Below.refl _ _).alloc (Nat.le_refl _) _
  have hla := ly_alloc w f i v d t h a 44
  have HA := Lib.hid (And.intro hba hla)
  clear hba hla
  go_enter Tryz.func27, Tryz.ntmps27
  obtain ⟨x0, x1, x2, x3, x4, x5, x6⟩ := HA.out.2
  simp only [Nat.zero_add] at x1 x2 x3 x4 x5 x6
  go_wp2_with fail
  refine (ValidLayer_t _ _ _ _ _ _ _ _ HBB.out).mono ?_
  rintro e w1 ⟨rfl, hb1⟩
  have H1 := Lib.hid (And.intro (HA.out.1.trans (hb1.mono HA.out.1.size)) (HA.out.2.below hb1))
  clear hb1 x0 x1 x2 x3 x4 x5 x6
  obtain ⟨x0, x1, x2, x3, x4, x5, x6⟩ := H1.out.2
  simp only [Nat.zero_add] at x1 x2 x3 x4 x5 x6
  go_wp2_with fail
  refine (thickness_t _ _ _ _ _ _ _ _ HBB.out).mono ?_
  rintro e w2 ⟨rfl, hb2⟩
  have H2 := Lib.hid (H1.out.1.trans (hb2.mono H1.out.1.size))
  clear hb2 x0 x1 x2 x3 x4 x5 x6
  go_wp2_with fail
  go_ret2
  exact ⟨rfl, H2.out⟩
theorem indexValid_ly (A : Option Addr) (n c : Nat) (k : Int) (w : World) (hn : n ≤ 9223372036854775807) :
    Calls Tryz.prog 63 #[.slice A n c, .int .i64 k] w fun e w' => e = .returned (.bool (inB k 0 ((n : Int) - 1))) ∧ w = w' := by
  go_enter Tryz.func63, Tryz.ntmps63
  go_wp2_with ((go_at_call 49; refine (within_any _ _ _ _).mono ?_; rintro e w' ⟨rfl, rfl⟩))
  go_ret
  exact ⟨rfl, rfl⟩
theorem LoadAbove_i (A : Option Addr) (n c k : Nat) (ls : List Ly) (w : World) (H : Lys w A n ls) (hk : k < n) (hnc : n ≤ c) (hcm : c ≤ maxLen) :
    Calls Tryz.prog 28 #[.slice A n c, .int .i64 (k : Int)] w fun e w' => e = .returned (.tuple #[.int .i64 (loadF ls k), .int .i64 0]) ∧ Below w.heap.size w w' := by
  have hn := H.2.1
  have HI := Lib.hid (show inB (k : Int) 0 ((n : Int) - 1) = true from inB_iff.2 (by omega))
  have HH := Lib.hid (And.intro hnc hcm)
  clear hnc hcm
  go_enter Tryz.func28, Tryz.ntmps28
  go_wp2_with fail
  refine (ValidProfile_t A n _ ls _ H).mono ?_
  rintro e w1 ⟨rfl, hb1⟩
  have HB1 := Lib.hid hb1
  have H1 := Lib.hid (H.below hb1)
  clear hb1 H
  go_wp2_with fail
  refine (indexValid_ly _ _ _ _ _ (by omega)).mono ?_
  rintro e w2 ⟨rfl, rfl⟩
  rw [HI.out]
  go_wp2_with fail
  refine (loadAbove_t A n c ls k _ H1.out hk HH.out.1 HH.out.2).mono ?_
  rintro e w2 ⟨rfl, hb2⟩
  have HB2 := Lib.hid (HB1.out.trans (hb2.mono HB1.out.size))
  clear hb2
  go_wp2_with fail
  go_ret2
  exact ⟨rfl, HB2.out⟩
set_option maxRecDepth 100000 in
set_option maxHeartbeats 1600000 in
theorem equalLy_t (A B : Option Addr) (n c d : Nat) (ls : List Ly) (w : World) (H : Lys w A n ls) (H' : Lys w B n ls) :
    Calls Tryz.prog 60 #[.slice A n c, .slice B n d] w fun e w' => e = .returned (.bool true) ∧ Below w.heap.size w w' := by
  have hn := H.2.1
  have HH := Lib.hid (And.intro H H')
  clear H H'
  go_enter Tryz.func60, Tryz.ntmps60
  go_wp2_with fail
  go_loopw [5, 13] (fun _ i wr => ∃ k : Nat, k ≤ n ∧ i = .int .i64 k ∧ Below w.heap.size w wr) (fun _ i _ => n - (intOf i).toNat)
  case atStart => exact ⟨0, Nat.zero_le _, rfl, Below.refl _ _⟩
  case round =>
    obtain ⟨k, hk, rfl, hbl⟩ := hrel
    by_cases hlt : k < n
    · obtain ⟨b, off, f, i, v, d1, t, h, a, rfl, HX, hc, hb⟩ := (HH.out.1.below hbl).at_ hlt
      obtain ⟨b', off', f', i', v', d', t', h', a', rfl, HX', hc', hb'⟩ := (HH.out.2.below hbl).at_ hlt
      have he := HX.out.symm.trans HX'.out
      simp only [Option.some.injEq, Ly.mk.injEq] at he
      obtain ⟨rfl, rfl, rfl, rfl, rfl, rfl, rfl⟩ := he
      have hki : (k : Int) < (n : Int) := by omega
      have HB := Lib.hid hbl
      obtain ⟨c0, c1, c2, c3, c4, c5, c6⟩ := hc
      obtain ⟨e0, e1, e2, e3, e4, e5, e6⟩ := hc'
      have hne := fun W => neq_ly f i v d1 t h a W
      clear hbl hb hb'
      go_wp2_with fail
      go_quiet (fail)
      go_wp2_with fail
      go_roundw
      case rel => exact ⟨k + 1, by omega, by go_num, below_drewN HB.out _⟩
      case measure => simp [intOf]; omega
    · obtain rfl : k = n := by omega
      have HB := Lib.hid hbl
      clear hbl
      go_wp2_with fail
      go_ret
      exact ⟨rfl, HB.out⟩
theorem SameProfile_i (A B : Option Addr) (n c d : Nat) (ls : List Ly) (w : World) (H : Lys w A n ls) (H' : Lys w B n ls) :
    Calls Tryz.prog 25 #[.slice A n c, .slice B n d] w fun e w' => e = .returned (.bool true) ∧ Below w.heap.size w w' := by
  go_enter Tryz.func25, Tryz.ntmps25
  go_wp2_with fail
  refine (equalLy_t _ _ _ _ _ ls _ H H').mono ?_
  rintro e w1 ⟨rfl, hb⟩
  have HB := Lib.hid hb
  clear hb H H'
  go_wp2_with fail
  go_ret
  exact ⟨rfl, HB.out⟩
end Go.Proofs.YtknppcgoooaaaaaGreatDoor
