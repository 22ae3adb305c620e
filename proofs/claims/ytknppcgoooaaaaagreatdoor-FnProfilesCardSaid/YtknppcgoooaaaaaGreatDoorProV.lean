/-
  The check of a layer as a Bool.
-/
import Derived.Test.YtknppcgoooaaaaaGreatDoorProC
import Derived.Test.YtknppcgoooaaaaaGreatDoorListI
import Derived.Deep.DeepCutAuto
namespace Go.Proofs.YtknppcgoooaaaaaGreatDoor
open Go.ChangeShapes Go.WideShapes Go.ChangeAt Go.RowKit Go.Deep
set_option linter.unusedVariables false

set_option maxRecDepth 100000 in
set_option maxHeartbeats 1600000 in
theorem ValidLayer_b (f i v d g h a : Int) (w : World) :
    Calls Tryz.prog 58 #[Lyv f i v d g h a] w fun e w' => ∃ b : Bool, e = .returned (.bool b) ∧ (b = true → Lb f i v d g h a) ∧ Below w.heap.size w w' := by
  by_cases e0 : inB f 1 6 = true
  rotate_left
  · replace e0 : inB f 1 6 = false := (by rwa [Bool.not_eq_true] at e0)
    have E0 := Lib.hid e0
    clear e0
    go_enter Tryz.func58, Tryz.ntmps58
    go_wp2_with (go_at_call 49; first | (with_reducible refine (within_l f 1 6 _ _ E0.out).mono ?_; rintro e w' ⟨rfl, rfl⟩))
    go_ret
    exact ⟨false, rfl, (fun h => by cases h), (Below.refl _ _).alloc (Nat.le_refl _) _⟩
  by_cases e1 : inB i 1 1000000 = true
  rotate_left
  · replace e1 : inB i 1 1000000 = false := (by rwa [Bool.not_eq_true] at e1)
    have E0 := Lib.hid e0
    have E1 := Lib.hid e1
    clear e0 e1
    go_enter Tryz.func58, Tryz.ntmps58
    go_wp2_with (go_at_call 49; first | (with_reducible refine (within_l f 1 6 _ _ E0.out).mono ?_; rintro e w' ⟨rfl, rfl⟩) | (with_reducible refine (within_l i 1 1000000 _ _ E1.out).mono ?_; rintro e w' ⟨rfl, rfl⟩))
    go_ret
    exact ⟨false, rfl, (fun h => by cases h), (Below.refl _ _).alloc (Nat.le_refl _) _⟩
  by_cases e2 : inB v 0 1000000 = true
  rotate_left
  · replace e2 : inB v 0 1000000 = false := (by rwa [Bool.not_eq_true] at e2)
    have E0 := Lib.hid e0
    have E1 := Lib.hid e1
    have E2 := Lib.hid e2
    clear e0 e1 e2
    go_enter Tryz.func58, Tryz.ntmps58
    go_wp2_with (go_at_call 49; first | (with_reducible refine (within_l f 1 6 _ _ E0.out).mono ?_; rintro e w' ⟨rfl, rfl⟩) | (with_reducible refine (within_l i 1 1000000 _ _ E1.out).mono ?_; rintro e w' ⟨rfl, rfl⟩) | (with_reducible refine (within_l v 0 1000000 _ _ E2.out).mono ?_; rintro e w' ⟨rfl, rfl⟩))
    go_ret
    exact ⟨false, rfl, (fun h => by cases h), (Below.refl _ _).alloc (Nat.le_refl _) _⟩
  by_cases e3 : inB d 30 900 = true
  rotate_left
  · replace e3 : inB d 30 900 = false := (by rwa [Bool.not_eq_true] at e3)
    have E0 := Lib.hid e0
    have E1 := Lib.hid e1
    have E2 := Lib.hid e2
    have E3 := Lib.hid e3
    clear e0 e1 e2 e3
    go_enter Tryz.func58, Tryz.ntmps58
    go_wp2_with (go_at_call 49; first | (with_reducible refine (within_l f 1 6 _ _ E0.out).mono ?_; rintro e w' ⟨rfl, rfl⟩) | (with_reducible refine (within_l i 1 1000000 _ _ E1.out).mono ?_; rintro e w' ⟨rfl, rfl⟩) | (with_reducible refine (within_l v 0 1000000 _ _ E2.out).mono ?_; rintro e w' ⟨rfl, rfl⟩) | (with_reducible refine (within_l d 30 900 _ _ E3.out).mono ?_; rintro e w' ⟨rfl, rfl⟩))
    go_ret
    exact ⟨false, rfl, (fun h => by cases h), (Below.refl _ _).alloc (Nat.le_refl _) _⟩
  by_cases e4 : inB g (-4000) 0 = true
  rotate_left
  · replace e4 : inB g (-4000) 0 = false := (by rwa [Bool.not_eq_true] at e4)
    have E0 := Lib.hid e0
    have E1 := Lib.hid e1
    have E2 := Lib.hid e2
    have E3 := Lib.hid e3
    have E4 := Lib.hid e4
    clear e0 e1 e2 e3 e4
    go_enter Tryz.func58, Tryz.ntmps58
    go_wp2_with (go_at_call 49; first | (with_reducible refine (within_l f 1 6 _ _ E0.out).mono ?_; rintro e w' ⟨rfl, rfl⟩) | (with_reducible refine (within_l i 1 1000000 _ _ E1.out).mono ?_; rintro e w' ⟨rfl, rfl⟩) | (with_reducible refine (within_l v 0 1000000 _ _ E2.out).mono ?_; rintro e w' ⟨rfl, rfl⟩) | (with_reducible refine (within_l d 30 900 _ _ E3.out).mono ?_; rintro e w' ⟨rfl, rfl⟩) | (with_reducible refine (within_l g (-4000) 0 _ _ E4.out).mono ?_; rintro e w' ⟨rfl, rfl⟩))
    go_ret
    exact ⟨false, rfl, (fun h => by cases h), (Below.refl _ _).alloc (Nat.le_refl _) _⟩
  by_cases e5 : inB h 1 6 = true
  rotate_left
  · replace e5 : inB h 1 6 = false := (by rwa [Bool.not_eq_true] at e5)
    have E0 := Lib.hid e0
    have E1 := Lib.hid e1
    have E2 := Lib.hid e2
    have E3 := Lib.hid e3
    have E4 := Lib.hid e4
    have E5 := Lib.hid e5
    clear e0 e1 e2 e3 e4 e5
    go_enter Tryz.func58, Tryz.ntmps58
    go_wp2_with (go_at_call 49; first | (with_reducible refine (within_l f 1 6 _ _ E0.out).mono ?_; rintro e w' ⟨rfl, rfl⟩) | (with_reducible refine (within_l i 1 1000000 _ _ E1.out).mono ?_; rintro e w' ⟨rfl, rfl⟩) | (with_reducible refine (within_l v 0 1000000 _ _ E2.out).mono ?_; rintro e w' ⟨rfl, rfl⟩) | (with_reducible refine (within_l d 30 900 _ _ E3.out).mono ?_; rintro e w' ⟨rfl, rfl⟩) | (with_reducible refine (within_l g (-4000) 0 _ _ E4.out).mono ?_; rintro e w' ⟨rfl, rfl⟩) | (with_reducible refine (within_l h 1 6 _ _ E5.out).mono ?_; rintro e w' ⟨rfl, rfl⟩))
    go_ret
    exact ⟨false, rfl, (fun h => by cases h), (Below.refl _ _).alloc (Nat.le_refl _) _⟩
  by_cases e6 : inB a 0 10000 = true
  rotate_left
  · replace e6 : inB a 0 10000 = false := (by rwa [Bool.not_eq_true] at e6)
    have E0 := Lib.hid e0
    have E1 := Lib.hid e1
    have E2 := Lib.hid e2
    have E3 := Lib.hid e3
    have E4 := Lib.hid e4
    have E5 := Lib.hid e5
    have E6 := Lib.hid e6
    clear e0 e1 e2 e3 e4 e5 e6
    go_enter Tryz.func58, Tryz.ntmps58
    go_wp2_with (go_at_call 49; first | (with_reducible refine (within_l f 1 6 _ _ E0.out).mono ?_; rintro e w' ⟨rfl, rfl⟩) | (with_reducible refine (within_l i 1 1000000 _ _ E1.out).mono ?_; rintro e w' ⟨rfl, rfl⟩) | (with_reducible refine (within_l v 0 1000000 _ _ E2.out).mono ?_; rintro e w' ⟨rfl, rfl⟩) | (with_reducible refine (within_l d 30 900 _ _ E3.out).mono ?_; rintro e w' ⟨rfl, rfl⟩) | (with_reducible refine (within_l g (-4000) 0 _ _ E4.out).mono ?_; rintro e w' ⟨rfl, rfl⟩) | (with_reducible refine (within_l h 1 6 _ _ E5.out).mono ?_; rintro e w' ⟨rfl, rfl⟩) | (with_reducible refine (within_l a 0 10000 _ _ E6.out).mono ?_; rintro e w' ⟨rfl, rfl⟩))
    go_ret
    exact ⟨false, rfl, (fun h => by cases h), (Below.refl _ _).alloc (Nat.le_refl _) _⟩
  have E0 := Lib.hid e0
  have E1 := Lib.hid e1
  have E2 := Lib.hid e2
  have E3 := Lib.hid e3
  have E4 := Lib.hid e4
  have E5 := Lib.hid e5
  have E6 := Lib.hid e6
  clear e0 e1 e2 e3 e4 e5 e6
  go_enter Tryz.func58, Tryz.ntmps58
  go_wp2_with (go_at_call 49; first | (with_reducible refine (within_l f 1 6 _ _ E0.out).mono ?_; rintro e w' ⟨rfl, rfl⟩) | (with_reducible refine (within_l i 1 1000000 _ _ E1.out).mono ?_; rintro e w' ⟨rfl, rfl⟩) | (with_reducible refine (within_l v 0 1000000 _ _ E2.out).mono ?_; rintro e w' ⟨rfl, rfl⟩) | (with_reducible refine (within_l d 30 900 _ _ E3.out).mono ?_; rintro e w' ⟨rfl, rfl⟩) | (with_reducible refine (within_l g (-4000) 0 _ _ E4.out).mono ?_; rintro e w' ⟨rfl, rfl⟩) | (with_reducible refine (within_l h 1 6 _ _ E5.out).mono ?_; rintro e w' ⟨rfl, rfl⟩) | (with_reducible refine (within_l a 0 10000 _ _ E6.out).mono ?_; rintro e w' ⟨rfl, rfl⟩))
  go_ret
  exact ⟨true, rfl, fun _ => ⟨inB_iff.1 E0.out, inB_iff.1 E1.out, inB_iff.1 E2.out, inB_iff.1 E3.out, inB_iff.1 E4.out, inB_iff.1 E5.out, inB_iff.1 E6.out⟩, (Below.refl _ _).alloc (Nat.le_refl _) _⟩
end Go.Proofs.YtknppcgoooaaaaaGreatDoor
