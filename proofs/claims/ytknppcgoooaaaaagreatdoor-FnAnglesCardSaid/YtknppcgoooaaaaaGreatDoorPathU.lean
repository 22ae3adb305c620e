/-
  The least tangent whose stop lies within a distance: the program.
-/
import Derived.Test.YtknppcgoooaaaaaGreatDoorPathT
namespace Go.Proofs.YtknppcgoooaaaaaGreatDoor
open Go.ChangeShapes Go.WideShapes Go.ChangeAt Go.RowKit Go.Deep
set_option linter.unusedVariables false

theorem stopOf_yes (A : Option Addr) (n c : Nat) (t m : Int) (ps : Pth) (w : World) (h : Pts w A n ps) (hp : pathOk ps = true) (ht1 : 0 ≤ t) (ht2 : t ≤ 4000) (hm : stopV ps t = m) (h0 : 0 ≤ m) :
    Calls Tryz.prog 39 #[.slice A n c, .int .i64 t] w fun e w' => e = .returned (.tuple #[.int .i64 m, .bool true]) ∧ Below w.heap.size w w' := by
  refine (stopOf_any A n c t ps w h hp ht1 ht2).mono ?_
  rintro e w' ⟨⟨x, h1, h2, h3, h4, rfl⟩ | ⟨h1, rfl⟩, hb⟩
  · have : stopV ps t = x := firstI_eq h1 h2 h3 h4
    obtain rfl : x = m := by omega
    exact ⟨rfl, hb⟩
  · have : stopV ps t = -1 := firstI_no h1
    omega
theorem stopOf_no (A : Option Addr) (n c : Nat) (t : Int) (ps : Pth) (w : World) (h : Pts w A n ps) (hp : pathOk ps = true) (ht1 : 0 ≤ t) (ht2 : t ≤ 4000) (hm : stopV ps t < 0) :
    Calls Tryz.prog 39 #[.slice A n c, .int .i64 t] w fun e w' => e = .returned (.tuple #[.int .i64 0, .bool false]) ∧ Below w.heap.size w w' := by
  refine (stopOf_any A n c t ps w h hp ht1 ht2).mono ?_
  rintro e w' ⟨⟨x, h1, h2, h3, h4, rfl⟩ | ⟨h1, rfl⟩, hb⟩
  · have : stopV ps t = x := firstI_eq h1 h2 h3 h4
    omega
  · exact ⟨rfl, hb⟩
def tanQ (ps : Pth) (d i : Int) : Bool := tanP ps d (1 + i)
end Go.Proofs.YtknppcgoooaaaaaGreatDoor
