/-
  A path as a text: the reference's.
-/
import Derived.Test.YtknppcgoooaaaaaGreatDoorDecS
import Derived.Test.YtknppcgoooaaaaaGreatDoorTxtP
import Derived.Test.YtknppcgoooaaaaaGreatDoorPathW
import Derived.Test.YtknppcgoooaaaaaGreatDoorPathX
import Derived.Test.YtknppcgoooaaaaaGreatDoorQuietB
import Derived.Test.YtknppcgoooaaaaaGreatDoorTxtB
namespace Go.Proofs.YtknppcgoooaaaaaGreatDoor
open Go.ChangeShapes Go.WideShapes Go.ChangeAt Go.RowKit Go.Deep
set_option linter.unusedVariables false

/-- The first points as a text. -/
def pthB (ps : Pth) (k : Nat) : ByteArray := ⟨(pthT (ps.take k)).toArray⟩
theorem pthB_zero (ps : Pth) : pthB ps 0 = { data := #[] } := by simp [pthB, pthT, Lib.join_nil]
theorem pthB_one {ps : Pth} {x y : Int} (h : ps[0]? = some (x, y)) : pthB ps 1 = decB x ++ { data := #[58] } ++ decB y := by
  have e : ps.take 1 = [(x, y)] := by rw [List.take_one, List.head?_eq_getElem?, h]; rfl
  rw [pthB, e, pthT, List.map_singleton, Lib.join_one, ptT, decB, decB, bA_lit, bA_app, bA_app]
  simp
theorem pthB_succ {ps : Pth} {k : Nat} {x y : Int} (hk : 0 < k) (h : ps[k]? = some (x, y)) : pthB ps (k + 1) = pthB ps k ++ { data := #[32] } ++ (decB x ++ { data := #[58] } ++ decB y) := by
  have e : ps.take (k + 1) = ps.take k ++ [(x, y)] := by rw [List.take_add_one, h]; rfl
  have hne : (ps.take k).map ptT ≠ [] := by
    have : k < ps.length := (List.getElem?_eq_some_iff.1 h).1
    intro e2
    have e3 := congrArg List.length e2
    simp only [List.length_map, List.length_take, List.length_nil] at e3
    omega
  rw [pthB, pthB, e, pthT, pthT, List.map_append, List.map_singleton, join_snoc', if_neg hne, decB, decB, bA_lit, bA_lit, bA_app, bA_app, bA_app, bA_app]
  simp [ptT]
theorem pthB_all (ps : Pth) : pthB ps ps.length = ⟨(pthT ps).toArray⟩ := by rw [pthB, List.take_length]
end Go.Proofs.YtknppcgoooaaaaaGreatDoor
