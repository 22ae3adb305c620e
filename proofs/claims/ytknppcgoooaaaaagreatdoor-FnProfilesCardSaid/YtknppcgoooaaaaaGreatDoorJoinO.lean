/-
  Texts in memory of the call's own, joined.
-/
import Derived.Test.YtknppcgoooaaaaaGreatDoorTxtB
import Derived.Test.YtknppcgoooaaaaaGreatDoorDecI
namespace Go.Proofs.YtknppcgoooaaaaaGreatDoor
open Go.ChangeShapes Go.WideShapes Go.ChangeAt Go.RowKit Go.Deep
set_option linter.unusedVariables false

theorem join_row (B : Nat) (A : Option Addr) (k c : Nat) (xs : List ByteArray) (sep : ByteArray) (w : World) (h : w.ownsRow B 9 1 (.slice A k c) k (xs.map .string)) (hk : 0 < k) (hm : k ≤ 1000000) (hl : xs.length = k)
    (hlen : (Lib.join (xs.map (·.data.toList)) sep.data.toList).length ≤ 140737488355328) :
    Calls Tryz.prog 48 #[.slice A k c, .string sep] w fun e w' => e = .returned (.string ⟨(Lib.join (xs.map (·.data.toList)) sep.data.toList).toArray⟩) ∧ Below w.heap.size w w' := by
  obtain ⟨g, cap, cur, hv, hh, hnc, htk⟩ : ∃ g cap cur, Value.slice A k c = .slice (some ⟨g, 0, none⟩) k cap ∧ w.heap[g]? = some (.cells cur 9 (0, 0)) ∧ k ≤ cap ∧ cur.toList.take (k * 1) = xs.map Value.string := by
    rcases h.2 with ⟨_, h0⟩ | ⟨g, cap, cur, h1, h2, h3, h4, h5, h6, h7⟩
    · omega
    · exact ⟨g, cap, cur, h1, h3, h4, h7⟩
  injection hv with hv1 _ hv2
  subst hv1 hv2
  have hgl : g < w.heap.size := (Array.getElem?_eq_some_iff.1 hh).1
  have key := Tryz.strings_Join g 0 c xs sep w (fun j x hx => by
    have hj : j < k := by rw [← hl]; exact (List.getElem?_eq_some_iff.1 hx).1
    rw [cell_of_row w g (0 + j) cur 9 (0, 0) hh, Nat.zero_add]
    have h1 : (cur.toList.take (k * 1))[j]? = some (.string x) := by rw [htk, List.getElem?_map, hx]; rfl
    rw [List.getElem?_take, if_pos (by omega)] at h1
    simpa using h1) hgl (by omega) (by omega) hlen
  rw [hl] at key
  exact key
end Go.Proofs.YtknppcgoooaaaaaGreatDoor
