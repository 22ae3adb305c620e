/-
  A number in decimal: the reference's, at a number that is not negative.
-/
import Derived.Test.YtknppcgoooaaaaaGreatDoorDecM
import Derived.Test.YtknppcgoooaaaaaGreatDoorMem
import Derived.Test.YtknppcgoooaaaaaGreatDoorArith
import Derived.Laws.IdiomStrings
namespace Go.Proofs.YtknppcgoooaaaaaGreatDoor
open Go.ChangeShapes Go.WideShapes Go.ChangeAt Go.RowKit Go.Deep
set_option linter.unusedVariables false

theorem info_u8 : (Tryz.prog.info? 5).map (fun i => (i.zero, i.size, i.bytes)) = some (some (.int .u8 0), 1, 1) := by kernel_rfl
theorem ret_str' {a b : ByteArray} (h : a = b) : Ending.returned (.string a) = .returned (.string b) := by rw [h]
def bV (b : UInt8) : Value := .int .u8 (b.toNat : Int)
theorem bV_dig (m : Nat) : bV (UInt8.ofNat (48 + m % 10)) = .int .u8 (48 + ((m % 10 : Nat) : Int)) := by rw [bV, byte_ten]
/-- Bytes in memory of the call's own, as a text. -/
theorem own_back (B g n c : Nat) (l : List UInt8) (w : World) (h : w.ownsRow B 5 1 (.slice (some ⟨g, 0, none⟩) n c) n (l.map bV)) (hl : l.length = n) :
    (convert 22 9 (.slice (some ⟨g, 0, none⟩) n c)).run Tryz.prog w = .ok (.string ⟨l.toArray⟩) w := by
  subst hl
  refine run_convert_bytes_back w 22 9 5 ⟨g, 0, none⟩ c l Tryz.underlying22 Tryz.underlying5 Tryz.underlying9 ?_
  intro j hj
  have h1 := h.cellAt j (by omega)
  rw [Go.Addr.add_lit, Nat.zero_add, h1, List.getElem?_map, List.getElem?_eq_getElem hj]
  rfl
theorem rev_drop {D : List UInt8} {j : Nat} (h : j < D.length) : (D.drop (j + 1)).reverse ++ [D[j]] = (D.drop j).reverse := by
  rw [List.drop_eq_getElem_cons h, List.reverse_cons]
end Go.Proofs.YtknppcgoooaaaaaGreatDoor
