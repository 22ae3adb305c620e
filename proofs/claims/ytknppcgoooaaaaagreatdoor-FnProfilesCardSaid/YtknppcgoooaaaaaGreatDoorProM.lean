/-
  What FnProfiles asks: sums, loads and heights. No program in sight.
-/
import Derived.Test.YtknppcgoooaaaaaGreatDoorProA
import Derived.Test.YtknppcgoooaaaaaGreatDoorProB
namespace Go.Proofs.YtknppcgoooaaaaaGreatDoor
open Go.ChangeShapes Go.WideShapes Go.ChangeAt Go.RowKit Go.Deep
set_option linter.unusedVariables false

/-- What the law keeps in memory. -/
structure PFam (w wr : World) (A : Option Addr) (n : Nat) (ls : List Ly) (A2 : Option Addr) (xb : Nat) (f i v d t h a : Int) (A1 : Option Addr) (n1 : Nat) : Prop where
  list : Lys wr A n ls
  next : Lys wr A2 (n + 1) (ls ++ [⟨f, i, v, d, t, h, a⟩])
  box : LyAt wr xb 0 f i v d t h a
  more : Byts wr A1 n1
  below : Below w.heap.size w wr
theorem PFam.step {w wr w' : World} {A : Option Addr} {n : Nat} {ls : List Ly} {A2 : Option Addr} {xb : Nat} {f i v d t h a : Int} {A1 : Option Addr} {n1 : Nat} (H : PFam w wr A n ls A2 xb f i v d t h a A1 n1) (hb : Below wr.heap.size wr w') : PFam w w' A n ls A2 xb f i v d t h a A1 n1 :=
  ⟨H.list.below hb, H.next.below hb, H.box.below hb, H.more.below hb, H.below.trans (hb.mono H.below.size)⟩
theorem load_next {ls : List Ly} {k : Nat} (hk : k < ls.length) (x : Ly) : loadF (ls ++ [x]) k = (x.ice + x.water) + sumF wetL (ls.drop (k + 1)) := by
  unfold loadF
  rw [List.drop_append_of_le_length (by omega), sumF_append, sumF_cons, sumF_nil]
  unfold wetL
  omega
theorem above_snoc {ls : List Ly} {k j : Nat} {y : Ly} (hj : k + 1 ≤ j) (hy : ls[j]? = some y) : sumF wetL ((ls.drop (k + 1)).take (j + 1 - (k + 1))) = sumF wetL ((ls.drop (k + 1)).take (j - (k + 1))) + (y.ice + y.water) := by
  have e : (ls.drop (k + 1))[j - (k + 1)]? = some y := by rw [List.getElem?_drop, show k + 1 + (j - (k + 1)) = j by omega]; exact hy
  rw [show j + 1 - (k + 1) = (j - (k + 1)) + 1 by omega, sumF_take wetL e]
  rfl
theorem above_bd {ls : List Ly} (hok : ∀ x ∈ ls, LyOk x) (hl : ls.length ≤ 16) (k j : Nat) : 0 ≤ sumF wetL ((ls.drop (k + 1)).take j) ∧ sumF wetL ((ls.drop (k + 1)).take j) ≤ 32000000 :=
  wet_bd (fun x hx => hok x (List.mem_of_mem_drop (List.mem_of_mem_take hx))) (by simp; omega)
end Go.Proofs.YtknppcgoooaaaaaGreatDoor
