/-
  What reading a path hands back; plain facts of pieces.
-/
import Derived.Test.YtknppcgoooaaaaaGreatDoorStrsM
import Derived.Test.YtknppcgoooaaaaaGreatDoorTxtP
import Derived.Test.YtknppcgoooaaaaaGreatDoorPathW
import Derived.Test.YtknppcgoooaaaaaGreatDoorPathX
namespace Go.Proofs.YtknppcgoooaaaaaGreatDoor
open Go.ChangeShapes Go.WideShapes Go.ChangeAt Go.RowKit Go.Deep
set_option linter.unusedVariables false

theorem ptc_snoc (ps : Pth) (x y : Int) : ptCells (ps ++ [(x, y)]) = ptCells ps ++ [.int .i64 x, .int .i64 y] := by
  unfold ptCells
  rw [List.length_append, show (ps.length + [(x, y)].length) * 2 = ps.length * 2 + 1 + 1 by simp; omega, List.range_succ, List.range_succ, List.map_append, List.map_append, List.append_assoc]
  congr 1
  · refine List.map_congr_left fun j hj => ?_
    have hj' : j < ps.length * 2 := List.mem_range.1 hj
    have h2 : j / 2 < ps.length := by omega
    simp [ptCell, dAt, hAt, List.getElem?_append_left h2]
  · have e1 : (ps.length * 2) % 2 = 0 := by omega
    have e2 : (ps.length * 2) / 2 = ps.length := by omega
    have e3 : (ps.length * 2 + 1) % 2 = 1 := by omega
    have e4 : (ps.length * 2 + 1) / 2 = ps.length := by omega
    simp [ptCell, dAt, hAt, e1, e2, e3, e4]
def RpR (l : List UInt8) (w : World) (e : Ending) (w' : World) : Prop :=
  ∃ A c ps, e = .returned (.tuple #[.slice A ps.length c, .bool (rp l).isSome]) ∧ Hid (ps = (rp l).getD []) ∧ Hid (w'.ownsRow w.heap.size 36 2 (.slice A ps.length c) ps.length (ptCells ps)) ∧ Below w.heap.size w w'
theorem rpr_none {l : List UInt8} {w w' : World} (h : rp l = none) (hb : Below w.heap.size w w') : RpR l w (.returned (.tuple #[.slice none 0 0, .bool false])) w' :=
  ⟨none, 0, [], by rw [h]; rfl, by rw [h]; rfl, World.ownsRow_nil _ _ _ _, hb⟩
theorem rpr_some {l : List UInt8} {w w' : World} {ps : Pth} {A : Option Addr} {c : Nat} (h : rp l = some ps) (ho : w'.ownsRow w.heap.size 36 2 (.slice A ps.length c) ps.length (ptCells ps)) (hb : Below w.heap.size w w') : RpR l w (.returned (.tuple #[.slice A ps.length c, .bool true])) w' :=
  ⟨A, c, ps, by rw [h]; rfl, by rw [h]; rfl, ho, hb⟩
theorem spl_mem_le (c : UInt8) (l : List UInt8) : ∀ x ∈ spl c l, x.length ≤ l.length := by
  induction l with
  | nil => intro x hx; simp [spl] at hx; simp [hx]
  | cons a r ih =>
    intro x hx
    rw [spl] at hx
    split at hx
    · rcases List.mem_cons.1 hx with h | h
      · simp [h]
      · have := ih x h; simp; omega
    · split at hx
      · simp at hx; simp [hx]
      · rename_i y t hs
        rcases List.mem_cons.1 hx with h | h
        · have := ih y (by rw [hs]; exact List.mem_cons_self ..); rw [h]; simp; omega
        · have := ih x (by rw [hs]; exact List.mem_cons_of_mem _ h); simp; omega
theorem rp_bad {l : List UInt8} {k : Nat} {u : List UInt8} (h : (spl 32 l)[k]? = some u) (hu : rdP u = none) : rp l = none := by
  rw [rp, allF_none h hu]
theorem rp_end {l : List UInt8} {ps : Pth} (h : allF rdP (spl 32 l) = some ps) : rp l = if pathOk ps = true then some ps else none := by
  rw [rp, h]
theorem rdP_mid {u y1 y2 : List UInt8} (h : spl 58 u = [y1, y2]) {d g : Int} (h1 : rd y1 = some d) (h2 : rd y2 = some g) : rdP u = some (d, g) := by rw [rdP_spl h, h1, h2]
theorem rdP_mid1 {u y1 y2 : List UInt8} (h : spl 58 u = [y1, y2]) (h1 : rd y1 = none) : rdP u = none := by rw [rdP_spl h, h1]
theorem rdP_mid2 {u y1 y2 : List UInt8} (h : spl 58 u = [y1, y2]) (h1 : rd y2 = none) : rdP u = none := by rw [rdP_spl h, h1]; cases rd y1 <;> rfl
theorem pts_bd {l : List (List UInt8)} {ps : Pth} (h : allF rdP l = some ps) : ∀ p ∈ ps, (-9223372036854775808 ≤ p.1 ∧ p.1 ≤ 9223372036854775807) ∧ (-9223372036854775808 ≤ p.2 ∧ p.2 ≤ 9223372036854775807) := by
  intro p hp
  obtain ⟨w, hw⟩ := allF_mem h p hp
  have := rdP_bd hw
  omega
theorem map_get {PB : List ByteArray} {L : List (List UInt8)} (h : PB.map (·.data.toList) = L) {k : Nat} {x : ByteArray} (hx : PB[k]? = some x) : L[k]? = some x.data.toList := by
  rw [← h, List.getElem?_map, hx]; rfl
end Go.Proofs.YtknppcgoooaaaaaGreatDoor
