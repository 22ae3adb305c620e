/-
  Reading a list: what both readers answer.
-/
import Derived.Test.YtknppcgoooaaaaaGreatDoorRpM
import Derived.Test.YtknppcgoooaaaaaGreatDoorListI
import Derived.Test.YtknppcgoooaaaaaGreatDoorSl
namespace Go.Proofs.YtknppcgoooaaaaaGreatDoor
open Go.ChangeShapes Go.WideShapes Go.ChangeAt Go.RowKit Go.Deep
set_option linter.unusedVariables false

def RlR (l : List UInt8) (w : World) (e : Ending) (w' : World) : Prop :=
  ∃ A c xs, e = .returned (.tuple #[.slice A xs.length c, .bool (rl l).isSome]) ∧ Hid (xs = (rl l).getD []) ∧ Hid (w'.ownsRow w.heap.size 2 1 (.slice A xs.length c) xs.length (xs.map (.int .i64))) ∧ Below w.heap.size w w'
theorem rlr_none {l : List UInt8} {w w' : World} (h : rl l = none) (hb : Below w.heap.size w w') : RlR l w (.returned (.tuple #[.slice none 0 0, .bool false])) w' :=
  ⟨none, 0, [], by rw [h]; rfl, by rw [h]; rfl, World.ownsRow_nil _ _ _ _, hb⟩
theorem rlr_some {l : List UInt8} {w w' : World} {xs : List Int} {A : Option Addr} {c : Nat} (h : rl l = some xs) (ho : w'.ownsRow w.heap.size 2 1 (.slice A xs.length c) xs.length (xs.map (.int .i64))) (hb : Below w.heap.size w w') : RlR l w (.returned (.tuple #[.slice A xs.length c, .bool true])) w' :=
  ⟨A, c, xs, by rw [h]; rfl, by rw [h]; rfl, ho, hb⟩
def pcL (l : List UInt8) : List (List UInt8) := Lib.splitK [44] 0 (min 65 (l.length + 1) - 1) l
theorem rlI_bad {l : List UInt8} (hl : l ≠ [45]) {k : Nat} {u : List UInt8} (h : (pcL l)[k]? = some u) (hu : rd u = none) : rl l = none := by
  rw [rl_prog hl, show Lib.splitK [44] 0 (min 65 (l.length + 1) - 1) l = pcL l from rfl, allF_none h hu]
theorem rlI_end {l : List UInt8} (hl : l ≠ [45]) {xs : List Int} (h : allF rd (pcL l) = some xs) : rl l = if lstS xs = l then some xs else none := by
  have hne : l ≠ [] := fun e => by
    subst e
    have h1 : pcL [] = [[]] := rfl
    rw [h1] at h
    have h2 : allF rd [[]] = none := allF_none (k := 0) (x := []) rfl rfl
    rw [h2] at h; cases h
  rw [rl_prog hl, show Lib.splitK [44] 0 (min 65 (l.length + 1) - 1) l = pcL l from rfl, h]
  by_cases hp : fitsB xs = true
  · have hS : lstS xs = lstT xs := if_pos hp
    by_cases he : lstT xs = l
    · rw [if_pos (by rw [hS]; exact he)]
      exact if_pos ⟨hp, he⟩
    · rw [if_neg (by rw [hS]; exact he)]
      exact if_neg (fun e => he e.2)
  · have hS : lstS xs = [] := if_neg hp
    rw [if_neg (by rw [hS]; exact fun e => hne e.symm)]
    exact if_neg (fun e => hp e.1)
theorem rlS_bad {l : List UInt8} (hl : l ≠ [45]) {k : Nat} {u : List UInt8} (h : (spl 44 l)[k]? = some u) (hu : rd u = none) : rl l = none := by
  rw [rl, if_neg hl, allF_none h hu]
theorem rlS_out {l : List UInt8} (hl : l ≠ [45]) {k : Nat} {u : List UInt8} {n : Int} (h : (spl 44 l)[k]? = some u) (hu : rd u = some n) (hn : inB n (-1000000000000) 1000000000000 = false) : rl l = none := by
  rw [rl, if_neg hl]
  cases hA : allF rd (spl 44 l) with
  | none => rfl
  | some xs =>
    have h1 := allF_iff.1 hA
    have h2 : ((spl 44 l).map rd)[k]? = (xs.map some)[k]? := by rw [h1]
    rw [List.getElem?_map, List.getElem?_map, h] at h2
    simp only [Option.map_some, hu] at h2
    cases hx : xs[k]? with
    | none => rw [hx] at h2; cases h2
    | some y =>
      rw [hx] at h2
      simp only [Option.map_some, Option.some.injEq] at h2
      subst h2
      exact if_neg (by rw [fits_not hx hn]; simp)
theorem rlS_long {l : List UInt8} (hl : l ≠ [45]) (h : 64 < (spl 44 l).length) : rl l = none := by
  rw [rl, if_neg hl]
  cases hA : allF rd (spl 44 l) with
  | none => rfl
  | some xs =>
    have h1 := congrArg List.length (allF_iff.1 hA)
    simp only [List.length_map] at h1
    exact if_neg (fun e => by have := (fits_iff.1 e).1; omega)
theorem rlS_end {l : List UInt8} (hl : l ≠ [45]) {xs : List Int} (h : allF rd (spl 44 l) = some xs) (h2 : (spl 44 l).length ≤ 64) (h3 : ∀ x ∈ xs, -1000000000000 ≤ x ∧ x ≤ 1000000000000) : rl l = some xs := by
  rw [rl, if_neg hl, h]
  have h1 := congrArg List.length (allF_iff.1 h)
  simp only [List.length_map] at h1
  exact if_pos (fits_iff.2 ⟨by omega, h3⟩)
theorem ints_bd {l : List (List UInt8)} {xs : List Int} (h : allF rd l = some xs) : ∀ x ∈ xs, -9223372036854775808 ≤ x ∧ x ≤ 9223372036854775807 := by
  intro x hx
  obtain ⟨u, hu⟩ := allF_mem h x hx
  have := rd_iff.1 hu
  omega
end Go.Proofs.YtknppcgoooaaaaaGreatDoor
