/-
  The contracts of the functions of plain numbers: zones, pressures, slabs, sizes.
-/
import Derived.Test.YtknppcgoooaaaaaGreatDoorArith
namespace Go.Proofs.YtknppcgoooaaaaaGreatDoor
open Go.RowKit

theorem mul_bd {a b A B : Int} (ha : 0 ≤ a) (hA : a ≤ A) (hb : 0 ≤ b) (hB : b ≤ B) : 0 ≤ a * b ∧ a * b ≤ A * B :=
  ⟨Int.mul_nonneg ha hb, Int.mul_le_mul hA hB hb (by omega)⟩

/-! ### Zones -/
/-- The zone of a pressure. -/
def zoneV (p y : Int) : Int :=
  if 30000 ≤ p ∨ (3000 ≤ p ∧ y ≤ 30) then 3 else if 3000 ≤ p ∨ (0 < p ∧ y ≤ 30) then 2 else if 0 < p then 1 else 0
/-- The answer of ZoneOf. -/
def zoneA (p y : Int) : Int := if inB p 0 1000000 && inB y 1 300 then zoneV p y else 0
def zoneC (p y : Int) : Int := if inB p 0 1000000 && inB y 1 300 then 0 else 2

/-! ### Pressures -/
def pressA (d s : Int) : Int := if inB d 1 1000 && inB s 0 10000 then divN (d * s * s) 10000 else 0
def pressC (d s : Int) : Int := if inB d 1 1000 && inB s 0 10000 then 0 else 2

/-! ### Slabs -/
def slabA (a b : Int) : Int := if inB a 0 1000000 && inB b 0 1000 then divN (a * b) 100 else 0
def slabC (a b : Int) : Int := if inB a 0 1000000 && inB b 0 1000 then 0 else 2

def tonA (a b c : Int) : Int := if inB a 0 1000000 && inB b 0 1000 && inB c 1 1000 then divN (a * b * c) 100000 else 0
def tonC (a b c : Int) : Int := if inB a 0 1000000 && inB b 0 1000 && inB c 1 1000 then 0 else 2

def depA (a b c : Int) : Int := if inB a 0 100000000 && inB b 1 1000000 && inB c 1 1000 then divN (a * 100000) (b * c) else 0
def depC (a b c : Int) : Int := if inB a 0 100000000 && inB b 1 1000000 && inB c 1 1000 then 0 else 2
theorem pos_mul {a b : Int} (ha : 1 ≤ a) (hb : 1 ≤ b) : 1 ≤ a * b := by
  have := Int.mul_le_mul ha hb (by omega) (by omega)
  omega

/-! ### Sizes -/
def cls (n : Int) : Int := if 10000 ≤ n then 5 else if 1000 ≤ n then 4 else if 100 ≤ n then 3 else if 10 ≤ n then 2 else 1
def sizeA (n : Int) : Int := if inB n 0 100000000 then cls n else 0
def sizeC (n : Int) : Int := if inB n 0 100000000 then 0 else 2
end Go.Proofs.YtknppcgoooaaaaaGreatDoor
