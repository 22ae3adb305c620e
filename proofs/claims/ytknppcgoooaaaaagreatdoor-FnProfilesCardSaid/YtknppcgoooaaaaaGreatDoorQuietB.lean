/-
  A drawn region whose operations read old memory and whose callees may make new memory: one walk in the order of the text serves every order (the class of worlds in which all that lay there stands).
-/
import Derived.Test.YtknppcgoooaaaaaGreatDoorBase
import Derived.Test.YtknppcgoooaaaaaGreatDoorMem
import Derived.BigQuiet
namespace Go.Proofs.YtknppcgoooaaaaaGreatDoor
open Go.RowKit
set_option linter.unusedVariables false

/-- A world in which all that lay in wr stands. -/
structure BW (wr : World) where
  W : World
  h : Below wr.heap.size wr W
instance (wr : World) : Nonempty (BW wr) := ⟨⟨wr, Below.refl _ _⟩⟩
theorem BW.cell {wr : World} {b k : Nat} {v : Value} (h : wr.cell? ⟨b, k, none⟩ = some v) : ∀ x : BW wr, x.W.cell? ⟨b, k, none⟩ = some v := fun x => cell_kept x.h h
theorem region_quietB {P : Program} {id : Nat} {Q : Exit → Act → World → Prop} {a : Act} {w : World} {l : List Oper} (wr : World) (hb : Below wr.heap.size wr w) (hm : P.follows .mixedOrders = true) (hB : Region.lexB .any l.toArray = true)
    (h : wpQuiet P l.toArray (fun w' => ∃ x : BW wr, w' = x.W) (fun a' => ∀ w', (∃ x : BW wr, w' = x.W) → Q .normal a' w') l a) : (Code.region id l.toArray true).wp P Q a w :=
  wp_region_quiet (C := fun w' => ∃ x : BW wr, w' = x.W) hm hB ⟨⟨_, hb.drew⟩, rfl⟩ (by simpa using h)
theorem quietB_call {P : Program} {f : FuncId} {args : Array Value} {wr : World} {x : BW wr} {v : Value} (h : Calls P f args x.W fun e w' => e = .returned v ∧ Below x.W.heap.size x.W w') :
    Calls P f args x.W fun e w'' => e = .returned v ∧ ∃ y : BW wr, w'' = y.W :=
  h.mono fun _ w' ⟨he, hb⟩ => ⟨he, ⟨w', x.h.trans (hb.mono x.h.size)⟩, rfl⟩
end Go.Proofs.YtknppcgoooaaaaaGreatDoor
