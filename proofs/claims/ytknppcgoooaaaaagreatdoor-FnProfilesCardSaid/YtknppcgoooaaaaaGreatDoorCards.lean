/-
  DERIVED. GIVEN WITH THE SEED: THE CARDS: each row of YtknppcgoooaaaaaGreatDoorRows.lean that lists a variable, with what it lists TIED to the program's text (the seventh form; the later family's looks); each row that meets fmt, with fmt's text TOLD by the authors' own Lean function (tested against real Go, not proved from fmt's source: count such statements apart). THE CARD IS WHAT COUNTS. Prove the row's statement (the work); the ties are given (YtknppcgoooaaaaaGreatDoorTie.lean); close each card by the builder's one call (the guide's Derived/Test/ToyasCard.lean, 'card_holds'). Laid BY PROGRAM, IN A SANDBOX (cutbox-door.mjs). By AI agents, Wed Nov 11 2026. No macro, syntax, notation, axiom, sorry.
-/
import Derived.Test.YtknppcgoooaaaaaGreatDoorRows
import GoSem.ClaimSeven
namespace Go.Proofs.YtknppcgoooaaaaaGreatDoor
namespace Rows

/-- THE TIED CARD OF 'laws.FnAngles'. -/
def fnAnglesCard : Claim7 := { stood := { row := fnAnglesRow, standIns := [], harness := (true, "bb7d7643c7671c43d720477d5d3beb5a775f04363dc07efed85653d7804476f5"), looks := true }, kinds := [], alts := [], laidByText := true, laidKinds := [.data, .data, .data, .data, .sentinel, .sentinel, .pinned], laidTests := true, laidLooks := .later }
def FnAnglesCardSaid : Prop := Claim7.holds Tryz.pinned (.plain (OpenSpec.ofChange fnAnglesSpec)) fnAnglesCard

/-- THE TIED CARD OF 'laws.FnProfiles'. -/
def fnProfilesCard : Claim7 := { stood := { row := fnProfilesRow, standIns := [], harness := (true, "bb7d7643c7671c43d720477d5d3beb5a775f04363dc07efed85653d7804476f5"), looks := true }, kinds := [], alts := [], laidByText := true, laidKinds := [.data, .data, .data, .data, .sentinel, .sentinel, .pinned], laidTests := true, laidLooks := .later }
def FnProfilesCardSaid : Prop := Claim7.holds Tryz.pinned (.plain (OpenSpec.ofChange fnProfilesSpec)) fnProfilesCard

/-- THE SECOND FORM's CARD OF 'laws.FnAngles'. -/
def fnAnglesUptoCard : Claim7 := { stood := { row := fnAnglesUptoRow, standIns := [], harness := (true, "bb7d7643c7671c43d720477d5d3beb5a775f04363dc07efed85653d7804476f5"), looks := true }, kinds := [], alts := [], laidByText := true, laidKinds := [.data, .data, .data, .data, .sentinel, .sentinel, .pinned], laidTests := true, laidLooks := .later }
def FnAnglesUptoCardSaid : Prop := Claim7.holds Tryz.pinned (.plain (OpenSpec.upto fnAnglesSpec)) fnAnglesUptoCard

/-- THE SECOND FORM's CARD OF 'laws.FnProfiles'. -/
def fnProfilesUptoCard : Claim7 := { stood := { row := fnProfilesUptoRow, standIns := [], harness := (true, "bb7d7643c7671c43d720477d5d3beb5a775f04363dc07efed85653d7804476f5"), looks := true }, kinds := [], alts := [], laidByText := true, laidKinds := [.data, .data, .data, .data, .sentinel, .sentinel, .pinned], laidTests := true, laidLooks := .later }
def FnProfilesUptoCardSaid : Prop := Claim7.holds Tryz.pinned (.plain (OpenSpec.upto fnProfilesSpec)) fnProfilesUptoCard
end Rows
end Go.Proofs.YtknppcgoooaaaaaGreatDoor
