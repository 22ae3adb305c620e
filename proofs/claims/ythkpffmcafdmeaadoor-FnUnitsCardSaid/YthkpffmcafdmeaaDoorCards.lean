/-
  DERIVED. GIVEN WITH THE SEED: THE CARDS: each row of YthkpffmcafdmeaaDoorRows.lean that lists a variable, with what it lists TIED to the program's text (the seventh form; the later family's looks); each row that meets fmt, with fmt's text TOLD by the authors' own Lean function (tested against real Go, not proved from fmt's source: count such statements apart). THE CARD IS WHAT COUNTS. Prove the row's statement (the work); the ties are given (YthkpffmcafdmeaaDoorTie.lean); close each card by the builder's one call (the guide's Derived/Test/ToyasCard.lean, 'card_holds'). Laid BY PROGRAM, IN A SANDBOX (cutbox-door.mjs). By AI agents, Wed Nov 11 2026. No macro, syntax, notation, axiom, sorry.
-/
import Derived.Test.YthkpffmcafdmeaaDoorRows
import GoSem.ClaimSeven
namespace Go.Proofs.YthkpffmcafdmeaaDoor
namespace Rows

/-- THE TIED CARD OF 'laws.FnExactPathText'. -/
def fnExactPathTextCard : Claim7 := { stood := { row := fnExactPathTextRow, standIns := [], harness := (true, "da04765a722824c07ec946a76548558b1fc9722f5084371853a7eaaaea03d127"), looks := true }, kinds := [], alts := [], laidByText := true, laidKinds := [.data, .data, .data], laidTests := true, laidLooks := .later }
def FnExactPathTextCardSaid : Prop := Claim7.holds Tryd.pinned (.plain (OpenSpec.ofChange fnExactPathTextSpec)) fnExactPathTextCard

/-- THE TIED CARD OF 'laws.FnExactGridText'. -/
def fnExactGridTextCard : Claim7 := { stood := { row := fnExactGridTextRow, standIns := [], harness := (true, "da04765a722824c07ec946a76548558b1fc9722f5084371853a7eaaaea03d127"), looks := true }, kinds := [], alts := [], laidByText := true, laidKinds := [.data, .data, .data], laidTests := true, laidLooks := .later }
def FnExactGridTextCardSaid : Prop := Claim7.holds Tryd.pinned (.plain (OpenSpec.ofChange fnExactGridTextSpec)) fnExactGridTextCard

/-- THE TIED CARD OF 'laws.FnExactReadPath'. -/
def fnExactReadPathCard : Claim7 := { stood := { row := fnExactReadPathRow, standIns := [], harness := (true, "da04765a722824c07ec946a76548558b1fc9722f5084371853a7eaaaea03d127"), looks := true }, kinds := [], alts := [], laidByText := true, laidKinds := [.data, .data, .data, .data, .sentinel, .sentinel, .pinned], laidTests := true, laidLooks := .later }
def FnExactReadPathCardSaid : Prop := Claim7.holds Tryd.pinned (.plain (OpenSpec.ofChange fnExactReadPathSpec)) fnExactReadPathCard

/-- THE TIED CARD OF 'laws.FnExactReadGrid'. -/
def fnExactReadGridCard : Claim7 := { stood := { row := fnExactReadGridRow, standIns := [], harness := (true, "da04765a722824c07ec946a76548558b1fc9722f5084371853a7eaaaea03d127"), looks := true }, kinds := [], alts := [], laidByText := true, laidKinds := [.data, .data, .data, .data, .sentinel, .sentinel, .pinned], laidTests := true, laidLooks := .later }
def FnExactReadGridCardSaid : Prop := Claim7.holds Tryd.pinned (.plain (OpenSpec.ofChange fnExactReadGridSpec)) fnExactReadGridCard

/-- THE TIED CARD OF 'laws.FnBasics'. -/
def fnBasicsCard : Claim7 := { stood := { row := fnBasicsRow, standIns := [], harness := (true, "da04765a722824c07ec946a76548558b1fc9722f5084371853a7eaaaea03d127"), looks := true }, kinds := [], alts := [], laidByText := true, laidKinds := [.data, .data, .data, .data, .sentinel, .sentinel, .pinned], laidTests := true, laidLooks := .later }
def FnBasicsCardSaid : Prop := Claim7.holds Tryd.pinned (.plain (OpenSpec.ofChange fnBasicsSpec)) fnBasicsCard

/-- THE TIED CARD OF 'laws.FnUnits'. -/
def fnUnitsCard : Claim7 := { stood := { row := fnUnitsRow, standIns := [], harness := (true, "da04765a722824c07ec946a76548558b1fc9722f5084371853a7eaaaea03d127"), looks := true }, kinds := [], alts := [], laidByText := true, laidKinds := [.data, .data, .data, .data, .sentinel, .sentinel, .pinned], laidTests := true, laidLooks := .later }
def FnUnitsCardSaid : Prop := Claim7.holds Tryd.pinned (.plain (OpenSpec.ofChange fnUnitsSpec)) fnUnitsCard

/-- THE TIED CARD OF 'laws.FnDates'. -/
def fnDatesCard : Claim7 := { stood := { row := fnDatesRow, standIns := [], harness := (true, "da04765a722824c07ec946a76548558b1fc9722f5084371853a7eaaaea03d127"), looks := true }, kinds := [], alts := [], laidByText := true, laidKinds := [.data, .data, .data], laidTests := true, laidLooks := .later }
def FnDatesCardSaid : Prop := Claim7.holds Tryd.pinned (.plain (OpenSpec.ofChange fnDatesSpec)) fnDatesCard

/-- THE SECOND FORM's CARD OF 'laws.FnExactPathText'. -/
def fnExactPathTextUptoCard : Claim7 := { stood := { row := fnExactPathTextUptoRow, standIns := [], harness := (true, "da04765a722824c07ec946a76548558b1fc9722f5084371853a7eaaaea03d127"), looks := true }, kinds := [], alts := [], laidByText := true, laidKinds := [.data, .data, .data], laidTests := true, laidLooks := .later }
def FnExactPathTextUptoCardSaid : Prop := Claim7.holds Tryd.pinned (.plain (OpenSpec.upto fnExactPathTextSpec)) fnExactPathTextUptoCard

/-- THE SECOND FORM's CARD OF 'laws.FnExactGridText'. -/
def fnExactGridTextUptoCard : Claim7 := { stood := { row := fnExactGridTextUptoRow, standIns := [], harness := (true, "da04765a722824c07ec946a76548558b1fc9722f5084371853a7eaaaea03d127"), looks := true }, kinds := [], alts := [], laidByText := true, laidKinds := [.data, .data, .data], laidTests := true, laidLooks := .later }
def FnExactGridTextUptoCardSaid : Prop := Claim7.holds Tryd.pinned (.plain (OpenSpec.upto fnExactGridTextSpec)) fnExactGridTextUptoCard

/-- THE SECOND FORM's CARD OF 'laws.FnExactReadPath'. -/
def fnExactReadPathUptoCard : Claim7 := { stood := { row := fnExactReadPathUptoRow, standIns := [], harness := (true, "da04765a722824c07ec946a76548558b1fc9722f5084371853a7eaaaea03d127"), looks := true }, kinds := [], alts := [], laidByText := true, laidKinds := [.data, .data, .data, .data, .sentinel, .sentinel, .pinned], laidTests := true, laidLooks := .later }
def FnExactReadPathUptoCardSaid : Prop := Claim7.holds Tryd.pinned (.plain (OpenSpec.upto fnExactReadPathSpec)) fnExactReadPathUptoCard

/-- THE SECOND FORM's CARD OF 'laws.FnExactReadGrid'. -/
def fnExactReadGridUptoCard : Claim7 := { stood := { row := fnExactReadGridUptoRow, standIns := [], harness := (true, "da04765a722824c07ec946a76548558b1fc9722f5084371853a7eaaaea03d127"), looks := true }, kinds := [], alts := [], laidByText := true, laidKinds := [.data, .data, .data, .data, .sentinel, .sentinel, .pinned], laidTests := true, laidLooks := .later }
def FnExactReadGridUptoCardSaid : Prop := Claim7.holds Tryd.pinned (.plain (OpenSpec.upto fnExactReadGridSpec)) fnExactReadGridUptoCard

/-- THE SECOND FORM's CARD OF 'laws.FnBasics'. -/
def fnBasicsUptoCard : Claim7 := { stood := { row := fnBasicsUptoRow, standIns := [], harness := (true, "da04765a722824c07ec946a76548558b1fc9722f5084371853a7eaaaea03d127"), looks := true }, kinds := [], alts := [], laidByText := true, laidKinds := [.data, .data, .data, .data, .sentinel, .sentinel, .pinned], laidTests := true, laidLooks := .later }
def FnBasicsUptoCardSaid : Prop := Claim7.holds Tryd.pinned (.plain (OpenSpec.upto fnBasicsSpec)) fnBasicsUptoCard

/-- THE SECOND FORM's CARD OF 'laws.FnUnits'. -/
def fnUnitsUptoCard : Claim7 := { stood := { row := fnUnitsUptoRow, standIns := [], harness := (true, "da04765a722824c07ec946a76548558b1fc9722f5084371853a7eaaaea03d127"), looks := true }, kinds := [], alts := [], laidByText := true, laidKinds := [.data, .data, .data, .data, .sentinel, .sentinel, .pinned], laidTests := true, laidLooks := .later }
def FnUnitsUptoCardSaid : Prop := Claim7.holds Tryd.pinned (.plain (OpenSpec.upto fnUnitsSpec)) fnUnitsUptoCard

/-- THE SECOND FORM's CARD OF 'laws.FnDates'. -/
def fnDatesUptoCard : Claim7 := { stood := { row := fnDatesUptoRow, standIns := [], harness := (true, "da04765a722824c07ec946a76548558b1fc9722f5084371853a7eaaaea03d127"), looks := true }, kinds := [], alts := [], laidByText := true, laidKinds := [.data, .data, .data], laidTests := true, laidLooks := .later }
def FnDatesUptoCardSaid : Prop := Claim7.holds Tryd.pinned (.plain (OpenSpec.upto fnDatesSpec)) fnDatesUptoCard
end Rows
end Go.Proofs.YthkpffmcafdmeaaDoor
