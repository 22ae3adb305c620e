/-
  No cell of these rows narrows 'for every input' (looked for: loops, veiled, ifaces, maps, wideKeys, modest, calm, conditions, laid).
  DERIVED. THE GIVEN ROWS OF THIS SEAT. 12 by the template 'for every input the law returns true; each argument reads behind the call as it read before'; 0 by the template 'total and deterministic' (their statements: YtbakmcjngadebaaTotals.lean).
  GIVEN WITH THE SEED: the statements are not yours to turn. If you find one false, say at which input.
  Laid BY PROGRAM, IN A SANDBOX (cutbox-rows.mjs): the forced cells as the released guide's own fill.sh prints them over the translation 751bebf838bd53a5… (all of the seat's roots in one cut). By AI agents, Wed Nov 11 2026. No macro, syntax, notation, axiom, sorry.
-/
import Derived.Test.YtbakmcjngadebaaChecked
import GoSem.Claim
import GoSem.ClaimJoined
import GoSem.ClaimMapViews
import Derived.JoinedTies
import Derived.KernelRfl
namespace Go.Proofs.Ytbakmcjngadebaa
/- THE CELL 'sum', in the pinned program and in every row, IS THE sha256 OF THE DUMP (.gsa) THAT YtbakmcjngadebaaProg.lean LOADS. Nothing in Lean hashes anything: it is a label: what it is worth is what the hold of that sum in a sandbox is worth. -/
noncomputable def Try.pinned : Pinned := { name := "ytbakmcjngadebaa", sum := "751bebf838bd53a5894226f5b0a8a1a4d3a719dec447500f770282ecb8a82108", checked := Try.checked }
namespace Rows
def none {H : Type} : Left H := { results := [], args := [] }

/-- 'laws.FnExactJoinTonnes': WHATEVER THE INPUT: true; the input reads as it did. -/
def fnExactJoinTonnesSpec : ChangeSpec := { name := "fnExactJoinTonnes", fn := fun _ => fun
  | [d] => { results := [.lit (.bool true)], args := [d] }
  | _ => none }
def fnExactJoinTonnesRow : OpenClaim := { program := "ytbakmcjngadebaa", sum := "751bebf838bd53a5894226f5b0a8a1a4d3a719dec447500f770282ecb8a82108", func := "loop.example/g01013/laws.FnExactJoinTonnes", spec := "fnExactJoinTonnes", unfollowed := true, recurses := true, apart := false }
def FnExactJoinTonnesSaid : Prop := fnExactJoinTonnesRow.holds Try.pinned (OpenSpec.ofChange fnExactJoinTonnesSpec)

/-- ITS FALSE NEIGHBOUR: 'it returns false'. Refute it at one input. -/
def fnExactJoinTonnesWrong : ChangeSpec := { name := "fnExactJoinTonnes", fn := fun _ => fun
  | [d] => { results := [.lit (.bool false)], args := [d] }
  | _ => none }
def FnExactJoinTonnesWrongFalsely : Prop := fnExactJoinTonnesRow.holds Try.pinned (OpenSpec.ofChange fnExactJoinTonnesWrong)

/-- 'laws.FnExactWorstZones': WHATEVER THE INPUT: true; the input reads as it did. -/
def fnExactWorstZonesSpec : ChangeSpec := { name := "fnExactWorstZones", fn := fun _ => fun
  | [d1, d2] => { results := [.lit (.bool true)], args := [d1, d2] }
  | _ => none }
def fnExactWorstZonesRow : OpenClaim := { program := "ytbakmcjngadebaa", sum := "751bebf838bd53a5894226f5b0a8a1a4d3a719dec447500f770282ecb8a82108", func := "loop.example/g01013/laws.FnExactWorstZones", spec := "fnExactWorstZones", unfollowed := true, recurses := true, apart := false }
def FnExactWorstZonesSaid : Prop := fnExactWorstZonesRow.holds Try.pinned (OpenSpec.ofChange fnExactWorstZonesSpec)

/-- ITS FALSE NEIGHBOUR: 'it returns false'. Refute it at one input. -/
def fnExactWorstZonesWrong : ChangeSpec := { name := "fnExactWorstZones", fn := fun _ => fun
  | [d1, d2] => { results := [.lit (.bool false)], args := [d1, d2] }
  | _ => none }
def FnExactWorstZonesWrongFalsely : Prop := fnExactWorstZonesRow.holds Try.pinned (OpenSpec.ofChange fnExactWorstZonesWrong)

/-- 'laws.FnExactReturnYears': WHATEVER THE INPUT: true; the input reads as it did. -/
def fnExactReturnYearsSpec : ChangeSpec := { name := "fnExactReturnYears", fn := fun _ => fun
  | [d1, d2] => { results := [.lit (.bool true)], args := [d1, d2] }
  | _ => none }
def fnExactReturnYearsRow : OpenClaim := { program := "ytbakmcjngadebaa", sum := "751bebf838bd53a5894226f5b0a8a1a4d3a719dec447500f770282ecb8a82108", func := "loop.example/g01013/laws.FnExactReturnYears", spec := "fnExactReturnYears", unfollowed := true, recurses := true, apart := false }
def FnExactReturnYearsSaid : Prop := fnExactReturnYearsRow.holds Try.pinned (OpenSpec.ofChange fnExactReturnYearsSpec)

/-- ITS FALSE NEIGHBOUR: 'it returns false'. Refute it at one input. -/
def fnExactReturnYearsWrong : ChangeSpec := { name := "fnExactReturnYears", fn := fun _ => fun
  | [d1, d2] => { results := [.lit (.bool false)], args := [d1, d2] }
  | _ => none }
def FnExactReturnYearsWrongFalsely : Prop := fnExactReturnYearsRow.holds Try.pinned (OpenSpec.ofChange fnExactReturnYearsWrong)

/-- 'laws.FnExactZoneParts': WHATEVER THE INPUT: true; the input reads as it did. -/
def fnExactZonePartsSpec : ChangeSpec := { name := "fnExactZoneParts", fn := fun _ => fun
  | [d] => { results := [.lit (.bool true)], args := [d] }
  | _ => none }
def fnExactZonePartsRow : OpenClaim := { program := "ytbakmcjngadebaa", sum := "751bebf838bd53a5894226f5b0a8a1a4d3a719dec447500f770282ecb8a82108", func := "loop.example/g01013/laws.FnExactZoneParts", spec := "fnExactZoneParts", unfollowed := true, recurses := true, apart := false }
def FnExactZonePartsSaid : Prop := fnExactZonePartsRow.holds Try.pinned (OpenSpec.ofChange fnExactZonePartsSpec)

/-- ITS FALSE NEIGHBOUR: 'it returns false'. Refute it at one input. -/
def fnExactZonePartsWrong : ChangeSpec := { name := "fnExactZoneParts", fn := fun _ => fun
  | [d] => { results := [.lit (.bool false)], args := [d] }
  | _ => none }
def FnExactZonePartsWrongFalsely : Prop := fnExactZonePartsRow.holds Try.pinned (OpenSpec.ofChange fnExactZonePartsWrong)

/-- 'laws.FnExactValidEvents': WHATEVER THE INPUT: true; the input reads as it did. -/
def fnExactValidEventsSpec : ChangeSpec := { name := "fnExactValidEvents", fn := fun _ => fun
  | [d] => { results := [.lit (.bool true)], args := [d] }
  | _ => none }
def fnExactValidEventsRow : OpenClaim := { program := "ytbakmcjngadebaa", sum := "751bebf838bd53a5894226f5b0a8a1a4d3a719dec447500f770282ecb8a82108", func := "loop.example/g01013/laws.FnExactValidEvents", spec := "fnExactValidEvents", unfollowed := true, recurses := true, apart := false }
def FnExactValidEventsSaid : Prop := fnExactValidEventsRow.holds Try.pinned (OpenSpec.ofChange fnExactValidEventsSpec)

/-- ITS FALSE NEIGHBOUR: 'it returns false'. Refute it at one input. -/
def fnExactValidEventsWrong : ChangeSpec := { name := "fnExactValidEvents", fn := fun _ => fun
  | [d] => { results := [.lit (.bool false)], args := [d] }
  | _ => none }
def FnExactValidEventsWrongFalsely : Prop := fnExactValidEventsRow.holds Try.pinned (OpenSpec.ofChange fnExactValidEventsWrong)

/-- 'laws.FnExactSplitTonnes': WHATEVER THE INPUT: true; the input reads as it did. -/
def fnExactSplitTonnesSpec : ChangeSpec := { name := "fnExactSplitTonnes", fn := fun _ => fun
  | [d1, d2] => { results := [.lit (.bool true)], args := [d1, d2] }
  | _ => none }
def fnExactSplitTonnesRow : OpenClaim := { program := "ytbakmcjngadebaa", sum := "751bebf838bd53a5894226f5b0a8a1a4d3a719dec447500f770282ecb8a82108", func := "loop.example/g01013/laws.FnExactSplitTonnes", spec := "fnExactSplitTonnes", unfollowed := true, recurses := true, apart := false }
def FnExactSplitTonnesSaid : Prop := fnExactSplitTonnesRow.holds Try.pinned (OpenSpec.ofChange fnExactSplitTonnesSpec)

/-- ITS FALSE NEIGHBOUR: 'it returns false'. Refute it at one input. -/
def fnExactSplitTonnesWrong : ChangeSpec := { name := "fnExactSplitTonnes", fn := fun _ => fun
  | [d1, d2] => { results := [.lit (.bool false)], args := [d1, d2] }
  | _ => none }
def FnExactSplitTonnesWrongFalsely : Prop := fnExactSplitTonnesRow.holds Try.pinned (OpenSpec.ofChange fnExactSplitTonnesWrong)

/-- 'laws.FnExactValueOfYears': WHATEVER THE INPUT: true; the input reads as it did. -/
def fnExactValueOfYearsSpec : ChangeSpec := { name := "fnExactValueOfYears", fn := fun _ => fun
  | [d1, d2] => { results := [.lit (.bool true)], args := [d1, d2] }
  | _ => none }
def fnExactValueOfYearsRow : OpenClaim := { program := "ytbakmcjngadebaa", sum := "751bebf838bd53a5894226f5b0a8a1a4d3a719dec447500f770282ecb8a82108", func := "loop.example/g01013/laws.FnExactValueOfYears", spec := "fnExactValueOfYears", unfollowed := true, recurses := true, apart := false }
def FnExactValueOfYearsSaid : Prop := fnExactValueOfYearsRow.holds Try.pinned (OpenSpec.ofChange fnExactValueOfYearsSpec)

/-- ITS FALSE NEIGHBOUR: 'it returns false'. Refute it at one input. -/
def fnExactValueOfYearsWrong : ChangeSpec := { name := "fnExactValueOfYears", fn := fun _ => fun
  | [d1, d2] => { results := [.lit (.bool false)], args := [d1, d2] }
  | _ => none }
def FnExactValueOfYearsWrongFalsely : Prop := fnExactValueOfYearsRow.holds Try.pinned (OpenSpec.ofChange fnExactValueOfYearsWrong)

/-- 'laws.FnExactZonesText': WHATEVER THE INPUT: true; the input reads as it did. -/
def fnExactZonesTextSpec : ChangeSpec := { name := "fnExactZonesText", fn := fun _ => fun
  | [d] => { results := [.lit (.bool true)], args := [d] }
  | _ => none }
def fnExactZonesTextRow : OpenClaim := { program := "ytbakmcjngadebaa", sum := "751bebf838bd53a5894226f5b0a8a1a4d3a719dec447500f770282ecb8a82108", func := "loop.example/g01013/laws.FnExactZonesText", spec := "fnExactZonesText", inPlace := ["internal/abi.NoEscape", "internal/bytealg.MakeNoZero"], unfollowed := true, recurses := true, apart := false }
def FnExactZonesTextSaid : Prop := fnExactZonesTextRow.holds Try.pinned (OpenSpec.ofChange fnExactZonesTextSpec)

/-- ITS FALSE NEIGHBOUR: 'it returns false'. Refute it at one input. -/
def fnExactZonesTextWrong : ChangeSpec := { name := "fnExactZonesText", fn := fun _ => fun
  | [d] => { results := [.lit (.bool false)], args := [d] }
  | _ => none }
def FnExactZonesTextWrongFalsely : Prop := fnExactZonesTextRow.holds Try.pinned (OpenSpec.ofChange fnExactZonesTextWrong)

/-- 'laws.FnExactRiskOf': WHATEVER THE INPUT: true; the input reads as it did. -/
def fnExactRiskOfSpec : ChangeSpec := { name := "fnExactRiskOf", fn := fun _ => fun
  | [d1, d2, d3] => { results := [.lit (.bool true)], args := [d1, d2, d3] }
  | _ => none }
def fnExactRiskOfRow : OpenClaim := { program := "ytbakmcjngadebaa", sum := "751bebf838bd53a5894226f5b0a8a1a4d3a719dec447500f770282ecb8a82108", func := "loop.example/g01013/laws.FnExactRiskOf", spec := "fnExactRiskOf", unfollowed := true, recurses := true, apart := false }
def FnExactRiskOfSaid : Prop := fnExactRiskOfRow.holds Try.pinned (OpenSpec.ofChange fnExactRiskOfSpec)

/-- ITS FALSE NEIGHBOUR: 'it returns false'. Refute it at one input. -/
def fnExactRiskOfWrong : ChangeSpec := { name := "fnExactRiskOf", fn := fun _ => fun
  | [d1, d2, d3] => { results := [.lit (.bool false)], args := [d1, d2, d3] }
  | _ => none }
def FnExactRiskOfWrongFalsely : Prop := fnExactRiskOfRow.holds Try.pinned (OpenSpec.ofChange fnExactRiskOfWrong)

/-- 'laws.FnVolumes': WHATEVER THE INPUT: true; the input reads as it did. -/
def fnVolumesSpec : ChangeSpec := { name := "fnVolumes", fn := fun _ => fun
  | [d1, d2] => { results := [.lit (.bool true)], args := [d1, d2] }
  | _ => none }
def fnVolumesRow : OpenClaim := { program := "ytbakmcjngadebaa", sum := "751bebf838bd53a5894226f5b0a8a1a4d3a719dec447500f770282ecb8a82108", func := "loop.example/g01013/laws.FnVolumes", spec := "fnVolumes", unfollowed := true, recurses := true, apart := false }
def FnVolumesSaid : Prop := fnVolumesRow.holds Try.pinned (OpenSpec.ofChange fnVolumesSpec)

/-- ITS FALSE NEIGHBOUR: 'it returns false'. Refute it at one input. -/
def fnVolumesWrong : ChangeSpec := { name := "fnVolumes", fn := fun _ => fun
  | [d1, d2] => { results := [.lit (.bool false)], args := [d1, d2] }
  | _ => none }
def FnVolumesWrongFalsely : Prop := fnVolumesRow.holds Try.pinned (OpenSpec.ofChange fnVolumesWrong)

/-- 'laws.FnExactZonesOf': WHATEVER THE INPUT: true; the input reads as it did. -/
def fnExactZonesOfSpec : ChangeSpec := { name := "fnExactZonesOf", fn := fun _ => fun
  | [d] => { results := [.lit (.bool true)], args := [d] }
  | _ => none }
def fnExactZonesOfRow : OpenClaim := { program := "ytbakmcjngadebaa", sum := "751bebf838bd53a5894226f5b0a8a1a4d3a719dec447500f770282ecb8a82108", func := "loop.example/g01013/laws.FnExactZonesOf", spec := "fnExactZonesOf", unfollowed := true, recurses := true, apart := false }
def FnExactZonesOfSaid : Prop := fnExactZonesOfRow.holds Try.pinned (OpenSpec.ofChange fnExactZonesOfSpec)

/-- ITS FALSE NEIGHBOUR: 'it returns false'. Refute it at one input. -/
def fnExactZonesOfWrong : ChangeSpec := { name := "fnExactZonesOf", fn := fun _ => fun
  | [d] => { results := [.lit (.bool false)], args := [d] }
  | _ => none }
def FnExactZonesOfWrongFalsely : Prop := fnExactZonesOfRow.holds Try.pinned (OpenSpec.ofChange fnExactZonesOfWrong)

/-- 'laws.FnReturns': WHATEVER THE INPUT: true; the input reads as it did. -/
def fnReturnsSpec : ChangeSpec := { name := "fnReturns", fn := fun _ => fun
  | [d1, d2] => { results := [.lit (.bool true)], args := [d1, d2] }
  | _ => none }
def fnReturnsRow : OpenClaim := { program := "ytbakmcjngadebaa", sum := "751bebf838bd53a5894226f5b0a8a1a4d3a719dec447500f770282ecb8a82108", func := "loop.example/g01013/laws.FnReturns", spec := "fnReturns", unfollowed := true, recurses := true, apart := false }
def FnReturnsSaid : Prop := fnReturnsRow.holds Try.pinned (OpenSpec.ofChange fnReturnsSpec)

/-- ITS FALSE NEIGHBOUR: 'it returns false'. Refute it at one input. -/
def fnReturnsWrong : ChangeSpec := { name := "fnReturns", fn := fun _ => fun
  | [d1, d2] => { results := [.lit (.bool false)], args := [d1, d2] }
  | _ => none }
def FnReturnsWrongFalsely : Prop := fnReturnsRow.holds Try.pinned (OpenSpec.ofChange fnReturnsWrong)

/- THE SECOND FORM. 'bulk': how many values and letters a reading holds, each counted each time it is reached (what is shared counts as often as it is met; a slice's spare places count too). A statement '..UptoSaid' is the law's where the arguments, and the package variables that the reading takes, are together of bulk at most 1048576: NARROWER than '..Said'. Prove '..Said' where nothing that the law and all that it calls make is longer than what came in: it says more and counts as full. Else prove '..UptoSaid'. A law counts once. -/
mutual
def uptoBulk {H : Type} : DataW H → Nat
  | .lit (.string bytes) => bytes.length + 1
  | .lit _ => 1
  | .nil => 1
  | .ptr d => uptoBulk d + 1
  | .slice elems spare => uptoBulkAll elems + uptoBulkAll spare + 1
  | .agg parts => uptoBulkAll parts + 1
  | .iface _ d => uptoBulk d + 1
  | .map entries => uptoBulkEntries entries + 1
  | .held _ => 1
def uptoBulkAll {H : Type} : List (DataW H) → Nat
  | [] => 0
  | d :: r => uptoBulk d + uptoBulkAll r
def uptoBulkEntries {H : Type} : List (Lit × DataW H) → Nat
  | [] => 0
  | x :: r => uptoBulkEntry x + uptoBulkEntries r
def uptoBulkEntry {H : Type} : Lit × DataW H → Nat
  | (.string bytes, d) => bytes.length + uptoBulk d + 1
  | (_, d) => uptoBulk d + 1
 end
def uptoSmall : (H : Type) → List (DataW H) → Bool := fun _ ds => decide (uptoBulkAll ds ≤ 1048576)
def OpenSpec.upto (s : _root_.Go.ChangeSpec) : _root_.Go.OpenSpec := { _root_.Go.OpenSpec.ofChange s with cond := some uptoSmall }

/-- 'laws.FnExactJoinTonnes', WHERE WHAT IT READS IS OF BULK AT MOST 1048576: true; the input reads as it did. -/
def fnExactJoinTonnesUptoRow : OpenClaim := { program := "ytbakmcjngadebaa", sum := "751bebf838bd53a5894226f5b0a8a1a4d3a719dec447500f770282ecb8a82108", func := "loop.example/g01013/laws.FnExactJoinTonnes", spec := "fnExactJoinTonnes", unfollowed := true, recurses := true, apart := false, narrowed := true }
def FnExactJoinTonnesUptoSaid : Prop := fnExactJoinTonnesUptoRow.holds Try.pinned (OpenSpec.upto fnExactJoinTonnesSpec)

/-- 'laws.FnExactWorstZones', WHERE WHAT IT READS IS OF BULK AT MOST 1048576: true; the input reads as it did. -/
def fnExactWorstZonesUptoRow : OpenClaim := { program := "ytbakmcjngadebaa", sum := "751bebf838bd53a5894226f5b0a8a1a4d3a719dec447500f770282ecb8a82108", func := "loop.example/g01013/laws.FnExactWorstZones", spec := "fnExactWorstZones", unfollowed := true, recurses := true, apart := false, narrowed := true }
def FnExactWorstZonesUptoSaid : Prop := fnExactWorstZonesUptoRow.holds Try.pinned (OpenSpec.upto fnExactWorstZonesSpec)

/-- 'laws.FnExactReturnYears', WHERE WHAT IT READS IS OF BULK AT MOST 1048576: true; the input reads as it did. -/
def fnExactReturnYearsUptoRow : OpenClaim := { program := "ytbakmcjngadebaa", sum := "751bebf838bd53a5894226f5b0a8a1a4d3a719dec447500f770282ecb8a82108", func := "loop.example/g01013/laws.FnExactReturnYears", spec := "fnExactReturnYears", unfollowed := true, recurses := true, apart := false, narrowed := true }
def FnExactReturnYearsUptoSaid : Prop := fnExactReturnYearsUptoRow.holds Try.pinned (OpenSpec.upto fnExactReturnYearsSpec)

/-- 'laws.FnExactZoneParts', WHERE WHAT IT READS IS OF BULK AT MOST 1048576: true; the input reads as it did. -/
def fnExactZonePartsUptoRow : OpenClaim := { program := "ytbakmcjngadebaa", sum := "751bebf838bd53a5894226f5b0a8a1a4d3a719dec447500f770282ecb8a82108", func := "loop.example/g01013/laws.FnExactZoneParts", spec := "fnExactZoneParts", unfollowed := true, recurses := true, apart := false, narrowed := true }
def FnExactZonePartsUptoSaid : Prop := fnExactZonePartsUptoRow.holds Try.pinned (OpenSpec.upto fnExactZonePartsSpec)

/-- 'laws.FnExactValidEvents', WHERE WHAT IT READS IS OF BULK AT MOST 1048576: true; the input reads as it did. -/
def fnExactValidEventsUptoRow : OpenClaim := { program := "ytbakmcjngadebaa", sum := "751bebf838bd53a5894226f5b0a8a1a4d3a719dec447500f770282ecb8a82108", func := "loop.example/g01013/laws.FnExactValidEvents", spec := "fnExactValidEvents", unfollowed := true, recurses := true, apart := false, narrowed := true }
def FnExactValidEventsUptoSaid : Prop := fnExactValidEventsUptoRow.holds Try.pinned (OpenSpec.upto fnExactValidEventsSpec)

/-- 'laws.FnExactSplitTonnes', WHERE WHAT IT READS IS OF BULK AT MOST 1048576: true; the input reads as it did. -/
def fnExactSplitTonnesUptoRow : OpenClaim := { program := "ytbakmcjngadebaa", sum := "751bebf838bd53a5894226f5b0a8a1a4d3a719dec447500f770282ecb8a82108", func := "loop.example/g01013/laws.FnExactSplitTonnes", spec := "fnExactSplitTonnes", unfollowed := true, recurses := true, apart := false, narrowed := true }
def FnExactSplitTonnesUptoSaid : Prop := fnExactSplitTonnesUptoRow.holds Try.pinned (OpenSpec.upto fnExactSplitTonnesSpec)

/-- 'laws.FnExactValueOfYears', WHERE WHAT IT READS IS OF BULK AT MOST 1048576: true; the input reads as it did. -/
def fnExactValueOfYearsUptoRow : OpenClaim := { program := "ytbakmcjngadebaa", sum := "751bebf838bd53a5894226f5b0a8a1a4d3a719dec447500f770282ecb8a82108", func := "loop.example/g01013/laws.FnExactValueOfYears", spec := "fnExactValueOfYears", unfollowed := true, recurses := true, apart := false, narrowed := true }
def FnExactValueOfYearsUptoSaid : Prop := fnExactValueOfYearsUptoRow.holds Try.pinned (OpenSpec.upto fnExactValueOfYearsSpec)

/-- 'laws.FnExactZonesText', WHERE WHAT IT READS IS OF BULK AT MOST 1048576: true; the input reads as it did. -/
def fnExactZonesTextUptoRow : OpenClaim := { program := "ytbakmcjngadebaa", sum := "751bebf838bd53a5894226f5b0a8a1a4d3a719dec447500f770282ecb8a82108", func := "loop.example/g01013/laws.FnExactZonesText", spec := "fnExactZonesText", inPlace := ["internal/abi.NoEscape", "internal/bytealg.MakeNoZero"], unfollowed := true, recurses := true, apart := false, narrowed := true }
def FnExactZonesTextUptoSaid : Prop := fnExactZonesTextUptoRow.holds Try.pinned (OpenSpec.upto fnExactZonesTextSpec)

/-- 'laws.FnExactRiskOf', WHERE WHAT IT READS IS OF BULK AT MOST 1048576: true; the input reads as it did. -/
def fnExactRiskOfUptoRow : OpenClaim := { program := "ytbakmcjngadebaa", sum := "751bebf838bd53a5894226f5b0a8a1a4d3a719dec447500f770282ecb8a82108", func := "loop.example/g01013/laws.FnExactRiskOf", spec := "fnExactRiskOf", unfollowed := true, recurses := true, apart := false, narrowed := true }
def FnExactRiskOfUptoSaid : Prop := fnExactRiskOfUptoRow.holds Try.pinned (OpenSpec.upto fnExactRiskOfSpec)

/-- 'laws.FnVolumes', WHERE WHAT IT READS IS OF BULK AT MOST 1048576: true; the input reads as it did. -/
def fnVolumesUptoRow : OpenClaim := { program := "ytbakmcjngadebaa", sum := "751bebf838bd53a5894226f5b0a8a1a4d3a719dec447500f770282ecb8a82108", func := "loop.example/g01013/laws.FnVolumes", spec := "fnVolumes", unfollowed := true, recurses := true, apart := false, narrowed := true }
def FnVolumesUptoSaid : Prop := fnVolumesUptoRow.holds Try.pinned (OpenSpec.upto fnVolumesSpec)

/-- 'laws.FnExactZonesOf', WHERE WHAT IT READS IS OF BULK AT MOST 1048576: true; the input reads as it did. -/
def fnExactZonesOfUptoRow : OpenClaim := { program := "ytbakmcjngadebaa", sum := "751bebf838bd53a5894226f5b0a8a1a4d3a719dec447500f770282ecb8a82108", func := "loop.example/g01013/laws.FnExactZonesOf", spec := "fnExactZonesOf", unfollowed := true, recurses := true, apart := false, narrowed := true }
def FnExactZonesOfUptoSaid : Prop := fnExactZonesOfUptoRow.holds Try.pinned (OpenSpec.upto fnExactZonesOfSpec)

/-- 'laws.FnReturns', WHERE WHAT IT READS IS OF BULK AT MOST 1048576: true; the input reads as it did. -/
def fnReturnsUptoRow : OpenClaim := { program := "ytbakmcjngadebaa", sum := "751bebf838bd53a5894226f5b0a8a1a4d3a719dec447500f770282ecb8a82108", func := "loop.example/g01013/laws.FnReturns", spec := "fnReturns", unfollowed := true, recurses := true, apart := false, narrowed := true }
def FnReturnsUptoSaid : Prop := fnReturnsUptoRow.holds Try.pinned (OpenSpec.upto fnReturnsSpec)

end Rows
end Go.Proofs.Ytbakmcjngadebaa
