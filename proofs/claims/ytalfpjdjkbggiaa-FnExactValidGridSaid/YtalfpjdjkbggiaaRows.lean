/-
  No cell of these rows narrows 'for every input' (looked for: loops, veiled, ifaces, maps, wideKeys, modest, calm, conditions, laid).
  DERIVED. THE GIVEN ROWS OF THIS SEAT. 12 by the template 'for every input the law returns true; each argument reads behind the call as it read before'; 0 by the template 'total and deterministic' (their statements: YtalfpjdjkbggiaaTotals.lean).
  GIVEN WITH THE SEED: the statements are not yours to turn. If you find one false, say at which input.
  Laid BY PROGRAM, IN A SANDBOX (cutbox-rows.mjs): the forced cells as the released guide's own fill.sh prints them over the translation 7c8a4adcc6921aff… (all of the seat's roots in one cut). By AI agents, Wed Nov 11 2026. No macro, syntax, notation, axiom, sorry.
-/
import Derived.Test.YtalfpjdjkbggiaaChecked
import GoSem.Claim
import GoSem.ClaimJoined
import GoSem.ClaimMapViews
import Derived.JoinedTies
import Derived.KernelRfl
namespace Go.Proofs.Ytalfpjdjkbggiaa
/- THE CELL 'sum', in the pinned program and in every row, IS THE sha256 OF THE DUMP (.gsa) THAT YtalfpjdjkbggiaaProg.lean LOADS. Nothing in Lean hashes anything: it is a label: what it is worth is what the hold of that sum in a sandbox is worth. -/
noncomputable def Try.pinned : Pinned := { name := "ytalfpjdjkbggiaa", sum := "7c8a4adcc6921affe88eafd78adb081ebff893b42a20f2458304408e472f8780", checked := Try.checked }
namespace Rows
def none {H : Type} : Left H := { results := [], args := [] }

/-- 'laws.FnExactAspectName': WHATEVER THE INPUT: true; the input reads as it did. -/
def fnExactAspectNameSpec : ChangeSpec := { name := "fnExactAspectName", fn := fun _ => fun
  | [d] => { results := [.lit (.bool true)], args := [d] }
  | _ => none }
def fnExactAspectNameRow : OpenClaim := { program := "ytalfpjdjkbggiaa", sum := "7c8a4adcc6921affe88eafd78adb081ebff893b42a20f2458304408e472f8780", func := "loop.example/g01013/laws.FnExactAspectName", spec := "fnExactAspectName", apart := false }
def FnExactAspectNameSaid : Prop := fnExactAspectNameRow.holds Try.pinned (OpenSpec.ofChange fnExactAspectNameSpec)

/-- ITS FALSE NEIGHBOUR: 'it returns false'. Refute it at one input. -/
def fnExactAspectNameWrong : ChangeSpec := { name := "fnExactAspectName", fn := fun _ => fun
  | [d] => { results := [.lit (.bool false)], args := [d] }
  | _ => none }
def FnExactAspectNameWrongFalsely : Prop := fnExactAspectNameRow.holds Try.pinned (OpenSpec.ofChange fnExactAspectNameWrong)

/-- 'laws.FnExactZoneName': WHATEVER THE INPUT: true; the input reads as it did. -/
def fnExactZoneNameSpec : ChangeSpec := { name := "fnExactZoneName", fn := fun _ => fun
  | [d] => { results := [.lit (.bool true)], args := [d] }
  | _ => none }
def fnExactZoneNameRow : OpenClaim := { program := "ytalfpjdjkbggiaa", sum := "7c8a4adcc6921affe88eafd78adb081ebff893b42a20f2458304408e472f8780", func := "loop.example/g01013/laws.FnExactZoneName", spec := "fnExactZoneName", apart := false }
def FnExactZoneNameSaid : Prop := fnExactZoneNameRow.holds Try.pinned (OpenSpec.ofChange fnExactZoneNameSpec)

/-- ITS FALSE NEIGHBOUR: 'it returns false'. Refute it at one input. -/
def fnExactZoneNameWrong : ChangeSpec := { name := "fnExactZoneName", fn := fun _ => fun
  | [d] => { results := [.lit (.bool false)], args := [d] }
  | _ => none }
def FnExactZoneNameWrongFalsely : Prop := fnExactZoneNameRow.holds Try.pinned (OpenSpec.ofChange fnExactZoneNameWrong)

/-- 'laws.FnExactSizeClass': WHATEVER THE INPUT: true; the input reads as it did. -/
def fnExactSizeClassSpec : ChangeSpec := { name := "fnExactSizeClass", fn := fun _ => fun
  | [d] => { results := [.lit (.bool true)], args := [d] }
  | _ => none }
def fnExactSizeClassRow : OpenClaim := { program := "ytalfpjdjkbggiaa", sum := "7c8a4adcc6921affe88eafd78adb081ebff893b42a20f2458304408e472f8780", func := "loop.example/g01013/laws.FnExactSizeClass", spec := "fnExactSizeClass", apart := false }
def FnExactSizeClassSaid : Prop := fnExactSizeClassRow.holds Try.pinned (OpenSpec.ofChange fnExactSizeClassSpec)

/-- ITS FALSE NEIGHBOUR: 'it returns false'. Refute it at one input. -/
def fnExactSizeClassWrong : ChangeSpec := { name := "fnExactSizeClass", fn := fun _ => fun
  | [d] => { results := [.lit (.bool false)], args := [d] }
  | _ => none }
def FnExactSizeClassWrongFalsely : Prop := fnExactSizeClassRow.holds Try.pinned (OpenSpec.ofChange fnExactSizeClassWrong)

/-- 'laws.FnExactPressureOf': WHATEVER THE INPUT: true; the input reads as it did. -/
def fnExactPressureOfSpec : ChangeSpec := { name := "fnExactPressureOf", fn := fun _ => fun
  | [d1, d2] => { results := [.lit (.bool true)], args := [d1, d2] }
  | _ => none }
def fnExactPressureOfRow : OpenClaim := { program := "ytalfpjdjkbggiaa", sum := "7c8a4adcc6921affe88eafd78adb081ebff893b42a20f2458304408e472f8780", func := "loop.example/g01013/laws.FnExactPressureOf", spec := "fnExactPressureOf", apart := false }
def FnExactPressureOfSaid : Prop := fnExactPressureOfRow.holds Try.pinned (OpenSpec.ofChange fnExactPressureOfSpec)

/-- ITS FALSE NEIGHBOUR: 'it returns false'. Refute it at one input. -/
def fnExactPressureOfWrong : ChangeSpec := { name := "fnExactPressureOf", fn := fun _ => fun
  | [d1, d2] => { results := [.lit (.bool false)], args := [d1, d2] }
  | _ => none }
def FnExactPressureOfWrongFalsely : Prop := fnExactPressureOfRow.holds Try.pinned (OpenSpec.ofChange fnExactPressureOfWrong)

/-- 'laws.FnExactZoneOf': WHATEVER THE INPUT: true; the input reads as it did. -/
def fnExactZoneOfSpec : ChangeSpec := { name := "fnExactZoneOf", fn := fun _ => fun
  | [d1, d2] => { results := [.lit (.bool true)], args := [d1, d2] }
  | _ => none }
def fnExactZoneOfRow : OpenClaim := { program := "ytalfpjdjkbggiaa", sum := "7c8a4adcc6921affe88eafd78adb081ebff893b42a20f2458304408e472f8780", func := "loop.example/g01013/laws.FnExactZoneOf", spec := "fnExactZoneOf", apart := false }
def FnExactZoneOfSaid : Prop := fnExactZoneOfRow.holds Try.pinned (OpenSpec.ofChange fnExactZoneOfSpec)

/-- ITS FALSE NEIGHBOUR: 'it returns false'. Refute it at one input. -/
def fnExactZoneOfWrong : ChangeSpec := { name := "fnExactZoneOf", fn := fun _ => fun
  | [d1, d2] => { results := [.lit (.bool false)], args := [d1, d2] }
  | _ => none }
def FnExactZoneOfWrongFalsely : Prop := fnExactZoneOfRow.holds Try.pinned (OpenSpec.ofChange fnExactZoneOfWrong)

/-- 'laws.FnExactSlabVolume': WHATEVER THE INPUT: true; the input reads as it did. -/
def fnExactSlabVolumeSpec : ChangeSpec := { name := "fnExactSlabVolume", fn := fun _ => fun
  | [d1, d2] => { results := [.lit (.bool true)], args := [d1, d2] }
  | _ => none }
def fnExactSlabVolumeRow : OpenClaim := { program := "ytalfpjdjkbggiaa", sum := "7c8a4adcc6921affe88eafd78adb081ebff893b42a20f2458304408e472f8780", func := "loop.example/g01013/laws.FnExactSlabVolume", spec := "fnExactSlabVolume", apart := false }
def FnExactSlabVolumeSaid : Prop := fnExactSlabVolumeRow.holds Try.pinned (OpenSpec.ofChange fnExactSlabVolumeSpec)

/-- ITS FALSE NEIGHBOUR: 'it returns false'. Refute it at one input. -/
def fnExactSlabVolumeWrong : ChangeSpec := { name := "fnExactSlabVolume", fn := fun _ => fun
  | [d1, d2] => { results := [.lit (.bool false)], args := [d1, d2] }
  | _ => none }
def FnExactSlabVolumeWrongFalsely : Prop := fnExactSlabVolumeRow.holds Try.pinned (OpenSpec.ofChange fnExactSlabVolumeWrong)

/-- 'laws.FnExactDepositDepth': WHATEVER THE INPUT: true; the input reads as it did. -/
def fnExactDepositDepthSpec : ChangeSpec := { name := "fnExactDepositDepth", fn := fun _ => fun
  | [d1, d2, d3] => { results := [.lit (.bool true)], args := [d1, d2, d3] }
  | _ => none }
def fnExactDepositDepthRow : OpenClaim := { program := "ytalfpjdjkbggiaa", sum := "7c8a4adcc6921affe88eafd78adb081ebff893b42a20f2458304408e472f8780", func := "loop.example/g01013/laws.FnExactDepositDepth", spec := "fnExactDepositDepth", apart := false }
def FnExactDepositDepthSaid : Prop := fnExactDepositDepthRow.holds Try.pinned (OpenSpec.ofChange fnExactDepositDepthSpec)

/-- ITS FALSE NEIGHBOUR: 'it returns false'. Refute it at one input. -/
def fnExactDepositDepthWrong : ChangeSpec := { name := "fnExactDepositDepth", fn := fun _ => fun
  | [d1, d2, d3] => { results := [.lit (.bool false)], args := [d1, d2, d3] }
  | _ => none }
def FnExactDepositDepthWrongFalsely : Prop := fnExactDepositDepthRow.holds Try.pinned (OpenSpec.ofChange fnExactDepositDepthWrong)

/-- 'laws.FnMass': WHATEVER THE INPUT: true; the input reads as it did. -/
def fnMassSpec : ChangeSpec := { name := "fnMass", fn := fun _ => fun
  | [d1, d2] => { results := [.lit (.bool true)], args := [d1, d2] }
  | _ => none }
def fnMassRow : OpenClaim := { program := "ytalfpjdjkbggiaa", sum := "7c8a4adcc6921affe88eafd78adb081ebff893b42a20f2458304408e472f8780", func := "loop.example/g01013/laws.FnMass", spec := "fnMass", unfollowed := true, recurses := true, apart := false }
def FnMassSaid : Prop := fnMassRow.holds Try.pinned (OpenSpec.ofChange fnMassSpec)

/-- ITS FALSE NEIGHBOUR: 'it returns false'. Refute it at one input. -/
def fnMassWrong : ChangeSpec := { name := "fnMass", fn := fun _ => fun
  | [d1, d2] => { results := [.lit (.bool false)], args := [d1, d2] }
  | _ => none }
def FnMassWrongFalsely : Prop := fnMassRow.holds Try.pinned (OpenSpec.ofChange fnMassWrong)

/-- 'laws.FnExactSlabTonnes': WHATEVER THE INPUT: true; the input reads as it did. -/
def fnExactSlabTonnesSpec : ChangeSpec := { name := "fnExactSlabTonnes", fn := fun _ => fun
  | [d1, d2, d3] => { results := [.lit (.bool true)], args := [d1, d2, d3] }
  | _ => none }
def fnExactSlabTonnesRow : OpenClaim := { program := "ytalfpjdjkbggiaa", sum := "7c8a4adcc6921affe88eafd78adb081ebff893b42a20f2458304408e472f8780", func := "loop.example/g01013/laws.FnExactSlabTonnes", spec := "fnExactSlabTonnes", apart := false }
def FnExactSlabTonnesSaid : Prop := fnExactSlabTonnesRow.holds Try.pinned (OpenSpec.ofChange fnExactSlabTonnesSpec)

/-- ITS FALSE NEIGHBOUR: 'it returns false'. Refute it at one input. -/
def fnExactSlabTonnesWrong : ChangeSpec := { name := "fnExactSlabTonnes", fn := fun _ => fun
  | [d1, d2, d3] => { results := [.lit (.bool false)], args := [d1, d2, d3] }
  | _ => none }
def FnExactSlabTonnesWrongFalsely : Prop := fnExactSlabTonnesRow.holds Try.pinned (OpenSpec.ofChange fnExactSlabTonnesWrong)

/-- 'laws.FnExactValidPath': WHATEVER THE INPUT: true; the input reads as it did. -/
def fnExactValidPathSpec : ChangeSpec := { name := "fnExactValidPath", fn := fun _ => fun
  | [d] => { results := [.lit (.bool true)], args := [d] }
  | _ => none }
def fnExactValidPathRow : OpenClaim := { program := "ytalfpjdjkbggiaa", sum := "7c8a4adcc6921affe88eafd78adb081ebff893b42a20f2458304408e472f8780", func := "loop.example/g01013/laws.FnExactValidPath", spec := "fnExactValidPath", apart := false }
def FnExactValidPathSaid : Prop := fnExactValidPathRow.holds Try.pinned (OpenSpec.ofChange fnExactValidPathSpec)

/-- ITS FALSE NEIGHBOUR: 'it returns false'. Refute it at one input. -/
def fnExactValidPathWrong : ChangeSpec := { name := "fnExactValidPath", fn := fun _ => fun
  | [d] => { results := [.lit (.bool false)], args := [d] }
  | _ => none }
def FnExactValidPathWrongFalsely : Prop := fnExactValidPathRow.holds Try.pinned (OpenSpec.ofChange fnExactValidPathWrong)

/-- 'laws.FnExactMayBuild': WHATEVER THE INPUT: true; the input reads as it did. -/
def fnExactMayBuildSpec : ChangeSpec := { name := "fnExactMayBuild", fn := fun _ => fun
  | [d1, d2, d3, d4] => { results := [.lit (.bool true)], args := [d1, d2, d3, d4] }
  | _ => none }
def fnExactMayBuildRow : OpenClaim := { program := "ytalfpjdjkbggiaa", sum := "7c8a4adcc6921affe88eafd78adb081ebff893b42a20f2458304408e472f8780", func := "loop.example/g01013/laws.FnExactMayBuild", spec := "fnExactMayBuild", unfollowed := true, recurses := true, apart := false }
def FnExactMayBuildSaid : Prop := fnExactMayBuildRow.holds Try.pinned (OpenSpec.ofChange fnExactMayBuildSpec)

/-- ITS FALSE NEIGHBOUR: 'it returns false'. Refute it at one input. -/
def fnExactMayBuildWrong : ChangeSpec := { name := "fnExactMayBuild", fn := fun _ => fun
  | [d1, d2, d3, d4] => { results := [.lit (.bool false)], args := [d1, d2, d3, d4] }
  | _ => none }
def FnExactMayBuildWrongFalsely : Prop := fnExactMayBuildRow.holds Try.pinned (OpenSpec.ofChange fnExactMayBuildWrong)

/-- 'laws.FnExactValidGrid': WHATEVER THE INPUT: true; the input reads as it did. -/
def fnExactValidGridSpec : ChangeSpec := { name := "fnExactValidGrid", fn := fun _ => fun
  | [d] => { results := [.lit (.bool true)], args := [d] }
  | _ => none }
def fnExactValidGridRow : OpenClaim := { program := "ytalfpjdjkbggiaa", sum := "7c8a4adcc6921affe88eafd78adb081ebff893b42a20f2458304408e472f8780", func := "loop.example/g01013/laws.FnExactValidGrid", spec := "fnExactValidGrid", unfollowed := true, recurses := true, apart := false }
def FnExactValidGridSaid : Prop := fnExactValidGridRow.holds Try.pinned (OpenSpec.ofChange fnExactValidGridSpec)

/-- ITS FALSE NEIGHBOUR: 'it returns false'. Refute it at one input. -/
def fnExactValidGridWrong : ChangeSpec := { name := "fnExactValidGrid", fn := fun _ => fun
  | [d] => { results := [.lit (.bool false)], args := [d] }
  | _ => none }
def FnExactValidGridWrongFalsely : Prop := fnExactValidGridRow.holds Try.pinned (OpenSpec.ofChange fnExactValidGridWrong)

/- THE SECOND FORM. 'bulk': how many values and letters a reading holds, each counted each time it is reached (what is shared counts as often as it is met; a slice's spare places count too). A statement '..UptoSaid' is the law's where the arguments, and the package variables that the reading takes, are together of bulk at most 1048576: NARROWER than '..Said'. Prove '..Said' where nothing that the law and all that it calls make is longer than what came in: it says more and counts as full. Else prove '..UptoSaid'. A law counts once. -/
mutual
def uptoBulk {H : Type} : DataW H → Nat
  | .lit (.string bytes) => bytes.length + 1
  | .lit _ => 1
  | .nil => 1
  | .ptr d => uptoBulk d + 1
  | .slice elems spare => uptoBulkAll elems + uptoBulkAll spare + 1
  | .agg parts => uptoBulkAll parts + 1
  | .iface _ d => uptoBulk d + 1
  | .map entries => uptoBulkEntries entries + 1
  | .held _ => 1
def uptoBulkAll {H : Type} : List (DataW H) → Nat
  | [] => 0
  | d :: r => uptoBulk d + uptoBulkAll r
def uptoBulkEntries {H : Type} : List (Lit × DataW H) → Nat
  | [] => 0
  | x :: r => uptoBulkEntry x + uptoBulkEntries r
def uptoBulkEntry {H : Type} : Lit × DataW H → Nat
  | (.string bytes, d) => bytes.length + uptoBulk d + 1
  | (_, d) => uptoBulk d + 1
 end
def uptoSmall : (H : Type) → List (DataW H) → Bool := fun _ ds => decide (uptoBulkAll ds ≤ 1048576)
def OpenSpec.upto (s : _root_.Go.ChangeSpec) : _root_.Go.OpenSpec := { _root_.Go.OpenSpec.ofChange s with cond := some uptoSmall }

/-- 'laws.FnExactAspectName', WHERE WHAT IT READS IS OF BULK AT MOST 1048576: true; the input reads as it did. -/
def fnExactAspectNameUptoRow : OpenClaim := { program := "ytalfpjdjkbggiaa", sum := "7c8a4adcc6921affe88eafd78adb081ebff893b42a20f2458304408e472f8780", func := "loop.example/g01013/laws.FnExactAspectName", spec := "fnExactAspectName", apart := false, narrowed := true }
def FnExactAspectNameUptoSaid : Prop := fnExactAspectNameUptoRow.holds Try.pinned (OpenSpec.upto fnExactAspectNameSpec)

/-- 'laws.FnExactZoneName', WHERE WHAT IT READS IS OF BULK AT MOST 1048576: true; the input reads as it did. -/
def fnExactZoneNameUptoRow : OpenClaim := { program := "ytalfpjdjkbggiaa", sum := "7c8a4adcc6921affe88eafd78adb081ebff893b42a20f2458304408e472f8780", func := "loop.example/g01013/laws.FnExactZoneName", spec := "fnExactZoneName", apart := false, narrowed := true }
def FnExactZoneNameUptoSaid : Prop := fnExactZoneNameUptoRow.holds Try.pinned (OpenSpec.upto fnExactZoneNameSpec)

/-- 'laws.FnExactSizeClass', WHERE WHAT IT READS IS OF BULK AT MOST 1048576: true; the input reads as it did. -/
def fnExactSizeClassUptoRow : OpenClaim := { program := "ytalfpjdjkbggiaa", sum := "7c8a4adcc6921affe88eafd78adb081ebff893b42a20f2458304408e472f8780", func := "loop.example/g01013/laws.FnExactSizeClass", spec := "fnExactSizeClass", apart := false, narrowed := true }
def FnExactSizeClassUptoSaid : Prop := fnExactSizeClassUptoRow.holds Try.pinned (OpenSpec.upto fnExactSizeClassSpec)

/-- 'laws.FnExactPressureOf', WHERE WHAT IT READS IS OF BULK AT MOST 1048576: true; the input reads as it did. -/
def fnExactPressureOfUptoRow : OpenClaim := { program := "ytalfpjdjkbggiaa", sum := "7c8a4adcc6921affe88eafd78adb081ebff893b42a20f2458304408e472f8780", func := "loop.example/g01013/laws.FnExactPressureOf", spec := "fnExactPressureOf", apart := false, narrowed := true }
def FnExactPressureOfUptoSaid : Prop := fnExactPressureOfUptoRow.holds Try.pinned (OpenSpec.upto fnExactPressureOfSpec)

/-- 'laws.FnExactZoneOf', WHERE WHAT IT READS IS OF BULK AT MOST 1048576: true; the input reads as it did. -/
def fnExactZoneOfUptoRow : OpenClaim := { program := "ytalfpjdjkbggiaa", sum := "7c8a4adcc6921affe88eafd78adb081ebff893b42a20f2458304408e472f8780", func := "loop.example/g01013/laws.FnExactZoneOf", spec := "fnExactZoneOf", apart := false, narrowed := true }
def FnExactZoneOfUptoSaid : Prop := fnExactZoneOfUptoRow.holds Try.pinned (OpenSpec.upto fnExactZoneOfSpec)

/-- 'laws.FnExactSlabVolume', WHERE WHAT IT READS IS OF BULK AT MOST 1048576: true; the input reads as it did. -/
def fnExactSlabVolumeUptoRow : OpenClaim := { program := "ytalfpjdjkbggiaa", sum := "7c8a4adcc6921affe88eafd78adb081ebff893b42a20f2458304408e472f8780", func := "loop.example/g01013/laws.FnExactSlabVolume", spec := "fnExactSlabVolume", apart := false, narrowed := true }
def FnExactSlabVolumeUptoSaid : Prop := fnExactSlabVolumeUptoRow.holds Try.pinned (OpenSpec.upto fnExactSlabVolumeSpec)

/-- 'laws.FnExactDepositDepth', WHERE WHAT IT READS IS OF BULK AT MOST 1048576: true; the input reads as it did. -/
def fnExactDepositDepthUptoRow : OpenClaim := { program := "ytalfpjdjkbggiaa", sum := "7c8a4adcc6921affe88eafd78adb081ebff893b42a20f2458304408e472f8780", func := "loop.example/g01013/laws.FnExactDepositDepth", spec := "fnExactDepositDepth", apart := false, narrowed := true }
def FnExactDepositDepthUptoSaid : Prop := fnExactDepositDepthUptoRow.holds Try.pinned (OpenSpec.upto fnExactDepositDepthSpec)

/-- 'laws.FnMass', WHERE WHAT IT READS IS OF BULK AT MOST 1048576: true; the input reads as it did. -/
def fnMassUptoRow : OpenClaim := { program := "ytalfpjdjkbggiaa", sum := "7c8a4adcc6921affe88eafd78adb081ebff893b42a20f2458304408e472f8780", func := "loop.example/g01013/laws.FnMass", spec := "fnMass", unfollowed := true, recurses := true, apart := false, narrowed := true }
def FnMassUptoSaid : Prop := fnMassUptoRow.holds Try.pinned (OpenSpec.upto fnMassSpec)

/-- 'laws.FnExactSlabTonnes', WHERE WHAT IT READS IS OF BULK AT MOST 1048576: true; the input reads as it did. -/
def fnExactSlabTonnesUptoRow : OpenClaim := { program := "ytalfpjdjkbggiaa", sum := "7c8a4adcc6921affe88eafd78adb081ebff893b42a20f2458304408e472f8780", func := "loop.example/g01013/laws.FnExactSlabTonnes", spec := "fnExactSlabTonnes", apart := false, narrowed := true }
def FnExactSlabTonnesUptoSaid : Prop := fnExactSlabTonnesUptoRow.holds Try.pinned (OpenSpec.upto fnExactSlabTonnesSpec)

/-- 'laws.FnExactValidPath', WHERE WHAT IT READS IS OF BULK AT MOST 1048576: true; the input reads as it did. -/
def fnExactValidPathUptoRow : OpenClaim := { program := "ytalfpjdjkbggiaa", sum := "7c8a4adcc6921affe88eafd78adb081ebff893b42a20f2458304408e472f8780", func := "loop.example/g01013/laws.FnExactValidPath", spec := "fnExactValidPath", apart := false, narrowed := true }
def FnExactValidPathUptoSaid : Prop := fnExactValidPathUptoRow.holds Try.pinned (OpenSpec.upto fnExactValidPathSpec)

/-- 'laws.FnExactMayBuild', WHERE WHAT IT READS IS OF BULK AT MOST 1048576: true; the input reads as it did. -/
def fnExactMayBuildUptoRow : OpenClaim := { program := "ytalfpjdjkbggiaa", sum := "7c8a4adcc6921affe88eafd78adb081ebff893b42a20f2458304408e472f8780", func := "loop.example/g01013/laws.FnExactMayBuild", spec := "fnExactMayBuild", unfollowed := true, recurses := true, apart := false, narrowed := true }
def FnExactMayBuildUptoSaid : Prop := fnExactMayBuildUptoRow.holds Try.pinned (OpenSpec.upto fnExactMayBuildSpec)

/-- 'laws.FnExactValidGrid', WHERE WHAT IT READS IS OF BULK AT MOST 1048576: true; the input reads as it did. -/
def fnExactValidGridUptoRow : OpenClaim := { program := "ytalfpjdjkbggiaa", sum := "7c8a4adcc6921affe88eafd78adb081ebff893b42a20f2458304408e472f8780", func := "loop.example/g01013/laws.FnExactValidGrid", spec := "fnExactValidGrid", unfollowed := true, recurses := true, apart := false, narrowed := true }
def FnExactValidGridUptoSaid : Prop := fnExactValidGridUptoRow.holds Try.pinned (OpenSpec.upto fnExactValidGridSpec)

end Rows
end Go.Proofs.Ytalfpjdjkbggiaa
