/-
  No cell of these rows narrows 'for every input' (looked for: loops, veiled, ifaces, maps, wideKeys, modest, calm, conditions, laid).
  DERIVED. THE GIVEN ROWS OF THIS SEAT. 11 by the template 'for every input the law returns true; each argument reads behind the call as it read before'; 0 by the template 'total and deterministic' (their statements: YtmcaokbnbbmhhaaTotals.lean).
  GIVEN WITH THE SEED: the statements are not yours to turn. If you find one false, say at which input.
  Laid BY PROGRAM, IN A SANDBOX (cutbox-rows.mjs): the forced cells as the released guide's own fill.sh prints them over the translation 0f8270b85af94a82… (all of the seat's roots in one cut). By AI agents, Wed Nov 11 2026. No macro, syntax, notation, axiom, sorry.
-/
import Derived.Test.YtmcaokbnbbmhhaaChecked
import GoSem.Claim
import GoSem.ClaimJoined
import GoSem.ClaimMapViews
import Derived.JoinedTies
import Derived.KernelRfl
namespace Go.Proofs.Ytmcaokbnbbmhhaa
/- THE CELL 'sum', in the pinned program and in every row, IS THE sha256 OF THE DUMP (.gsa) THAT YtmcaokbnbbmhhaaProg.lean LOADS. Nothing in Lean hashes anything: it is a label: what it is worth is what the hold of that sum in a sandbox is worth. -/
noncomputable def Try.pinned : Pinned := { name := "ytmcaokbnbbmhhaa", sum := "0f8270b85af94a8254769d477a1b77fa2ed46dc4959e92196d3193c3625bd71c", checked := Try.checked }
namespace Rows
def none {H : Type} : Left H := { results := [], args := [] }

/-- 'laws.FnExactCellAt': WHATEVER THE INPUT: true; the input reads as it did. -/
def fnExactCellAtSpec : ChangeSpec := { name := "fnExactCellAt", fn := fun _ => fun
  | [d1, d2, d3] => { results := [.lit (.bool true)], args := [d1, d2, d3] }
  | _ => none }
def fnExactCellAtRow : OpenClaim := { program := "ytmcaokbnbbmhhaa", sum := "0f8270b85af94a8254769d477a1b77fa2ed46dc4959e92196d3193c3625bd71c", func := "loop.example/g01013/laws.FnExactCellAt", spec := "fnExactCellAt", unfollowed := true, recurses := true, apart := false }
def FnExactCellAtSaid : Prop := fnExactCellAtRow.holds Try.pinned (OpenSpec.ofChange fnExactCellAtSpec)

/-- ITS FALSE NEIGHBOUR: 'it returns false'. Refute it at one input. -/
def fnExactCellAtWrong : ChangeSpec := { name := "fnExactCellAt", fn := fun _ => fun
  | [d1, d2, d3] => { results := [.lit (.bool false)], args := [d1, d2, d3] }
  | _ => none }
def FnExactCellAtWrongFalsely : Prop := fnExactCellAtRow.holds Try.pinned (OpenSpec.ofChange fnExactCellAtWrong)

/-- 'laws.FnExactAreaOf': WHATEVER THE INPUT: true; the input reads as it did. -/
def fnExactAreaOfSpec : ChangeSpec := { name := "fnExactAreaOf", fn := fun _ => fun
  | [d1, d2] => { results := [.lit (.bool true)], args := [d1, d2] }
  | _ => none }
def fnExactAreaOfRow : OpenClaim := { program := "ytmcaokbnbbmhhaa", sum := "0f8270b85af94a8254769d477a1b77fa2ed46dc4959e92196d3193c3625bd71c", func := "loop.example/g01013/laws.FnExactAreaOf", spec := "fnExactAreaOf", unfollowed := true, recurses := true, apart := false }
def FnExactAreaOfSaid : Prop := fnExactAreaOfRow.holds Try.pinned (OpenSpec.ofChange fnExactAreaOfSpec)

/-- ITS FALSE NEIGHBOUR: 'it returns false'. Refute it at one input. -/
def fnExactAreaOfWrong : ChangeSpec := { name := "fnExactAreaOf", fn := fun _ => fun
  | [d1, d2] => { results := [.lit (.bool false)], args := [d1, d2] }
  | _ => none }
def FnExactAreaOfWrongFalsely : Prop := fnExactAreaOfRow.holds Try.pinned (OpenSpec.ofChange fnExactAreaOfWrong)

/-- 'laws.FnExactSafeCells': WHATEVER THE INPUT: true; the input reads as it did. -/
def fnExactSafeCellsSpec : ChangeSpec := { name := "fnExactSafeCells", fn := fun _ => fun
  | [d1, d2] => { results := [.lit (.bool true)], args := [d1, d2] }
  | _ => none }
def fnExactSafeCellsRow : OpenClaim := { program := "ytmcaokbnbbmhhaa", sum := "0f8270b85af94a8254769d477a1b77fa2ed46dc4959e92196d3193c3625bd71c", func := "loop.example/g01013/laws.FnExactSafeCells", spec := "fnExactSafeCells", unfollowed := true, recurses := true, apart := false }
def FnExactSafeCellsSaid : Prop := fnExactSafeCellsRow.holds Try.pinned (OpenSpec.ofChange fnExactSafeCellsSpec)

/-- ITS FALSE NEIGHBOUR: 'it returns false'. Refute it at one input. -/
def fnExactSafeCellsWrong : ChangeSpec := { name := "fnExactSafeCells", fn := fun _ => fun
  | [d1, d2] => { results := [.lit (.bool false)], args := [d1, d2] }
  | _ => none }
def FnExactSafeCellsWrongFalsely : Prop := fnExactSafeCellsRow.holds Try.pinned (OpenSpec.ofChange fnExactSafeCellsWrong)

/-- 'laws.FnExactPeaksOf': WHATEVER THE INPUT: true; the input reads as it did. -/
def fnExactPeaksOfSpec : ChangeSpec := { name := "fnExactPeaksOf", fn := fun _ => fun
  | [d] => { results := [.lit (.bool true)], args := [d] }
  | _ => none }
def fnExactPeaksOfRow : OpenClaim := { program := "ytmcaokbnbbmhhaa", sum := "0f8270b85af94a8254769d477a1b77fa2ed46dc4959e92196d3193c3625bd71c", func := "loop.example/g01013/laws.FnExactPeaksOf", spec := "fnExactPeaksOf", unfollowed := true, recurses := true, apart := false }
def FnExactPeaksOfSaid : Prop := fnExactPeaksOfRow.holds Try.pinned (OpenSpec.ofChange fnExactPeaksOfSpec)

/-- ITS FALSE NEIGHBOUR: 'it returns false'. Refute it at one input. -/
def fnExactPeaksOfWrong : ChangeSpec := { name := "fnExactPeaksOf", fn := fun _ => fun
  | [d] => { results := [.lit (.bool false)], args := [d] }
  | _ => none }
def FnExactPeaksOfWrongFalsely : Prop := fnExactPeaksOfRow.holds Try.pinned (OpenSpec.ofChange fnExactPeaksOfWrong)

/-- 'laws.FnExactPitsOf': WHATEVER THE INPUT: true; the input reads as it did. -/
def fnExactPitsOfSpec : ChangeSpec := { name := "fnExactPitsOf", fn := fun _ => fun
  | [d] => { results := [.lit (.bool true)], args := [d] }
  | _ => none }
def fnExactPitsOfRow : OpenClaim := { program := "ytmcaokbnbbmhhaa", sum := "0f8270b85af94a8254769d477a1b77fa2ed46dc4959e92196d3193c3625bd71c", func := "loop.example/g01013/laws.FnExactPitsOf", spec := "fnExactPitsOf", unfollowed := true, recurses := true, apart := false }
def FnExactPitsOfSaid : Prop := fnExactPitsOfRow.holds Try.pinned (OpenSpec.ofChange fnExactPitsOfSpec)

/-- ITS FALSE NEIGHBOUR: 'it returns false'. Refute it at one input. -/
def fnExactPitsOfWrong : ChangeSpec := { name := "fnExactPitsOf", fn := fun _ => fun
  | [d] => { results := [.lit (.bool false)], args := [d] }
  | _ => none }
def FnExactPitsOfWrongFalsely : Prop := fnExactPitsOfRow.holds Try.pinned (OpenSpec.ofChange fnExactPitsOfWrong)

/-- 'laws.FnExactSlopesOf': WHATEVER THE INPUT: true; the input reads as it did. -/
def fnExactSlopesOfSpec : ChangeSpec := { name := "fnExactSlopesOf", fn := fun _ => fun
  | [d] => { results := [.lit (.bool true)], args := [d] }
  | _ => none }
def fnExactSlopesOfRow : OpenClaim := { program := "ytmcaokbnbbmhhaa", sum := "0f8270b85af94a8254769d477a1b77fa2ed46dc4959e92196d3193c3625bd71c", func := "loop.example/g01013/laws.FnExactSlopesOf", spec := "fnExactSlopesOf", unfollowed := true, recurses := true, apart := false }
def FnExactSlopesOfSaid : Prop := fnExactSlopesOfRow.holds Try.pinned (OpenSpec.ofChange fnExactSlopesOfSpec)

/-- ITS FALSE NEIGHBOUR: 'it returns false'. Refute it at one input. -/
def fnExactSlopesOfWrong : ChangeSpec := { name := "fnExactSlopesOf", fn := fun _ => fun
  | [d] => { results := [.lit (.bool false)], args := [d] }
  | _ => none }
def FnExactSlopesOfWrongFalsely : Prop := fnExactSlopesOfRow.holds Try.pinned (OpenSpec.ofChange fnExactSlopesOfWrong)

/-- 'laws.FnExactBorderOf': WHATEVER THE INPUT: true; the input reads as it did. -/
def fnExactBorderOfSpec : ChangeSpec := { name := "fnExactBorderOf", fn := fun _ => fun
  | [d1, d2] => { results := [.lit (.bool true)], args := [d1, d2] }
  | _ => none }
def fnExactBorderOfRow : OpenClaim := { program := "ytmcaokbnbbmhhaa", sum := "0f8270b85af94a8254769d477a1b77fa2ed46dc4959e92196d3193c3625bd71c", func := "loop.example/g01013/laws.FnExactBorderOf", spec := "fnExactBorderOf", unfollowed := true, recurses := true, apart := false }
def FnExactBorderOfSaid : Prop := fnExactBorderOfRow.holds Try.pinned (OpenSpec.ofChange fnExactBorderOfSpec)

/-- ITS FALSE NEIGHBOUR: 'it returns false'. Refute it at one input. -/
def fnExactBorderOfWrong : ChangeSpec := { name := "fnExactBorderOf", fn := fun _ => fun
  | [d1, d2] => { results := [.lit (.bool false)], args := [d1, d2] }
  | _ => none }
def FnExactBorderOfWrongFalsely : Prop := fnExactBorderOfRow.holds Try.pinned (OpenSpec.ofChange fnExactBorderOfWrong)

/-- 'laws.FnExactGrowCells': WHATEVER THE INPUT: true; the input reads as it did. -/
def fnExactGrowCellsSpec : ChangeSpec := { name := "fnExactGrowCells", fn := fun _ => fun
  | [d1, d2, d3] => { results := [.lit (.bool true)], args := [d1, d2, d3] }
  | _ => none }
def fnExactGrowCellsRow : OpenClaim := { program := "ytmcaokbnbbmhhaa", sum := "0f8270b85af94a8254769d477a1b77fa2ed46dc4959e92196d3193c3625bd71c", func := "loop.example/g01013/laws.FnExactGrowCells", spec := "fnExactGrowCells", unfollowed := true, recurses := true, apart := false }
def FnExactGrowCellsSaid : Prop := fnExactGrowCellsRow.holds Try.pinned (OpenSpec.ofChange fnExactGrowCellsSpec)

/-- ITS FALSE NEIGHBOUR: 'it returns false'. Refute it at one input. -/
def fnExactGrowCellsWrong : ChangeSpec := { name := "fnExactGrowCells", fn := fun _ => fun
  | [d1, d2, d3] => { results := [.lit (.bool false)], args := [d1, d2, d3] }
  | _ => none }
def FnExactGrowCellsWrongFalsely : Prop := fnExactGrowCellsRow.holds Try.pinned (OpenSpec.ofChange fnExactGrowCellsWrong)

/-- 'laws.FnExactStartCells': WHATEVER THE INPUT: true; the input reads as it did. -/
def fnExactStartCellsSpec : ChangeSpec := { name := "fnExactStartCells", fn := fun _ => fun
  | [d1, d2, d3, d4] => { results := [.lit (.bool true)], args := [d1, d2, d3, d4] }
  | _ => none }
def fnExactStartCellsRow : OpenClaim := { program := "ytmcaokbnbbmhhaa", sum := "0f8270b85af94a8254769d477a1b77fa2ed46dc4959e92196d3193c3625bd71c", func := "loop.example/g01013/laws.FnExactStartCells", spec := "fnExactStartCells", unfollowed := true, recurses := true, apart := false }
def FnExactStartCellsSaid : Prop := fnExactStartCellsRow.holds Try.pinned (OpenSpec.ofChange fnExactStartCellsSpec)

/-- ITS FALSE NEIGHBOUR: 'it returns false'. Refute it at one input. -/
def fnExactStartCellsWrong : ChangeSpec := { name := "fnExactStartCells", fn := fun _ => fun
  | [d1, d2, d3, d4] => { results := [.lit (.bool false)], args := [d1, d2, d3, d4] }
  | _ => none }
def FnExactStartCellsWrongFalsely : Prop := fnExactStartCellsRow.holds Try.pinned (OpenSpec.ofChange fnExactStartCellsWrong)

/-- 'laws.FnExactAboveCells': WHATEVER THE INPUT: true; the input reads as it did. -/
def fnExactAboveCellsSpec : ChangeSpec := { name := "fnExactAboveCells", fn := fun _ => fun
  | [d1, d2] => { results := [.lit (.bool true)], args := [d1, d2] }
  | _ => none }
def fnExactAboveCellsRow : OpenClaim := { program := "ytmcaokbnbbmhhaa", sum := "0f8270b85af94a8254769d477a1b77fa2ed46dc4959e92196d3193c3625bd71c", func := "loop.example/g01013/laws.FnExactAboveCells", spec := "fnExactAboveCells", unfollowed := true, recurses := true, apart := false }
def FnExactAboveCellsSaid : Prop := fnExactAboveCellsRow.holds Try.pinned (OpenSpec.ofChange fnExactAboveCellsSpec)

/-- ITS FALSE NEIGHBOUR: 'it returns false'. Refute it at one input. -/
def fnExactAboveCellsWrong : ChangeSpec := { name := "fnExactAboveCells", fn := fun _ => fun
  | [d1, d2] => { results := [.lit (.bool false)], args := [d1, d2] }
  | _ => none }
def FnExactAboveCellsWrongFalsely : Prop := fnExactAboveCellsRow.holds Try.pinned (OpenSpec.ofChange fnExactAboveCellsWrong)

/-- 'laws.FnAreas': WHATEVER THE INPUT: true; the input reads as it did. -/
def fnAreasSpec : ChangeSpec := { name := "fnAreas", fn := fun _ => fun
  | [d1, d2] => { results := [.lit (.bool true)], args := [d1, d2] }
  | _ => none }
def fnAreasRow : OpenClaim := { program := "ytmcaokbnbbmhhaa", sum := "0f8270b85af94a8254769d477a1b77fa2ed46dc4959e92196d3193c3625bd71c", func := "loop.example/g01013/laws.FnAreas", spec := "fnAreas", unfollowed := true, recurses := true, apart := false }
def FnAreasSaid : Prop := fnAreasRow.holds Try.pinned (OpenSpec.ofChange fnAreasSpec)

/-- ITS FALSE NEIGHBOUR: 'it returns false'. Refute it at one input. -/
def fnAreasWrong : ChangeSpec := { name := "fnAreas", fn := fun _ => fun
  | [d1, d2] => { results := [.lit (.bool false)], args := [d1, d2] }
  | _ => none }
def FnAreasWrongFalsely : Prop := fnAreasRow.holds Try.pinned (OpenSpec.ofChange fnAreasWrong)

/- THE SECOND FORM. 'bulk': how many values and letters a reading holds, each counted each time it is reached (what is shared counts as often as it is met; a slice's spare places count too). A statement '..UptoSaid' is the law's where the arguments, and the package variables that the reading takes, are together of bulk at most 1048576: NARROWER than '..Said'. Prove '..Said' where nothing that the law and all that it calls make is longer than what came in: it says more and counts as full. Else prove '..UptoSaid'. A law counts once. -/
mutual
def uptoBulk {H : Type} : DataW H → Nat
  | .lit (.string bytes) => bytes.length + 1
  | .lit _ => 1
  | .nil => 1
  | .ptr d => uptoBulk d + 1
  | .slice elems spare => uptoBulkAll elems + uptoBulkAll spare + 1
  | .agg parts => uptoBulkAll parts + 1
  | .iface _ d => uptoBulk d + 1
  | .map entries => uptoBulkEntries entries + 1
  | .held _ => 1
def uptoBulkAll {H : Type} : List (DataW H) → Nat
  | [] => 0
  | d :: r => uptoBulk d + uptoBulkAll r
def uptoBulkEntries {H : Type} : List (Lit × DataW H) → Nat
  | [] => 0
  | x :: r => uptoBulkEntry x + uptoBulkEntries r
def uptoBulkEntry {H : Type} : Lit × DataW H → Nat
  | (.string bytes, d) => bytes.length + uptoBulk d + 1
  | (_, d) => uptoBulk d + 1
 end
def uptoSmall : (H : Type) → List (DataW H) → Bool := fun _ ds => decide (uptoBulkAll ds ≤ 1048576)
def OpenSpec.upto (s : _root_.Go.ChangeSpec) : _root_.Go.OpenSpec := { _root_.Go.OpenSpec.ofChange s with cond := some uptoSmall }

/-- 'laws.FnExactCellAt', WHERE WHAT IT READS IS OF BULK AT MOST 1048576: true; the input reads as it did. -/
def fnExactCellAtUptoRow : OpenClaim := { program := "ytmcaokbnbbmhhaa", sum := "0f8270b85af94a8254769d477a1b77fa2ed46dc4959e92196d3193c3625bd71c", func := "loop.example/g01013/laws.FnExactCellAt", spec := "fnExactCellAt", unfollowed := true, recurses := true, apart := false, narrowed := true }
def FnExactCellAtUptoSaid : Prop := fnExactCellAtUptoRow.holds Try.pinned (OpenSpec.upto fnExactCellAtSpec)

/-- 'laws.FnExactAreaOf', WHERE WHAT IT READS IS OF BULK AT MOST 1048576: true; the input reads as it did. -/
def fnExactAreaOfUptoRow : OpenClaim := { program := "ytmcaokbnbbmhhaa", sum := "0f8270b85af94a8254769d477a1b77fa2ed46dc4959e92196d3193c3625bd71c", func := "loop.example/g01013/laws.FnExactAreaOf", spec := "fnExactAreaOf", unfollowed := true, recurses := true, apart := false, narrowed := true }
def FnExactAreaOfUptoSaid : Prop := fnExactAreaOfUptoRow.holds Try.pinned (OpenSpec.upto fnExactAreaOfSpec)

/-- 'laws.FnExactSafeCells', WHERE WHAT IT READS IS OF BULK AT MOST 1048576: true; the input reads as it did. -/
def fnExactSafeCellsUptoRow : OpenClaim := { program := "ytmcaokbnbbmhhaa", sum := "0f8270b85af94a8254769d477a1b77fa2ed46dc4959e92196d3193c3625bd71c", func := "loop.example/g01013/laws.FnExactSafeCells", spec := "fnExactSafeCells", unfollowed := true, recurses := true, apart := false, narrowed := true }
def FnExactSafeCellsUptoSaid : Prop := fnExactSafeCellsUptoRow.holds Try.pinned (OpenSpec.upto fnExactSafeCellsSpec)

/-- 'laws.FnExactPeaksOf', WHERE WHAT IT READS IS OF BULK AT MOST 1048576: true; the input reads as it did. -/
def fnExactPeaksOfUptoRow : OpenClaim := { program := "ytmcaokbnbbmhhaa", sum := "0f8270b85af94a8254769d477a1b77fa2ed46dc4959e92196d3193c3625bd71c", func := "loop.example/g01013/laws.FnExactPeaksOf", spec := "fnExactPeaksOf", unfollowed := true, recurses := true, apart := false, narrowed := true }
def FnExactPeaksOfUptoSaid : Prop := fnExactPeaksOfUptoRow.holds Try.pinned (OpenSpec.upto fnExactPeaksOfSpec)

/-- 'laws.FnExactPitsOf', WHERE WHAT IT READS IS OF BULK AT MOST 1048576: true; the input reads as it did. -/
def fnExactPitsOfUptoRow : OpenClaim := { program := "ytmcaokbnbbmhhaa", sum := "0f8270b85af94a8254769d477a1b77fa2ed46dc4959e92196d3193c3625bd71c", func := "loop.example/g01013/laws.FnExactPitsOf", spec := "fnExactPitsOf", unfollowed := true, recurses := true, apart := false, narrowed := true }
def FnExactPitsOfUptoSaid : Prop := fnExactPitsOfUptoRow.holds Try.pinned (OpenSpec.upto fnExactPitsOfSpec)

/-- 'laws.FnExactSlopesOf', WHERE WHAT IT READS IS OF BULK AT MOST 1048576: true; the input reads as it did. -/
def fnExactSlopesOfUptoRow : OpenClaim := { program := "ytmcaokbnbbmhhaa", sum := "0f8270b85af94a8254769d477a1b77fa2ed46dc4959e92196d3193c3625bd71c", func := "loop.example/g01013/laws.FnExactSlopesOf", spec := "fnExactSlopesOf", unfollowed := true, recurses := true, apart := false, narrowed := true }
def FnExactSlopesOfUptoSaid : Prop := fnExactSlopesOfUptoRow.holds Try.pinned (OpenSpec.upto fnExactSlopesOfSpec)

/-- 'laws.FnExactBorderOf', WHERE WHAT IT READS IS OF BULK AT MOST 1048576: true; the input reads as it did. -/
def fnExactBorderOfUptoRow : OpenClaim := { program := "ytmcaokbnbbmhhaa", sum := "0f8270b85af94a8254769d477a1b77fa2ed46dc4959e92196d3193c3625bd71c", func := "loop.example/g01013/laws.FnExactBorderOf", spec := "fnExactBorderOf", unfollowed := true, recurses := true, apart := false, narrowed := true }
def FnExactBorderOfUptoSaid : Prop := fnExactBorderOfUptoRow.holds Try.pinned (OpenSpec.upto fnExactBorderOfSpec)

/-- 'laws.FnExactGrowCells', WHERE WHAT IT READS IS OF BULK AT MOST 1048576: true; the input reads as it did. -/
def fnExactGrowCellsUptoRow : OpenClaim := { program := "ytmcaokbnbbmhhaa", sum := "0f8270b85af94a8254769d477a1b77fa2ed46dc4959e92196d3193c3625bd71c", func := "loop.example/g01013/laws.FnExactGrowCells", spec := "fnExactGrowCells", unfollowed := true, recurses := true, apart := false, narrowed := true }
def FnExactGrowCellsUptoSaid : Prop := fnExactGrowCellsUptoRow.holds Try.pinned (OpenSpec.upto fnExactGrowCellsSpec)

/-- 'laws.FnExactStartCells', WHERE WHAT IT READS IS OF BULK AT MOST 1048576: true; the input reads as it did. -/
def fnExactStartCellsUptoRow : OpenClaim := { program := "ytmcaokbnbbmhhaa", sum := "0f8270b85af94a8254769d477a1b77fa2ed46dc4959e92196d3193c3625bd71c", func := "loop.example/g01013/laws.FnExactStartCells", spec := "fnExactStartCells", unfollowed := true, recurses := true, apart := false, narrowed := true }
def FnExactStartCellsUptoSaid : Prop := fnExactStartCellsUptoRow.holds Try.pinned (OpenSpec.upto fnExactStartCellsSpec)

/-- 'laws.FnExactAboveCells', WHERE WHAT IT READS IS OF BULK AT MOST 1048576: true; the input reads as it did. -/
def fnExactAboveCellsUptoRow : OpenClaim := { program := "ytmcaokbnbbmhhaa", sum := "0f8270b85af94a8254769d477a1b77fa2ed46dc4959e92196d3193c3625bd71c", func := "loop.example/g01013/laws.FnExactAboveCells", spec := "fnExactAboveCells", unfollowed := true, recurses := true, apart := false, narrowed := true }
def FnExactAboveCellsUptoSaid : Prop := fnExactAboveCellsUptoRow.holds Try.pinned (OpenSpec.upto fnExactAboveCellsSpec)

/-- 'laws.FnAreas', WHERE WHAT IT READS IS OF BULK AT MOST 1048576: true; the input reads as it did. -/
def fnAreasUptoRow : OpenClaim := { program := "ytmcaokbnbbmhhaa", sum := "0f8270b85af94a8254769d477a1b77fa2ed46dc4959e92196d3193c3625bd71c", func := "loop.example/g01013/laws.FnAreas", spec := "fnAreas", unfollowed := true, recurses := true, apart := false, narrowed := true }
def FnAreasUptoSaid : Prop := fnAreasUptoRow.holds Try.pinned (OpenSpec.upto fnAreasSpec)

end Rows
end Go.Proofs.Ytmcaokbnbbmhhaa
