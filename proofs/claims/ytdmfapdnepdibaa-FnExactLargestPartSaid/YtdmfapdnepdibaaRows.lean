/-
  No cell of these rows narrows 'for every input' (looked for: loops, veiled, ifaces, maps, wideKeys, modest, calm, conditions, laid).
  DERIVED. THE GIVEN ROWS OF THIS SEAT. 5 by the template 'for every input the law returns true; each argument reads behind the call as it read before'; 0 by the template 'total and deterministic' (their statements: YtdmfapdnepdibaaTotals.lean).
  GIVEN WITH THE SEED: the statements are not yours to turn. If you find one false, say at which input.
  Laid BY PROGRAM, IN A SANDBOX (cutbox-rows.mjs): the forced cells as the released guide's own fill.sh prints them over the translation 76295fa80a7bf4d8… (all of the seat's roots in one cut). By AI agents, Wed Nov 11 2026. No macro, syntax, notation, axiom, sorry.
-/
import Derived.Test.YtdmfapdnepdibaaChecked
import GoSem.Claim
import GoSem.ClaimJoined
import GoSem.ClaimMapViews
import Derived.JoinedTies
import Derived.KernelRfl
namespace Go.Proofs.Ytdmfapdnepdibaa
/- THE CELL 'sum', in the pinned program and in every row, IS THE sha256 OF THE DUMP (.gsa) THAT YtdmfapdnepdibaaProg.lean LOADS. Nothing in Lean hashes anything: it is a label: what it is worth is what the hold of that sum in a sandbox is worth. -/
noncomputable def Try.pinned : Pinned := { name := "ytdmfapdnepdibaa", sum := "76295fa80a7bf4d81ce9a6c61b03ecb370e2f785cadb5776585ac57fbbd70567", checked := Try.checked }
namespace Rows
def none {H : Type} : Left H := { results := [], args := [] }

/-- 'laws.FnAreas': WHATEVER THE INPUT: true; the input reads as it did. -/
def fnAreasSpec : ChangeSpec := { name := "fnAreas", fn := fun _ => fun
  | [d1, d2] => { results := [.lit (.bool true)], args := [d1, d2] }
  | _ => none }
def fnAreasRow : OpenClaim := { program := "ytdmfapdnepdibaa", sum := "76295fa80a7bf4d81ce9a6c61b03ecb370e2f785cadb5776585ac57fbbd70567", func := "loop.example/g01013/laws.FnAreas", spec := "fnAreas", unfollowed := true, recurses := true, apart := false }
def FnAreasSaid : Prop := fnAreasRow.holds Try.pinned (OpenSpec.ofChange fnAreasSpec)

/-- ITS FALSE NEIGHBOUR: 'it returns false'. Refute it at one input. -/
def fnAreasWrong : ChangeSpec := { name := "fnAreas", fn := fun _ => fun
  | [d1, d2] => { results := [.lit (.bool false)], args := [d1, d2] }
  | _ => none }
def FnAreasWrongFalsely : Prop := fnAreasRow.holds Try.pinned (OpenSpec.ofChange fnAreasWrong)

/-- 'laws.FnExactIsConnected': WHATEVER THE INPUT: true; the input reads as it did. -/
def fnExactIsConnectedSpec : ChangeSpec := { name := "fnExactIsConnected", fn := fun _ => fun
  | [d1, d2] => { results := [.lit (.bool true)], args := [d1, d2] }
  | _ => none }
def fnExactIsConnectedRow : OpenClaim := { program := "ytdmfapdnepdibaa", sum := "76295fa80a7bf4d81ce9a6c61b03ecb370e2f785cadb5776585ac57fbbd70567", func := "loop.example/g01013/laws.FnExactIsConnected", spec := "fnExactIsConnected", unfollowed := true, recurses := true, apart := false }
def FnExactIsConnectedSaid : Prop := fnExactIsConnectedRow.holds Try.pinned (OpenSpec.ofChange fnExactIsConnectedSpec)

/-- ITS FALSE NEIGHBOUR: 'it returns false'. Refute it at one input. -/
def fnExactIsConnectedWrong : ChangeSpec := { name := "fnExactIsConnected", fn := fun _ => fun
  | [d1, d2] => { results := [.lit (.bool false)], args := [d1, d2] }
  | _ => none }
def FnExactIsConnectedWrongFalsely : Prop := fnExactIsConnectedRow.holds Try.pinned (OpenSpec.ofChange fnExactIsConnectedWrong)

/-- 'laws.FnExactLargestPart': WHATEVER THE INPUT: true; the input reads as it did. -/
def fnExactLargestPartSpec : ChangeSpec := { name := "fnExactLargestPart", fn := fun _ => fun
  | [d1, d2] => { results := [.lit (.bool true)], args := [d1, d2] }
  | _ => none }
def fnExactLargestPartRow : OpenClaim := { program := "ytdmfapdnepdibaa", sum := "76295fa80a7bf4d81ce9a6c61b03ecb370e2f785cadb5776585ac57fbbd70567", func := "loop.example/g01013/laws.FnExactLargestPart", spec := "fnExactLargestPart", unfollowed := true, recurses := true, apart := false }
def FnExactLargestPartSaid : Prop := fnExactLargestPartRow.holds Try.pinned (OpenSpec.ofChange fnExactLargestPartSpec)

/-- ITS FALSE NEIGHBOUR: 'it returns false'. Refute it at one input. -/
def fnExactLargestPartWrong : ChangeSpec := { name := "fnExactLargestPart", fn := fun _ => fun
  | [d1, d2] => { results := [.lit (.bool false)], args := [d1, d2] }
  | _ => none }
def FnExactLargestPartWrongFalsely : Prop := fnExactLargestPartRow.holds Try.pinned (OpenSpec.ofChange fnExactLargestPartWrong)

/-- 'laws.FnExactPartsOf': WHATEVER THE INPUT: true; the input reads as it did. -/
def fnExactPartsOfSpec : ChangeSpec := { name := "fnExactPartsOf", fn := fun _ => fun
  | [d1, d2] => { results := [.lit (.bool true)], args := [d1, d2] }
  | _ => none }
def fnExactPartsOfRow : OpenClaim := { program := "ytdmfapdnepdibaa", sum := "76295fa80a7bf4d81ce9a6c61b03ecb370e2f785cadb5776585ac57fbbd70567", func := "loop.example/g01013/laws.FnExactPartsOf", spec := "fnExactPartsOf", unfollowed := true, recurses := true, apart := false }
def FnExactPartsOfSaid : Prop := fnExactPartsOfRow.holds Try.pinned (OpenSpec.ofChange fnExactPartsOfSpec)

/-- ITS FALSE NEIGHBOUR: 'it returns false'. Refute it at one input. -/
def fnExactPartsOfWrong : ChangeSpec := { name := "fnExactPartsOf", fn := fun _ => fun
  | [d1, d2] => { results := [.lit (.bool false)], args := [d1, d2] }
  | _ => none }
def FnExactPartsOfWrongFalsely : Prop := fnExactPartsOfRow.holds Try.pinned (OpenSpec.ofChange fnExactPartsOfWrong)

/-- 'laws.FnRelease': WHATEVER THE INPUT: true; the input reads as it did. -/
def fnReleaseSpec : ChangeSpec := { name := "fnRelease", fn := fun _ => fun
  | [d1, d2] => { results := [.lit (.bool true)], args := [d1, d2] }
  | _ => none }
def fnReleaseRow : OpenClaim := { program := "ytdmfapdnepdibaa", sum := "76295fa80a7bf4d81ce9a6c61b03ecb370e2f785cadb5776585ac57fbbd70567", func := "loop.example/g01013/laws.FnRelease", spec := "fnRelease", unfollowed := true, recurses := true, apart := false }
def FnReleaseSaid : Prop := fnReleaseRow.holds Try.pinned (OpenSpec.ofChange fnReleaseSpec)

/-- ITS FALSE NEIGHBOUR: 'it returns false'. Refute it at one input. -/
def fnReleaseWrong : ChangeSpec := { name := "fnRelease", fn := fun _ => fun
  | [d1, d2] => { results := [.lit (.bool false)], args := [d1, d2] }
  | _ => none }
def FnReleaseWrongFalsely : Prop := fnReleaseRow.holds Try.pinned (OpenSpec.ofChange fnReleaseWrong)

/- THE SECOND FORM. 'bulk': how many values and letters a reading holds, each counted each time it is reached (what is shared counts as often as it is met; a slice's spare places count too). A statement '..UptoSaid' is the law's where the arguments, and the package variables that the reading takes, are together of bulk at most 1048576: NARROWER than '..Said'. Prove '..Said' where nothing that the law and all that it calls make is longer than what came in: it says more and counts as full. Else prove '..UptoSaid'. A law counts once. -/
mutual
def uptoBulk {H : Type} : DataW H → Nat
  | .lit (.string bytes) => bytes.length + 1
  | .lit _ => 1
  | .nil => 1
  | .ptr d => uptoBulk d + 1
  | .slice elems spare => uptoBulkAll elems + uptoBulkAll spare + 1
  | .agg parts => uptoBulkAll parts + 1
  | .iface _ d => uptoBulk d + 1
  | .map entries => uptoBulkEntries entries + 1
  | .held _ => 1
def uptoBulkAll {H : Type} : List (DataW H) → Nat
  | [] => 0
  | d :: r => uptoBulk d + uptoBulkAll r
def uptoBulkEntries {H : Type} : List (Lit × DataW H) → Nat
  | [] => 0
  | x :: r => uptoBulkEntry x + uptoBulkEntries r
def uptoBulkEntry {H : Type} : Lit × DataW H → Nat
  | (.string bytes, d) => bytes.length + uptoBulk d + 1
  | (_, d) => uptoBulk d + 1
 end
def uptoSmall : (H : Type) → List (DataW H) → Bool := fun _ ds => decide (uptoBulkAll ds ≤ 1048576)
def OpenSpec.upto (s : _root_.Go.ChangeSpec) : _root_.Go.OpenSpec := { _root_.Go.OpenSpec.ofChange s with cond := some uptoSmall }

/-- 'laws.FnAreas', WHERE WHAT IT READS IS OF BULK AT MOST 1048576: true; the input reads as it did. -/
def fnAreasUptoRow : OpenClaim := { program := "ytdmfapdnepdibaa", sum := "76295fa80a7bf4d81ce9a6c61b03ecb370e2f785cadb5776585ac57fbbd70567", func := "loop.example/g01013/laws.FnAreas", spec := "fnAreas", unfollowed := true, recurses := true, apart := false, narrowed := true }
def FnAreasUptoSaid : Prop := fnAreasUptoRow.holds Try.pinned (OpenSpec.upto fnAreasSpec)

/-- 'laws.FnExactIsConnected', WHERE WHAT IT READS IS OF BULK AT MOST 1048576: true; the input reads as it did. -/
def fnExactIsConnectedUptoRow : OpenClaim := { program := "ytdmfapdnepdibaa", sum := "76295fa80a7bf4d81ce9a6c61b03ecb370e2f785cadb5776585ac57fbbd70567", func := "loop.example/g01013/laws.FnExactIsConnected", spec := "fnExactIsConnected", unfollowed := true, recurses := true, apart := false, narrowed := true }
def FnExactIsConnectedUptoSaid : Prop := fnExactIsConnectedUptoRow.holds Try.pinned (OpenSpec.upto fnExactIsConnectedSpec)

/-- 'laws.FnExactLargestPart', WHERE WHAT IT READS IS OF BULK AT MOST 1048576: true; the input reads as it did. -/
def fnExactLargestPartUptoRow : OpenClaim := { program := "ytdmfapdnepdibaa", sum := "76295fa80a7bf4d81ce9a6c61b03ecb370e2f785cadb5776585ac57fbbd70567", func := "loop.example/g01013/laws.FnExactLargestPart", spec := "fnExactLargestPart", unfollowed := true, recurses := true, apart := false, narrowed := true }
def FnExactLargestPartUptoSaid : Prop := fnExactLargestPartUptoRow.holds Try.pinned (OpenSpec.upto fnExactLargestPartSpec)

/-- 'laws.FnExactPartsOf', WHERE WHAT IT READS IS OF BULK AT MOST 1048576: true; the input reads as it did. -/
def fnExactPartsOfUptoRow : OpenClaim := { program := "ytdmfapdnepdibaa", sum := "76295fa80a7bf4d81ce9a6c61b03ecb370e2f785cadb5776585ac57fbbd70567", func := "loop.example/g01013/laws.FnExactPartsOf", spec := "fnExactPartsOf", unfollowed := true, recurses := true, apart := false, narrowed := true }
def FnExactPartsOfUptoSaid : Prop := fnExactPartsOfUptoRow.holds Try.pinned (OpenSpec.upto fnExactPartsOfSpec)

/-- 'laws.FnRelease', WHERE WHAT IT READS IS OF BULK AT MOST 1048576: true; the input reads as it did. -/
def fnReleaseUptoRow : OpenClaim := { program := "ytdmfapdnepdibaa", sum := "76295fa80a7bf4d81ce9a6c61b03ecb370e2f785cadb5776585ac57fbbd70567", func := "loop.example/g01013/laws.FnRelease", spec := "fnRelease", unfollowed := true, recurses := true, apart := false, narrowed := true }
def FnReleaseUptoSaid : Prop := fnReleaseUptoRow.holds Try.pinned (OpenSpec.upto fnReleaseSpec)

end Rows
end Go.Proofs.Ytdmfapdnepdibaa
