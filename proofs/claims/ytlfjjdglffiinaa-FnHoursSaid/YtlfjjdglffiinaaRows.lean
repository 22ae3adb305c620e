/-
  No cell of these rows narrows 'for every input' (looked for: loops, veiled, ifaces, maps, wideKeys, modest, calm, conditions, laid).
  DERIVED. THE GIVEN ROWS OF THIS SEAT. 3 by the template 'for every input the law returns true; each argument reads behind the call as it read before'; 0 by the template 'total and deterministic' (their statements: YtlfjjdglffiinaaTotals.lean).
  GIVEN WITH THE SEED: the statements are not yours to turn. If you find one false, say at which input.
  Laid BY PROGRAM, IN A SANDBOX (cutbox-rows.mjs): the forced cells as the released guide's own fill.sh prints them over the translation 01a8815df74dd21a… (all of the seat's roots in one cut). By AI agents, Wed Nov 11 2026. No macro, syntax, notation, axiom, sorry.
-/
import Derived.Test.YtlfjjdglffiinaaChecked
import GoSem.Claim
import GoSem.ClaimJoined
import GoSem.ClaimMapViews
import Derived.JoinedTies
import Derived.KernelRfl
namespace Go.Proofs.Ytlfjjdglffiinaa
/- THE CELL 'sum', in the pinned program and in every row, IS THE sha256 OF THE DUMP (.gsa) THAT YtlfjjdglffiinaaProg.lean LOADS. Nothing in Lean hashes anything: it is a label: what it is worth is what the hold of that sum in a sandbox is worth. -/
noncomputable def Try.pinned : Pinned := { name := "ytlfjjdglffiinaa", sum := "01a8815df74dd21a84057d975e48751120ecbb65b2c29b0613dfff338b983a2b", checked := Try.checked }
namespace Rows
def none {H : Type} : Left H := { results := [], args := [] }

/-- 'laws.FnMass': WHATEVER THE INPUT: true; the input reads as it did. -/
def fnMassSpec : ChangeSpec := { name := "fnMass", fn := fun _ => fun
  | [d1, d2] => { results := [.lit (.bool true)], args := [d1, d2] }
  | _ => none }
def fnMassRow : OpenClaim := { program := "ytlfjjdglffiinaa", sum := "01a8815df74dd21a84057d975e48751120ecbb65b2c29b0613dfff338b983a2b", func := "loop.example/g01013/laws.FnMass", spec := "fnMass", unfollowed := true, recurses := true, apart := false }
def FnMassSaid : Prop := fnMassRow.holds Try.pinned (OpenSpec.ofChange fnMassSpec)

/-- ITS FALSE NEIGHBOUR: 'it returns false'. Refute it at one input. -/
def fnMassWrong : ChangeSpec := { name := "fnMass", fn := fun _ => fun
  | [d1, d2] => { results := [.lit (.bool false)], args := [d1, d2] }
  | _ => none }
def FnMassWrongFalsely : Prop := fnMassRow.holds Try.pinned (OpenSpec.ofChange fnMassWrong)

/-- 'laws.FnHours': WHATEVER THE INPUT: true; the input reads as it did. -/
def fnHoursSpec : ChangeSpec := { name := "fnHours", fn := fun _ => fun
  | [d1, d2] => { results := [.lit (.bool true)], args := [d1, d2] }
  | _ => none }
def fnHoursRow : OpenClaim := { program := "ytlfjjdglffiinaa", sum := "01a8815df74dd21a84057d975e48751120ecbb65b2c29b0613dfff338b983a2b", func := "loop.example/g01013/laws.FnHours", spec := "fnHours", unfollowed := true, recurses := true, apart := false }
def FnHoursSaid : Prop := fnHoursRow.holds Try.pinned (OpenSpec.ofChange fnHoursSpec)

/-- ITS FALSE NEIGHBOUR: 'it returns false'. Refute it at one input. -/
def fnHoursWrong : ChangeSpec := { name := "fnHours", fn := fun _ => fun
  | [d1, d2] => { results := [.lit (.bool false)], args := [d1, d2] }
  | _ => none }
def FnHoursWrongFalsely : Prop := fnHoursRow.holds Try.pinned (OpenSpec.ofChange fnHoursWrong)

/-- 'laws.FnForms': WHATEVER THE INPUT: true; the input reads as it did. -/
def fnFormsSpec : ChangeSpec := { name := "fnForms", fn := fun _ => fun
  | [d1, d2] => { results := [.lit (.bool true)], args := [d1, d2] }
  | _ => none }
def fnFormsRow : OpenClaim := { program := "ytlfjjdglffiinaa", sum := "01a8815df74dd21a84057d975e48751120ecbb65b2c29b0613dfff338b983a2b", func := "loop.example/g01013/laws.FnForms", spec := "fnForms", unfollowed := true, recurses := true, apart := false }
def FnFormsSaid : Prop := fnFormsRow.holds Try.pinned (OpenSpec.ofChange fnFormsSpec)

/-- ITS FALSE NEIGHBOUR: 'it returns false'. Refute it at one input. -/
def fnFormsWrong : ChangeSpec := { name := "fnForms", fn := fun _ => fun
  | [d1, d2] => { results := [.lit (.bool false)], args := [d1, d2] }
  | _ => none }
def FnFormsWrongFalsely : Prop := fnFormsRow.holds Try.pinned (OpenSpec.ofChange fnFormsWrong)

/- THE SECOND FORM. 'bulk': how many values and letters a reading holds, each counted each time it is reached (what is shared counts as often as it is met; a slice's spare places count too). A statement '..UptoSaid' is the law's where the arguments, and the package variables that the reading takes, are together of bulk at most 1048576: NARROWER than '..Said'. Prove '..Said' where nothing that the law and all that it calls make is longer than what came in: it says more and counts as full. Else prove '..UptoSaid'. A law counts once. -/
mutual
def uptoBulk {H : Type} : DataW H → Nat
  | .lit (.string bytes) => bytes.length + 1
  | .lit _ => 1
  | .nil => 1
  | .ptr d => uptoBulk d + 1
  | .slice elems spare => uptoBulkAll elems + uptoBulkAll spare + 1
  | .agg parts => uptoBulkAll parts + 1
  | .iface _ d => uptoBulk d + 1
  | .map entries => uptoBulkEntries entries + 1
  | .held _ => 1
def uptoBulkAll {H : Type} : List (DataW H) → Nat
  | [] => 0
  | d :: r => uptoBulk d + uptoBulkAll r
def uptoBulkEntries {H : Type} : List (Lit × DataW H) → Nat
  | [] => 0
  | x :: r => uptoBulkEntry x + uptoBulkEntries r
def uptoBulkEntry {H : Type} : Lit × DataW H → Nat
  | (.string bytes, d) => bytes.length + uptoBulk d + 1
  | (_, d) => uptoBulk d + 1
 end
def uptoSmall : (H : Type) → List (DataW H) → Bool := fun _ ds => decide (uptoBulkAll ds ≤ 1048576)
def OpenSpec.upto (s : _root_.Go.ChangeSpec) : _root_.Go.OpenSpec := { _root_.Go.OpenSpec.ofChange s with cond := some uptoSmall }

/-- 'laws.FnMass', WHERE WHAT IT READS IS OF BULK AT MOST 1048576: true; the input reads as it did. -/
def fnMassUptoRow : OpenClaim := { program := "ytlfjjdglffiinaa", sum := "01a8815df74dd21a84057d975e48751120ecbb65b2c29b0613dfff338b983a2b", func := "loop.example/g01013/laws.FnMass", spec := "fnMass", unfollowed := true, recurses := true, apart := false, narrowed := true }
def FnMassUptoSaid : Prop := fnMassUptoRow.holds Try.pinned (OpenSpec.upto fnMassSpec)

/-- 'laws.FnHours', WHERE WHAT IT READS IS OF BULK AT MOST 1048576: true; the input reads as it did. -/
def fnHoursUptoRow : OpenClaim := { program := "ytlfjjdglffiinaa", sum := "01a8815df74dd21a84057d975e48751120ecbb65b2c29b0613dfff338b983a2b", func := "loop.example/g01013/laws.FnHours", spec := "fnHours", unfollowed := true, recurses := true, apart := false, narrowed := true }
def FnHoursUptoSaid : Prop := fnHoursUptoRow.holds Try.pinned (OpenSpec.upto fnHoursSpec)

/-- 'laws.FnForms', WHERE WHAT IT READS IS OF BULK AT MOST 1048576: true; the input reads as it did. -/
def fnFormsUptoRow : OpenClaim := { program := "ytlfjjdglffiinaa", sum := "01a8815df74dd21a84057d975e48751120ecbb65b2c29b0613dfff338b983a2b", func := "loop.example/g01013/laws.FnForms", spec := "fnForms", unfollowed := true, recurses := true, apart := false, narrowed := true }
def FnFormsUptoSaid : Prop := fnFormsUptoRow.holds Try.pinned (OpenSpec.upto fnFormsSpec)

end Rows
end Go.Proofs.Ytlfjjdglffiinaa
