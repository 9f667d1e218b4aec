/-
  No cell of these rows narrows 'for every input' (looked for: loops, veiled, ifaces, maps, wideKeys, modest, calm, conditions, laid).
  DERIVED. THE GIVEN ROWS OF THIS SEAT. 8 by the template 'for every input the law returns true; each argument reads behind the call as it read before'; 0 by the template 'total and deterministic' (their statements: YtbonlompmnhmiaaTotals.lean).
  GIVEN WITH THE SEED: the statements are not yours to turn. If you find one false, say at which input.
  Laid BY PROGRAM, IN A SANDBOX (cutbox-rows.mjs): the forced cells as the released guide's own fill.sh prints them over the translation 330d492668e9c01d… (all of the seat's roots in one cut). By AI agents, Wed Nov 11 2026. No macro, syntax, notation, axiom, sorry.
-/
import Derived.Test.YtbonlompmnhmiaaChecked
import GoSem.Claim
import GoSem.ClaimJoined
import GoSem.ClaimMapViews
import Derived.JoinedTies
import Derived.KernelRfl
namespace Go.Proofs.Ytbonlompmnhmiaa
/- THE CELL 'sum', in the pinned program and in every row, IS THE sha256 OF THE DUMP (.gsa) THAT YtbonlompmnhmiaaProg.lean LOADS. Nothing in Lean hashes anything: it is a label: what it is worth is what the hold of that sum in a sandbox is worth. -/
noncomputable def Try.pinned : Pinned := { name := "ytbonlompmnhmiaa", sum := "330d492668e9c01dd2fa4a825c1e1d7caf1205555d692dd8870f4aa1b3cae7c4", checked := Try.checked }
namespace Rows
def none {H : Type} : Left H := { results := [], args := [] }

/-- 'laws.FnExactDigitPeriod': WHATEVER THE INPUT: true; the input reads as it did. -/
def fnExactDigitPeriodSpec : ChangeSpec := { name := "fnExactDigitPeriod", fn := fun _ => fun
  | [d1, d2] => { results := [.lit (.bool true)], args := [d1, d2] }
  | _ => none }
def fnExactDigitPeriodRow : OpenClaim := { program := "ytbonlompmnhmiaa", sum := "330d492668e9c01dd2fa4a825c1e1d7caf1205555d692dd8870f4aa1b3cae7c4", func := "loop.example/g01007/laws.FnExactDigitPeriod", spec := "fnExactDigitPeriod", apart := false }
def FnExactDigitPeriodSaid : Prop := fnExactDigitPeriodRow.holds Try.pinned (OpenSpec.ofChange fnExactDigitPeriodSpec)

/-- ITS FALSE NEIGHBOUR: 'it returns false'. Refute it at one input. -/
def fnExactDigitPeriodWrong : ChangeSpec := { name := "fnExactDigitPeriod", fn := fun _ => fun
  | [d1, d2] => { results := [.lit (.bool false)], args := [d1, d2] }
  | _ => none }
def FnExactDigitPeriodWrongFalsely : Prop := fnExactDigitPeriodRow.holds Try.pinned (OpenSpec.ofChange fnExactDigitPeriodWrong)

/-- 'laws.FnExactDigitsOfFraction': WHATEVER THE INPUT: true; the input reads as it did. -/
def fnExactDigitsOfFractionSpec : ChangeSpec := { name := "fnExactDigitsOfFraction", fn := fun _ => fun
  | [d1, d2, d3] => { results := [.lit (.bool true)], args := [d1, d2, d3] }
  | _ => none }
def fnExactDigitsOfFractionRow : OpenClaim := { program := "ytbonlompmnhmiaa", sum := "330d492668e9c01dd2fa4a825c1e1d7caf1205555d692dd8870f4aa1b3cae7c4", func := "loop.example/g01007/laws.FnExactDigitsOfFraction", spec := "fnExactDigitsOfFraction", apart := false }
def FnExactDigitsOfFractionSaid : Prop := fnExactDigitsOfFractionRow.holds Try.pinned (OpenSpec.ofChange fnExactDigitsOfFractionSpec)

/-- ITS FALSE NEIGHBOUR: 'it returns false'. Refute it at one input. -/
def fnExactDigitsOfFractionWrong : ChangeSpec := { name := "fnExactDigitsOfFraction", fn := fun _ => fun
  | [d1, d2, d3] => { results := [.lit (.bool false)], args := [d1, d2, d3] }
  | _ => none }
def FnExactDigitsOfFractionWrongFalsely : Prop := fnExactDigitsOfFractionRow.holds Try.pinned (OpenSpec.ofChange fnExactDigitsOfFractionWrong)

/-- 'laws.FnExactBestAbove': WHATEVER THE INPUT: true; the input reads as it did. -/
def fnExactBestAboveSpec : ChangeSpec := { name := "fnExactBestAbove", fn := fun _ => fun
  | [d1, d2] => { results := [.lit (.bool true)], args := [d1, d2] }
  | _ => none }
def fnExactBestAboveRow : OpenClaim := { program := "ytbonlompmnhmiaa", sum := "330d492668e9c01dd2fa4a825c1e1d7caf1205555d692dd8870f4aa1b3cae7c4", func := "loop.example/g01007/laws.FnExactBestAbove", spec := "fnExactBestAbove", apart := false }
def FnExactBestAboveSaid : Prop := fnExactBestAboveRow.holds Try.pinned (OpenSpec.ofChange fnExactBestAboveSpec)

/-- ITS FALSE NEIGHBOUR: 'it returns false'. Refute it at one input. -/
def fnExactBestAboveWrong : ChangeSpec := { name := "fnExactBestAbove", fn := fun _ => fun
  | [d1, d2] => { results := [.lit (.bool false)], args := [d1, d2] }
  | _ => none }
def FnExactBestAboveWrongFalsely : Prop := fnExactBestAboveRow.holds Try.pinned (OpenSpec.ofChange fnExactBestAboveWrong)

/-- 'laws.FnLeastDens': WHATEVER THE INPUT: true; the input reads as it did. -/
def fnLeastDensSpec : ChangeSpec := { name := "fnLeastDens", fn := fun _ => fun
  | [d1, d2] => { results := [.lit (.bool true)], args := [d1, d2] }
  | _ => none }
def fnLeastDensRow : OpenClaim := { program := "ytbonlompmnhmiaa", sum := "330d492668e9c01dd2fa4a825c1e1d7caf1205555d692dd8870f4aa1b3cae7c4", func := "loop.example/g01007/laws.FnLeastDens", spec := "fnLeastDens", apart := false }
def FnLeastDensSaid : Prop := fnLeastDensRow.holds Try.pinned (OpenSpec.ofChange fnLeastDensSpec)

/-- ITS FALSE NEIGHBOUR: 'it returns false'. Refute it at one input. -/
def fnLeastDensWrong : ChangeSpec := { name := "fnLeastDens", fn := fun _ => fun
  | [d1, d2] => { results := [.lit (.bool false)], args := [d1, d2] }
  | _ => none }
def FnLeastDensWrongFalsely : Prop := fnLeastDensRow.holds Try.pinned (OpenSpec.ofChange fnLeastDensWrong)

/-- 'laws.FnBeats': WHATEVER THE INPUT: true; the input reads as it did. -/
def fnBeatsSpec : ChangeSpec := { name := "fnBeats", fn := fun _ => fun
  | [d1, d2] => { results := [.lit (.bool true)], args := [d1, d2] }
  | _ => none }
def fnBeatsRow : OpenClaim := { program := "ytbonlompmnhmiaa", sum := "330d492668e9c01dd2fa4a825c1e1d7caf1205555d692dd8870f4aa1b3cae7c4", func := "loop.example/g01007/laws.FnBeats", spec := "fnBeats", apart := false }
def FnBeatsSaid : Prop := fnBeatsRow.holds Try.pinned (OpenSpec.ofChange fnBeatsSpec)

/-- ITS FALSE NEIGHBOUR: 'it returns false'. Refute it at one input. -/
def fnBeatsWrong : ChangeSpec := { name := "fnBeats", fn := fun _ => fun
  | [d1, d2] => { results := [.lit (.bool false)], args := [d1, d2] }
  | _ => none }
def FnBeatsWrongFalsely : Prop := fnBeatsRow.holds Try.pinned (OpenSpec.ofChange fnBeatsWrong)

/-- 'laws.FnExactBestFirst': WHATEVER THE INPUT: true; the input reads as it did. -/
def fnExactBestFirstSpec : ChangeSpec := { name := "fnExactBestFirst", fn := fun _ => fun
  | [d1, d2] => { results := [.lit (.bool true)], args := [d1, d2] }
  | _ => none }
def fnExactBestFirstRow : OpenClaim := { program := "ytbonlompmnhmiaa", sum := "330d492668e9c01dd2fa4a825c1e1d7caf1205555d692dd8870f4aa1b3cae7c4", func := "loop.example/g01007/laws.FnExactBestFirst", spec := "fnExactBestFirst", unfollowed := true, recurses := true, apart := false }
def FnExactBestFirstSaid : Prop := fnExactBestFirstRow.holds Try.pinned (OpenSpec.ofChange fnExactBestFirstSpec)

/-- ITS FALSE NEIGHBOUR: 'it returns false'. Refute it at one input. -/
def fnExactBestFirstWrong : ChangeSpec := { name := "fnExactBestFirst", fn := fun _ => fun
  | [d1, d2] => { results := [.lit (.bool false)], args := [d1, d2] }
  | _ => none }
def FnExactBestFirstWrongFalsely : Prop := fnExactBestFirstRow.holds Try.pinned (OpenSpec.ofChange fnExactBestFirstWrong)

/-- 'laws.FnExactBestSecond': WHATEVER THE INPUT: true; the input reads as it did. -/
def fnExactBestSecondSpec : ChangeSpec := { name := "fnExactBestSecond", fn := fun _ => fun
  | [d1, d2] => { results := [.lit (.bool true)], args := [d1, d2] }
  | _ => none }
def fnExactBestSecondRow : OpenClaim := { program := "ytbonlompmnhmiaa", sum := "330d492668e9c01dd2fa4a825c1e1d7caf1205555d692dd8870f4aa1b3cae7c4", func := "loop.example/g01007/laws.FnExactBestSecond", spec := "fnExactBestSecond", unfollowed := true, recurses := true, apart := false }
def FnExactBestSecondSaid : Prop := fnExactBestSecondRow.holds Try.pinned (OpenSpec.ofChange fnExactBestSecondSpec)

/-- ITS FALSE NEIGHBOUR: 'it returns false'. Refute it at one input. -/
def fnExactBestSecondWrong : ChangeSpec := { name := "fnExactBestSecond", fn := fun _ => fun
  | [d1, d2] => { results := [.lit (.bool false)], args := [d1, d2] }
  | _ => none }
def FnExactBestSecondWrongFalsely : Prop := fnExactBestSecondRow.holds Try.pinned (OpenSpec.ofChange fnExactBestSecondWrong)

/-- 'laws.FnBest': WHATEVER THE INPUT: true; the input reads as it did. -/
def fnBestSpec : ChangeSpec := { name := "fnBest", fn := fun _ => fun
  | [d1, d2] => { results := [.lit (.bool true)], args := [d1, d2] }
  | _ => none }
def fnBestRow : OpenClaim := { program := "ytbonlompmnhmiaa", sum := "330d492668e9c01dd2fa4a825c1e1d7caf1205555d692dd8870f4aa1b3cae7c4", func := "loop.example/g01007/laws.FnBest", spec := "fnBest", unfollowed := true, recurses := true, apart := false }
def FnBestSaid : Prop := fnBestRow.holds Try.pinned (OpenSpec.ofChange fnBestSpec)

/-- ITS FALSE NEIGHBOUR: 'it returns false'. Refute it at one input. -/
def fnBestWrong : ChangeSpec := { name := "fnBest", fn := fun _ => fun
  | [d1, d2] => { results := [.lit (.bool false)], args := [d1, d2] }
  | _ => none }
def FnBestWrongFalsely : Prop := fnBestRow.holds Try.pinned (OpenSpec.ofChange fnBestWrong)

/- THE SECOND FORM. 'bulk': how many values and letters a reading holds, each counted each time it is reached (what is shared counts as often as it is met; a slice's spare places count too). A statement '..UptoSaid' is the law's where the arguments, and the package variables that the reading takes, are together of bulk at most 1048576: NARROWER than '..Said'. Prove '..Said' where nothing that the law and all that it calls make is longer than what came in: it says more and counts as full. Else prove '..UptoSaid'. A law counts once. -/
mutual
def uptoBulk {H : Type} : DataW H → Nat
  | .lit (.string bytes) => bytes.length + 1
  | .lit _ => 1
  | .nil => 1
  | .ptr d => uptoBulk d + 1
  | .slice elems spare => uptoBulkAll elems + uptoBulkAll spare + 1
  | .agg parts => uptoBulkAll parts + 1
  | .iface _ d => uptoBulk d + 1
  | .map entries => uptoBulkEntries entries + 1
  | .held _ => 1
def uptoBulkAll {H : Type} : List (DataW H) → Nat
  | [] => 0
  | d :: r => uptoBulk d + uptoBulkAll r
def uptoBulkEntries {H : Type} : List (Lit × DataW H) → Nat
  | [] => 0
  | x :: r => uptoBulkEntry x + uptoBulkEntries r
def uptoBulkEntry {H : Type} : Lit × DataW H → Nat
  | (.string bytes, d) => bytes.length + uptoBulk d + 1
  | (_, d) => uptoBulk d + 1
 end
def uptoSmall : (H : Type) → List (DataW H) → Bool := fun _ ds => decide (uptoBulkAll ds ≤ 1048576)
def OpenSpec.upto (s : _root_.Go.ChangeSpec) : _root_.Go.OpenSpec := { _root_.Go.OpenSpec.ofChange s with cond := some uptoSmall }

/-- 'laws.FnExactDigitPeriod', WHERE WHAT IT READS IS OF BULK AT MOST 1048576: true; the input reads as it did. -/
def fnExactDigitPeriodUptoRow : OpenClaim := { program := "ytbonlompmnhmiaa", sum := "330d492668e9c01dd2fa4a825c1e1d7caf1205555d692dd8870f4aa1b3cae7c4", func := "loop.example/g01007/laws.FnExactDigitPeriod", spec := "fnExactDigitPeriod", apart := false, narrowed := true }
def FnExactDigitPeriodUptoSaid : Prop := fnExactDigitPeriodUptoRow.holds Try.pinned (OpenSpec.upto fnExactDigitPeriodSpec)

/-- 'laws.FnExactDigitsOfFraction', WHERE WHAT IT READS IS OF BULK AT MOST 1048576: true; the input reads as it did. -/
def fnExactDigitsOfFractionUptoRow : OpenClaim := { program := "ytbonlompmnhmiaa", sum := "330d492668e9c01dd2fa4a825c1e1d7caf1205555d692dd8870f4aa1b3cae7c4", func := "loop.example/g01007/laws.FnExactDigitsOfFraction", spec := "fnExactDigitsOfFraction", apart := false, narrowed := true }
def FnExactDigitsOfFractionUptoSaid : Prop := fnExactDigitsOfFractionUptoRow.holds Try.pinned (OpenSpec.upto fnExactDigitsOfFractionSpec)

/-- 'laws.FnExactBestAbove', WHERE WHAT IT READS IS OF BULK AT MOST 1048576: true; the input reads as it did. -/
def fnExactBestAboveUptoRow : OpenClaim := { program := "ytbonlompmnhmiaa", sum := "330d492668e9c01dd2fa4a825c1e1d7caf1205555d692dd8870f4aa1b3cae7c4", func := "loop.example/g01007/laws.FnExactBestAbove", spec := "fnExactBestAbove", apart := false, narrowed := true }
def FnExactBestAboveUptoSaid : Prop := fnExactBestAboveUptoRow.holds Try.pinned (OpenSpec.upto fnExactBestAboveSpec)

/-- 'laws.FnLeastDens', WHERE WHAT IT READS IS OF BULK AT MOST 1048576: true; the input reads as it did. -/
def fnLeastDensUptoRow : OpenClaim := { program := "ytbonlompmnhmiaa", sum := "330d492668e9c01dd2fa4a825c1e1d7caf1205555d692dd8870f4aa1b3cae7c4", func := "loop.example/g01007/laws.FnLeastDens", spec := "fnLeastDens", apart := false, narrowed := true }
def FnLeastDensUptoSaid : Prop := fnLeastDensUptoRow.holds Try.pinned (OpenSpec.upto fnLeastDensSpec)

/-- 'laws.FnBeats', WHERE WHAT IT READS IS OF BULK AT MOST 1048576: true; the input reads as it did. -/
def fnBeatsUptoRow : OpenClaim := { program := "ytbonlompmnhmiaa", sum := "330d492668e9c01dd2fa4a825c1e1d7caf1205555d692dd8870f4aa1b3cae7c4", func := "loop.example/g01007/laws.FnBeats", spec := "fnBeats", apart := false, narrowed := true }
def FnBeatsUptoSaid : Prop := fnBeatsUptoRow.holds Try.pinned (OpenSpec.upto fnBeatsSpec)

/-- 'laws.FnExactBestFirst', WHERE WHAT IT READS IS OF BULK AT MOST 1048576: true; the input reads as it did. -/
def fnExactBestFirstUptoRow : OpenClaim := { program := "ytbonlompmnhmiaa", sum := "330d492668e9c01dd2fa4a825c1e1d7caf1205555d692dd8870f4aa1b3cae7c4", func := "loop.example/g01007/laws.FnExactBestFirst", spec := "fnExactBestFirst", unfollowed := true, recurses := true, apart := false, narrowed := true }
def FnExactBestFirstUptoSaid : Prop := fnExactBestFirstUptoRow.holds Try.pinned (OpenSpec.upto fnExactBestFirstSpec)

/-- 'laws.FnExactBestSecond', WHERE WHAT IT READS IS OF BULK AT MOST 1048576: true; the input reads as it did. -/
def fnExactBestSecondUptoRow : OpenClaim := { program := "ytbonlompmnhmiaa", sum := "330d492668e9c01dd2fa4a825c1e1d7caf1205555d692dd8870f4aa1b3cae7c4", func := "loop.example/g01007/laws.FnExactBestSecond", spec := "fnExactBestSecond", unfollowed := true, recurses := true, apart := false, narrowed := true }
def FnExactBestSecondUptoSaid : Prop := fnExactBestSecondUptoRow.holds Try.pinned (OpenSpec.upto fnExactBestSecondSpec)

/-- 'laws.FnBest', WHERE WHAT IT READS IS OF BULK AT MOST 1048576: true; the input reads as it did. -/
def fnBestUptoRow : OpenClaim := { program := "ytbonlompmnhmiaa", sum := "330d492668e9c01dd2fa4a825c1e1d7caf1205555d692dd8870f4aa1b3cae7c4", func := "loop.example/g01007/laws.FnBest", spec := "fnBest", unfollowed := true, recurses := true, apart := false, narrowed := true }
def FnBestUptoSaid : Prop := fnBestUptoRow.holds Try.pinned (OpenSpec.upto fnBestSpec)

end Rows
end Go.Proofs.Ytbonlompmnhmiaa
