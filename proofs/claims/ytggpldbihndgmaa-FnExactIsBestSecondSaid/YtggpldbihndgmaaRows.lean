/-
  No cell of these rows narrows 'for every input' (looked for: loops, veiled, ifaces, maps, wideKeys, modest, calm, conditions, laid).
  DERIVED. THE GIVEN ROWS OF THIS SEAT. 12 by the template 'for every input the law returns true; each argument reads behind the call as it read before'; 0 by the template 'total and deterministic' (their statements: YtggpldbihndgmaaTotals.lean).
  GIVEN WITH THE SEED: the statements are not yours to turn. If you find one false, say at which input.
  Laid BY PROGRAM, IN A SANDBOX (cutbox-rows.mjs): the forced cells as the released guide's own fill.sh prints them over the translation 59e64bf915ae2452… (all of the seat's roots in one cut). By AI agents, Wed Nov 11 2026. No macro, syntax, notation, axiom, sorry.
-/
import Derived.Test.YtggpldbihndgmaaChecked
import GoSem.Claim
import GoSem.ClaimJoined
import GoSem.ClaimMapViews
import Derived.JoinedTies
import Derived.KernelRfl
namespace Go.Proofs.Ytggpldbihndgmaa
/- THE CELL 'sum', in the pinned program and in every row, IS THE sha256 OF THE DUMP (.gsa) THAT YtggpldbihndgmaaProg.lean LOADS. Nothing in Lean hashes anything: it is a label: what it is worth is what the hold of that sum in a sandbox is worth. -/
noncomputable def Try.pinned : Pinned := { name := "ytggpldbihndgmaa", sum := "59e64bf915ae2452ba14172553f386a0b2c10ae34280abc88164ce38b060688b", checked := Try.checked }
namespace Rows
def none {H : Type} : Left H := { results := [], args := [] }

/-- 'laws.FnExactSourceOfE': WHATEVER THE INPUT: true; the input reads as it did. -/
def fnExactSourceOfESpec : ChangeSpec := { name := "fnExactSourceOfE", fn := fun _ => fun
  | [] => { results := [.lit (.bool true)], args := [] }
  | _ => none }
def fnExactSourceOfERow : OpenClaim := { program := "ytggpldbihndgmaa", sum := "59e64bf915ae2452ba14172553f386a0b2c10ae34280abc88164ce38b060688b", func := "loop.example/g01007/laws.FnExactSourceOfE", spec := "fnExactSourceOfE", apart := false }
def FnExactSourceOfESaid : Prop := fnExactSourceOfERow.holds Try.pinned (OpenSpec.ofChange fnExactSourceOfESpec)

/-- ITS FALSE NEIGHBOUR: 'it returns false'. Refute it at one input. -/
def fnExactSourceOfEWrong : ChangeSpec := { name := "fnExactSourceOfE", fn := fun _ => fun
  | [] => { results := [.lit (.bool false)], args := [] }
  | _ => none }
def FnExactSourceOfEWrongFalsely : Prop := fnExactSourceOfERow.holds Try.pinned (OpenSpec.ofChange fnExactSourceOfEWrong)

/-- 'laws.FnExactSameSource': WHATEVER THE INPUT: true; the input reads as it did. -/
def fnExactSameSourceSpec : ChangeSpec := { name := "fnExactSameSource", fn := fun _ => fun
  | [d1, d2] => { results := [.lit (.bool true)], args := [d1, d2] }
  | _ => none }
def fnExactSameSourceRow : OpenClaim := { program := "ytggpldbihndgmaa", sum := "59e64bf915ae2452ba14172553f386a0b2c10ae34280abc88164ce38b060688b", func := "loop.example/g01007/laws.FnExactSameSource", spec := "fnExactSameSource", apart := false }
def FnExactSameSourceSaid : Prop := fnExactSameSourceRow.holds Try.pinned (OpenSpec.ofChange fnExactSameSourceSpec)

/-- ITS FALSE NEIGHBOUR: 'it returns false'. Refute it at one input. -/
def fnExactSameSourceWrong : ChangeSpec := { name := "fnExactSameSource", fn := fun _ => fun
  | [d1, d2] => { results := [.lit (.bool false)], args := [d1, d2] }
  | _ => none }
def FnExactSameSourceWrongFalsely : Prop := fnExactSameSourceRow.holds Try.pinned (OpenSpec.ofChange fnExactSameSourceWrong)

/-- 'laws.FnExactErrorTimes': WHATEVER THE INPUT: true; the input reads as it did. -/
def fnExactErrorTimesSpec : ChangeSpec := { name := "fnExactErrorTimes", fn := fun _ => fun
  | [d1, d2] => { results := [.lit (.bool true)], args := [d1, d2] }
  | _ => none }
def fnExactErrorTimesRow : OpenClaim := { program := "ytggpldbihndgmaa", sum := "59e64bf915ae2452ba14172553f386a0b2c10ae34280abc88164ce38b060688b", func := "loop.example/g01007/laws.FnExactErrorTimes", spec := "fnExactErrorTimes", apart := false }
def FnExactErrorTimesSaid : Prop := fnExactErrorTimesRow.holds Try.pinned (OpenSpec.ofChange fnExactErrorTimesSpec)

/-- ITS FALSE NEIGHBOUR: 'it returns false'. Refute it at one input. -/
def fnExactErrorTimesWrong : ChangeSpec := { name := "fnExactErrorTimes", fn := fun _ => fun
  | [d1, d2] => { results := [.lit (.bool false)], args := [d1, d2] }
  | _ => none }
def FnExactErrorTimesWrongFalsely : Prop := fnExactErrorTimesRow.holds Try.pinned (OpenSpec.ofChange fnExactErrorTimesWrong)

/-- 'laws.FnExactDigitPeriod': WHATEVER THE INPUT: true; the input reads as it did. -/
def fnExactDigitPeriodSpec : ChangeSpec := { name := "fnExactDigitPeriod", fn := fun _ => fun
  | [d1, d2] => { results := [.lit (.bool true)], args := [d1, d2] }
  | _ => none }
def fnExactDigitPeriodRow : OpenClaim := { program := "ytggpldbihndgmaa", sum := "59e64bf915ae2452ba14172553f386a0b2c10ae34280abc88164ce38b060688b", func := "loop.example/g01007/laws.FnExactDigitPeriod", spec := "fnExactDigitPeriod", apart := false }
def FnExactDigitPeriodSaid : Prop := fnExactDigitPeriodRow.holds Try.pinned (OpenSpec.ofChange fnExactDigitPeriodSpec)

/-- ITS FALSE NEIGHBOUR: 'it returns false'. Refute it at one input. -/
def fnExactDigitPeriodWrong : ChangeSpec := { name := "fnExactDigitPeriod", fn := fun _ => fun
  | [d1, d2] => { results := [.lit (.bool false)], args := [d1, d2] }
  | _ => none }
def FnExactDigitPeriodWrongFalsely : Prop := fnExactDigitPeriodRow.holds Try.pinned (OpenSpec.ofChange fnExactDigitPeriodWrong)

/-- 'laws.FnExactValidSource': WHATEVER THE INPUT: true; the input reads as it did. -/
def fnExactValidSourceSpec : ChangeSpec := { name := "fnExactValidSource", fn := fun _ => fun
  | [d] => { results := [.lit (.bool true)], args := [d] }
  | _ => none }
def fnExactValidSourceRow : OpenClaim := { program := "ytggpldbihndgmaa", sum := "59e64bf915ae2452ba14172553f386a0b2c10ae34280abc88164ce38b060688b", func := "loop.example/g01007/laws.FnExactValidSource", spec := "fnExactValidSource", apart := false }
def FnExactValidSourceSaid : Prop := fnExactValidSourceRow.holds Try.pinned (OpenSpec.ofChange fnExactValidSourceSpec)

/-- ITS FALSE NEIGHBOUR: 'it returns false'. Refute it at one input. -/
def fnExactValidSourceWrong : ChangeSpec := { name := "fnExactValidSource", fn := fun _ => fun
  | [d] => { results := [.lit (.bool false)], args := [d] }
  | _ => none }
def FnExactValidSourceWrongFalsely : Prop := fnExactValidSourceRow.holds Try.pinned (OpenSpec.ofChange fnExactValidSourceWrong)

/-- 'laws.FnExactCompareErrors': WHATEVER THE INPUT: true; the input reads as it did. -/
def fnExactCompareErrorsSpec : ChangeSpec := { name := "fnExactCompareErrors", fn := fun _ => fun
  | [d1, d2, d3] => { results := [.lit (.bool true)], args := [d1, d2, d3] }
  | _ => none }
def fnExactCompareErrorsRow : OpenClaim := { program := "ytggpldbihndgmaa", sum := "59e64bf915ae2452ba14172553f386a0b2c10ae34280abc88164ce38b060688b", func := "loop.example/g01007/laws.FnExactCompareErrors", spec := "fnExactCompareErrors", apart := false }
def FnExactCompareErrorsSaid : Prop := fnExactCompareErrorsRow.holds Try.pinned (OpenSpec.ofChange fnExactCompareErrorsSpec)

/-- ITS FALSE NEIGHBOUR: 'it returns false'. Refute it at one input. -/
def fnExactCompareErrorsWrong : ChangeSpec := { name := "fnExactCompareErrors", fn := fun _ => fun
  | [d1, d2, d3] => { results := [.lit (.bool false)], args := [d1, d2, d3] }
  | _ => none }
def FnExactCompareErrorsWrongFalsely : Prop := fnExactCompareErrorsRow.holds Try.pinned (OpenSpec.ofChange fnExactCompareErrorsWrong)

/-- 'laws.FnExactDigitsOfFraction': WHATEVER THE INPUT: true; the input reads as it did. -/
def fnExactDigitsOfFractionSpec : ChangeSpec := { name := "fnExactDigitsOfFraction", fn := fun _ => fun
  | [d1, d2, d3] => { results := [.lit (.bool true)], args := [d1, d2, d3] }
  | _ => none }
def fnExactDigitsOfFractionRow : OpenClaim := { program := "ytggpldbihndgmaa", sum := "59e64bf915ae2452ba14172553f386a0b2c10ae34280abc88164ce38b060688b", func := "loop.example/g01007/laws.FnExactDigitsOfFraction", spec := "fnExactDigitsOfFraction", apart := false }
def FnExactDigitsOfFractionSaid : Prop := fnExactDigitsOfFractionRow.holds Try.pinned (OpenSpec.ofChange fnExactDigitsOfFractionSpec)

/-- ITS FALSE NEIGHBOUR: 'it returns false'. Refute it at one input. -/
def fnExactDigitsOfFractionWrong : ChangeSpec := { name := "fnExactDigitsOfFraction", fn := fun _ => fun
  | [d1, d2, d3] => { results := [.lit (.bool false)], args := [d1, d2, d3] }
  | _ => none }
def FnExactDigitsOfFractionWrongFalsely : Prop := fnExactDigitsOfFractionRow.holds Try.pinned (OpenSpec.ofChange fnExactDigitsOfFractionWrong)

/-- 'laws.FnExactLowerBest': WHATEVER THE INPUT: true; the input reads as it did. -/
def fnExactLowerBestSpec : ChangeSpec := { name := "fnExactLowerBest", fn := fun _ => fun
  | [d1, d2] => { results := [.lit (.bool true)], args := [d1, d2] }
  | _ => none }
def fnExactLowerBestRow : OpenClaim := { program := "ytggpldbihndgmaa", sum := "59e64bf915ae2452ba14172553f386a0b2c10ae34280abc88164ce38b060688b", func := "loop.example/g01007/laws.FnExactLowerBest", spec := "fnExactLowerBest", apart := false }
def FnExactLowerBestSaid : Prop := fnExactLowerBestRow.holds Try.pinned (OpenSpec.ofChange fnExactLowerBestSpec)

/-- ITS FALSE NEIGHBOUR: 'it returns false'. Refute it at one input. -/
def fnExactLowerBestWrong : ChangeSpec := { name := "fnExactLowerBest", fn := fun _ => fun
  | [d1, d2] => { results := [.lit (.bool false)], args := [d1, d2] }
  | _ => none }
def FnExactLowerBestWrongFalsely : Prop := fnExactLowerBestRow.holds Try.pinned (OpenSpec.ofChange fnExactLowerBestWrong)

/-- 'laws.FnExactUpperBest': WHATEVER THE INPUT: true; the input reads as it did. -/
def fnExactUpperBestSpec : ChangeSpec := { name := "fnExactUpperBest", fn := fun _ => fun
  | [d1, d2] => { results := [.lit (.bool true)], args := [d1, d2] }
  | _ => none }
def fnExactUpperBestRow : OpenClaim := { program := "ytggpldbihndgmaa", sum := "59e64bf915ae2452ba14172553f386a0b2c10ae34280abc88164ce38b060688b", func := "loop.example/g01007/laws.FnExactUpperBest", spec := "fnExactUpperBest", apart := false }
def FnExactUpperBestSaid : Prop := fnExactUpperBestRow.holds Try.pinned (OpenSpec.ofChange fnExactUpperBestSpec)

/-- ITS FALSE NEIGHBOUR: 'it returns false'. Refute it at one input. -/
def fnExactUpperBestWrong : ChangeSpec := { name := "fnExactUpperBest", fn := fun _ => fun
  | [d1, d2] => { results := [.lit (.bool false)], args := [d1, d2] }
  | _ => none }
def FnExactUpperBestWrongFalsely : Prop := fnExactUpperBestRow.holds Try.pinned (OpenSpec.ofChange fnExactUpperBestWrong)

/-- 'laws.FnExactTermAt': WHATEVER THE INPUT: true; the input reads as it did. -/
def fnExactTermAtSpec : ChangeSpec := { name := "fnExactTermAt", fn := fun _ => fun
  | [d1, d2] => { results := [.lit (.bool true)], args := [d1, d2] }
  | _ => none }
def fnExactTermAtRow : OpenClaim := { program := "ytggpldbihndgmaa", sum := "59e64bf915ae2452ba14172553f386a0b2c10ae34280abc88164ce38b060688b", func := "loop.example/g01007/laws.FnExactTermAt", spec := "fnExactTermAt", apart := false }
def FnExactTermAtSaid : Prop := fnExactTermAtRow.holds Try.pinned (OpenSpec.ofChange fnExactTermAtSpec)

/-- ITS FALSE NEIGHBOUR: 'it returns false'. Refute it at one input. -/
def fnExactTermAtWrong : ChangeSpec := { name := "fnExactTermAt", fn := fun _ => fun
  | [d1, d2] => { results := [.lit (.bool false)], args := [d1, d2] }
  | _ => none }
def FnExactTermAtWrongFalsely : Prop := fnExactTermAtRow.holds Try.pinned (OpenSpec.ofChange fnExactTermAtWrong)

/-- 'laws.FnExactIsBestSecond': WHATEVER THE INPUT: true; the input reads as it did. -/
def fnExactIsBestSecondSpec : ChangeSpec := { name := "fnExactIsBestSecond", fn := fun _ => fun
  | [d1, d2] => { results := [.lit (.bool true)], args := [d1, d2] }
  | _ => none }
def fnExactIsBestSecondRow : OpenClaim := { program := "ytggpldbihndgmaa", sum := "59e64bf915ae2452ba14172553f386a0b2c10ae34280abc88164ce38b060688b", func := "loop.example/g01007/laws.FnExactIsBestSecond", spec := "fnExactIsBestSecond", apart := false }
def FnExactIsBestSecondSaid : Prop := fnExactIsBestSecondRow.holds Try.pinned (OpenSpec.ofChange fnExactIsBestSecondSpec)

/-- ITS FALSE NEIGHBOUR: 'it returns false'. Refute it at one input. -/
def fnExactIsBestSecondWrong : ChangeSpec := { name := "fnExactIsBestSecond", fn := fun _ => fun
  | [d1, d2] => { results := [.lit (.bool false)], args := [d1, d2] }
  | _ => none }
def FnExactIsBestSecondWrongFalsely : Prop := fnExactIsBestSecondRow.holds Try.pinned (OpenSpec.ofChange fnExactIsBestSecondWrong)

/-- 'laws.FnExactNearerSide': WHATEVER THE INPUT: true; the input reads as it did. -/
def fnExactNearerSideSpec : ChangeSpec := { name := "fnExactNearerSide", fn := fun _ => fun
  | [d1, d2] => { results := [.lit (.bool true)], args := [d1, d2] }
  | _ => none }
def fnExactNearerSideRow : OpenClaim := { program := "ytggpldbihndgmaa", sum := "59e64bf915ae2452ba14172553f386a0b2c10ae34280abc88164ce38b060688b", func := "loop.example/g01007/laws.FnExactNearerSide", spec := "fnExactNearerSide", apart := false }
def FnExactNearerSideSaid : Prop := fnExactNearerSideRow.holds Try.pinned (OpenSpec.ofChange fnExactNearerSideSpec)

/-- ITS FALSE NEIGHBOUR: 'it returns false'. Refute it at one input. -/
def fnExactNearerSideWrong : ChangeSpec := { name := "fnExactNearerSide", fn := fun _ => fun
  | [d1, d2] => { results := [.lit (.bool false)], args := [d1, d2] }
  | _ => none }
def FnExactNearerSideWrongFalsely : Prop := fnExactNearerSideRow.holds Try.pinned (OpenSpec.ofChange fnExactNearerSideWrong)

/- THE SECOND FORM. 'bulk': how many values and letters a reading holds, each counted each time it is reached (what is shared counts as often as it is met; a slice's spare places count too). A statement '..UptoSaid' is the law's where the arguments, and the package variables that the reading takes, are together of bulk at most 1048576: NARROWER than '..Said'. Prove '..Said' where nothing that the law and all that it calls make is longer than what came in: it says more and counts as full. Else prove '..UptoSaid'. A law counts once. -/
mutual
def uptoBulk {H : Type} : DataW H → Nat
  | .lit (.string bytes) => bytes.length + 1
  | .lit _ => 1
  | .nil => 1
  | .ptr d => uptoBulk d + 1
  | .slice elems spare => uptoBulkAll elems + uptoBulkAll spare + 1
  | .agg parts => uptoBulkAll parts + 1
  | .iface _ d => uptoBulk d + 1
  | .map entries => uptoBulkEntries entries + 1
  | .held _ => 1
def uptoBulkAll {H : Type} : List (DataW H) → Nat
  | [] => 0
  | d :: r => uptoBulk d + uptoBulkAll r
def uptoBulkEntries {H : Type} : List (Lit × DataW H) → Nat
  | [] => 0
  | x :: r => uptoBulkEntry x + uptoBulkEntries r
def uptoBulkEntry {H : Type} : Lit × DataW H → Nat
  | (.string bytes, d) => bytes.length + uptoBulk d + 1
  | (_, d) => uptoBulk d + 1
 end
def uptoSmall : (H : Type) → List (DataW H) → Bool := fun _ ds => decide (uptoBulkAll ds ≤ 1048576)
def OpenSpec.upto (s : _root_.Go.ChangeSpec) : _root_.Go.OpenSpec := { _root_.Go.OpenSpec.ofChange s with cond := some uptoSmall }

/-- 'laws.FnExactSourceOfE', WHERE WHAT IT READS IS OF BULK AT MOST 1048576: true; the input reads as it did. -/
def fnExactSourceOfEUptoRow : OpenClaim := { program := "ytggpldbihndgmaa", sum := "59e64bf915ae2452ba14172553f386a0b2c10ae34280abc88164ce38b060688b", func := "loop.example/g01007/laws.FnExactSourceOfE", spec := "fnExactSourceOfE", apart := false, narrowed := true }
def FnExactSourceOfEUptoSaid : Prop := fnExactSourceOfEUptoRow.holds Try.pinned (OpenSpec.upto fnExactSourceOfESpec)

/-- 'laws.FnExactSameSource', WHERE WHAT IT READS IS OF BULK AT MOST 1048576: true; the input reads as it did. -/
def fnExactSameSourceUptoRow : OpenClaim := { program := "ytggpldbihndgmaa", sum := "59e64bf915ae2452ba14172553f386a0b2c10ae34280abc88164ce38b060688b", func := "loop.example/g01007/laws.FnExactSameSource", spec := "fnExactSameSource", apart := false, narrowed := true }
def FnExactSameSourceUptoSaid : Prop := fnExactSameSourceUptoRow.holds Try.pinned (OpenSpec.upto fnExactSameSourceSpec)

/-- 'laws.FnExactErrorTimes', WHERE WHAT IT READS IS OF BULK AT MOST 1048576: true; the input reads as it did. -/
def fnExactErrorTimesUptoRow : OpenClaim := { program := "ytggpldbihndgmaa", sum := "59e64bf915ae2452ba14172553f386a0b2c10ae34280abc88164ce38b060688b", func := "loop.example/g01007/laws.FnExactErrorTimes", spec := "fnExactErrorTimes", apart := false, narrowed := true }
def FnExactErrorTimesUptoSaid : Prop := fnExactErrorTimesUptoRow.holds Try.pinned (OpenSpec.upto fnExactErrorTimesSpec)

/-- 'laws.FnExactDigitPeriod', WHERE WHAT IT READS IS OF BULK AT MOST 1048576: true; the input reads as it did. -/
def fnExactDigitPeriodUptoRow : OpenClaim := { program := "ytggpldbihndgmaa", sum := "59e64bf915ae2452ba14172553f386a0b2c10ae34280abc88164ce38b060688b", func := "loop.example/g01007/laws.FnExactDigitPeriod", spec := "fnExactDigitPeriod", apart := false, narrowed := true }
def FnExactDigitPeriodUptoSaid : Prop := fnExactDigitPeriodUptoRow.holds Try.pinned (OpenSpec.upto fnExactDigitPeriodSpec)

/-- 'laws.FnExactValidSource', WHERE WHAT IT READS IS OF BULK AT MOST 1048576: true; the input reads as it did. -/
def fnExactValidSourceUptoRow : OpenClaim := { program := "ytggpldbihndgmaa", sum := "59e64bf915ae2452ba14172553f386a0b2c10ae34280abc88164ce38b060688b", func := "loop.example/g01007/laws.FnExactValidSource", spec := "fnExactValidSource", apart := false, narrowed := true }
def FnExactValidSourceUptoSaid : Prop := fnExactValidSourceUptoRow.holds Try.pinned (OpenSpec.upto fnExactValidSourceSpec)

/-- 'laws.FnExactCompareErrors', WHERE WHAT IT READS IS OF BULK AT MOST 1048576: true; the input reads as it did. -/
def fnExactCompareErrorsUptoRow : OpenClaim := { program := "ytggpldbihndgmaa", sum := "59e64bf915ae2452ba14172553f386a0b2c10ae34280abc88164ce38b060688b", func := "loop.example/g01007/laws.FnExactCompareErrors", spec := "fnExactCompareErrors", apart := false, narrowed := true }
def FnExactCompareErrorsUptoSaid : Prop := fnExactCompareErrorsUptoRow.holds Try.pinned (OpenSpec.upto fnExactCompareErrorsSpec)

/-- 'laws.FnExactDigitsOfFraction', WHERE WHAT IT READS IS OF BULK AT MOST 1048576: true; the input reads as it did. -/
def fnExactDigitsOfFractionUptoRow : OpenClaim := { program := "ytggpldbihndgmaa", sum := "59e64bf915ae2452ba14172553f386a0b2c10ae34280abc88164ce38b060688b", func := "loop.example/g01007/laws.FnExactDigitsOfFraction", spec := "fnExactDigitsOfFraction", apart := false, narrowed := true }
def FnExactDigitsOfFractionUptoSaid : Prop := fnExactDigitsOfFractionUptoRow.holds Try.pinned (OpenSpec.upto fnExactDigitsOfFractionSpec)

/-- 'laws.FnExactLowerBest', WHERE WHAT IT READS IS OF BULK AT MOST 1048576: true; the input reads as it did. -/
def fnExactLowerBestUptoRow : OpenClaim := { program := "ytggpldbihndgmaa", sum := "59e64bf915ae2452ba14172553f386a0b2c10ae34280abc88164ce38b060688b", func := "loop.example/g01007/laws.FnExactLowerBest", spec := "fnExactLowerBest", apart := false, narrowed := true }
def FnExactLowerBestUptoSaid : Prop := fnExactLowerBestUptoRow.holds Try.pinned (OpenSpec.upto fnExactLowerBestSpec)

/-- 'laws.FnExactUpperBest', WHERE WHAT IT READS IS OF BULK AT MOST 1048576: true; the input reads as it did. -/
def fnExactUpperBestUptoRow : OpenClaim := { program := "ytggpldbihndgmaa", sum := "59e64bf915ae2452ba14172553f386a0b2c10ae34280abc88164ce38b060688b", func := "loop.example/g01007/laws.FnExactUpperBest", spec := "fnExactUpperBest", apart := false, narrowed := true }
def FnExactUpperBestUptoSaid : Prop := fnExactUpperBestUptoRow.holds Try.pinned (OpenSpec.upto fnExactUpperBestSpec)

/-- 'laws.FnExactTermAt', WHERE WHAT IT READS IS OF BULK AT MOST 1048576: true; the input reads as it did. -/
def fnExactTermAtUptoRow : OpenClaim := { program := "ytggpldbihndgmaa", sum := "59e64bf915ae2452ba14172553f386a0b2c10ae34280abc88164ce38b060688b", func := "loop.example/g01007/laws.FnExactTermAt", spec := "fnExactTermAt", apart := false, narrowed := true }
def FnExactTermAtUptoSaid : Prop := fnExactTermAtUptoRow.holds Try.pinned (OpenSpec.upto fnExactTermAtSpec)

/-- 'laws.FnExactIsBestSecond', WHERE WHAT IT READS IS OF BULK AT MOST 1048576: true; the input reads as it did. -/
def fnExactIsBestSecondUptoRow : OpenClaim := { program := "ytggpldbihndgmaa", sum := "59e64bf915ae2452ba14172553f386a0b2c10ae34280abc88164ce38b060688b", func := "loop.example/g01007/laws.FnExactIsBestSecond", spec := "fnExactIsBestSecond", apart := false, narrowed := true }
def FnExactIsBestSecondUptoSaid : Prop := fnExactIsBestSecondUptoRow.holds Try.pinned (OpenSpec.upto fnExactIsBestSecondSpec)

/-- 'laws.FnExactNearerSide', WHERE WHAT IT READS IS OF BULK AT MOST 1048576: true; the input reads as it did. -/
def fnExactNearerSideUptoRow : OpenClaim := { program := "ytggpldbihndgmaa", sum := "59e64bf915ae2452ba14172553f386a0b2c10ae34280abc88164ce38b060688b", func := "loop.example/g01007/laws.FnExactNearerSide", spec := "fnExactNearerSide", apart := false, narrowed := true }
def FnExactNearerSideUptoSaid : Prop := fnExactNearerSideUptoRow.holds Try.pinned (OpenSpec.upto fnExactNearerSideSpec)

end Rows
end Go.Proofs.Ytggpldbihndgmaa
