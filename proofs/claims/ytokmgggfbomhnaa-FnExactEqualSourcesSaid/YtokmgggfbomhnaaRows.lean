/-
  No cell of these rows narrows 'for every input' (looked for: loops, veiled, ifaces, maps, wideKeys, modest, calm, conditions, laid).
  DERIVED. THE GIVEN ROWS OF THIS SEAT. 12 by the template 'for every input the law returns true; each argument reads behind the call as it read before'; 0 by the template 'total and deterministic' (their statements: YtokmgggfbomhnaaTotals.lean).
  GIVEN WITH THE SEED: the statements are not yours to turn. If you find one false, say at which input.
  Laid BY PROGRAM, IN A SANDBOX (cutbox-rows.mjs): the forced cells as the released guide's own fill.sh prints them over the translation f10942f495f2c711… (all of the seat's roots in one cut). By AI agents, Wed Nov 11 2026. No macro, syntax, notation, axiom, sorry.
-/
import Derived.Test.YtokmgggfbomhnaaChecked
import GoSem.Claim
import GoSem.ClaimJoined
import GoSem.ClaimMapViews
import Derived.JoinedTies
import Derived.KernelRfl
namespace Go.Proofs.Ytokmgggfbomhnaa
/- THE CELL 'sum', in the pinned program and in every row, IS THE sha256 OF THE DUMP (.gsa) THAT YtokmgggfbomhnaaProg.lean LOADS. Nothing in Lean hashes anything: it is a label: what it is worth is what the hold of that sum in a sandbox is worth. -/
noncomputable def Try.pinned : Pinned := { name := "ytokmgggfbomhnaa", sum := "f10942f495f2c711817dd7050e379a3c347ee61644736c7af6ae0c540367d816", checked := Try.checked }
namespace Rows
def none {H : Type} : Left H := { results := [], args := [] }

/-- 'laws.FnExactFirstTerms': WHATEVER THE INPUT: true; the input reads as it did. -/
def fnExactFirstTermsSpec : ChangeSpec := { name := "fnExactFirstTerms", fn := fun _ => fun
  | [d1, d2] => { results := [.lit (.bool true)], args := [d1, d2] }
  | _ => none }
def fnExactFirstTermsRow : OpenClaim := { program := "ytokmgggfbomhnaa", sum := "f10942f495f2c711817dd7050e379a3c347ee61644736c7af6ae0c540367d816", func := "loop.example/g01007/laws.FnExactFirstTerms", spec := "fnExactFirstTerms", apart := false }
def FnExactFirstTermsSaid : Prop := fnExactFirstTermsRow.holds Try.pinned (OpenSpec.ofChange fnExactFirstTermsSpec)

/-- ITS FALSE NEIGHBOUR: 'it returns false'. Refute it at one input. -/
def fnExactFirstTermsWrong : ChangeSpec := { name := "fnExactFirstTerms", fn := fun _ => fun
  | [d1, d2] => { results := [.lit (.bool false)], args := [d1, d2] }
  | _ => none }
def FnExactFirstTermsWrongFalsely : Prop := fnExactFirstTermsRow.holds Try.pinned (OpenSpec.ofChange fnExactFirstTermsWrong)

/-- 'laws.FnExactSourceOfFraction': WHATEVER THE INPUT: true; the input reads as it did. -/
def fnExactSourceOfFractionSpec : ChangeSpec := { name := "fnExactSourceOfFraction", fn := fun _ => fun
  | [d] => { results := [.lit (.bool true)], args := [d] }
  | _ => none }
def fnExactSourceOfFractionRow : OpenClaim := { program := "ytokmgggfbomhnaa", sum := "f10942f495f2c711817dd7050e379a3c347ee61644736c7af6ae0c540367d816", func := "loop.example/g01007/laws.FnExactSourceOfFraction", spec := "fnExactSourceOfFraction", apart := false }
def FnExactSourceOfFractionSaid : Prop := fnExactSourceOfFractionRow.holds Try.pinned (OpenSpec.ofChange fnExactSourceOfFractionSpec)

/-- ITS FALSE NEIGHBOUR: 'it returns false'. Refute it at one input. -/
def fnExactSourceOfFractionWrong : ChangeSpec := { name := "fnExactSourceOfFraction", fn := fun _ => fun
  | [d] => { results := [.lit (.bool false)], args := [d] }
  | _ => none }
def FnExactSourceOfFractionWrongFalsely : Prop := fnExactSourceOfFractionRow.holds Try.pinned (OpenSpec.ofChange fnExactSourceOfFractionWrong)

/-- 'laws.FnExactFloorOfSource': WHATEVER THE INPUT: true; the input reads as it did. -/
def fnExactFloorOfSourceSpec : ChangeSpec := { name := "fnExactFloorOfSource", fn := fun _ => fun
  | [d] => { results := [.lit (.bool true)], args := [d] }
  | _ => none }
def fnExactFloorOfSourceRow : OpenClaim := { program := "ytokmgggfbomhnaa", sum := "f10942f495f2c711817dd7050e379a3c347ee61644736c7af6ae0c540367d816", func := "loop.example/g01007/laws.FnExactFloorOfSource", spec := "fnExactFloorOfSource", apart := false }
def FnExactFloorOfSourceSaid : Prop := fnExactFloorOfSourceRow.holds Try.pinned (OpenSpec.ofChange fnExactFloorOfSourceSpec)

/-- ITS FALSE NEIGHBOUR: 'it returns false'. Refute it at one input. -/
def fnExactFloorOfSourceWrong : ChangeSpec := { name := "fnExactFloorOfSource", fn := fun _ => fun
  | [d] => { results := [.lit (.bool false)], args := [d] }
  | _ => none }
def FnExactFloorOfSourceWrongFalsely : Prop := fnExactFloorOfSourceRow.holds Try.pinned (OpenSpec.ofChange fnExactFloorOfSourceWrong)

/-- 'laws.FnExactEqualSources': WHATEVER THE INPUT: true; the input reads as it did. -/
def fnExactEqualSourcesSpec : ChangeSpec := { name := "fnExactEqualSources", fn := fun _ => fun
  | [d1, d2] => { results := [.lit (.bool true)], args := [d1, d2] }
  | _ => none }
def fnExactEqualSourcesRow : OpenClaim := { program := "ytokmgggfbomhnaa", sum := "f10942f495f2c711817dd7050e379a3c347ee61644736c7af6ae0c540367d816", func := "loop.example/g01007/laws.FnExactEqualSources", spec := "fnExactEqualSources", apart := false }
def FnExactEqualSourcesSaid : Prop := fnExactEqualSourcesRow.holds Try.pinned (OpenSpec.ofChange fnExactEqualSourcesSpec)

/-- ITS FALSE NEIGHBOUR: 'it returns false'. Refute it at one input. -/
def fnExactEqualSourcesWrong : ChangeSpec := { name := "fnExactEqualSources", fn := fun _ => fun
  | [d1, d2] => { results := [.lit (.bool false)], args := [d1, d2] }
  | _ => none }
def FnExactEqualSourcesWrongFalsely : Prop := fnExactEqualSourcesRow.holds Try.pinned (OpenSpec.ofChange fnExactEqualSourcesWrong)

/-- 'laws.FnExactSameTerms': WHATEVER THE INPUT: true; the input reads as it did. -/
def fnExactSameTermsSpec : ChangeSpec := { name := "fnExactSameTerms", fn := fun _ => fun
  | [d1, d2, d3] => { results := [.lit (.bool true)], args := [d1, d2, d3] }
  | _ => none }
def fnExactSameTermsRow : OpenClaim := { program := "ytokmgggfbomhnaa", sum := "f10942f495f2c711817dd7050e379a3c347ee61644736c7af6ae0c540367d816", func := "loop.example/g01007/laws.FnExactSameTerms", spec := "fnExactSameTerms", apart := false }
def FnExactSameTermsSaid : Prop := fnExactSameTermsRow.holds Try.pinned (OpenSpec.ofChange fnExactSameTermsSpec)

/-- ITS FALSE NEIGHBOUR: 'it returns false'. Refute it at one input. -/
def fnExactSameTermsWrong : ChangeSpec := { name := "fnExactSameTerms", fn := fun _ => fun
  | [d1, d2, d3] => { results := [.lit (.bool false)], args := [d1, d2, d3] }
  | _ => none }
def FnExactSameTermsWrongFalsely : Prop := fnExactSameTermsRow.holds Try.pinned (OpenSpec.ofChange fnExactSameTermsWrong)

/-- 'laws.FnExactSkipTerms': WHATEVER THE INPUT: true; the input reads as it did. -/
def fnExactSkipTermsSpec : ChangeSpec := { name := "fnExactSkipTerms", fn := fun _ => fun
  | [d1, d2] => { results := [.lit (.bool true)], args := [d1, d2] }
  | _ => none }
def fnExactSkipTermsRow : OpenClaim := { program := "ytokmgggfbomhnaa", sum := "f10942f495f2c711817dd7050e379a3c347ee61644736c7af6ae0c540367d816", func := "loop.example/g01007/laws.FnExactSkipTerms", spec := "fnExactSkipTerms", apart := false }
def FnExactSkipTermsSaid : Prop := fnExactSkipTermsRow.holds Try.pinned (OpenSpec.ofChange fnExactSkipTermsSpec)

/-- ITS FALSE NEIGHBOUR: 'it returns false'. Refute it at one input. -/
def fnExactSkipTermsWrong : ChangeSpec := { name := "fnExactSkipTerms", fn := fun _ => fun
  | [d1, d2] => { results := [.lit (.bool false)], args := [d1, d2] }
  | _ => none }
def FnExactSkipTermsWrongFalsely : Prop := fnExactSkipTermsRow.holds Try.pinned (OpenSpec.ofChange fnExactSkipTermsWrong)

/-- 'laws.FnExactConvergentAt': WHATEVER THE INPUT: true; the input reads as it did. -/
def fnExactConvergentAtSpec : ChangeSpec := { name := "fnExactConvergentAt", fn := fun _ => fun
  | [d1, d2] => { results := [.lit (.bool true)], args := [d1, d2] }
  | _ => none }
def fnExactConvergentAtRow : OpenClaim := { program := "ytokmgggfbomhnaa", sum := "f10942f495f2c711817dd7050e379a3c347ee61644736c7af6ae0c540367d816", func := "loop.example/g01007/laws.FnExactConvergentAt", spec := "fnExactConvergentAt", apart := false }
def FnExactConvergentAtSaid : Prop := fnExactConvergentAtRow.holds Try.pinned (OpenSpec.ofChange fnExactConvergentAtSpec)

/-- ITS FALSE NEIGHBOUR: 'it returns false'. Refute it at one input. -/
def fnExactConvergentAtWrong : ChangeSpec := { name := "fnExactConvergentAt", fn := fun _ => fun
  | [d1, d2] => { results := [.lit (.bool false)], args := [d1, d2] }
  | _ => none }
def FnExactConvergentAtWrongFalsely : Prop := fnExactConvergentAtRow.holds Try.pinned (OpenSpec.ofChange fnExactConvergentAtWrong)

/-- 'laws.FnExactCompareSources': WHATEVER THE INPUT: true; the input reads as it did. -/
def fnExactCompareSourcesSpec : ChangeSpec := { name := "fnExactCompareSources", fn := fun _ => fun
  | [d1, d2, d3] => { results := [.lit (.bool true)], args := [d1, d2, d3] }
  | _ => none }
def fnExactCompareSourcesRow : OpenClaim := { program := "ytokmgggfbomhnaa", sum := "f10942f495f2c711817dd7050e379a3c347ee61644736c7af6ae0c540367d816", func := "loop.example/g01007/laws.FnExactCompareSources", spec := "fnExactCompareSources", apart := false }
def FnExactCompareSourcesSaid : Prop := fnExactCompareSourcesRow.holds Try.pinned (OpenSpec.ofChange fnExactCompareSourcesSpec)

/-- ITS FALSE NEIGHBOUR: 'it returns false'. Refute it at one input. -/
def fnExactCompareSourcesWrong : ChangeSpec := { name := "fnExactCompareSources", fn := fun _ => fun
  | [d1, d2, d3] => { results := [.lit (.bool false)], args := [d1, d2, d3] }
  | _ => none }
def FnExactCompareSourcesWrongFalsely : Prop := fnExactCompareSourcesRow.holds Try.pinned (OpenSpec.ofChange fnExactCompareSourcesWrong)

/-- 'laws.FnExactNearestInteger': WHATEVER THE INPUT: true; the input reads as it did. -/
def fnExactNearestIntegerSpec : ChangeSpec := { name := "fnExactNearestInteger", fn := fun _ => fun
  | [d1, d2] => { results := [.lit (.bool true)], args := [d1, d2] }
  | _ => none }
def fnExactNearestIntegerRow : OpenClaim := { program := "ytokmgggfbomhnaa", sum := "f10942f495f2c711817dd7050e379a3c347ee61644736c7af6ae0c540367d816", func := "loop.example/g01007/laws.FnExactNearestInteger", spec := "fnExactNearestInteger", apart := false }
def FnExactNearestIntegerSaid : Prop := fnExactNearestIntegerRow.holds Try.pinned (OpenSpec.ofChange fnExactNearestIntegerSpec)

/-- ITS FALSE NEIGHBOUR: 'it returns false'. Refute it at one input. -/
def fnExactNearestIntegerWrong : ChangeSpec := { name := "fnExactNearestInteger", fn := fun _ => fun
  | [d1, d2] => { results := [.lit (.bool false)], args := [d1, d2] }
  | _ => none }
def FnExactNearestIntegerWrongFalsely : Prop := fnExactNearestIntegerRow.holds Try.pinned (OpenSpec.ofChange fnExactNearestIntegerWrong)

/-- 'laws.FnExactLeastSource': WHATEVER THE INPUT: true; the input reads as it did. -/
def fnExactLeastSourceSpec : ChangeSpec := { name := "fnExactLeastSource", fn := fun _ => fun
  | [d1, d2] => { results := [.lit (.bool true)], args := [d1, d2] }
  | _ => none }
def fnExactLeastSourceRow : OpenClaim := { program := "ytokmgggfbomhnaa", sum := "f10942f495f2c711817dd7050e379a3c347ee61644736c7af6ae0c540367d816", func := "loop.example/g01007/laws.FnExactLeastSource", spec := "fnExactLeastSource", apart := false }
def FnExactLeastSourceSaid : Prop := fnExactLeastSourceRow.holds Try.pinned (OpenSpec.ofChange fnExactLeastSourceSpec)

/-- ITS FALSE NEIGHBOUR: 'it returns false'. Refute it at one input. -/
def fnExactLeastSourceWrong : ChangeSpec := { name := "fnExactLeastSource", fn := fun _ => fun
  | [d1, d2] => { results := [.lit (.bool false)], args := [d1, d2] }
  | _ => none }
def FnExactLeastSourceWrongFalsely : Prop := fnExactLeastSourceRow.holds Try.pinned (OpenSpec.ofChange fnExactLeastSourceWrong)

/-- 'laws.FnExactCompareWithFraction': WHATEVER THE INPUT: true; the input reads as it did. -/
def fnExactCompareWithFractionSpec : ChangeSpec := { name := "fnExactCompareWithFraction", fn := fun _ => fun
  | [d1, d2, d3] => { results := [.lit (.bool true)], args := [d1, d2, d3] }
  | _ => none }
def fnExactCompareWithFractionRow : OpenClaim := { program := "ytokmgggfbomhnaa", sum := "f10942f495f2c711817dd7050e379a3c347ee61644736c7af6ae0c540367d816", func := "loop.example/g01007/laws.FnExactCompareWithFraction", spec := "fnExactCompareWithFraction", apart := false }
def FnExactCompareWithFractionSaid : Prop := fnExactCompareWithFractionRow.holds Try.pinned (OpenSpec.ofChange fnExactCompareWithFractionSpec)

/-- ITS FALSE NEIGHBOUR: 'it returns false'. Refute it at one input. -/
def fnExactCompareWithFractionWrong : ChangeSpec := { name := "fnExactCompareWithFraction", fn := fun _ => fun
  | [d1, d2, d3] => { results := [.lit (.bool false)], args := [d1, d2, d3] }
  | _ => none }
def FnExactCompareWithFractionWrongFalsely : Prop := fnExactCompareWithFractionRow.holds Try.pinned (OpenSpec.ofChange fnExactCompareWithFractionWrong)

/-- 'laws.FnExactSortSources': WHATEVER THE INPUT: true; the input reads as it did. -/
def fnExactSortSourcesSpec : ChangeSpec := { name := "fnExactSortSources", fn := fun _ => fun
  | [d1, d2] => { results := [.lit (.bool true)], args := [d1, d2] }
  | _ => none }
def fnExactSortSourcesRow : OpenClaim := { program := "ytokmgggfbomhnaa", sum := "f10942f495f2c711817dd7050e379a3c347ee61644736c7af6ae0c540367d816", func := "loop.example/g01007/laws.FnExactSortSources", spec := "fnExactSortSources", apart := false }
def FnExactSortSourcesSaid : Prop := fnExactSortSourcesRow.holds Try.pinned (OpenSpec.ofChange fnExactSortSourcesSpec)

/-- ITS FALSE NEIGHBOUR: 'it returns false'. Refute it at one input. -/
def fnExactSortSourcesWrong : ChangeSpec := { name := "fnExactSortSources", fn := fun _ => fun
  | [d1, d2] => { results := [.lit (.bool false)], args := [d1, d2] }
  | _ => none }
def FnExactSortSourcesWrongFalsely : Prop := fnExactSortSourcesRow.holds Try.pinned (OpenSpec.ofChange fnExactSortSourcesWrong)

/- THE SECOND FORM. 'bulk': how many values and letters a reading holds, each counted each time it is reached (what is shared counts as often as it is met; a slice's spare places count too). A statement '..UptoSaid' is the law's where the arguments, and the package variables that the reading takes, are together of bulk at most 1048576: NARROWER than '..Said'. Prove '..Said' where nothing that the law and all that it calls make is longer than what came in: it says more and counts as full. Else prove '..UptoSaid'. A law counts once. -/
mutual
def uptoBulk {H : Type} : DataW H → Nat
  | .lit (.string bytes) => bytes.length + 1
  | .lit _ => 1
  | .nil => 1
  | .ptr d => uptoBulk d + 1
  | .slice elems spare => uptoBulkAll elems + uptoBulkAll spare + 1
  | .agg parts => uptoBulkAll parts + 1
  | .iface _ d => uptoBulk d + 1
  | .map entries => uptoBulkEntries entries + 1
  | .held _ => 1
def uptoBulkAll {H : Type} : List (DataW H) → Nat
  | [] => 0
  | d :: r => uptoBulk d + uptoBulkAll r
def uptoBulkEntries {H : Type} : List (Lit × DataW H) → Nat
  | [] => 0
  | x :: r => uptoBulkEntry x + uptoBulkEntries r
def uptoBulkEntry {H : Type} : Lit × DataW H → Nat
  | (.string bytes, d) => bytes.length + uptoBulk d + 1
  | (_, d) => uptoBulk d + 1
 end
def uptoSmall : (H : Type) → List (DataW H) → Bool := fun _ ds => decide (uptoBulkAll ds ≤ 1048576)
def OpenSpec.upto (s : _root_.Go.ChangeSpec) : _root_.Go.OpenSpec := { _root_.Go.OpenSpec.ofChange s with cond := some uptoSmall }

/-- 'laws.FnExactFirstTerms', WHERE WHAT IT READS IS OF BULK AT MOST 1048576: true; the input reads as it did. -/
def fnExactFirstTermsUptoRow : OpenClaim := { program := "ytokmgggfbomhnaa", sum := "f10942f495f2c711817dd7050e379a3c347ee61644736c7af6ae0c540367d816", func := "loop.example/g01007/laws.FnExactFirstTerms", spec := "fnExactFirstTerms", apart := false, narrowed := true }
def FnExactFirstTermsUptoSaid : Prop := fnExactFirstTermsUptoRow.holds Try.pinned (OpenSpec.upto fnExactFirstTermsSpec)

/-- 'laws.FnExactSourceOfFraction', WHERE WHAT IT READS IS OF BULK AT MOST 1048576: true; the input reads as it did. -/
def fnExactSourceOfFractionUptoRow : OpenClaim := { program := "ytokmgggfbomhnaa", sum := "f10942f495f2c711817dd7050e379a3c347ee61644736c7af6ae0c540367d816", func := "loop.example/g01007/laws.FnExactSourceOfFraction", spec := "fnExactSourceOfFraction", apart := false, narrowed := true }
def FnExactSourceOfFractionUptoSaid : Prop := fnExactSourceOfFractionUptoRow.holds Try.pinned (OpenSpec.upto fnExactSourceOfFractionSpec)

/-- 'laws.FnExactFloorOfSource', WHERE WHAT IT READS IS OF BULK AT MOST 1048576: true; the input reads as it did. -/
def fnExactFloorOfSourceUptoRow : OpenClaim := { program := "ytokmgggfbomhnaa", sum := "f10942f495f2c711817dd7050e379a3c347ee61644736c7af6ae0c540367d816", func := "loop.example/g01007/laws.FnExactFloorOfSource", spec := "fnExactFloorOfSource", apart := false, narrowed := true }
def FnExactFloorOfSourceUptoSaid : Prop := fnExactFloorOfSourceUptoRow.holds Try.pinned (OpenSpec.upto fnExactFloorOfSourceSpec)

/-- 'laws.FnExactEqualSources', WHERE WHAT IT READS IS OF BULK AT MOST 1048576: true; the input reads as it did. -/
def fnExactEqualSourcesUptoRow : OpenClaim := { program := "ytokmgggfbomhnaa", sum := "f10942f495f2c711817dd7050e379a3c347ee61644736c7af6ae0c540367d816", func := "loop.example/g01007/laws.FnExactEqualSources", spec := "fnExactEqualSources", apart := false, narrowed := true }
def FnExactEqualSourcesUptoSaid : Prop := fnExactEqualSourcesUptoRow.holds Try.pinned (OpenSpec.upto fnExactEqualSourcesSpec)

/-- 'laws.FnExactSameTerms', WHERE WHAT IT READS IS OF BULK AT MOST 1048576: true; the input reads as it did. -/
def fnExactSameTermsUptoRow : OpenClaim := { program := "ytokmgggfbomhnaa", sum := "f10942f495f2c711817dd7050e379a3c347ee61644736c7af6ae0c540367d816", func := "loop.example/g01007/laws.FnExactSameTerms", spec := "fnExactSameTerms", apart := false, narrowed := true }
def FnExactSameTermsUptoSaid : Prop := fnExactSameTermsUptoRow.holds Try.pinned (OpenSpec.upto fnExactSameTermsSpec)

/-- 'laws.FnExactSkipTerms', WHERE WHAT IT READS IS OF BULK AT MOST 1048576: true; the input reads as it did. -/
def fnExactSkipTermsUptoRow : OpenClaim := { program := "ytokmgggfbomhnaa", sum := "f10942f495f2c711817dd7050e379a3c347ee61644736c7af6ae0c540367d816", func := "loop.example/g01007/laws.FnExactSkipTerms", spec := "fnExactSkipTerms", apart := false, narrowed := true }
def FnExactSkipTermsUptoSaid : Prop := fnExactSkipTermsUptoRow.holds Try.pinned (OpenSpec.upto fnExactSkipTermsSpec)

/-- 'laws.FnExactConvergentAt', WHERE WHAT IT READS IS OF BULK AT MOST 1048576: true; the input reads as it did. -/
def fnExactConvergentAtUptoRow : OpenClaim := { program := "ytokmgggfbomhnaa", sum := "f10942f495f2c711817dd7050e379a3c347ee61644736c7af6ae0c540367d816", func := "loop.example/g01007/laws.FnExactConvergentAt", spec := "fnExactConvergentAt", apart := false, narrowed := true }
def FnExactConvergentAtUptoSaid : Prop := fnExactConvergentAtUptoRow.holds Try.pinned (OpenSpec.upto fnExactConvergentAtSpec)

/-- 'laws.FnExactCompareSources', WHERE WHAT IT READS IS OF BULK AT MOST 1048576: true; the input reads as it did. -/
def fnExactCompareSourcesUptoRow : OpenClaim := { program := "ytokmgggfbomhnaa", sum := "f10942f495f2c711817dd7050e379a3c347ee61644736c7af6ae0c540367d816", func := "loop.example/g01007/laws.FnExactCompareSources", spec := "fnExactCompareSources", apart := false, narrowed := true }
def FnExactCompareSourcesUptoSaid : Prop := fnExactCompareSourcesUptoRow.holds Try.pinned (OpenSpec.upto fnExactCompareSourcesSpec)

/-- 'laws.FnExactNearestInteger', WHERE WHAT IT READS IS OF BULK AT MOST 1048576: true; the input reads as it did. -/
def fnExactNearestIntegerUptoRow : OpenClaim := { program := "ytokmgggfbomhnaa", sum := "f10942f495f2c711817dd7050e379a3c347ee61644736c7af6ae0c540367d816", func := "loop.example/g01007/laws.FnExactNearestInteger", spec := "fnExactNearestInteger", apart := false, narrowed := true }
def FnExactNearestIntegerUptoSaid : Prop := fnExactNearestIntegerUptoRow.holds Try.pinned (OpenSpec.upto fnExactNearestIntegerSpec)

/-- 'laws.FnExactLeastSource', WHERE WHAT IT READS IS OF BULK AT MOST 1048576: true; the input reads as it did. -/
def fnExactLeastSourceUptoRow : OpenClaim := { program := "ytokmgggfbomhnaa", sum := "f10942f495f2c711817dd7050e379a3c347ee61644736c7af6ae0c540367d816", func := "loop.example/g01007/laws.FnExactLeastSource", spec := "fnExactLeastSource", apart := false, narrowed := true }
def FnExactLeastSourceUptoSaid : Prop := fnExactLeastSourceUptoRow.holds Try.pinned (OpenSpec.upto fnExactLeastSourceSpec)

/-- 'laws.FnExactCompareWithFraction', WHERE WHAT IT READS IS OF BULK AT MOST 1048576: true; the input reads as it did. -/
def fnExactCompareWithFractionUptoRow : OpenClaim := { program := "ytokmgggfbomhnaa", sum := "f10942f495f2c711817dd7050e379a3c347ee61644736c7af6ae0c540367d816", func := "loop.example/g01007/laws.FnExactCompareWithFraction", spec := "fnExactCompareWithFraction", apart := false, narrowed := true }
def FnExactCompareWithFractionUptoSaid : Prop := fnExactCompareWithFractionUptoRow.holds Try.pinned (OpenSpec.upto fnExactCompareWithFractionSpec)

/-- 'laws.FnExactSortSources', WHERE WHAT IT READS IS OF BULK AT MOST 1048576: true; the input reads as it did. -/
def fnExactSortSourcesUptoRow : OpenClaim := { program := "ytokmgggfbomhnaa", sum := "f10942f495f2c711817dd7050e379a3c347ee61644736c7af6ae0c540367d816", func := "loop.example/g01007/laws.FnExactSortSources", spec := "fnExactSortSources", apart := false, narrowed := true }
def FnExactSortSourcesUptoSaid : Prop := fnExactSortSourcesUptoRow.holds Try.pinned (OpenSpec.upto fnExactSortSourcesSpec)

end Rows
end Go.Proofs.Ytokmgggfbomhnaa
