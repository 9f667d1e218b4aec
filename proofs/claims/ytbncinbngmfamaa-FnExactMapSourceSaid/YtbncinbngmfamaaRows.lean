/-
  No cell of these rows narrows 'for every input' (looked for: loops, veiled, ifaces, maps, wideKeys, modest, calm, conditions, laid).
  DERIVED. THE GIVEN ROWS OF THIS SEAT. 11 by the template 'for every input the law returns true; each argument reads behind the call as it read before'; 0 by the template 'total and deterministic' (their statements: YtbncinbngmfamaaTotals.lean).
  GIVEN WITH THE SEED: the statements are not yours to turn. If you find one false, say at which input.
  Laid BY PROGRAM, IN A SANDBOX (cutbox-rows.mjs): the forced cells as the released guide's own fill.sh prints them over the translation 904bfb66f5affcb2… (all of the seat's roots in one cut). By AI agents, Wed Nov 11 2026. No macro, syntax, notation, axiom, sorry.
-/
import Derived.Test.YtbncinbngmfamaaChecked
import GoSem.Claim
import GoSem.ClaimJoined
import GoSem.ClaimMapViews
import Derived.JoinedTies
import Derived.KernelRfl
namespace Go.Proofs.Ytbncinbngmfamaa
/- THE CELL 'sum', in the pinned program and in every row, IS THE sha256 OF THE DUMP (.gsa) THAT YtbncinbngmfamaaProg.lean LOADS. Nothing in Lean hashes anything: it is a label: what it is worth is what the hold of that sum in a sandbox is worth. -/
noncomputable def Try.pinned : Pinned := { name := "ytbncinbngmfamaa", sum := "904bfb66f5affcb23b07fc447c096bf317a9c293247fd733d7465850c3f4ccc5", checked := Try.checked }
namespace Rows
def none {H : Type} : Left H := { results := [], args := [] }

/-- 'laws.FnDoubleSteps': WHATEVER THE INPUT: true; the input reads as it did. -/
def fnDoubleStepsSpec : ChangeSpec := { name := "fnDoubleSteps", fn := fun _ => fun
  | [d1, d2] => { results := [.lit (.bool true)], args := [d1, d2] }
  | _ => none }
def fnDoubleStepsRow : OpenClaim := { program := "ytbncinbngmfamaa", sum := "904bfb66f5affcb23b07fc447c096bf317a9c293247fd733d7465850c3f4ccc5", func := "loop.example/g01007/laws.FnDoubleSteps", spec := "fnDoubleSteps", unfollowed := true, recurses := true, apart := false }
def FnDoubleStepsSaid : Prop := fnDoubleStepsRow.holds Try.pinned (OpenSpec.ofChange fnDoubleStepsSpec)

/-- ITS FALSE NEIGHBOUR: 'it returns false'. Refute it at one input. -/
def fnDoubleStepsWrong : ChangeSpec := { name := "fnDoubleSteps", fn := fun _ => fun
  | [d1, d2] => { results := [.lit (.bool false)], args := [d1, d2] }
  | _ => none }
def FnDoubleStepsWrongFalsely : Prop := fnDoubleStepsRow.holds Try.pinned (OpenSpec.ofChange fnDoubleStepsWrong)

/-- 'laws.FnExactFeedsNeeded': WHATEVER THE INPUT: true; the input reads as it did. -/
def fnExactFeedsNeededSpec : ChangeSpec := { name := "fnExactFeedsNeeded", fn := fun _ => fun
  | [d1, d2, d3] => { results := [.lit (.bool true)], args := [d1, d2, d3] }
  | _ => none }
def fnExactFeedsNeededRow : OpenClaim := { program := "ytbncinbngmfamaa", sum := "904bfb66f5affcb23b07fc447c096bf317a9c293247fd733d7465850c3f4ccc5", func := "loop.example/g01007/laws.FnExactFeedsNeeded", spec := "fnExactFeedsNeeded", unfollowed := true, recurses := true, apart := false }
def FnExactFeedsNeededSaid : Prop := fnExactFeedsNeededRow.holds Try.pinned (OpenSpec.ofChange fnExactFeedsNeededSpec)

/-- ITS FALSE NEIGHBOUR: 'it returns false'. Refute it at one input. -/
def fnExactFeedsNeededWrong : ChangeSpec := { name := "fnExactFeedsNeeded", fn := fun _ => fun
  | [d1, d2, d3] => { results := [.lit (.bool false)], args := [d1, d2, d3] }
  | _ => none }
def FnExactFeedsNeededWrongFalsely : Prop := fnExactFeedsNeededRow.holds Try.pinned (OpenSpec.ofChange fnExactFeedsNeededWrong)

/-- 'laws.FnExactSkipTerms': WHATEVER THE INPUT: true; the input reads as it did. -/
def fnExactSkipTermsSpec : ChangeSpec := { name := "fnExactSkipTerms", fn := fun _ => fun
  | [d1, d2] => { results := [.lit (.bool true)], args := [d1, d2] }
  | _ => none }
def fnExactSkipTermsRow : OpenClaim := { program := "ytbncinbngmfamaa", sum := "904bfb66f5affcb23b07fc447c096bf317a9c293247fd733d7465850c3f4ccc5", func := "loop.example/g01007/laws.FnExactSkipTerms", spec := "fnExactSkipTerms", apart := false }
def FnExactSkipTermsSaid : Prop := fnExactSkipTermsRow.holds Try.pinned (OpenSpec.ofChange fnExactSkipTermsSpec)

/-- ITS FALSE NEIGHBOUR: 'it returns false'. Refute it at one input. -/
def fnExactSkipTermsWrong : ChangeSpec := { name := "fnExactSkipTerms", fn := fun _ => fun
  | [d1, d2] => { results := [.lit (.bool false)], args := [d1, d2] }
  | _ => none }
def FnExactSkipTermsWrongFalsely : Prop := fnExactSkipTermsRow.holds Try.pinned (OpenSpec.ofChange fnExactSkipTermsWrong)

/-- 'laws.FnStateRuns': WHATEVER THE INPUT: true; the input reads as it did. -/
def fnStateRunsSpec : ChangeSpec := { name := "fnStateRuns", fn := fun _ => fun
  | [d1, d2] => { results := [.lit (.bool true)], args := [d1, d2] }
  | _ => none }
def fnStateRunsRow : OpenClaim := { program := "ytbncinbngmfamaa", sum := "904bfb66f5affcb23b07fc447c096bf317a9c293247fd733d7465850c3f4ccc5", func := "loop.example/g01007/laws.FnStateRuns", spec := "fnStateRuns", unfollowed := true, recurses := true, apart := false }
def FnStateRunsSaid : Prop := fnStateRunsRow.holds Try.pinned (OpenSpec.ofChange fnStateRunsSpec)

/-- ITS FALSE NEIGHBOUR: 'it returns false'. Refute it at one input. -/
def fnStateRunsWrong : ChangeSpec := { name := "fnStateRuns", fn := fun _ => fun
  | [d1, d2] => { results := [.lit (.bool false)], args := [d1, d2] }
  | _ => none }
def FnStateRunsWrongFalsely : Prop := fnStateRunsRow.holds Try.pinned (OpenSpec.ofChange fnStateRunsWrong)

/-- 'laws.FnExactLeastSource': WHATEVER THE INPUT: true; the input reads as it did. -/
def fnExactLeastSourceSpec : ChangeSpec := { name := "fnExactLeastSource", fn := fun _ => fun
  | [d1, d2] => { results := [.lit (.bool true)], args := [d1, d2] }
  | _ => none }
def fnExactLeastSourceRow : OpenClaim := { program := "ytbncinbngmfamaa", sum := "904bfb66f5affcb23b07fc447c096bf317a9c293247fd733d7465850c3f4ccc5", func := "loop.example/g01007/laws.FnExactLeastSource", spec := "fnExactLeastSource", apart := false }
def FnExactLeastSourceSaid : Prop := fnExactLeastSourceRow.holds Try.pinned (OpenSpec.ofChange fnExactLeastSourceSpec)

/-- ITS FALSE NEIGHBOUR: 'it returns false'. Refute it at one input. -/
def fnExactLeastSourceWrong : ChangeSpec := { name := "fnExactLeastSource", fn := fun _ => fun
  | [d1, d2] => { results := [.lit (.bool false)], args := [d1, d2] }
  | _ => none }
def FnExactLeastSourceWrongFalsely : Prop := fnExactLeastSourceRow.holds Try.pinned (OpenSpec.ofChange fnExactLeastSourceWrong)

/-- 'laws.FnExactRunState': WHATEVER THE INPUT: true; the input reads as it did. -/
def fnExactRunStateSpec : ChangeSpec := { name := "fnExactRunState", fn := fun _ => fun
  | [d1, d2] => { results := [.lit (.bool true)], args := [d1, d2] }
  | _ => none }
def fnExactRunStateRow : OpenClaim := { program := "ytbncinbngmfamaa", sum := "904bfb66f5affcb23b07fc447c096bf317a9c293247fd733d7465850c3f4ccc5", func := "loop.example/g01007/laws.FnExactRunState", spec := "fnExactRunState", unfollowed := true, recurses := true, apart := false }
def FnExactRunStateSaid : Prop := fnExactRunStateRow.holds Try.pinned (OpenSpec.ofChange fnExactRunStateSpec)

/-- ITS FALSE NEIGHBOUR: 'it returns false'. Refute it at one input. -/
def fnExactRunStateWrong : ChangeSpec := { name := "fnExactRunState", fn := fun _ => fun
  | [d1, d2] => { results := [.lit (.bool false)], args := [d1, d2] }
  | _ => none }
def FnExactRunStateWrongFalsely : Prop := fnExactRunStateRow.holds Try.pinned (OpenSpec.ofChange fnExactRunStateWrong)

/-- 'laws.FnExactSortSources': WHATEVER THE INPUT: true; the input reads as it did. -/
def fnExactSortSourcesSpec : ChangeSpec := { name := "fnExactSortSources", fn := fun _ => fun
  | [d1, d2] => { results := [.lit (.bool true)], args := [d1, d2] }
  | _ => none }
def fnExactSortSourcesRow : OpenClaim := { program := "ytbncinbngmfamaa", sum := "904bfb66f5affcb23b07fc447c096bf317a9c293247fd733d7465850c3f4ccc5", func := "loop.example/g01007/laws.FnExactSortSources", spec := "fnExactSortSources", apart := false }
def FnExactSortSourcesSaid : Prop := fnExactSortSourcesRow.holds Try.pinned (OpenSpec.ofChange fnExactSortSourcesSpec)

/-- ITS FALSE NEIGHBOUR: 'it returns false'. Refute it at one input. -/
def fnExactSortSourcesWrong : ChangeSpec := { name := "fnExactSortSources", fn := fun _ => fun
  | [d1, d2] => { results := [.lit (.bool false)], args := [d1, d2] }
  | _ => none }
def FnExactSortSourcesWrongFalsely : Prop := fnExactSortSourcesRow.holds Try.pinned (OpenSpec.ofChange fnExactSortSourcesWrong)

/-- 'laws.FnDoubles': WHATEVER THE INPUT: true; the input reads as it did. -/
def fnDoublesSpec : ChangeSpec := { name := "fnDoubles", fn := fun _ => fun
  | [d1, d2] => { results := [.lit (.bool true)], args := [d1, d2] }
  | _ => none }
def fnDoublesRow : OpenClaim := { program := "ytbncinbngmfamaa", sum := "904bfb66f5affcb23b07fc447c096bf317a9c293247fd733d7465850c3f4ccc5", func := "loop.example/g01007/laws.FnDoubles", spec := "fnDoubles", unfollowed := true, recurses := true, apart := false }
def FnDoublesSaid : Prop := fnDoublesRow.holds Try.pinned (OpenSpec.ofChange fnDoublesSpec)

/-- ITS FALSE NEIGHBOUR: 'it returns false'. Refute it at one input. -/
def fnDoublesWrong : ChangeSpec := { name := "fnDoubles", fn := fun _ => fun
  | [d1, d2] => { results := [.lit (.bool false)], args := [d1, d2] }
  | _ => none }
def FnDoublesWrongFalsely : Prop := fnDoublesRow.holds Try.pinned (OpenSpec.ofChange fnDoublesWrong)

/-- 'laws.FnExactMapSource': WHATEVER THE INPUT: true; the input reads as it did. -/
def fnExactMapSourceSpec : ChangeSpec := { name := "fnExactMapSource", fn := fun _ => fun
  | [d1, d2, d3] => { results := [.lit (.bool true)], args := [d1, d2, d3] }
  | _ => none }
def fnExactMapSourceRow : OpenClaim := { program := "ytbncinbngmfamaa", sum := "904bfb66f5affcb23b07fc447c096bf317a9c293247fd733d7465850c3f4ccc5", func := "loop.example/g01007/laws.FnExactMapSource", spec := "fnExactMapSource", unfollowed := true, recurses := true, apart := false }
def FnExactMapSourceSaid : Prop := fnExactMapSourceRow.holds Try.pinned (OpenSpec.ofChange fnExactMapSourceSpec)

/-- ITS FALSE NEIGHBOUR: 'it returns false'. Refute it at one input. -/
def fnExactMapSourceWrong : ChangeSpec := { name := "fnExactMapSource", fn := fun _ => fun
  | [d1, d2, d3] => { results := [.lit (.bool false)], args := [d1, d2, d3] }
  | _ => none }
def FnExactMapSourceWrongFalsely : Prop := fnExactMapSourceRow.holds Try.pinned (OpenSpec.ofChange fnExactMapSourceWrong)

/-- 'laws.FnExactRunDouble': WHATEVER THE INPUT: true; the input reads as it did. -/
def fnExactRunDoubleSpec : ChangeSpec := { name := "fnExactRunDouble", fn := fun _ => fun
  | [d1, d2, d3] => { results := [.lit (.bool true)], args := [d1, d2, d3] }
  | _ => none }
def fnExactRunDoubleRow : OpenClaim := { program := "ytbncinbngmfamaa", sum := "904bfb66f5affcb23b07fc447c096bf317a9c293247fd733d7465850c3f4ccc5", func := "loop.example/g01007/laws.FnExactRunDouble", spec := "fnExactRunDouble", unfollowed := true, recurses := true, apart := false }
def FnExactRunDoubleSaid : Prop := fnExactRunDoubleRow.holds Try.pinned (OpenSpec.ofChange fnExactRunDoubleSpec)

/-- ITS FALSE NEIGHBOUR: 'it returns false'. Refute it at one input. -/
def fnExactRunDoubleWrong : ChangeSpec := { name := "fnExactRunDouble", fn := fun _ => fun
  | [d1, d2, d3] => { results := [.lit (.bool false)], args := [d1, d2, d3] }
  | _ => none }
def FnExactRunDoubleWrongFalsely : Prop := fnExactRunDoubleRow.holds Try.pinned (OpenSpec.ofChange fnExactRunDoubleWrong)

/-- 'laws.FnExactOperateTerms': WHATEVER THE INPUT: true; the input reads as it did. -/
def fnExactOperateTermsSpec : ChangeSpec := { name := "fnExactOperateTerms", fn := fun _ => fun
  | [d1, d2, d3] => { results := [.lit (.bool true)], args := [d1, d2, d3] }
  | _ => none }
def fnExactOperateTermsRow : OpenClaim := { program := "ytbncinbngmfamaa", sum := "904bfb66f5affcb23b07fc447c096bf317a9c293247fd733d7465850c3f4ccc5", func := "loop.example/g01007/laws.FnExactOperateTerms", spec := "fnExactOperateTerms", unfollowed := true, recurses := true, apart := false }
def FnExactOperateTermsSaid : Prop := fnExactOperateTermsRow.holds Try.pinned (OpenSpec.ofChange fnExactOperateTermsSpec)

/-- ITS FALSE NEIGHBOUR: 'it returns false'. Refute it at one input. -/
def fnExactOperateTermsWrong : ChangeSpec := { name := "fnExactOperateTerms", fn := fun _ => fun
  | [d1, d2, d3] => { results := [.lit (.bool false)], args := [d1, d2, d3] }
  | _ => none }
def FnExactOperateTermsWrongFalsely : Prop := fnExactOperateTermsRow.holds Try.pinned (OpenSpec.ofChange fnExactOperateTermsWrong)

/- THE SECOND FORM. 'bulk': how many values and letters a reading holds, each counted each time it is reached (what is shared counts as often as it is met; a slice's spare places count too). A statement '..UptoSaid' is the law's where the arguments, and the package variables that the reading takes, are together of bulk at most 1048576: NARROWER than '..Said'. Prove '..Said' where nothing that the law and all that it calls make is longer than what came in: it says more and counts as full. Else prove '..UptoSaid'. A law counts once. -/
mutual
def uptoBulk {H : Type} : DataW H → Nat
  | .lit (.string bytes) => bytes.length + 1
  | .lit _ => 1
  | .nil => 1
  | .ptr d => uptoBulk d + 1
  | .slice elems spare => uptoBulkAll elems + uptoBulkAll spare + 1
  | .agg parts => uptoBulkAll parts + 1
  | .iface _ d => uptoBulk d + 1
  | .map entries => uptoBulkEntries entries + 1
  | .held _ => 1
def uptoBulkAll {H : Type} : List (DataW H) → Nat
  | [] => 0
  | d :: r => uptoBulk d + uptoBulkAll r
def uptoBulkEntries {H : Type} : List (Lit × DataW H) → Nat
  | [] => 0
  | x :: r => uptoBulkEntry x + uptoBulkEntries r
def uptoBulkEntry {H : Type} : Lit × DataW H → Nat
  | (.string bytes, d) => bytes.length + uptoBulk d + 1
  | (_, d) => uptoBulk d + 1
 end
def uptoSmall : (H : Type) → List (DataW H) → Bool := fun _ ds => decide (uptoBulkAll ds ≤ 1048576)
def OpenSpec.upto (s : _root_.Go.ChangeSpec) : _root_.Go.OpenSpec := { _root_.Go.OpenSpec.ofChange s with cond := some uptoSmall }

/-- 'laws.FnDoubleSteps', WHERE WHAT IT READS IS OF BULK AT MOST 1048576: true; the input reads as it did. -/
def fnDoubleStepsUptoRow : OpenClaim := { program := "ytbncinbngmfamaa", sum := "904bfb66f5affcb23b07fc447c096bf317a9c293247fd733d7465850c3f4ccc5", func := "loop.example/g01007/laws.FnDoubleSteps", spec := "fnDoubleSteps", unfollowed := true, recurses := true, apart := false, narrowed := true }
def FnDoubleStepsUptoSaid : Prop := fnDoubleStepsUptoRow.holds Try.pinned (OpenSpec.upto fnDoubleStepsSpec)

/-- 'laws.FnExactFeedsNeeded', WHERE WHAT IT READS IS OF BULK AT MOST 1048576: true; the input reads as it did. -/
def fnExactFeedsNeededUptoRow : OpenClaim := { program := "ytbncinbngmfamaa", sum := "904bfb66f5affcb23b07fc447c096bf317a9c293247fd733d7465850c3f4ccc5", func := "loop.example/g01007/laws.FnExactFeedsNeeded", spec := "fnExactFeedsNeeded", unfollowed := true, recurses := true, apart := false, narrowed := true }
def FnExactFeedsNeededUptoSaid : Prop := fnExactFeedsNeededUptoRow.holds Try.pinned (OpenSpec.upto fnExactFeedsNeededSpec)

/-- 'laws.FnExactSkipTerms', WHERE WHAT IT READS IS OF BULK AT MOST 1048576: true; the input reads as it did. -/
def fnExactSkipTermsUptoRow : OpenClaim := { program := "ytbncinbngmfamaa", sum := "904bfb66f5affcb23b07fc447c096bf317a9c293247fd733d7465850c3f4ccc5", func := "loop.example/g01007/laws.FnExactSkipTerms", spec := "fnExactSkipTerms", apart := false, narrowed := true }
def FnExactSkipTermsUptoSaid : Prop := fnExactSkipTermsUptoRow.holds Try.pinned (OpenSpec.upto fnExactSkipTermsSpec)

/-- 'laws.FnStateRuns', WHERE WHAT IT READS IS OF BULK AT MOST 1048576: true; the input reads as it did. -/
def fnStateRunsUptoRow : OpenClaim := { program := "ytbncinbngmfamaa", sum := "904bfb66f5affcb23b07fc447c096bf317a9c293247fd733d7465850c3f4ccc5", func := "loop.example/g01007/laws.FnStateRuns", spec := "fnStateRuns", unfollowed := true, recurses := true, apart := false, narrowed := true }
def FnStateRunsUptoSaid : Prop := fnStateRunsUptoRow.holds Try.pinned (OpenSpec.upto fnStateRunsSpec)

/-- 'laws.FnExactLeastSource', WHERE WHAT IT READS IS OF BULK AT MOST 1048576: true; the input reads as it did. -/
def fnExactLeastSourceUptoRow : OpenClaim := { program := "ytbncinbngmfamaa", sum := "904bfb66f5affcb23b07fc447c096bf317a9c293247fd733d7465850c3f4ccc5", func := "loop.example/g01007/laws.FnExactLeastSource", spec := "fnExactLeastSource", apart := false, narrowed := true }
def FnExactLeastSourceUptoSaid : Prop := fnExactLeastSourceUptoRow.holds Try.pinned (OpenSpec.upto fnExactLeastSourceSpec)

/-- 'laws.FnExactRunState', WHERE WHAT IT READS IS OF BULK AT MOST 1048576: true; the input reads as it did. -/
def fnExactRunStateUptoRow : OpenClaim := { program := "ytbncinbngmfamaa", sum := "904bfb66f5affcb23b07fc447c096bf317a9c293247fd733d7465850c3f4ccc5", func := "loop.example/g01007/laws.FnExactRunState", spec := "fnExactRunState", unfollowed := true, recurses := true, apart := false, narrowed := true }
def FnExactRunStateUptoSaid : Prop := fnExactRunStateUptoRow.holds Try.pinned (OpenSpec.upto fnExactRunStateSpec)

/-- 'laws.FnExactSortSources', WHERE WHAT IT READS IS OF BULK AT MOST 1048576: true; the input reads as it did. -/
def fnExactSortSourcesUptoRow : OpenClaim := { program := "ytbncinbngmfamaa", sum := "904bfb66f5affcb23b07fc447c096bf317a9c293247fd733d7465850c3f4ccc5", func := "loop.example/g01007/laws.FnExactSortSources", spec := "fnExactSortSources", apart := false, narrowed := true }
def FnExactSortSourcesUptoSaid : Prop := fnExactSortSourcesUptoRow.holds Try.pinned (OpenSpec.upto fnExactSortSourcesSpec)

/-- 'laws.FnDoubles', WHERE WHAT IT READS IS OF BULK AT MOST 1048576: true; the input reads as it did. -/
def fnDoublesUptoRow : OpenClaim := { program := "ytbncinbngmfamaa", sum := "904bfb66f5affcb23b07fc447c096bf317a9c293247fd733d7465850c3f4ccc5", func := "loop.example/g01007/laws.FnDoubles", spec := "fnDoubles", unfollowed := true, recurses := true, apart := false, narrowed := true }
def FnDoublesUptoSaid : Prop := fnDoublesUptoRow.holds Try.pinned (OpenSpec.upto fnDoublesSpec)

/-- 'laws.FnExactMapSource', WHERE WHAT IT READS IS OF BULK AT MOST 1048576: true; the input reads as it did. -/
def fnExactMapSourceUptoRow : OpenClaim := { program := "ytbncinbngmfamaa", sum := "904bfb66f5affcb23b07fc447c096bf317a9c293247fd733d7465850c3f4ccc5", func := "loop.example/g01007/laws.FnExactMapSource", spec := "fnExactMapSource", unfollowed := true, recurses := true, apart := false, narrowed := true }
def FnExactMapSourceUptoSaid : Prop := fnExactMapSourceUptoRow.holds Try.pinned (OpenSpec.upto fnExactMapSourceSpec)

/-- 'laws.FnExactRunDouble', WHERE WHAT IT READS IS OF BULK AT MOST 1048576: true; the input reads as it did. -/
def fnExactRunDoubleUptoRow : OpenClaim := { program := "ytbncinbngmfamaa", sum := "904bfb66f5affcb23b07fc447c096bf317a9c293247fd733d7465850c3f4ccc5", func := "loop.example/g01007/laws.FnExactRunDouble", spec := "fnExactRunDouble", unfollowed := true, recurses := true, apart := false, narrowed := true }
def FnExactRunDoubleUptoSaid : Prop := fnExactRunDoubleUptoRow.holds Try.pinned (OpenSpec.upto fnExactRunDoubleSpec)

/-- 'laws.FnExactOperateTerms', WHERE WHAT IT READS IS OF BULK AT MOST 1048576: true; the input reads as it did. -/
def fnExactOperateTermsUptoRow : OpenClaim := { program := "ytbncinbngmfamaa", sum := "904bfb66f5affcb23b07fc447c096bf317a9c293247fd733d7465850c3f4ccc5", func := "loop.example/g01007/laws.FnExactOperateTerms", spec := "fnExactOperateTerms", unfollowed := true, recurses := true, apart := false, narrowed := true }
def FnExactOperateTermsUptoSaid : Prop := fnExactOperateTermsUptoRow.holds Try.pinned (OpenSpec.upto fnExactOperateTermsSpec)

end Rows
end Go.Proofs.Ytbncinbngmfamaa
