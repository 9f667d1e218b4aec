/-
  No cell of these rows narrows 'for every input' (looked for: loops, veiled, ifaces, maps, wideKeys, modest, calm, conditions, laid).
  DERIVED. THE GIVEN ROWS OF THIS SEAT. 9 by the template 'for every input the law returns true; each argument reads behind the call as it read before'; 0 by the template 'total and deterministic' (their statements: YtgmofofokhlhnaaTotals.lean).
  GIVEN WITH THE SEED: the statements are not yours to turn. If you find one false, say at which input.
  Laid BY PROGRAM, IN A SANDBOX (cutbox-rows.mjs): the forced cells as the released guide's own fill.sh prints them over the translation df36fe1043853c48… (all of the seat's roots in one cut). By AI agents, Wed Nov 11 2026. No macro, syntax, notation, axiom, sorry.
-/
import Derived.Test.YtgmofofokhlhnaaChecked
import GoSem.Claim
import GoSem.ClaimJoined
import GoSem.ClaimMapViews
import Derived.JoinedTies
import Derived.KernelRfl
namespace Go.Proofs.Ytgmofofokhlhnaa
/- THE CELL 'sum', in the pinned program and in every row, IS THE sha256 OF THE DUMP (.gsa) THAT YtgmofofokhlhnaaProg.lean LOADS. Nothing in Lean hashes anything: it is a label: what it is worth is what the hold of that sum in a sandbox is worth. -/
noncomputable def Try.pinned : Pinned := { name := "ytgmofofokhlhnaa", sum := "df36fe1043853c48c41d85726c942115bc6039b38932b1cd95d25425272886b0", checked := Try.checked }
namespace Rows
def none {H : Type} : Left H := { results := [], args := [] }

/-- 'laws.FnSourceOrder': WHATEVER THE INPUT: true; the input reads as it did. -/
def fnSourceOrderSpec : ChangeSpec := { name := "fnSourceOrder", fn := fun _ => fun
  | [d] => { results := [.lit (.bool true)], args := [d] }
  | _ => none }
def fnSourceOrderRow : OpenClaim := { program := "ytgmofofokhlhnaa", sum := "df36fe1043853c48c41d85726c942115bc6039b38932b1cd95d25425272886b0", func := "loop.example/g01007/laws.FnSourceOrder", spec := "fnSourceOrder", plainKeys := false, apart := false }
def FnSourceOrderSaid : Prop := fnSourceOrderRow.holds Try.pinned (OpenSpec.ofChange fnSourceOrderSpec)

/-- ITS FALSE NEIGHBOUR: 'it returns false'. Refute it at one input. -/
def fnSourceOrderWrong : ChangeSpec := { name := "fnSourceOrder", fn := fun _ => fun
  | [d] => { results := [.lit (.bool false)], args := [d] }
  | _ => none }
def FnSourceOrderWrongFalsely : Prop := fnSourceOrderRow.holds Try.pinned (OpenSpec.ofChange fnSourceOrderWrong)

/-- 'laws.FnExactSkipTerms': WHATEVER THE INPUT: true; the input reads as it did. -/
def fnExactSkipTermsSpec : ChangeSpec := { name := "fnExactSkipTerms", fn := fun _ => fun
  | [d1, d2] => { results := [.lit (.bool true)], args := [d1, d2] }
  | _ => none }
def fnExactSkipTermsRow : OpenClaim := { program := "ytgmofofokhlhnaa", sum := "df36fe1043853c48c41d85726c942115bc6039b38932b1cd95d25425272886b0", func := "loop.example/g01007/laws.FnExactSkipTerms", spec := "fnExactSkipTerms", plainKeys := false, apart := false }
def FnExactSkipTermsSaid : Prop := fnExactSkipTermsRow.holds Try.pinned (OpenSpec.ofChange fnExactSkipTermsSpec)

/-- ITS FALSE NEIGHBOUR: 'it returns false'. Refute it at one input. -/
def fnExactSkipTermsWrong : ChangeSpec := { name := "fnExactSkipTerms", fn := fun _ => fun
  | [d1, d2] => { results := [.lit (.bool false)], args := [d1, d2] }
  | _ => none }
def FnExactSkipTermsWrongFalsely : Prop := fnExactSkipTermsRow.holds Try.pinned (OpenSpec.ofChange fnExactSkipTermsWrong)

/-- 'laws.FnStateRuns': WHATEVER THE INPUT: true; the input reads as it did. -/
def fnStateRunsSpec : ChangeSpec := { name := "fnStateRuns", fn := fun _ => fun
  | [d1, d2] => { results := [.lit (.bool true)], args := [d1, d2] }
  | _ => none }
def fnStateRunsRow : OpenClaim := { program := "ytgmofofokhlhnaa", sum := "df36fe1043853c48c41d85726c942115bc6039b38932b1cd95d25425272886b0", func := "loop.example/g01007/laws.FnStateRuns", spec := "fnStateRuns", unfollowed := true, recurses := true, plainKeys := false, apart := false }
def FnStateRunsSaid : Prop := fnStateRunsRow.holds Try.pinned (OpenSpec.ofChange fnStateRunsSpec)

/-- ITS FALSE NEIGHBOUR: 'it returns false'. Refute it at one input. -/
def fnStateRunsWrong : ChangeSpec := { name := "fnStateRuns", fn := fun _ => fun
  | [d1, d2] => { results := [.lit (.bool false)], args := [d1, d2] }
  | _ => none }
def FnStateRunsWrongFalsely : Prop := fnStateRunsRow.holds Try.pinned (OpenSpec.ofChange fnStateRunsWrong)

/-- 'laws.FnExactLeastSource': WHATEVER THE INPUT: true; the input reads as it did. -/
def fnExactLeastSourceSpec : ChangeSpec := { name := "fnExactLeastSource", fn := fun _ => fun
  | [d1, d2] => { results := [.lit (.bool true)], args := [d1, d2] }
  | _ => none }
def fnExactLeastSourceRow : OpenClaim := { program := "ytgmofofokhlhnaa", sum := "df36fe1043853c48c41d85726c942115bc6039b38932b1cd95d25425272886b0", func := "loop.example/g01007/laws.FnExactLeastSource", spec := "fnExactLeastSource", plainKeys := false, apart := false }
def FnExactLeastSourceSaid : Prop := fnExactLeastSourceRow.holds Try.pinned (OpenSpec.ofChange fnExactLeastSourceSpec)

/-- ITS FALSE NEIGHBOUR: 'it returns false'. Refute it at one input. -/
def fnExactLeastSourceWrong : ChangeSpec := { name := "fnExactLeastSource", fn := fun _ => fun
  | [d1, d2] => { results := [.lit (.bool false)], args := [d1, d2] }
  | _ => none }
def FnExactLeastSourceWrongFalsely : Prop := fnExactLeastSourceRow.holds Try.pinned (OpenSpec.ofChange fnExactLeastSourceWrong)

/-- 'laws.FnBest': WHATEVER THE INPUT: true; the input reads as it did. -/
def fnBestSpec : ChangeSpec := { name := "fnBest", fn := fun _ => fun
  | [d1, d2] => { results := [.lit (.bool true)], args := [d1, d2] }
  | _ => none }
def fnBestRow : OpenClaim := { program := "ytgmofofokhlhnaa", sum := "df36fe1043853c48c41d85726c942115bc6039b38932b1cd95d25425272886b0", func := "loop.example/g01007/laws.FnBest", spec := "fnBest", unfollowed := true, recurses := true, plainKeys := false, apart := false }
def FnBestSaid : Prop := fnBestRow.holds Try.pinned (OpenSpec.ofChange fnBestSpec)

/-- ITS FALSE NEIGHBOUR: 'it returns false'. Refute it at one input. -/
def fnBestWrong : ChangeSpec := { name := "fnBest", fn := fun _ => fun
  | [d1, d2] => { results := [.lit (.bool false)], args := [d1, d2] }
  | _ => none }
def FnBestWrongFalsely : Prop := fnBestRow.holds Try.pinned (OpenSpec.ofChange fnBestWrong)

/-- 'laws.FnExactSortSources': WHATEVER THE INPUT: true; the input reads as it did. -/
def fnExactSortSourcesSpec : ChangeSpec := { name := "fnExactSortSources", fn := fun _ => fun
  | [d1, d2] => { results := [.lit (.bool true)], args := [d1, d2] }
  | _ => none }
def fnExactSortSourcesRow : OpenClaim := { program := "ytgmofofokhlhnaa", sum := "df36fe1043853c48c41d85726c942115bc6039b38932b1cd95d25425272886b0", func := "loop.example/g01007/laws.FnExactSortSources", spec := "fnExactSortSources", plainKeys := false, apart := false }
def FnExactSortSourcesSaid : Prop := fnExactSortSourcesRow.holds Try.pinned (OpenSpec.ofChange fnExactSortSourcesSpec)

/-- ITS FALSE NEIGHBOUR: 'it returns false'. Refute it at one input. -/
def fnExactSortSourcesWrong : ChangeSpec := { name := "fnExactSortSources", fn := fun _ => fun
  | [d1, d2] => { results := [.lit (.bool false)], args := [d1, d2] }
  | _ => none }
def FnExactSortSourcesWrongFalsely : Prop := fnExactSortSourcesRow.holds Try.pinned (OpenSpec.ofChange fnExactSortSourcesWrong)

/-- 'laws.FnExactSourceOfSurd': WHATEVER THE INPUT: true; the input reads as it did. -/
def fnExactSourceOfSurdSpec : ChangeSpec := { name := "fnExactSourceOfSurd", fn := fun _ => fun
  | [d] => { results := [.lit (.bool true)], args := [d] }
  | _ => none }
def fnExactSourceOfSurdRow : OpenClaim := { program := "ytgmofofokhlhnaa", sum := "df36fe1043853c48c41d85726c942115bc6039b38932b1cd95d25425272886b0", func := "loop.example/g01007/laws.FnExactSourceOfSurd", spec := "fnExactSourceOfSurd", inPlace := ["math.sqrt"], plainKeys := false, apart := false }
def FnExactSourceOfSurdSaid : Prop := fnExactSourceOfSurdRow.holds Try.pinned (OpenSpec.ofChange fnExactSourceOfSurdSpec)

/-- ITS FALSE NEIGHBOUR: 'it returns false'. Refute it at one input. -/
def fnExactSourceOfSurdWrong : ChangeSpec := { name := "fnExactSourceOfSurd", fn := fun _ => fun
  | [d] => { results := [.lit (.bool false)], args := [d] }
  | _ => none }
def FnExactSourceOfSurdWrongFalsely : Prop := fnExactSourceOfSurdRow.holds Try.pinned (OpenSpec.ofChange fnExactSourceOfSurdWrong)

/-- 'laws.FnDoubles': WHATEVER THE INPUT: true; the input reads as it did. -/
def fnDoublesSpec : ChangeSpec := { name := "fnDoubles", fn := fun _ => fun
  | [d1, d2] => { results := [.lit (.bool true)], args := [d1, d2] }
  | _ => none }
def fnDoublesRow : OpenClaim := { program := "ytgmofofokhlhnaa", sum := "df36fe1043853c48c41d85726c942115bc6039b38932b1cd95d25425272886b0", func := "loop.example/g01007/laws.FnDoubles", spec := "fnDoubles", unfollowed := true, recurses := true, plainKeys := false, apart := false }
def FnDoublesSaid : Prop := fnDoublesRow.holds Try.pinned (OpenSpec.ofChange fnDoublesSpec)

/-- ITS FALSE NEIGHBOUR: 'it returns false'. Refute it at one input. -/
def fnDoublesWrong : ChangeSpec := { name := "fnDoubles", fn := fun _ => fun
  | [d1, d2] => { results := [.lit (.bool false)], args := [d1, d2] }
  | _ => none }
def FnDoublesWrongFalsely : Prop := fnDoublesRow.holds Try.pinned (OpenSpec.ofChange fnDoublesWrong)

/-- 'laws.FnSourceFloors': WHATEVER THE INPUT: true; the input reads as it did. -/
def fnSourceFloorsSpec : ChangeSpec := { name := "fnSourceFloors", fn := fun _ => fun
  | [d] => { results := [.lit (.bool true)], args := [d] }
  | _ => none }
def fnSourceFloorsRow : OpenClaim := { program := "ytgmofofokhlhnaa", sum := "df36fe1043853c48c41d85726c942115bc6039b38932b1cd95d25425272886b0", func := "loop.example/g01007/laws.FnSourceFloors", spec := "fnSourceFloors", plainKeys := false, apart := false }
def FnSourceFloorsSaid : Prop := fnSourceFloorsRow.holds Try.pinned (OpenSpec.ofChange fnSourceFloorsSpec)

/-- ITS FALSE NEIGHBOUR: 'it returns false'. Refute it at one input. -/
def fnSourceFloorsWrong : ChangeSpec := { name := "fnSourceFloors", fn := fun _ => fun
  | [d] => { results := [.lit (.bool false)], args := [d] }
  | _ => none }
def FnSourceFloorsWrongFalsely : Prop := fnSourceFloorsRow.holds Try.pinned (OpenSpec.ofChange fnSourceFloorsWrong)

/- THE SECOND FORM. 'bulk': how many values and letters a reading holds, each counted each time it is reached (what is shared counts as often as it is met; a slice's spare places count too). A statement '..UptoSaid' is the law's where the arguments, and the package variables that the reading takes, are together of bulk at most 1048576: NARROWER than '..Said'. Prove '..Said' where nothing that the law and all that it calls make is longer than what came in: it says more and counts as full. Else prove '..UptoSaid'. A law counts once. -/
mutual
def uptoBulk {H : Type} : DataW H → Nat
  | .lit (.string bytes) => bytes.length + 1
  | .lit _ => 1
  | .nil => 1
  | .ptr d => uptoBulk d + 1
  | .slice elems spare => uptoBulkAll elems + uptoBulkAll spare + 1
  | .agg parts => uptoBulkAll parts + 1
  | .iface _ d => uptoBulk d + 1
  | .map entries => uptoBulkEntries entries + 1
  | .held _ => 1
def uptoBulkAll {H : Type} : List (DataW H) → Nat
  | [] => 0
  | d :: r => uptoBulk d + uptoBulkAll r
def uptoBulkEntries {H : Type} : List (Lit × DataW H) → Nat
  | [] => 0
  | x :: r => uptoBulkEntry x + uptoBulkEntries r
def uptoBulkEntry {H : Type} : Lit × DataW H → Nat
  | (.string bytes, d) => bytes.length + uptoBulk d + 1
  | (_, d) => uptoBulk d + 1
 end
def uptoSmall : (H : Type) → List (DataW H) → Bool := fun _ ds => decide (uptoBulkAll ds ≤ 1048576)
def OpenSpec.upto (s : _root_.Go.ChangeSpec) : _root_.Go.OpenSpec := { _root_.Go.OpenSpec.ofChange s with cond := some uptoSmall }

/-- 'laws.FnSourceOrder', WHERE WHAT IT READS IS OF BULK AT MOST 1048576: true; the input reads as it did. -/
def fnSourceOrderUptoRow : OpenClaim := { program := "ytgmofofokhlhnaa", sum := "df36fe1043853c48c41d85726c942115bc6039b38932b1cd95d25425272886b0", func := "loop.example/g01007/laws.FnSourceOrder", spec := "fnSourceOrder", plainKeys := false, apart := false, narrowed := true }
def FnSourceOrderUptoSaid : Prop := fnSourceOrderUptoRow.holds Try.pinned (OpenSpec.upto fnSourceOrderSpec)

/-- 'laws.FnExactSkipTerms', WHERE WHAT IT READS IS OF BULK AT MOST 1048576: true; the input reads as it did. -/
def fnExactSkipTermsUptoRow : OpenClaim := { program := "ytgmofofokhlhnaa", sum := "df36fe1043853c48c41d85726c942115bc6039b38932b1cd95d25425272886b0", func := "loop.example/g01007/laws.FnExactSkipTerms", spec := "fnExactSkipTerms", plainKeys := false, apart := false, narrowed := true }
def FnExactSkipTermsUptoSaid : Prop := fnExactSkipTermsUptoRow.holds Try.pinned (OpenSpec.upto fnExactSkipTermsSpec)

/-- 'laws.FnStateRuns', WHERE WHAT IT READS IS OF BULK AT MOST 1048576: true; the input reads as it did. -/
def fnStateRunsUptoRow : OpenClaim := { program := "ytgmofofokhlhnaa", sum := "df36fe1043853c48c41d85726c942115bc6039b38932b1cd95d25425272886b0", func := "loop.example/g01007/laws.FnStateRuns", spec := "fnStateRuns", unfollowed := true, recurses := true, plainKeys := false, apart := false, narrowed := true }
def FnStateRunsUptoSaid : Prop := fnStateRunsUptoRow.holds Try.pinned (OpenSpec.upto fnStateRunsSpec)

/-- 'laws.FnExactLeastSource', WHERE WHAT IT READS IS OF BULK AT MOST 1048576: true; the input reads as it did. -/
def fnExactLeastSourceUptoRow : OpenClaim := { program := "ytgmofofokhlhnaa", sum := "df36fe1043853c48c41d85726c942115bc6039b38932b1cd95d25425272886b0", func := "loop.example/g01007/laws.FnExactLeastSource", spec := "fnExactLeastSource", plainKeys := false, apart := false, narrowed := true }
def FnExactLeastSourceUptoSaid : Prop := fnExactLeastSourceUptoRow.holds Try.pinned (OpenSpec.upto fnExactLeastSourceSpec)

/-- 'laws.FnBest', WHERE WHAT IT READS IS OF BULK AT MOST 1048576: true; the input reads as it did. -/
def fnBestUptoRow : OpenClaim := { program := "ytgmofofokhlhnaa", sum := "df36fe1043853c48c41d85726c942115bc6039b38932b1cd95d25425272886b0", func := "loop.example/g01007/laws.FnBest", spec := "fnBest", unfollowed := true, recurses := true, plainKeys := false, apart := false, narrowed := true }
def FnBestUptoSaid : Prop := fnBestUptoRow.holds Try.pinned (OpenSpec.upto fnBestSpec)

/-- 'laws.FnExactSortSources', WHERE WHAT IT READS IS OF BULK AT MOST 1048576: true; the input reads as it did. -/
def fnExactSortSourcesUptoRow : OpenClaim := { program := "ytgmofofokhlhnaa", sum := "df36fe1043853c48c41d85726c942115bc6039b38932b1cd95d25425272886b0", func := "loop.example/g01007/laws.FnExactSortSources", spec := "fnExactSortSources", plainKeys := false, apart := false, narrowed := true }
def FnExactSortSourcesUptoSaid : Prop := fnExactSortSourcesUptoRow.holds Try.pinned (OpenSpec.upto fnExactSortSourcesSpec)

/-- 'laws.FnExactSourceOfSurd', WHERE WHAT IT READS IS OF BULK AT MOST 1048576: true; the input reads as it did. -/
def fnExactSourceOfSurdUptoRow : OpenClaim := { program := "ytgmofofokhlhnaa", sum := "df36fe1043853c48c41d85726c942115bc6039b38932b1cd95d25425272886b0", func := "loop.example/g01007/laws.FnExactSourceOfSurd", spec := "fnExactSourceOfSurd", inPlace := ["math.sqrt"], plainKeys := false, apart := false, narrowed := true }
def FnExactSourceOfSurdUptoSaid : Prop := fnExactSourceOfSurdUptoRow.holds Try.pinned (OpenSpec.upto fnExactSourceOfSurdSpec)

/-- 'laws.FnDoubles', WHERE WHAT IT READS IS OF BULK AT MOST 1048576: true; the input reads as it did. -/
def fnDoublesUptoRow : OpenClaim := { program := "ytgmofofokhlhnaa", sum := "df36fe1043853c48c41d85726c942115bc6039b38932b1cd95d25425272886b0", func := "loop.example/g01007/laws.FnDoubles", spec := "fnDoubles", unfollowed := true, recurses := true, plainKeys := false, apart := false, narrowed := true }
def FnDoublesUptoSaid : Prop := fnDoublesUptoRow.holds Try.pinned (OpenSpec.upto fnDoublesSpec)

/-- 'laws.FnSourceFloors', WHERE WHAT IT READS IS OF BULK AT MOST 1048576: true; the input reads as it did. -/
def fnSourceFloorsUptoRow : OpenClaim := { program := "ytgmofofokhlhnaa", sum := "df36fe1043853c48c41d85726c942115bc6039b38932b1cd95d25425272886b0", func := "loop.example/g01007/laws.FnSourceFloors", spec := "fnSourceFloors", plainKeys := false, apart := false, narrowed := true }
def FnSourceFloorsUptoSaid : Prop := fnSourceFloorsUptoRow.holds Try.pinned (OpenSpec.upto fnSourceFloorsSpec)

end Rows
end Go.Proofs.Ytgmofofokhlhnaa
