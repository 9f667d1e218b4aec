/-
  No cell of these rows narrows 'for every input' (looked for: loops, veiled, ifaces, maps, wideKeys, modest, calm, conditions, laid).
  DERIVED. THE GIVEN ROWS OF THIS SEAT. 12 by the template 'for every input the law returns true; each argument reads behind the call as it read before'; 0 by the template 'total and deterministic' (their statements: YteejfiflidfciaaTotals.lean).
  GIVEN WITH THE SEED: the statements are not yours to turn. If you find one false, say at which input.
  Laid BY PROGRAM, IN A SANDBOX (cutbox-rows.mjs): the forced cells as the released guide's own fill.sh prints them over the translation 192b156393838ebf… (all of the seat's roots in one cut). By AI agents, Wed Nov 11 2026. No macro, syntax, notation, axiom, sorry.
-/
import Derived.Test.YteejfiflidfciaaChecked
import GoSem.Claim
import GoSem.ClaimJoined
import GoSem.ClaimMapViews
import Derived.JoinedTies
import Derived.KernelRfl
namespace Go.Proofs.Yteejfiflidfciaa
/- THE CELL 'sum', in the pinned program and in every row, IS THE sha256 OF THE DUMP (.gsa) THAT YteejfiflidfciaaProg.lean LOADS. Nothing in Lean hashes anything: it is a label: what it is worth is what the hold of that sum in a sandbox is worth. -/
noncomputable def Try.pinned : Pinned := { name := "yteejfiflidfciaa", sum := "192b156393838ebf3614a3092656119da916db24c9d940575892c29b320a5115", checked := Try.checked }
namespace Rows
def none {H : Type} : Left H := { results := [], args := [] }

/-- 'laws.FnExactLowerFraction': WHATEVER THE INPUT: true; the input reads as it did. -/
def fnExactLowerFractionSpec : ChangeSpec := { name := "fnExactLowerFraction", fn := fun _ => fun
  | [d1, d2] => { results := [.lit (.bool true)], args := [d1, d2] }
  | _ => none }
def fnExactLowerFractionRow : OpenClaim := { program := "yteejfiflidfciaa", sum := "192b156393838ebf3614a3092656119da916db24c9d940575892c29b320a5115", func := "loop.example/g01007/laws.FnExactLowerFraction", spec := "fnExactLowerFraction", apart := false }
def FnExactLowerFractionSaid : Prop := fnExactLowerFractionRow.holds Try.pinned (OpenSpec.ofChange fnExactLowerFractionSpec)

/-- ITS FALSE NEIGHBOUR: 'it returns false'. Refute it at one input. -/
def fnExactLowerFractionWrong : ChangeSpec := { name := "fnExactLowerFraction", fn := fun _ => fun
  | [d1, d2] => { results := [.lit (.bool false)], args := [d1, d2] }
  | _ => none }
def FnExactLowerFractionWrongFalsely : Prop := fnExactLowerFractionRow.holds Try.pinned (OpenSpec.ofChange fnExactLowerFractionWrong)

/-- 'laws.FnExactUpperFraction': WHATEVER THE INPUT: true; the input reads as it did. -/
def fnExactUpperFractionSpec : ChangeSpec := { name := "fnExactUpperFraction", fn := fun _ => fun
  | [d1, d2] => { results := [.lit (.bool true)], args := [d1, d2] }
  | _ => none }
def fnExactUpperFractionRow : OpenClaim := { program := "yteejfiflidfciaa", sum := "192b156393838ebf3614a3092656119da916db24c9d940575892c29b320a5115", func := "loop.example/g01007/laws.FnExactUpperFraction", spec := "fnExactUpperFraction", apart := false }
def FnExactUpperFractionSaid : Prop := fnExactUpperFractionRow.holds Try.pinned (OpenSpec.ofChange fnExactUpperFractionSpec)

/-- ITS FALSE NEIGHBOUR: 'it returns false'. Refute it at one input. -/
def fnExactUpperFractionWrong : ChangeSpec := { name := "fnExactUpperFraction", fn := fun _ => fun
  | [d1, d2] => { results := [.lit (.bool false)], args := [d1, d2] }
  | _ => none }
def FnExactUpperFractionWrongFalsely : Prop := fnExactUpperFractionRow.holds Try.pinned (OpenSpec.ofChange fnExactUpperFractionWrong)

/-- 'laws.FnExactNearestFraction': WHATEVER THE INPUT: true; the input reads as it did. -/
def fnExactNearestFractionSpec : ChangeSpec := { name := "fnExactNearestFraction", fn := fun _ => fun
  | [d1, d2] => { results := [.lit (.bool true)], args := [d1, d2] }
  | _ => none }
def fnExactNearestFractionRow : OpenClaim := { program := "yteejfiflidfciaa", sum := "192b156393838ebf3614a3092656119da916db24c9d940575892c29b320a5115", func := "loop.example/g01007/laws.FnExactNearestFraction", spec := "fnExactNearestFraction", apart := false }
def FnExactNearestFractionSaid : Prop := fnExactNearestFractionRow.holds Try.pinned (OpenSpec.ofChange fnExactNearestFractionSpec)

/-- ITS FALSE NEIGHBOUR: 'it returns false'. Refute it at one input. -/
def fnExactNearestFractionWrong : ChangeSpec := { name := "fnExactNearestFraction", fn := fun _ => fun
  | [d1, d2] => { results := [.lit (.bool false)], args := [d1, d2] }
  | _ => none }
def FnExactNearestFractionWrongFalsely : Prop := fnExactNearestFractionRow.holds Try.pinned (OpenSpec.ofChange fnExactNearestFractionWrong)

/-- 'laws.FnExactIsBestFirst': WHATEVER THE INPUT: true; the input reads as it did. -/
def fnExactIsBestFirstSpec : ChangeSpec := { name := "fnExactIsBestFirst", fn := fun _ => fun
  | [d1, d2] => { results := [.lit (.bool true)], args := [d1, d2] }
  | _ => none }
def fnExactIsBestFirstRow : OpenClaim := { program := "yteejfiflidfciaa", sum := "192b156393838ebf3614a3092656119da916db24c9d940575892c29b320a5115", func := "loop.example/g01007/laws.FnExactIsBestFirst", spec := "fnExactIsBestFirst", apart := false }
def FnExactIsBestFirstSaid : Prop := fnExactIsBestFirstRow.holds Try.pinned (OpenSpec.ofChange fnExactIsBestFirstSpec)

/-- ITS FALSE NEIGHBOUR: 'it returns false'. Refute it at one input. -/
def fnExactIsBestFirstWrong : ChangeSpec := { name := "fnExactIsBestFirst", fn := fun _ => fun
  | [d1, d2] => { results := [.lit (.bool false)], args := [d1, d2] }
  | _ => none }
def FnExactIsBestFirstWrongFalsely : Prop := fnExactIsBestFirstRow.holds Try.pinned (OpenSpec.ofChange fnExactIsBestFirstWrong)

/-- 'laws.FnExactBeatsFirst': WHATEVER THE INPUT: true; the input reads as it did. -/
def fnExactBeatsFirstSpec : ChangeSpec := { name := "fnExactBeatsFirst", fn := fun _ => fun
  | [d1, d2] => { results := [.lit (.bool true)], args := [d1, d2] }
  | _ => none }
def fnExactBeatsFirstRow : OpenClaim := { program := "yteejfiflidfciaa", sum := "192b156393838ebf3614a3092656119da916db24c9d940575892c29b320a5115", func := "loop.example/g01007/laws.FnExactBeatsFirst", spec := "fnExactBeatsFirst", apart := false }
def FnExactBeatsFirstSaid : Prop := fnExactBeatsFirstRow.holds Try.pinned (OpenSpec.ofChange fnExactBeatsFirstSpec)

/-- ITS FALSE NEIGHBOUR: 'it returns false'. Refute it at one input. -/
def fnExactBeatsFirstWrong : ChangeSpec := { name := "fnExactBeatsFirst", fn := fun _ => fun
  | [d1, d2] => { results := [.lit (.bool false)], args := [d1, d2] }
  | _ => none }
def FnExactBeatsFirstWrongFalsely : Prop := fnExactBeatsFirstRow.holds Try.pinned (OpenSpec.ofChange fnExactBeatsFirstWrong)

/-- 'laws.FnExactLeastDenominator': WHATEVER THE INPUT: true; the input reads as it did. -/
def fnExactLeastDenominatorSpec : ChangeSpec := { name := "fnExactLeastDenominator", fn := fun _ => fun
  | [d1, d2, d3] => { results := [.lit (.bool true)], args := [d1, d2, d3] }
  | _ => none }
def fnExactLeastDenominatorRow : OpenClaim := { program := "yteejfiflidfciaa", sum := "192b156393838ebf3614a3092656119da916db24c9d940575892c29b320a5115", func := "loop.example/g01007/laws.FnExactLeastDenominator", spec := "fnExactLeastDenominator", apart := false }
def FnExactLeastDenominatorSaid : Prop := fnExactLeastDenominatorRow.holds Try.pinned (OpenSpec.ofChange fnExactLeastDenominatorSpec)

/-- ITS FALSE NEIGHBOUR: 'it returns false'. Refute it at one input. -/
def fnExactLeastDenominatorWrong : ChangeSpec := { name := "fnExactLeastDenominator", fn := fun _ => fun
  | [d1, d2, d3] => { results := [.lit (.bool false)], args := [d1, d2, d3] }
  | _ => none }
def FnExactLeastDenominatorWrongFalsely : Prop := fnExactLeastDenominatorRow.holds Try.pinned (OpenSpec.ofChange fnExactLeastDenominatorWrong)

/-- 'laws.FnExactBestAbove': WHATEVER THE INPUT: true; the input reads as it did. -/
def fnExactBestAboveSpec : ChangeSpec := { name := "fnExactBestAbove", fn := fun _ => fun
  | [d1, d2] => { results := [.lit (.bool true)], args := [d1, d2] }
  | _ => none }
def fnExactBestAboveRow : OpenClaim := { program := "yteejfiflidfciaa", sum := "192b156393838ebf3614a3092656119da916db24c9d940575892c29b320a5115", func := "loop.example/g01007/laws.FnExactBestAbove", spec := "fnExactBestAbove", apart := false }
def FnExactBestAboveSaid : Prop := fnExactBestAboveRow.holds Try.pinned (OpenSpec.ofChange fnExactBestAboveSpec)

/-- ITS FALSE NEIGHBOUR: 'it returns false'. Refute it at one input. -/
def fnExactBestAboveWrong : ChangeSpec := { name := "fnExactBestAbove", fn := fun _ => fun
  | [d1, d2] => { results := [.lit (.bool false)], args := [d1, d2] }
  | _ => none }
def FnExactBestAboveWrongFalsely : Prop := fnExactBestAboveRow.holds Try.pinned (OpenSpec.ofChange fnExactBestAboveWrong)

/-- 'laws.FnExactBestFirst': WHATEVER THE INPUT: true; the input reads as it did. -/
def fnExactBestFirstSpec : ChangeSpec := { name := "fnExactBestFirst", fn := fun _ => fun
  | [d1, d2] => { results := [.lit (.bool true)], args := [d1, d2] }
  | _ => none }
def fnExactBestFirstRow : OpenClaim := { program := "yteejfiflidfciaa", sum := "192b156393838ebf3614a3092656119da916db24c9d940575892c29b320a5115", func := "loop.example/g01007/laws.FnExactBestFirst", spec := "fnExactBestFirst", unfollowed := true, recurses := true, apart := false }
def FnExactBestFirstSaid : Prop := fnExactBestFirstRow.holds Try.pinned (OpenSpec.ofChange fnExactBestFirstSpec)

/-- ITS FALSE NEIGHBOUR: 'it returns false'. Refute it at one input. -/
def fnExactBestFirstWrong : ChangeSpec := { name := "fnExactBestFirst", fn := fun _ => fun
  | [d1, d2] => { results := [.lit (.bool false)], args := [d1, d2] }
  | _ => none }
def FnExactBestFirstWrongFalsely : Prop := fnExactBestFirstRow.holds Try.pinned (OpenSpec.ofChange fnExactBestFirstWrong)

/-- 'laws.FnExactBestSecond': WHATEVER THE INPUT: true; the input reads as it did. -/
def fnExactBestSecondSpec : ChangeSpec := { name := "fnExactBestSecond", fn := fun _ => fun
  | [d1, d2] => { results := [.lit (.bool true)], args := [d1, d2] }
  | _ => none }
def fnExactBestSecondRow : OpenClaim := { program := "yteejfiflidfciaa", sum := "192b156393838ebf3614a3092656119da916db24c9d940575892c29b320a5115", func := "loop.example/g01007/laws.FnExactBestSecond", spec := "fnExactBestSecond", unfollowed := true, recurses := true, apart := false }
def FnExactBestSecondSaid : Prop := fnExactBestSecondRow.holds Try.pinned (OpenSpec.ofChange fnExactBestSecondSpec)

/-- ITS FALSE NEIGHBOUR: 'it returns false'. Refute it at one input. -/
def fnExactBestSecondWrong : ChangeSpec := { name := "fnExactBestSecond", fn := fun _ => fun
  | [d1, d2] => { results := [.lit (.bool false)], args := [d1, d2] }
  | _ => none }
def FnExactBestSecondWrongFalsely : Prop := fnExactBestSecondRow.holds Try.pinned (OpenSpec.ofChange fnExactBestSecondWrong)

/-- 'laws.FnExactBoundsOfTerms': WHATEVER THE INPUT: true; the input reads as it did. -/
def fnExactBoundsOfTermsSpec : ChangeSpec := { name := "fnExactBoundsOfTerms", fn := fun _ => fun
  | [d] => { results := [.lit (.bool true)], args := [d] }
  | _ => none }
def fnExactBoundsOfTermsRow : OpenClaim := { program := "yteejfiflidfciaa", sum := "192b156393838ebf3614a3092656119da916db24c9d940575892c29b320a5115", func := "loop.example/g01007/laws.FnExactBoundsOfTerms", spec := "fnExactBoundsOfTerms", unfollowed := true, recurses := true, apart := false }
def FnExactBoundsOfTermsSaid : Prop := fnExactBoundsOfTermsRow.holds Try.pinned (OpenSpec.ofChange fnExactBoundsOfTermsSpec)

/-- ITS FALSE NEIGHBOUR: 'it returns false'. Refute it at one input. -/
def fnExactBoundsOfTermsWrong : ChangeSpec := { name := "fnExactBoundsOfTerms", fn := fun _ => fun
  | [d] => { results := [.lit (.bool false)], args := [d] }
  | _ => none }
def FnExactBoundsOfTermsWrongFalsely : Prop := fnExactBoundsOfTermsRow.holds Try.pinned (OpenSpec.ofChange fnExactBoundsOfTermsWrong)

/-- 'laws.FnExactSureDigits': WHATEVER THE INPUT: true; the input reads as it did. -/
def fnExactSureDigitsSpec : ChangeSpec := { name := "fnExactSureDigits", fn := fun _ => fun
  | [d1, d2] => { results := [.lit (.bool true)], args := [d1, d2] }
  | _ => none }
def fnExactSureDigitsRow : OpenClaim := { program := "yteejfiflidfciaa", sum := "192b156393838ebf3614a3092656119da916db24c9d940575892c29b320a5115", func := "loop.example/g01007/laws.FnExactSureDigits", spec := "fnExactSureDigits", unfollowed := true, recurses := true, apart := false }
def FnExactSureDigitsSaid : Prop := fnExactSureDigitsRow.holds Try.pinned (OpenSpec.ofChange fnExactSureDigitsSpec)

/-- ITS FALSE NEIGHBOUR: 'it returns false'. Refute it at one input. -/
def fnExactSureDigitsWrong : ChangeSpec := { name := "fnExactSureDigits", fn := fun _ => fun
  | [d1, d2] => { results := [.lit (.bool false)], args := [d1, d2] }
  | _ => none }
def FnExactSureDigitsWrongFalsely : Prop := fnExactSureDigitsRow.holds Try.pinned (OpenSpec.ofChange fnExactSureDigitsWrong)

/-- 'laws.FnExactFractionFromDigits': WHATEVER THE INPUT: true; the input reads as it did. -/
def fnExactFractionFromDigitsSpec : ChangeSpec := { name := "fnExactFractionFromDigits", fn := fun _ => fun
  | [d1, d2, d3, d4] => { results := [.lit (.bool true)], args := [d1, d2, d3, d4] }
  | _ => none }
def fnExactFractionFromDigitsRow : OpenClaim := { program := "yteejfiflidfciaa", sum := "192b156393838ebf3614a3092656119da916db24c9d940575892c29b320a5115", func := "loop.example/g01007/laws.FnExactFractionFromDigits", spec := "fnExactFractionFromDigits", unfollowed := true, recurses := true, apart := false }
def FnExactFractionFromDigitsSaid : Prop := fnExactFractionFromDigitsRow.holds Try.pinned (OpenSpec.ofChange fnExactFractionFromDigitsSpec)

/-- ITS FALSE NEIGHBOUR: 'it returns false'. Refute it at one input. -/
def fnExactFractionFromDigitsWrong : ChangeSpec := { name := "fnExactFractionFromDigits", fn := fun _ => fun
  | [d1, d2, d3, d4] => { results := [.lit (.bool false)], args := [d1, d2, d3, d4] }
  | _ => none }
def FnExactFractionFromDigitsWrongFalsely : Prop := fnExactFractionFromDigitsRow.holds Try.pinned (OpenSpec.ofChange fnExactFractionFromDigitsWrong)

/- THE SECOND FORM. 'bulk': how many values and letters a reading holds, each counted each time it is reached (what is shared counts as often as it is met; a slice's spare places count too). A statement '..UptoSaid' is the law's where the arguments, and the package variables that the reading takes, are together of bulk at most 1048576: NARROWER than '..Said'. Prove '..Said' where nothing that the law and all that it calls make is longer than what came in: it says more and counts as full. Else prove '..UptoSaid'. A law counts once. -/
mutual
def uptoBulk {H : Type} : DataW H → Nat
  | .lit (.string bytes) => bytes.length + 1
  | .lit _ => 1
  | .nil => 1
  | .ptr d => uptoBulk d + 1
  | .slice elems spare => uptoBulkAll elems + uptoBulkAll spare + 1
  | .agg parts => uptoBulkAll parts + 1
  | .iface _ d => uptoBulk d + 1
  | .map entries => uptoBulkEntries entries + 1
  | .held _ => 1
def uptoBulkAll {H : Type} : List (DataW H) → Nat
  | [] => 0
  | d :: r => uptoBulk d + uptoBulkAll r
def uptoBulkEntries {H : Type} : List (Lit × DataW H) → Nat
  | [] => 0
  | x :: r => uptoBulkEntry x + uptoBulkEntries r
def uptoBulkEntry {H : Type} : Lit × DataW H → Nat
  | (.string bytes, d) => bytes.length + uptoBulk d + 1
  | (_, d) => uptoBulk d + 1
 end
def uptoSmall : (H : Type) → List (DataW H) → Bool := fun _ ds => decide (uptoBulkAll ds ≤ 1048576)
def OpenSpec.upto (s : _root_.Go.ChangeSpec) : _root_.Go.OpenSpec := { _root_.Go.OpenSpec.ofChange s with cond := some uptoSmall }

/-- 'laws.FnExactLowerFraction', WHERE WHAT IT READS IS OF BULK AT MOST 1048576: true; the input reads as it did. -/
def fnExactLowerFractionUptoRow : OpenClaim := { program := "yteejfiflidfciaa", sum := "192b156393838ebf3614a3092656119da916db24c9d940575892c29b320a5115", func := "loop.example/g01007/laws.FnExactLowerFraction", spec := "fnExactLowerFraction", apart := false, narrowed := true }
def FnExactLowerFractionUptoSaid : Prop := fnExactLowerFractionUptoRow.holds Try.pinned (OpenSpec.upto fnExactLowerFractionSpec)

/-- 'laws.FnExactUpperFraction', WHERE WHAT IT READS IS OF BULK AT MOST 1048576: true; the input reads as it did. -/
def fnExactUpperFractionUptoRow : OpenClaim := { program := "yteejfiflidfciaa", sum := "192b156393838ebf3614a3092656119da916db24c9d940575892c29b320a5115", func := "loop.example/g01007/laws.FnExactUpperFraction", spec := "fnExactUpperFraction", apart := false, narrowed := true }
def FnExactUpperFractionUptoSaid : Prop := fnExactUpperFractionUptoRow.holds Try.pinned (OpenSpec.upto fnExactUpperFractionSpec)

/-- 'laws.FnExactNearestFraction', WHERE WHAT IT READS IS OF BULK AT MOST 1048576: true; the input reads as it did. -/
def fnExactNearestFractionUptoRow : OpenClaim := { program := "yteejfiflidfciaa", sum := "192b156393838ebf3614a3092656119da916db24c9d940575892c29b320a5115", func := "loop.example/g01007/laws.FnExactNearestFraction", spec := "fnExactNearestFraction", apart := false, narrowed := true }
def FnExactNearestFractionUptoSaid : Prop := fnExactNearestFractionUptoRow.holds Try.pinned (OpenSpec.upto fnExactNearestFractionSpec)

/-- 'laws.FnExactIsBestFirst', WHERE WHAT IT READS IS OF BULK AT MOST 1048576: true; the input reads as it did. -/
def fnExactIsBestFirstUptoRow : OpenClaim := { program := "yteejfiflidfciaa", sum := "192b156393838ebf3614a3092656119da916db24c9d940575892c29b320a5115", func := "loop.example/g01007/laws.FnExactIsBestFirst", spec := "fnExactIsBestFirst", apart := false, narrowed := true }
def FnExactIsBestFirstUptoSaid : Prop := fnExactIsBestFirstUptoRow.holds Try.pinned (OpenSpec.upto fnExactIsBestFirstSpec)

/-- 'laws.FnExactBeatsFirst', WHERE WHAT IT READS IS OF BULK AT MOST 1048576: true; the input reads as it did. -/
def fnExactBeatsFirstUptoRow : OpenClaim := { program := "yteejfiflidfciaa", sum := "192b156393838ebf3614a3092656119da916db24c9d940575892c29b320a5115", func := "loop.example/g01007/laws.FnExactBeatsFirst", spec := "fnExactBeatsFirst", apart := false, narrowed := true }
def FnExactBeatsFirstUptoSaid : Prop := fnExactBeatsFirstUptoRow.holds Try.pinned (OpenSpec.upto fnExactBeatsFirstSpec)

/-- 'laws.FnExactLeastDenominator', WHERE WHAT IT READS IS OF BULK AT MOST 1048576: true; the input reads as it did. -/
def fnExactLeastDenominatorUptoRow : OpenClaim := { program := "yteejfiflidfciaa", sum := "192b156393838ebf3614a3092656119da916db24c9d940575892c29b320a5115", func := "loop.example/g01007/laws.FnExactLeastDenominator", spec := "fnExactLeastDenominator", apart := false, narrowed := true }
def FnExactLeastDenominatorUptoSaid : Prop := fnExactLeastDenominatorUptoRow.holds Try.pinned (OpenSpec.upto fnExactLeastDenominatorSpec)

/-- 'laws.FnExactBestAbove', WHERE WHAT IT READS IS OF BULK AT MOST 1048576: true; the input reads as it did. -/
def fnExactBestAboveUptoRow : OpenClaim := { program := "yteejfiflidfciaa", sum := "192b156393838ebf3614a3092656119da916db24c9d940575892c29b320a5115", func := "loop.example/g01007/laws.FnExactBestAbove", spec := "fnExactBestAbove", apart := false, narrowed := true }
def FnExactBestAboveUptoSaid : Prop := fnExactBestAboveUptoRow.holds Try.pinned (OpenSpec.upto fnExactBestAboveSpec)

/-- 'laws.FnExactBestFirst', WHERE WHAT IT READS IS OF BULK AT MOST 1048576: true; the input reads as it did. -/
def fnExactBestFirstUptoRow : OpenClaim := { program := "yteejfiflidfciaa", sum := "192b156393838ebf3614a3092656119da916db24c9d940575892c29b320a5115", func := "loop.example/g01007/laws.FnExactBestFirst", spec := "fnExactBestFirst", unfollowed := true, recurses := true, apart := false, narrowed := true }
def FnExactBestFirstUptoSaid : Prop := fnExactBestFirstUptoRow.holds Try.pinned (OpenSpec.upto fnExactBestFirstSpec)

/-- 'laws.FnExactBestSecond', WHERE WHAT IT READS IS OF BULK AT MOST 1048576: true; the input reads as it did. -/
def fnExactBestSecondUptoRow : OpenClaim := { program := "yteejfiflidfciaa", sum := "192b156393838ebf3614a3092656119da916db24c9d940575892c29b320a5115", func := "loop.example/g01007/laws.FnExactBestSecond", spec := "fnExactBestSecond", unfollowed := true, recurses := true, apart := false, narrowed := true }
def FnExactBestSecondUptoSaid : Prop := fnExactBestSecondUptoRow.holds Try.pinned (OpenSpec.upto fnExactBestSecondSpec)

/-- 'laws.FnExactBoundsOfTerms', WHERE WHAT IT READS IS OF BULK AT MOST 1048576: true; the input reads as it did. -/
def fnExactBoundsOfTermsUptoRow : OpenClaim := { program := "yteejfiflidfciaa", sum := "192b156393838ebf3614a3092656119da916db24c9d940575892c29b320a5115", func := "loop.example/g01007/laws.FnExactBoundsOfTerms", spec := "fnExactBoundsOfTerms", unfollowed := true, recurses := true, apart := false, narrowed := true }
def FnExactBoundsOfTermsUptoSaid : Prop := fnExactBoundsOfTermsUptoRow.holds Try.pinned (OpenSpec.upto fnExactBoundsOfTermsSpec)

/-- 'laws.FnExactSureDigits', WHERE WHAT IT READS IS OF BULK AT MOST 1048576: true; the input reads as it did. -/
def fnExactSureDigitsUptoRow : OpenClaim := { program := "yteejfiflidfciaa", sum := "192b156393838ebf3614a3092656119da916db24c9d940575892c29b320a5115", func := "loop.example/g01007/laws.FnExactSureDigits", spec := "fnExactSureDigits", unfollowed := true, recurses := true, apart := false, narrowed := true }
def FnExactSureDigitsUptoSaid : Prop := fnExactSureDigitsUptoRow.holds Try.pinned (OpenSpec.upto fnExactSureDigitsSpec)

/-- 'laws.FnExactFractionFromDigits', WHERE WHAT IT READS IS OF BULK AT MOST 1048576: true; the input reads as it did. -/
def fnExactFractionFromDigitsUptoRow : OpenClaim := { program := "yteejfiflidfciaa", sum := "192b156393838ebf3614a3092656119da916db24c9d940575892c29b320a5115", func := "loop.example/g01007/laws.FnExactFractionFromDigits", spec := "fnExactFractionFromDigits", unfollowed := true, recurses := true, apart := false, narrowed := true }
def FnExactFractionFromDigitsUptoSaid : Prop := fnExactFractionFromDigitsUptoRow.holds Try.pinned (OpenSpec.upto fnExactFractionFromDigitsSpec)

end Rows
end Go.Proofs.Yteejfiflidfciaa
