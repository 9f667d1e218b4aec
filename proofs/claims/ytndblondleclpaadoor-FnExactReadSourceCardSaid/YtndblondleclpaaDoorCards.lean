/-
  DERIVED. GIVEN WITH THE SEED: THE CARDS: each row of YtndblondleclpaaDoorRows.lean that lists a variable, with what it lists TIED to the program's text (the seventh form; the later family's looks); each row that meets fmt, with fmt's text TOLD by the authors' own Lean function (tested against real Go, not proved from fmt's source: count such statements apart). THE CARD IS WHAT COUNTS. Prove the row's statement (the work); the ties are given (YtndblondleclpaaDoorTie.lean); close each card by the builder's one call (the guide's Derived/Test/ToyasCard.lean, 'card_holds'). Laid BY PROGRAM, IN A SANDBOX (cutbox-door.mjs). By AI agents, Wed Nov 11 2026. No macro, syntax, notation, axiom, sorry.
-/
import Derived.Test.YtndblondleclpaaDoorRows
import GoSem.ClaimSeven
namespace Go.Proofs.YtndblondleclpaaDoor
namespace Rows

/-- THE TIED CARD OF 'laws.FnExactDigitsText'. -/
def fnExactDigitsTextCard : Claim7 := { stood := { row := fnExactDigitsTextRow, standIns := [], harness := (true, "5380db4b79bd01fe920d924bbf13d8d1d8dc141a22f3c59276d85de15685a4af"), looks := true }, kinds := [], alts := [], laidByText := true, laidKinds := [.data, .data, .data], laidTests := true, laidLooks := .later }
def FnExactDigitsTextCardSaid : Prop := Claim7.holds Tryd.pinned (.plain (OpenSpec.ofChange fnExactDigitsTextSpec)) fnExactDigitsTextCard

/-- THE TIED CARD OF 'laws.FnExactSourceText'. -/
def fnExactSourceTextCard : Claim7 := { stood := { row := fnExactSourceTextRow, standIns := [], harness := (true, "5380db4b79bd01fe920d924bbf13d8d1d8dc141a22f3c59276d85de15685a4af"), looks := true }, kinds := [], alts := [], laidByText := true, laidKinds := [.data, .data, .data], laidTests := true, laidLooks := .later }
def FnExactSourceTextCardSaid : Prop := Claim7.holds Tryd.pinned (.plain (OpenSpec.ofChange fnExactSourceTextSpec)) fnExactSourceTextCard

/-- THE TIED CARD OF 'laws.FnExactReadDigits'. -/
def fnExactReadDigitsCard : Claim7 := { stood := { row := fnExactReadDigitsRow, standIns := [], harness := (true, "5380db4b79bd01fe920d924bbf13d8d1d8dc141a22f3c59276d85de15685a4af"), looks := true }, kinds := [], alts := [], laidByText := true, laidKinds := [.data, .data, .data, .sentinel, .sentinel], laidTests := true, laidLooks := .later }
def FnExactReadDigitsCardSaid : Prop := Claim7.holds Tryd.pinned (.plain (OpenSpec.ofChange fnExactReadDigitsSpec)) fnExactReadDigitsCard

/-- THE TIED CARD OF 'laws.FnExactReadSource'. -/
def fnExactReadSourceCard : Claim7 := { stood := { row := fnExactReadSourceRow, standIns := [], harness := (true, "5380db4b79bd01fe920d924bbf13d8d1d8dc141a22f3c59276d85de15685a4af"), looks := true }, kinds := [], alts := [], laidByText := true, laidKinds := [.data, .data, .data, .data, .sentinel, .sentinel, .pinned], laidTests := true, laidLooks := .later }
def FnExactReadSourceCardSaid : Prop := Claim7.holds Tryd.pinned (.plain (OpenSpec.ofChange fnExactReadSourceSpec)) fnExactReadSourceCard

/-- THE SECOND FORM's CARD OF 'laws.FnExactDigitsText'. -/
def fnExactDigitsTextUptoCard : Claim7 := { stood := { row := fnExactDigitsTextUptoRow, standIns := [], harness := (true, "5380db4b79bd01fe920d924bbf13d8d1d8dc141a22f3c59276d85de15685a4af"), looks := true }, kinds := [], alts := [], laidByText := true, laidKinds := [.data, .data, .data], laidTests := true, laidLooks := .later }
def FnExactDigitsTextUptoCardSaid : Prop := Claim7.holds Tryd.pinned (.plain (OpenSpec.upto fnExactDigitsTextSpec)) fnExactDigitsTextUptoCard

/-- THE SECOND FORM's CARD OF 'laws.FnExactSourceText'. -/
def fnExactSourceTextUptoCard : Claim7 := { stood := { row := fnExactSourceTextUptoRow, standIns := [], harness := (true, "5380db4b79bd01fe920d924bbf13d8d1d8dc141a22f3c59276d85de15685a4af"), looks := true }, kinds := [], alts := [], laidByText := true, laidKinds := [.data, .data, .data], laidTests := true, laidLooks := .later }
def FnExactSourceTextUptoCardSaid : Prop := Claim7.holds Tryd.pinned (.plain (OpenSpec.upto fnExactSourceTextSpec)) fnExactSourceTextUptoCard

/-- THE SECOND FORM's CARD OF 'laws.FnExactReadDigits'. -/
def fnExactReadDigitsUptoCard : Claim7 := { stood := { row := fnExactReadDigitsUptoRow, standIns := [], harness := (true, "5380db4b79bd01fe920d924bbf13d8d1d8dc141a22f3c59276d85de15685a4af"), looks := true }, kinds := [], alts := [], laidByText := true, laidKinds := [.data, .data, .data, .sentinel, .sentinel], laidTests := true, laidLooks := .later }
def FnExactReadDigitsUptoCardSaid : Prop := Claim7.holds Tryd.pinned (.plain (OpenSpec.upto fnExactReadDigitsSpec)) fnExactReadDigitsUptoCard

/-- THE SECOND FORM's CARD OF 'laws.FnExactReadSource'. -/
def fnExactReadSourceUptoCard : Claim7 := { stood := { row := fnExactReadSourceUptoRow, standIns := [], harness := (true, "5380db4b79bd01fe920d924bbf13d8d1d8dc141a22f3c59276d85de15685a4af"), looks := true }, kinds := [], alts := [], laidByText := true, laidKinds := [.data, .data, .data, .data, .sentinel, .sentinel, .pinned], laidTests := true, laidLooks := .later }
def FnExactReadSourceUptoCardSaid : Prop := Claim7.holds Tryd.pinned (.plain (OpenSpec.upto fnExactReadSourceSpec)) fnExactReadSourceUptoCard
end Rows
end Go.Proofs.YtndblondleclpaaDoor
