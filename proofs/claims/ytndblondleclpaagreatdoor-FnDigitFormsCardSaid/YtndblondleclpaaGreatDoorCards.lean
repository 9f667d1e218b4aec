/-
  DERIVED. GIVEN WITH THE SEED: THE CARDS: each row of YtndblondleclpaaGreatDoorRows.lean that lists a variable, with what it lists TIED to the program's text (the seventh form; the later family's looks); each row that meets fmt, with fmt's text TOLD by the authors' own Lean function (tested against real Go, not proved from fmt's source: count such statements apart). THE CARD IS WHAT COUNTS. Prove the row's statement (the work); the ties are given (YtndblondleclpaaGreatDoorTie.lean); close each card by the builder's one call (the guide's Derived/Test/ToyasCard.lean, 'card_holds'). Laid BY PROGRAM, IN A SANDBOX (cutbox-door.mjs). By AI agents, Wed Nov 11 2026. No macro, syntax, notation, axiom, sorry.
-/
import Derived.Test.YtndblondleclpaaGreatDoorRows
import GoSem.ClaimSeven
namespace Go.Proofs.YtndblondleclpaaGreatDoor
namespace Rows

/-- THE TIED CARD OF 'laws.FnSources'. -/
def fnSourcesCard : Claim7 := { stood := { row := fnSourcesRow, standIns := [], harness := (true, "12b8cf8f7f699a6adac37a491a8138be14478f98298d0a5b7120de79872c8d19"), looks := true }, kinds := [], alts := [], laidByText := true, laidKinds := [.data, .data, .data, .data, .sentinel, .sentinel, .pinned], laidTests := true, laidLooks := .later }
def FnSourcesCardSaid : Prop := Claim7.holds Tryz.pinned (.plain (OpenSpec.ofChange fnSourcesSpec)) fnSourcesCard

/-- THE TIED CARD OF 'laws.FnDigitForms'. -/
def fnDigitFormsCard : Claim7 := { stood := { row := fnDigitFormsRow, standIns := [], harness := (true, "12b8cf8f7f699a6adac37a491a8138be14478f98298d0a5b7120de79872c8d19"), looks := true }, kinds := [], alts := [], laidByText := true, laidKinds := [.data, .data, .data, .sentinel, .sentinel], laidTests := true, laidLooks := .later }
def FnDigitFormsCardSaid : Prop := Claim7.holds Tryz.pinned (.plain (OpenSpec.ofChange fnDigitFormsSpec)) fnDigitFormsCard

/-- THE SECOND FORM's CARD OF 'laws.FnSources'. -/
def fnSourcesUptoCard : Claim7 := { stood := { row := fnSourcesUptoRow, standIns := [], harness := (true, "12b8cf8f7f699a6adac37a491a8138be14478f98298d0a5b7120de79872c8d19"), looks := true }, kinds := [], alts := [], laidByText := true, laidKinds := [.data, .data, .data, .data, .sentinel, .sentinel, .pinned], laidTests := true, laidLooks := .later }
def FnSourcesUptoCardSaid : Prop := Claim7.holds Tryz.pinned (.plain (OpenSpec.upto fnSourcesSpec)) fnSourcesUptoCard

/-- THE SECOND FORM's CARD OF 'laws.FnDigitForms'. -/
def fnDigitFormsUptoCard : Claim7 := { stood := { row := fnDigitFormsUptoRow, standIns := [], harness := (true, "12b8cf8f7f699a6adac37a491a8138be14478f98298d0a5b7120de79872c8d19"), looks := true }, kinds := [], alts := [], laidByText := true, laidKinds := [.data, .data, .data, .sentinel, .sentinel], laidTests := true, laidLooks := .later }
def FnDigitFormsUptoCardSaid : Prop := Claim7.holds Tryz.pinned (.plain (OpenSpec.upto fnDigitFormsSpec)) fnDigitFormsUptoCard
end Rows
end Go.Proofs.YtndblondleclpaaGreatDoor
