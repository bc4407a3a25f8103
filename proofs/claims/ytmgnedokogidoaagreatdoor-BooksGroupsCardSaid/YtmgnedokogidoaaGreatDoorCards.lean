/-
  DERIVED. GIVEN WITH THE SEED: THE CARDS: each row of YtmgnedokogidoaaGreatDoorRows.lean that lists a variable, with what it lists TIED to the program's text (the seventh form; the later family's looks); each row that meets fmt, with fmt's text TOLD by the authors' own Lean function (tested against real Go, not proved from fmt's source: count such statements apart). THE CARD IS WHAT COUNTS. Prove the row's statement (the work); the ties are given (YtmgnedokogidoaaGreatDoorTie.lean); close each card by the builder's one call (the guide's Derived/Test/ToyasCard.lean, 'card_holds'). Laid BY PROGRAM, IN A SANDBOX (cutbox-door.mjs). By AI agents, Wed Nov 11 2026. No macro, syntax, notation, axiom, sorry.
-/
import Derived.Test.YtmgnedokogidoaaGreatDoorRows
import GoSem.ClaimSeven
namespace Go.Proofs.YtmgnedokogidoaaGreatDoor
namespace Rows

/-- THE TIED CARD OF 'cardnetlaw50.BooksGroups'. -/
def booksGroupsCard : Claim7 := { stood := { row := booksGroupsRow, standIns := [], harness := (true, "4630e3e92a43aa9e5b4567ae44647572b10a5d8aaa19b5399349ce74372fb917"), looks := true }, kinds := [], alts := [], laidByText := true, laidKinds := [.data, .data, .data, .data, .sentinel, .sentinel, .pinned], laidTests := true, laidLooks := .later }
def BooksGroupsCardSaid : Prop := Claim7.holds Tryz.pinned (.plain (OpenSpec.ofChange booksGroupsSpec)) booksGroupsCard

/-- THE SECOND FORM's CARD OF 'cardnetlaw50.BooksGroups'. -/
def booksGroupsUptoCard : Claim7 := { stood := { row := booksGroupsUptoRow, standIns := [], harness := (true, "4630e3e92a43aa9e5b4567ae44647572b10a5d8aaa19b5399349ce74372fb917"), looks := true }, kinds := [], alts := [], laidByText := true, laidKinds := [.data, .data, .data, .data, .sentinel, .sentinel, .pinned], laidTests := true, laidLooks := .later }
def BooksGroupsUptoCardSaid : Prop := Claim7.holds Tryz.pinned (.plain (OpenSpec.upto booksGroupsSpec)) booksGroupsUptoCard
end Rows
end Go.Proofs.YtmgnedokogidoaaGreatDoor
