/-
  DERIVED. GIVEN WITH THE SEED: THE CARDS: each row of YtlankgapiecloaaGreatDoorRows.lean that lists a variable, with what it lists TIED to the program's text (the seventh form; the later family's looks); each row that meets fmt, with fmt's text TOLD by the authors' own Lean function (tested against real Go, not proved from fmt's source: count such statements apart). THE CARD IS WHAT COUNTS. Prove the row's statement (the work); the ties are given (YtlankgapiecloaaGreatDoorTie.lean); close each card by the builder's one call (the guide's Derived/Test/ToyasCard.lean, 'card_holds'). Laid BY PROGRAM, IN A SANDBOX (cutbox-door.mjs). By AI agents, Wed Nov 11 2026. No macro, syntax, notation, axiom, sorry.
-/
import Derived.Test.YtlankgapiecloaaGreatDoorRows
import GoSem.ClaimSeven
namespace Go.Proofs.YtlankgapiecloaaGreatDoor
namespace Rows

/-- THE TIED CARD OF 'cardnetlaw50.BooksRebuild'. -/
def booksRebuildCard : Claim7 := { stood := { row := booksRebuildRow, standIns := [], harness := (true, "dfe748f39d0d85d54516f7fd6320b7660e38bb31944988fcd8ebdcbfc94054b1"), looks := true }, kinds := [], alts := [], laidByText := true, laidKinds := [.data, .data, .data, .data, .sentinel, .sentinel, .pinned], laidTests := true, laidLooks := .later }
def BooksRebuildCardSaid : Prop := Claim7.holds Tryz.pinned (.plain (OpenSpec.ofChange booksRebuildSpec)) booksRebuildCard

/-- THE SECOND FORM's CARD OF 'cardnetlaw50.BooksRebuild'. -/
def booksRebuildUptoCard : Claim7 := { stood := { row := booksRebuildUptoRow, standIns := [], harness := (true, "dfe748f39d0d85d54516f7fd6320b7660e38bb31944988fcd8ebdcbfc94054b1"), looks := true }, kinds := [], alts := [], laidByText := true, laidKinds := [.data, .data, .data, .data, .sentinel, .sentinel, .pinned], laidTests := true, laidLooks := .later }
def BooksRebuildUptoCardSaid : Prop := Claim7.holds Tryz.pinned (.plain (OpenSpec.upto booksRebuildSpec)) booksRebuildUptoCard
end Rows
end Go.Proofs.YtlankgapiecloaaGreatDoor
