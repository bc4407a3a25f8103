/-
  DERIVED. GIVEN WITH THE SEED: THE CARDS: each row of YtmnjebhdclmcfaaGreatDoorRows.lean that lists a variable, with what it lists TIED to the program's text (the seventh form; the later family's looks); each row that meets fmt, with fmt's text TOLD by the authors' own Lean function (tested against real Go, not proved from fmt's source: count such statements apart). THE CARD IS WHAT COUNTS. Prove the row's statement (the work); the ties are given (YtmnjebhdclmcfaaGreatDoorTie.lean); close each card by the builder's one call (the guide's Derived/Test/ToyasCard.lean, 'card_holds'). Laid BY PROGRAM, IN A SANDBOX (cutbox-door.mjs). By AI agents, Wed Nov 11 2026. No macro, syntax, notation, axiom, sorry.
-/
import Derived.Test.YtmnjebhdclmcfaaGreatDoorRows
import GoSem.ClaimSeven
namespace Go.Proofs.YtmnjebhdclmcfaaGreatDoor
namespace Rows

/-- THE TIED CARD OF 'cardnetlaw50.BooksKeeps'. -/
def booksKeepsCard : Claim7 := { stood := { row := booksKeepsRow, standIns := [], harness := (true, "025829474b80113d7cf4db423affa9d6cb0fc17a4cff58a9aeecbdaca65f6110"), looks := true }, kinds := [], alts := [], laidByText := true, laidKinds := [.data, .data, .data, .data, .sentinel, .sentinel, .pinned], laidTests := true, laidLooks := .later }
def BooksKeepsCardSaid : Prop := Claim7.holds Tryz.pinned (.plain (OpenSpec.ofChange booksKeepsSpec)) booksKeepsCard

/-- THE SECOND FORM's CARD OF 'cardnetlaw50.BooksKeeps'. -/
def booksKeepsUptoCard : Claim7 := { stood := { row := booksKeepsUptoRow, standIns := [], harness := (true, "025829474b80113d7cf4db423affa9d6cb0fc17a4cff58a9aeecbdaca65f6110"), looks := true }, kinds := [], alts := [], laidByText := true, laidKinds := [.data, .data, .data, .data, .sentinel, .sentinel, .pinned], laidTests := true, laidLooks := .later }
def BooksKeepsUptoCardSaid : Prop := Claim7.holds Tryz.pinned (.plain (OpenSpec.upto booksKeepsSpec)) booksKeepsUptoCard
end Rows
end Go.Proofs.YtmnjebhdclmcfaaGreatDoor
