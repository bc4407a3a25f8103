/-
  DERIVED. GIVEN WITH THE SEED: THE CARDS: each row of YtpkaeknigknbgaaGreatDoorRows.lean that lists a variable, with what it lists TIED to the program's text (the seventh form; the later family's looks); each row that meets fmt, with fmt's text TOLD by the authors' own Lean function (tested against real Go, not proved from fmt's source: count such statements apart). THE CARD IS WHAT COUNTS. Prove the row's statement (the work); the ties are given (YtpkaeknigknbgaaGreatDoorTie.lean); close each card by the builder's one call (the guide's Derived/Test/ToyasCard.lean, 'card_holds'). Laid BY PROGRAM, IN A SANDBOX (cutbox-door.mjs). By AI agents, Wed Nov 11 2026. No macro, syntax, notation, axiom, sorry.
-/
import Derived.Test.YtpkaeknigknbgaaGreatDoorRows
import GoSem.ClaimSeven
namespace Go.Proofs.YtpkaeknigknbgaaGreatDoor
namespace Rows

/-- THE TIED CARD OF 'cardnetlaw50.BooksPlays'. -/
def booksPlaysCard : Claim7 := { stood := { row := booksPlaysRow, standIns := [], harness := (true, "964be816b15f1f298226e901a6af4c71831835a07742aecf7b0482062ae52892"), looks := false }, kinds := [], alts := [], laidByText := true, laidKinds := [.data, .data, .data], laidTests := true, laidLooks := .later }
def BooksPlaysCardSaid : Prop := Claim7.holds Tryz.pinned (.plain (OpenSpec.ofChange booksPlaysSpec)) booksPlaysCard

/-- THE SECOND FORM's CARD OF 'cardnetlaw50.BooksPlays'. -/
def booksPlaysUptoCard : Claim7 := { stood := { row := booksPlaysUptoRow, standIns := [], harness := (true, "964be816b15f1f298226e901a6af4c71831835a07742aecf7b0482062ae52892"), looks := false }, kinds := [], alts := [], laidByText := true, laidKinds := [.data, .data, .data], laidTests := true, laidLooks := .later }
def BooksPlaysUptoCardSaid : Prop := Claim7.holds Tryz.pinned (.plain (OpenSpec.upto booksPlaysSpec)) booksPlaysUptoCard
end Rows
end Go.Proofs.YtpkaeknigknbgaaGreatDoor
