/-
  DERIVED. GIVEN WITH THE SEED: THE CARDS: each row of YthmggifndkcboaaGreatDoorRows.lean that lists a variable, with what it lists TIED to the program's text (the seventh form; the later family's looks); each row that meets fmt, with fmt's text TOLD by the authors' own Lean function (tested against real Go, not proved from fmt's source: count such statements apart). THE CARD IS WHAT COUNTS. Prove the row's statement (the work); the ties are given (YthmggifndkcboaaGreatDoorTie.lean); close each card by the builder's one call (the guide's Derived/Test/ToyasCard.lean, 'card_holds'). Laid BY PROGRAM, IN A SANDBOX (cutbox-door.mjs). By AI agents, Wed Nov 11 2026. No macro, syntax, notation, axiom, sorry.
-/
import Derived.Test.YthmggifndkcboaaGreatDoorRows
import GoSem.ClaimSeven
namespace Go.Proofs.YthmggifndkcboaaGreatDoor
namespace Rows

/-- THE TIED CARD OF 'cardnetlaw50.BooksZero'. -/
def booksZeroCard : Claim7 := { stood := { row := booksZeroRow, standIns := [], harness := (true, "561f43f76336a1eb8e61859a983bbe4016fedf49c592e9a5d0c2ede3595e034b"), looks := true }, kinds := [], alts := [], laidByText := true, laidKinds := [.data, .data, .data], laidTests := true, laidLooks := .later }
def BooksZeroCardSaid : Prop := Claim7.holds Tryz.pinned (.plain (OpenSpec.ofChange booksZeroSpec)) booksZeroCard

/-- THE TIED CARD OF 'cardnetlaw50.BooksPlays'. -/
def booksPlaysCard : Claim7 := { stood := { row := booksPlaysRow, standIns := [], harness := (true, "561f43f76336a1eb8e61859a983bbe4016fedf49c592e9a5d0c2ede3595e034b"), looks := true }, kinds := [], alts := [], laidByText := true, laidKinds := [.data, .data, .data], laidTests := true, laidLooks := .later }
def BooksPlaysCardSaid : Prop := Claim7.holds Tryz.pinned (.plain (OpenSpec.ofChange booksPlaysSpec)) booksPlaysCard

/-- THE TIED CARD OF 'cardnetlaw50.BooksRebuild'. -/
def booksRebuildCard : Claim7 := { stood := { row := booksRebuildRow, standIns := [], harness := (true, "561f43f76336a1eb8e61859a983bbe4016fedf49c592e9a5d0c2ede3595e034b"), looks := true }, kinds := [], alts := [], laidByText := true, laidKinds := [.data, .data, .data, .data, .sentinel, .sentinel, .pinned], laidTests := true, laidLooks := .later }
def BooksRebuildCardSaid : Prop := Claim7.holds Tryz.pinned (.plain (OpenSpec.ofChange booksRebuildSpec)) booksRebuildCard

/-- THE TIED CARD OF 'cardnetlaw50.BooksKeeps'. -/
def booksKeepsCard : Claim7 := { stood := { row := booksKeepsRow, standIns := [], harness := (true, "561f43f76336a1eb8e61859a983bbe4016fedf49c592e9a5d0c2ede3595e034b"), looks := true }, kinds := [], alts := [], laidByText := true, laidKinds := [.data, .data, .data, .data, .sentinel, .sentinel, .pinned], laidTests := true, laidLooks := .later }
def BooksKeepsCardSaid : Prop := Claim7.holds Tryz.pinned (.plain (OpenSpec.ofChange booksKeepsSpec)) booksKeepsCard

/-- THE TIED CARD OF 'cardnetlaw50.BooksGroups'. -/
def booksGroupsCard : Claim7 := { stood := { row := booksGroupsRow, standIns := [], harness := (true, "561f43f76336a1eb8e61859a983bbe4016fedf49c592e9a5d0c2ede3595e034b"), looks := true }, kinds := [], alts := [], laidByText := true, laidKinds := [.data, .data, .data, .data, .sentinel, .sentinel, .pinned], laidTests := true, laidLooks := .later }
def BooksGroupsCardSaid : Prop := Claim7.holds Tryz.pinned (.plain (OpenSpec.ofChange booksGroupsSpec)) booksGroupsCard

/-- THE SECOND FORM's CARD OF 'cardnetlaw50.BooksZero'. -/
def booksZeroUptoCard : Claim7 := { stood := { row := booksZeroUptoRow, standIns := [], harness := (true, "561f43f76336a1eb8e61859a983bbe4016fedf49c592e9a5d0c2ede3595e034b"), looks := true }, kinds := [], alts := [], laidByText := true, laidKinds := [.data, .data, .data], laidTests := true, laidLooks := .later }
def BooksZeroUptoCardSaid : Prop := Claim7.holds Tryz.pinned (.plain (OpenSpec.upto booksZeroSpec)) booksZeroUptoCard

/-- THE SECOND FORM's CARD OF 'cardnetlaw50.BooksPlays'. -/
def booksPlaysUptoCard : Claim7 := { stood := { row := booksPlaysUptoRow, standIns := [], harness := (true, "561f43f76336a1eb8e61859a983bbe4016fedf49c592e9a5d0c2ede3595e034b"), looks := true }, kinds := [], alts := [], laidByText := true, laidKinds := [.data, .data, .data], laidTests := true, laidLooks := .later }
def BooksPlaysUptoCardSaid : Prop := Claim7.holds Tryz.pinned (.plain (OpenSpec.upto booksPlaysSpec)) booksPlaysUptoCard

/-- THE SECOND FORM's CARD OF 'cardnetlaw50.BooksRebuild'. -/
def booksRebuildUptoCard : Claim7 := { stood := { row := booksRebuildUptoRow, standIns := [], harness := (true, "561f43f76336a1eb8e61859a983bbe4016fedf49c592e9a5d0c2ede3595e034b"), looks := true }, kinds := [], alts := [], laidByText := true, laidKinds := [.data, .data, .data, .data, .sentinel, .sentinel, .pinned], laidTests := true, laidLooks := .later }
def BooksRebuildUptoCardSaid : Prop := Claim7.holds Tryz.pinned (.plain (OpenSpec.upto booksRebuildSpec)) booksRebuildUptoCard

/-- THE SECOND FORM's CARD OF 'cardnetlaw50.BooksKeeps'. -/
def booksKeepsUptoCard : Claim7 := { stood := { row := booksKeepsUptoRow, standIns := [], harness := (true, "561f43f76336a1eb8e61859a983bbe4016fedf49c592e9a5d0c2ede3595e034b"), looks := true }, kinds := [], alts := [], laidByText := true, laidKinds := [.data, .data, .data, .data, .sentinel, .sentinel, .pinned], laidTests := true, laidLooks := .later }
def BooksKeepsUptoCardSaid : Prop := Claim7.holds Tryz.pinned (.plain (OpenSpec.upto booksKeepsSpec)) booksKeepsUptoCard

/-- THE SECOND FORM's CARD OF 'cardnetlaw50.BooksGroups'. -/
def booksGroupsUptoCard : Claim7 := { stood := { row := booksGroupsUptoRow, standIns := [], harness := (true, "561f43f76336a1eb8e61859a983bbe4016fedf49c592e9a5d0c2ede3595e034b"), looks := true }, kinds := [], alts := [], laidByText := true, laidKinds := [.data, .data, .data, .data, .sentinel, .sentinel, .pinned], laidTests := true, laidLooks := .later }
def BooksGroupsUptoCardSaid : Prop := Claim7.holds Tryz.pinned (.plain (OpenSpec.upto booksGroupsSpec)) booksGroupsUptoCard
end Rows
end Go.Proofs.YthmggifndkcboaaGreatDoor
