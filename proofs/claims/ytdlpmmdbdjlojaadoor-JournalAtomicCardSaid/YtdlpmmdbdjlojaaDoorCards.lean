/-
  DERIVED. GIVEN WITH THE SEED: THE CARDS: each row of YtdlpmmdbdjlojaaDoorRows.lean that lists a variable, with what it lists TIED to the program's text (the seventh form; the later family's looks); each row that meets fmt, with fmt's text TOLD by the authors' own Lean function (tested against real Go, not proved from fmt's source: count such statements apart). THE CARD IS WHAT COUNTS. Prove the row's statement (the work); the ties are given (YtdlpmmdbdjlojaaDoorTie.lean); close each card by the builder's one call (the guide's Derived/Test/ToyasCard.lean, 'card_holds'). Laid BY PROGRAM, IN A SANDBOX (cutbox-door.mjs). By AI agents, Wed Nov 11 2026. No macro, syntax, notation, axiom, sorry.
-/
import Derived.Test.YtdlpmmdbdjlojaaDoorRows
import GoSem.ClaimSeven
namespace Go.Proofs.YtdlpmmdbdjlojaaDoor
namespace Rows

/-- THE TIED CARD OF 'cardnetlaw49.JournalBlocks'. -/
def journalBlocksCard : Claim7 := { stood := { row := journalBlocksRow, standIns := [], harness := (true, "8628a6b73177fd7a035fae8840f8e4dcc89fb70d5683358c7430013d779053a9"), looks := false }, kinds := [], alts := [], laidByText := true, laidKinds := [.data, .data, .data], laidTests := true, laidLooks := .later }
def JournalBlocksCardSaid : Prop := Claim7.holds Tryd.pinned (.plain (OpenSpec.ofChange journalBlocksSpec)) journalBlocksCard

/-- THE TIED CARD OF 'cardnetlaw49.JournalOpens'. -/
def journalOpensCard : Claim7 := { stood := { row := journalOpensRow, standIns := [], harness := (true, "8628a6b73177fd7a035fae8840f8e4dcc89fb70d5683358c7430013d779053a9"), looks := false }, kinds := [], alts := [], laidByText := true, laidKinds := [.data, .data, .data], laidTests := true, laidLooks := .later }
def JournalOpensCardSaid : Prop := Claim7.holds Tryd.pinned (.plain (OpenSpec.ofChange journalOpensSpec)) journalOpensCard

/-- THE TIED CARD OF 'cardnetlaw49.JournalAtomic'. -/
def journalAtomicCard : Claim7 := { stood := { row := journalAtomicRow, standIns := [], harness := (true, "8628a6b73177fd7a035fae8840f8e4dcc89fb70d5683358c7430013d779053a9"), looks := false }, kinds := [], alts := [], laidByText := true, laidKinds := [.data, .data, .data], laidTests := true, laidLooks := .later }
def JournalAtomicCardSaid : Prop := Claim7.holds Tryd.pinned (.plain (OpenSpec.ofChange journalAtomicSpec)) journalAtomicCard

/-- THE SECOND FORM's CARD OF 'cardnetlaw49.JournalBlocks'. -/
def journalBlocksUptoCard : Claim7 := { stood := { row := journalBlocksUptoRow, standIns := [], harness := (true, "8628a6b73177fd7a035fae8840f8e4dcc89fb70d5683358c7430013d779053a9"), looks := false }, kinds := [], alts := [], laidByText := true, laidKinds := [.data, .data, .data], laidTests := true, laidLooks := .later }
def JournalBlocksUptoCardSaid : Prop := Claim7.holds Tryd.pinned (.plain (OpenSpec.upto journalBlocksSpec)) journalBlocksUptoCard

/-- THE SECOND FORM's CARD OF 'cardnetlaw49.JournalOpens'. -/
def journalOpensUptoCard : Claim7 := { stood := { row := journalOpensUptoRow, standIns := [], harness := (true, "8628a6b73177fd7a035fae8840f8e4dcc89fb70d5683358c7430013d779053a9"), looks := false }, kinds := [], alts := [], laidByText := true, laidKinds := [.data, .data, .data], laidTests := true, laidLooks := .later }
def JournalOpensUptoCardSaid : Prop := Claim7.holds Tryd.pinned (.plain (OpenSpec.upto journalOpensSpec)) journalOpensUptoCard

/-- THE SECOND FORM's CARD OF 'cardnetlaw49.JournalAtomic'. -/
def journalAtomicUptoCard : Claim7 := { stood := { row := journalAtomicUptoRow, standIns := [], harness := (true, "8628a6b73177fd7a035fae8840f8e4dcc89fb70d5683358c7430013d779053a9"), looks := false }, kinds := [], alts := [], laidByText := true, laidKinds := [.data, .data, .data], laidTests := true, laidLooks := .later }
def JournalAtomicUptoCardSaid : Prop := Claim7.holds Tryd.pinned (.plain (OpenSpec.upto journalAtomicSpec)) journalAtomicUptoCard
end Rows
end Go.Proofs.YtdlpmmdbdjlojaaDoor
