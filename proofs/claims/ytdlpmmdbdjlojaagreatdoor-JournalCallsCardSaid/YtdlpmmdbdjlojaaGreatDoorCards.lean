/-
  DERIVED. GIVEN WITH THE SEED: THE CARDS: each row of YtdlpmmdbdjlojaaGreatDoorRows.lean that lists a variable, with what it lists TIED to the program's text (the seventh form; the later family's looks); each row that meets fmt, with fmt's text TOLD by the authors' own Lean function (tested against real Go, not proved from fmt's source: count such statements apart). THE CARD IS WHAT COUNTS. Prove the row's statement (the work); the ties are given (YtdlpmmdbdjlojaaGreatDoorTie.lean); close each card by the builder's one call (the guide's Derived/Test/ToyasCard.lean, 'card_holds'). Laid BY PROGRAM, IN A SANDBOX (cutbox-door.mjs). By AI agents, Wed Nov 11 2026. No macro, syntax, notation, axiom, sorry.
-/
import Derived.Test.YtdlpmmdbdjlojaaGreatDoorRows
import GoSem.ClaimSeven
namespace Go.Proofs.YtdlpmmdbdjlojaaGreatDoor
namespace Rows

/-- THE TIED CARD OF 'cardnetlaw49.JournalCalls'. -/
def journalCallsCard : Claim7 := { stood := { row := journalCallsRow, standIns := [], harness := (true, "15e0296f69814b4d725b34ce6ae6f5de2394f82d56a80f9c782499c09b019e52"), looks := false }, kinds := [], alts := [], laidByText := true, laidKinds := [.data, .data, .data], laidTests := true, laidLooks := .later }
def JournalCallsCardSaid : Prop := Claim7.holds Tryz.pinned (.plain (OpenSpec.ofChange journalCallsSpec)) journalCallsCard

/-- THE SECOND FORM's CARD OF 'cardnetlaw49.JournalCalls'. -/
def journalCallsUptoCard : Claim7 := { stood := { row := journalCallsUptoRow, standIns := [], harness := (true, "15e0296f69814b4d725b34ce6ae6f5de2394f82d56a80f9c782499c09b019e52"), looks := false }, kinds := [], alts := [], laidByText := true, laidKinds := [.data, .data, .data], laidTests := true, laidLooks := .later }
def JournalCallsUptoCardSaid : Prop := Claim7.holds Tryz.pinned (.plain (OpenSpec.upto journalCallsSpec)) journalCallsUptoCard
end Rows
end Go.Proofs.YtdlpmmdbdjlojaaGreatDoor
