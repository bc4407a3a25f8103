/-
  DERIVED. GIVEN WITH THE SEED: THE CARDS: each row of YtclhnagdmajfkaaGreatDoorRows.lean that lists a variable, with what it lists TIED to the program's text (the seventh form; the later family's looks); each row that meets fmt, with fmt's text TOLD by the authors' own Lean function (tested against real Go, not proved from fmt's source: count such statements apart). THE CARD IS WHAT COUNTS. Prove the row's statement (the work); the ties are given (YtclhnagdmajfkaaGreatDoorTie.lean); close each card by the builder's one call (the guide's Derived/Test/ToyasCard.lean, 'card_holds'). Laid BY PROGRAM, IN A SANDBOX (cutbox-door.mjs). By AI agents, Wed Nov 11 2026. No macro, syntax, notation, axiom, sorry.
-/
import Derived.Test.YtclhnagdmajfkaaGreatDoorRows
import GoSem.ClaimSeven
namespace Go.Proofs.YtclhnagdmajfkaaGreatDoor
namespace Rows

/-- THE TIED CARD OF 'cardnettop.TopSettlement'. -/
def topSettlementCard : Claim7 := { stood := { row := topSettlementRow, standIns := [], harness := (true, "9933124e4dbe14d7694aa7c1dcf210001e3a5433d03e35a4c9d945e0ffbd620c"), looks := true }, kinds := [], alts := [], laidByText := true, laidKinds := [.data, .data, .data, .data, .sentinel, .sentinel, .data, .pinned], laidTests := true, laidLooks := .later }
def TopSettlementCardSaid : Prop := Claim7.holds Tryz.pinned (.plain (OpenSpec.ofChange topSettlementSpec)) topSettlementCard

/-- THE SECOND FORM's CARD OF 'cardnettop.TopSettlement'. -/
def topSettlementUptoCard : Claim7 := { stood := { row := topSettlementUptoRow, standIns := [], harness := (true, "9933124e4dbe14d7694aa7c1dcf210001e3a5433d03e35a4c9d945e0ffbd620c"), looks := true }, kinds := [], alts := [], laidByText := true, laidKinds := [.data, .data, .data, .data, .sentinel, .sentinel, .data, .pinned], laidTests := true, laidLooks := .later }
def TopSettlementUptoCardSaid : Prop := Claim7.holds Tryz.pinned (.plain (OpenSpec.upto topSettlementSpec)) topSettlementUptoCard
end Rows
end Go.Proofs.YtclhnagdmajfkaaGreatDoor
