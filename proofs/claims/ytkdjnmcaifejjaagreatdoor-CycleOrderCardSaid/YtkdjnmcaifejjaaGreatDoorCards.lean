/-
  DERIVED. GIVEN WITH THE SEED: THE CARDS: each row of YtkdjnmcaifejjaaGreatDoorRows.lean that lists a variable, with what it lists TIED to the program's text (the seventh form; the later family's looks); each row that meets fmt, with fmt's text TOLD by the authors' own Lean function (tested against real Go, not proved from fmt's source: count such statements apart). THE CARD IS WHAT COUNTS. Prove the row's statement (the work); the ties are given (YtkdjnmcaifejjaaGreatDoorTie.lean); close each card by the builder's one call (the guide's Derived/Test/ToyasCard.lean, 'card_holds'). Laid BY PROGRAM, IN A SANDBOX (cutbox-door.mjs). By AI agents, Wed Nov 11 2026. No macro, syntax, notation, axiom, sorry.
-/
import Derived.Test.YtkdjnmcaifejjaaGreatDoorRows
import GoSem.ClaimSeven
namespace Go.Proofs.YtkdjnmcaifejjaaGreatDoor
namespace Rows

/-- THE TIED CARD OF 'cardnetlaw42.CyclePlays'. -/
def cyclePlaysCard : Claim7 := { stood := { row := cyclePlaysRow, standIns := [], harness := (true, "13685c6c70f0a58fe9c4ba6906f50645d5c1b56c41a62a06a24290da0ebbaee3"), looks := false }, kinds := [], alts := [], laidByText := true, laidKinds := [.data], laidTests := true, laidLooks := .later }
def CyclePlaysCardSaid : Prop := Claim7.holds Tryz.pinned (.plain (OpenSpec.ofChange cyclePlaysSpec)) cyclePlaysCard

/-- THE TIED CARD OF 'cardnetlaw42.CycleOrder'. -/
def cycleOrderCard : Claim7 := { stood := { row := cycleOrderRow, standIns := [], harness := (true, "13685c6c70f0a58fe9c4ba6906f50645d5c1b56c41a62a06a24290da0ebbaee3"), looks := false }, kinds := [], alts := [], laidByText := true, laidKinds := [.data], laidTests := true, laidLooks := .later }
def CycleOrderCardSaid : Prop := Claim7.holds Tryz.pinned (.plain (OpenSpec.ofChange cycleOrderSpec)) cycleOrderCard

/-- THE SECOND FORM's CARD OF 'cardnetlaw42.CyclePlays'. -/
def cyclePlaysUptoCard : Claim7 := { stood := { row := cyclePlaysUptoRow, standIns := [], harness := (true, "13685c6c70f0a58fe9c4ba6906f50645d5c1b56c41a62a06a24290da0ebbaee3"), looks := false }, kinds := [], alts := [], laidByText := true, laidKinds := [.data], laidTests := true, laidLooks := .later }
def CyclePlaysUptoCardSaid : Prop := Claim7.holds Tryz.pinned (.plain (OpenSpec.upto cyclePlaysSpec)) cyclePlaysUptoCard

/-- THE SECOND FORM's CARD OF 'cardnetlaw42.CycleOrder'. -/
def cycleOrderUptoCard : Claim7 := { stood := { row := cycleOrderUptoRow, standIns := [], harness := (true, "13685c6c70f0a58fe9c4ba6906f50645d5c1b56c41a62a06a24290da0ebbaee3"), looks := false }, kinds := [], alts := [], laidByText := true, laidKinds := [.data], laidTests := true, laidLooks := .later }
def CycleOrderUptoCardSaid : Prop := Claim7.holds Tryz.pinned (.plain (OpenSpec.upto cycleOrderSpec)) cycleOrderUptoCard
end Rows
end Go.Proofs.YtkdjnmcaifejjaaGreatDoor
