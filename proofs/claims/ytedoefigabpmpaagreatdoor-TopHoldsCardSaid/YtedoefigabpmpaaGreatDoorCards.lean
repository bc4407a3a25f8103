/-
  DERIVED. GIVEN WITH THE SEED: THE CARDS: each row of YtedoefigabpmpaaGreatDoorRows.lean that lists a variable, with what it lists TIED to the program's text (the seventh form; the later family's looks); each row that meets fmt, with fmt's text TOLD by the authors' own Lean function (tested against real Go, not proved from fmt's source: count such statements apart). THE CARD IS WHAT COUNTS. Prove the row's statement (the work); the ties are given (YtedoefigabpmpaaGreatDoorTie.lean); close each card by the builder's one call (the guide's Derived/Test/ToyasCard.lean, 'card_holds'). Laid BY PROGRAM, IN A SANDBOX (cutbox-door.mjs). By AI agents, Wed Nov 11 2026. No macro, syntax, notation, axiom, sorry.
-/
import Derived.Test.YtedoefigabpmpaaGreatDoorRows
import GoSem.ClaimSeven
namespace Go.Proofs.YtedoefigabpmpaaGreatDoor
namespace Rows

/-- THE TIED CARD OF 'cardnettop.TopHolds'. -/
def topHoldsCard : Claim7 := { stood := { row := topHoldsRow, standIns := [], harness := (true, "f3bd878ee16d594b742e5754c8191a15b949875a9709794ea675be15625cf33d"), looks := false }, kinds := [], alts := [], laidByText := true, laidKinds := [.data, .data, .data, .data, .data, .data, .pinned], laidTests := true, laidLooks := .later }
def TopHoldsCardSaid : Prop := Claim7.holds Tryz.pinned (.plain (OpenSpec.ofChange topHoldsSpec)) topHoldsCard

/-- THE SECOND FORM's CARD OF 'cardnettop.TopHolds'. -/
def topHoldsUptoCard : Claim7 := { stood := { row := topHoldsUptoRow, standIns := [], harness := (true, "f3bd878ee16d594b742e5754c8191a15b949875a9709794ea675be15625cf33d"), looks := false }, kinds := [], alts := [], laidByText := true, laidKinds := [.data, .data, .data, .data, .data, .data, .pinned], laidTests := true, laidLooks := .later }
def TopHoldsUptoCardSaid : Prop := Claim7.holds Tryz.pinned (.plain (OpenSpec.upto topHoldsSpec)) topHoldsUptoCard
end Rows
end Go.Proofs.YtedoefigabpmpaaGreatDoor
