/-
  DERIVED. GIVEN WITH THE SEED: THE CARDS: each row of YtkbidlijinclcaaGreatDoorRows.lean that lists a variable, with what it lists TIED to the program's text (the seventh form; the later family's looks); each row that meets fmt, with fmt's text TOLD by the authors' own Lean function (tested against real Go, not proved from fmt's source: count such statements apart). THE CARD IS WHAT COUNTS. Prove the row's statement (the work); the ties are given (YtkbidlijinclcaaGreatDoorTie.lean); close each card by the builder's one call (the guide's Derived/Test/ToyasCard.lean, 'card_holds'). Laid BY PROGRAM, IN A SANDBOX (cutbox-door.mjs). By AI agents, Wed Nov 11 2026. No macro, syntax, notation, axiom, sorry.
-/
import Derived.Test.YtkbidlijinclcaaGreatDoorRows
import GoSem.ClaimSeven
namespace Go.Proofs.YtkbidlijinclcaaGreatDoor
namespace Rows

/-- THE TIED CARD OF 'cardnetlaw40.PositionMoves'. -/
def positionMovesCard : Claim7 := { stood := { row := positionMovesRow, standIns := [], harness := (true, "2c209f8a386ff96ce70d504cc301978830ce6fbd8191c87c70da1cd6fb8cf28f"), looks := false }, kinds := [], alts := [], laidByText := true, laidKinds := [.data], laidTests := true, laidLooks := .later }
def PositionMovesCardSaid : Prop := Claim7.holds Tryz.pinned (.plain (OpenSpec.ofChange positionMovesSpec)) positionMovesCard

/-- THE TIED CARD OF 'cardnetlaw40.PositionConverts'. -/
def positionConvertsCard : Claim7 := { stood := { row := positionConvertsRow, standIns := [], harness := (true, "2c209f8a386ff96ce70d504cc301978830ce6fbd8191c87c70da1cd6fb8cf28f"), looks := false }, kinds := [], alts := [], laidByText := true, laidKinds := [.data], laidTests := true, laidLooks := .later }
def PositionConvertsCardSaid : Prop := Claim7.holds Tryz.pinned (.plain (OpenSpec.ofChange positionConvertsSpec)) positionConvertsCard

/-- THE SECOND FORM's CARD OF 'cardnetlaw40.PositionMoves'. -/
def positionMovesUptoCard : Claim7 := { stood := { row := positionMovesUptoRow, standIns := [], harness := (true, "2c209f8a386ff96ce70d504cc301978830ce6fbd8191c87c70da1cd6fb8cf28f"), looks := false }, kinds := [], alts := [], laidByText := true, laidKinds := [.data], laidTests := true, laidLooks := .later }
def PositionMovesUptoCardSaid : Prop := Claim7.holds Tryz.pinned (.plain (OpenSpec.upto positionMovesSpec)) positionMovesUptoCard

/-- THE SECOND FORM's CARD OF 'cardnetlaw40.PositionConverts'. -/
def positionConvertsUptoCard : Claim7 := { stood := { row := positionConvertsUptoRow, standIns := [], harness := (true, "2c209f8a386ff96ce70d504cc301978830ce6fbd8191c87c70da1cd6fb8cf28f"), looks := false }, kinds := [], alts := [], laidByText := true, laidKinds := [.data], laidTests := true, laidLooks := .later }
def PositionConvertsUptoCardSaid : Prop := Claim7.holds Tryz.pinned (.plain (OpenSpec.upto positionConvertsSpec)) positionConvertsUptoCard
end Rows
end Go.Proofs.YtkbidlijinclcaaGreatDoor
