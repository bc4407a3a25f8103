/-
  DERIVED. GIVEN WITH THE SEED: THE CARDS: each row of YtkbidlijinclcaaDoorRows.lean that lists a variable, with what it lists TIED to the program's text (the seventh form; the later family's looks); each row that meets fmt, with fmt's text TOLD by the authors' own Lean function (tested against real Go, not proved from fmt's source: count such statements apart). THE CARD IS WHAT COUNTS. Prove the row's statement (the work); the ties are given (YtkbidlijinclcaaDoorTie.lean); close each card by the builder's one call (the guide's Derived/Test/ToyasCard.lean, 'card_holds'). Laid BY PROGRAM, IN A SANDBOX (cutbox-door.mjs). By AI agents, Wed Nov 11 2026. No macro, syntax, notation, axiom, sorry.
-/
import Derived.Test.YtkbidlijinclcaaDoorRows
import GoSem.ClaimSeven
namespace Go.Proofs.YtkbidlijinclcaaDoor
namespace Rows

/-- THE TIED CARD OF 'cardnetlaw40.PositionSums'. -/
def positionSumsCard : Claim7 := { stood := { row := positionSumsRow, standIns := [], harness := (true, "b762890cf012a4010ebf1abd7ad73a540eb53bde2f302704b25484c149ec96d4"), looks := false }, kinds := [], alts := [], laidByText := true, laidKinds := [.data], laidTests := true, laidLooks := .later }
def PositionSumsCardSaid : Prop := Claim7.holds Tryd.pinned (.plain (OpenSpec.ofChange positionSumsSpec)) positionSumsCard

/-- THE TIED CARD OF 'cardnetlaw40.PositionOrder'. -/
def positionOrderCard : Claim7 := { stood := { row := positionOrderRow, standIns := [], harness := (true, "b762890cf012a4010ebf1abd7ad73a540eb53bde2f302704b25484c149ec96d4"), looks := false }, kinds := [], alts := [], laidByText := true, laidKinds := [.data], laidTests := true, laidLooks := .later }
def PositionOrderCardSaid : Prop := Claim7.holds Tryd.pinned (.plain (OpenSpec.ofChange positionOrderSpec)) positionOrderCard

/-- THE TIED CARD OF 'cardnetlaw40.PositionZero'. -/
def positionZeroCard : Claim7 := { stood := { row := positionZeroRow, standIns := [], harness := (true, "b762890cf012a4010ebf1abd7ad73a540eb53bde2f302704b25484c149ec96d4"), looks := false }, kinds := [], alts := [], laidByText := true, laidKinds := [.data], laidTests := true, laidLooks := .later }
def PositionZeroCardSaid : Prop := Claim7.holds Tryd.pinned (.plain (OpenSpec.ofChange positionZeroSpec)) positionZeroCard

/-- THE SECOND FORM's CARD OF 'cardnetlaw40.PositionSums'. -/
def positionSumsUptoCard : Claim7 := { stood := { row := positionSumsUptoRow, standIns := [], harness := (true, "b762890cf012a4010ebf1abd7ad73a540eb53bde2f302704b25484c149ec96d4"), looks := false }, kinds := [], alts := [], laidByText := true, laidKinds := [.data], laidTests := true, laidLooks := .later }
def PositionSumsUptoCardSaid : Prop := Claim7.holds Tryd.pinned (.plain (OpenSpec.upto positionSumsSpec)) positionSumsUptoCard

/-- THE SECOND FORM's CARD OF 'cardnetlaw40.PositionOrder'. -/
def positionOrderUptoCard : Claim7 := { stood := { row := positionOrderUptoRow, standIns := [], harness := (true, "b762890cf012a4010ebf1abd7ad73a540eb53bde2f302704b25484c149ec96d4"), looks := false }, kinds := [], alts := [], laidByText := true, laidKinds := [.data], laidTests := true, laidLooks := .later }
def PositionOrderUptoCardSaid : Prop := Claim7.holds Tryd.pinned (.plain (OpenSpec.upto positionOrderSpec)) positionOrderUptoCard

/-- THE SECOND FORM's CARD OF 'cardnetlaw40.PositionZero'. -/
def positionZeroUptoCard : Claim7 := { stood := { row := positionZeroUptoRow, standIns := [], harness := (true, "b762890cf012a4010ebf1abd7ad73a540eb53bde2f302704b25484c149ec96d4"), looks := false }, kinds := [], alts := [], laidByText := true, laidKinds := [.data], laidTests := true, laidLooks := .later }
def PositionZeroUptoCardSaid : Prop := Claim7.holds Tryd.pinned (.plain (OpenSpec.upto positionZeroSpec)) positionZeroUptoCard
end Rows
end Go.Proofs.YtkbidlijinclcaaDoor
