/-
  DERIVED. GIVEN WITH THE SEED: THE CARDS: each row of YtakaafolanojkaaDoorRows.lean that lists a variable, with what it lists TIED to the program's text (the seventh form; the later family's looks); each row that meets fmt, with fmt's text TOLD by the authors' own Lean function (tested against real Go, not proved from fmt's source: count such statements apart). THE CARD IS WHAT COUNTS. Prove the row's statement (the work); the ties are given (YtakaafolanojkaaDoorTie.lean); close each card by the builder's one call (the guide's Derived/Test/ToyasCard.lean, 'card_holds'). Laid BY PROGRAM, IN A SANDBOX (cutbox-door.mjs). By AI agents, Wed Nov 11 2026. No macro, syntax, notation, axiom, sorry.
-/
import Derived.Test.YtakaafolanojkaaDoorRows
import GoSem.ClaimSeven
namespace Go.Proofs.YtakaafolanojkaaDoor
namespace Rows

/-- THE TIED CARD OF 'cardnetlaw02.RateTexts'. -/
def rateTextsCard : Claim7 := { stood := { row := rateTextsRow, standIns := [], harness := (true, "aaebe3fb5ba011290189f725db088934cdb98a6bf356c982302c99502b94ffe8"), looks := true }, kinds := [], alts := [], laidByText := true, laidKinds := [.data, .data, .data, .sentinel, .sentinel, .data], laidTests := true, laidLooks := .later }
def RateTextsCardSaid : Prop := Claim7.holds Tryd.pinned (.plain (OpenSpec.ofChange rateTextsSpec)) rateTextsCard

/-- THE SECOND FORM's CARD OF 'cardnetlaw02.RateTexts'. -/
def rateTextsUptoCard : Claim7 := { stood := { row := rateTextsUptoRow, standIns := [], harness := (true, "aaebe3fb5ba011290189f725db088934cdb98a6bf356c982302c99502b94ffe8"), looks := true }, kinds := [], alts := [], laidByText := true, laidKinds := [.data, .data, .data, .sentinel, .sentinel, .data], laidTests := true, laidLooks := .later }
def RateTextsUptoCardSaid : Prop := Claim7.holds Tryd.pinned (.plain (OpenSpec.upto rateTextsSpec)) rateTextsUptoCard
end Rows
end Go.Proofs.YtakaafolanojkaaDoor
