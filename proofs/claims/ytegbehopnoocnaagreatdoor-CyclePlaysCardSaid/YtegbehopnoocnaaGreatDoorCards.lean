/-
  DERIVED. GIVEN WITH THE SEED: THE CARDS: each row of YtegbehopnoocnaaGreatDoorRows.lean that lists a variable, with what it lists TIED to the program's text (the seventh form; the later family's looks); each row that meets fmt, with fmt's text TOLD by the authors' own Lean function (tested against real Go, not proved from fmt's source: count such statements apart). THE CARD IS WHAT COUNTS. Prove the row's statement (the work); the ties are given (YtegbehopnoocnaaGreatDoorTie.lean); close each card by the builder's one call (the guide's Derived/Test/ToyasCard.lean, 'card_holds'). Laid BY PROGRAM, IN A SANDBOX (cutbox-door.mjs). By AI agents, Wed Nov 11 2026. No macro, syntax, notation, axiom, sorry.
-/
import Derived.Test.YtegbehopnoocnaaGreatDoorRows
import GoSem.ClaimSeven
namespace Go.Proofs.YtegbehopnoocnaaGreatDoor
namespace Rows

/-- THE TIED CARD OF 'cardnetlaw42.CyclePlays'. -/
def cyclePlaysCard : Claim7 := { stood := { row := cyclePlaysRow, standIns := [], harness := (true, "af032dbdf9c61ac8b35521f23c152faa186b81d8f4ed149143db0ab7b50143d8"), looks := false }, kinds := [], alts := [], laidByText := true, laidKinds := [.data], laidTests := true, laidLooks := .later }
def CyclePlaysCardSaid : Prop := Claim7.holds Tryz.pinned (.plain (OpenSpec.ofChange cyclePlaysSpec)) cyclePlaysCard

/-- THE SECOND FORM's CARD OF 'cardnetlaw42.CyclePlays'. -/
def cyclePlaysUptoCard : Claim7 := { stood := { row := cyclePlaysUptoRow, standIns := [], harness := (true, "af032dbdf9c61ac8b35521f23c152faa186b81d8f4ed149143db0ab7b50143d8"), looks := false }, kinds := [], alts := [], laidByText := true, laidKinds := [.data], laidTests := true, laidLooks := .later }
def CyclePlaysUptoCardSaid : Prop := Claim7.holds Tryz.pinned (.plain (OpenSpec.upto cyclePlaysSpec)) cyclePlaysUptoCard
end Rows
end Go.Proofs.YtegbehopnoocnaaGreatDoor
