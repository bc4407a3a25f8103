/-
  DERIVED. GIVEN WITH THE SEED: THE CARDS: each row of YtjjnbhbendlnhaaDoorRows.lean that lists a variable, with what it lists TIED to the program's text (the seventh form; the later family's looks); each row that meets fmt, with fmt's text TOLD by the authors' own Lean function (tested against real Go, not proved from fmt's source: count such statements apart). THE CARD IS WHAT COUNTS. Prove the row's statement (the work); the ties are given (YtjjnbhbendlnhaaDoorTie.lean); close each card by the builder's one call (the guide's Derived/Test/ToyasCard.lean, 'card_holds'). Laid BY PROGRAM, IN A SANDBOX (cutbox-door.mjs). By AI agents, Wed Nov 11 2026. No macro, syntax, notation, axiom, sorry.
-/
import Derived.Test.YtjjnbhbendlnhaaDoorRows
import GoSem.ClaimSeven
namespace Go.Proofs.YtjjnbhbendlnhaaDoor
namespace Rows

/-- THE TIED CARD OF 'cardnetlaw43.LedgerMany'. -/
def ledgerManyCard : Claim7 := { stood := { row := ledgerManyRow, standIns := [], harness := (true, "c3b82e9435d39a67a74d46dab5d89e75acff5ca92d87acb06b9b8be682f31213"), looks := false }, kinds := [], alts := [], laidByText := true, laidKinds := [.data, .data, .data], laidTests := true, laidLooks := .later }
def LedgerManyCardSaid : Prop := Claim7.holds Tryd.pinned (.plain (OpenSpec.ofChange ledgerManySpec)) ledgerManyCard

/-- THE TIED CARD OF 'cardnetlaw43.LedgerBalances'. -/
def ledgerBalancesCard : Claim7 := { stood := { row := ledgerBalancesRow, standIns := [], harness := (true, "c3b82e9435d39a67a74d46dab5d89e75acff5ca92d87acb06b9b8be682f31213"), looks := false }, kinds := [], alts := [], laidByText := true, laidKinds := [.data, .data, .data], laidTests := true, laidLooks := .later }
def LedgerBalancesCardSaid : Prop := Claim7.holds Tryd.pinned (.plain (OpenSpec.ofChange ledgerBalancesSpec)) ledgerBalancesCard

/-- THE TIED CARD OF 'cardnetlaw43.LedgerReverses'. -/
def ledgerReversesCard : Claim7 := { stood := { row := ledgerReversesRow, standIns := [], harness := (true, "c3b82e9435d39a67a74d46dab5d89e75acff5ca92d87acb06b9b8be682f31213"), looks := false }, kinds := [], alts := [], laidByText := true, laidKinds := [.data, .data, .data], laidTests := true, laidLooks := .later }
def LedgerReversesCardSaid : Prop := Claim7.holds Tryd.pinned (.plain (OpenSpec.ofChange ledgerReversesSpec)) ledgerReversesCard

/-- THE SECOND FORM's CARD OF 'cardnetlaw43.LedgerMany'. -/
def ledgerManyUptoCard : Claim7 := { stood := { row := ledgerManyUptoRow, standIns := [], harness := (true, "c3b82e9435d39a67a74d46dab5d89e75acff5ca92d87acb06b9b8be682f31213"), looks := false }, kinds := [], alts := [], laidByText := true, laidKinds := [.data, .data, .data], laidTests := true, laidLooks := .later }
def LedgerManyUptoCardSaid : Prop := Claim7.holds Tryd.pinned (.plain (OpenSpec.upto ledgerManySpec)) ledgerManyUptoCard

/-- THE SECOND FORM's CARD OF 'cardnetlaw43.LedgerBalances'. -/
def ledgerBalancesUptoCard : Claim7 := { stood := { row := ledgerBalancesUptoRow, standIns := [], harness := (true, "c3b82e9435d39a67a74d46dab5d89e75acff5ca92d87acb06b9b8be682f31213"), looks := false }, kinds := [], alts := [], laidByText := true, laidKinds := [.data, .data, .data], laidTests := true, laidLooks := .later }
def LedgerBalancesUptoCardSaid : Prop := Claim7.holds Tryd.pinned (.plain (OpenSpec.upto ledgerBalancesSpec)) ledgerBalancesUptoCard

/-- THE SECOND FORM's CARD OF 'cardnetlaw43.LedgerReverses'. -/
def ledgerReversesUptoCard : Claim7 := { stood := { row := ledgerReversesUptoRow, standIns := [], harness := (true, "c3b82e9435d39a67a74d46dab5d89e75acff5ca92d87acb06b9b8be682f31213"), looks := false }, kinds := [], alts := [], laidByText := true, laidKinds := [.data, .data, .data], laidTests := true, laidLooks := .later }
def LedgerReversesUptoCardSaid : Prop := Claim7.holds Tryd.pinned (.plain (OpenSpec.upto ledgerReversesSpec)) ledgerReversesUptoCard
end Rows
end Go.Proofs.YtjjnbhbendlnhaaDoor
