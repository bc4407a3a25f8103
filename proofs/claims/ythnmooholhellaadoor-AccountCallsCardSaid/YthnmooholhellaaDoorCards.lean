/-
  DERIVED. GIVEN WITH THE SEED: THE CARDS: each row of YthnmooholhellaaDoorRows.lean that lists a variable, with what it lists TIED to the program's text (the seventh form; the later family's looks); each row that meets fmt, with fmt's text TOLD by the authors' own Lean function (tested against real Go, not proved from fmt's source: count such statements apart). THE CARD IS WHAT COUNTS. Prove the row's statement (the work); the ties are given (YthnmooholhellaaDoorTie.lean); close each card by the builder's one call (the guide's Derived/Test/ToyasCard.lean, 'card_holds'). Laid BY PROGRAM, IN A SANDBOX (cutbox-door.mjs). By AI agents, Wed Nov 11 2026. No macro, syntax, notation, axiom, sorry.
-/
import Derived.Test.YthnmooholhellaaDoorRows
import GoSem.ClaimSeven
namespace Go.Proofs.YthnmooholhellaaDoor
namespace Rows

/-- THE TIED CARD OF 'cardnetlaw13.AccountReleases'. -/
def accountReleasesCard : Claim7 := { stood := { row := accountReleasesRow, standIns := [], harness := (true, "a5599212ed53620f36b0a8d3568e0a380b64c3d12817545778d4fa5036930234"), looks := false }, kinds := [], alts := [], laidByText := true, laidKinds := [.data], laidTests := true, laidLooks := .later }
def AccountReleasesCardSaid : Prop := Claim7.holds Tryd.pinned (.plain (OpenSpec.ofChange accountReleasesSpec)) accountReleasesCard

/-- THE TIED CARD OF 'cardnetlaw13.AccountOrder'. -/
def accountOrderCard : Claim7 := { stood := { row := accountOrderRow, standIns := [], harness := (true, "a5599212ed53620f36b0a8d3568e0a380b64c3d12817545778d4fa5036930234"), looks := false }, kinds := [], alts := [], laidByText := true, laidKinds := [.data], laidTests := true, laidLooks := .later }
def AccountOrderCardSaid : Prop := Claim7.holds Tryd.pinned (.plain (OpenSpec.ofChange accountOrderSpec)) accountOrderCard

/-- THE TIED CARD OF 'cardnetlaw13.AccountFunds'. -/
def accountFundsCard : Claim7 := { stood := { row := accountFundsRow, standIns := [], harness := (true, "a5599212ed53620f36b0a8d3568e0a380b64c3d12817545778d4fa5036930234"), looks := false }, kinds := [], alts := [], laidByText := true, laidKinds := [.data], laidTests := true, laidLooks := .later }
def AccountFundsCardSaid : Prop := Claim7.holds Tryd.pinned (.plain (OpenSpec.ofChange accountFundsSpec)) accountFundsCard

/-- THE TIED CARD OF 'cardnetlaw13.AccountCalls'. -/
def accountCallsCard : Claim7 := { stood := { row := accountCallsRow, standIns := [], harness := (true, "a5599212ed53620f36b0a8d3568e0a380b64c3d12817545778d4fa5036930234"), looks := false }, kinds := [], alts := [], laidByText := true, laidKinds := [.data], laidTests := true, laidLooks := .later }
def AccountCallsCardSaid : Prop := Claim7.holds Tryd.pinned (.plain (OpenSpec.ofChange accountCallsSpec)) accountCallsCard

/-- THE TIED CARD OF 'cardnetlaw13.AccountConserves'. -/
def accountConservesCard : Claim7 := { stood := { row := accountConservesRow, standIns := [], harness := (true, "a5599212ed53620f36b0a8d3568e0a380b64c3d12817545778d4fa5036930234"), looks := false }, kinds := [], alts := [], laidByText := true, laidKinds := [.data], laidTests := true, laidLooks := .later }
def AccountConservesCardSaid : Prop := Claim7.holds Tryd.pinned (.plain (OpenSpec.ofChange accountConservesSpec)) accountConservesCard

/-- THE TIED CARD OF 'cardnetlaw13.AccountNobody'. -/
def accountNobodyCard : Claim7 := { stood := { row := accountNobodyRow, standIns := [], harness := (true, "a5599212ed53620f36b0a8d3568e0a380b64c3d12817545778d4fa5036930234"), looks := false }, kinds := [], alts := [], laidByText := true, laidKinds := [.data], laidTests := true, laidLooks := .later }
def AccountNobodyCardSaid : Prop := Claim7.holds Tryd.pinned (.plain (OpenSpec.ofChange accountNobodySpec)) accountNobodyCard

/-- THE SECOND FORM's CARD OF 'cardnetlaw13.AccountReleases'. -/
def accountReleasesUptoCard : Claim7 := { stood := { row := accountReleasesUptoRow, standIns := [], harness := (true, "a5599212ed53620f36b0a8d3568e0a380b64c3d12817545778d4fa5036930234"), looks := false }, kinds := [], alts := [], laidByText := true, laidKinds := [.data], laidTests := true, laidLooks := .later }
def AccountReleasesUptoCardSaid : Prop := Claim7.holds Tryd.pinned (.plain (OpenSpec.upto accountReleasesSpec)) accountReleasesUptoCard

/-- THE SECOND FORM's CARD OF 'cardnetlaw13.AccountOrder'. -/
def accountOrderUptoCard : Claim7 := { stood := { row := accountOrderUptoRow, standIns := [], harness := (true, "a5599212ed53620f36b0a8d3568e0a380b64c3d12817545778d4fa5036930234"), looks := false }, kinds := [], alts := [], laidByText := true, laidKinds := [.data], laidTests := true, laidLooks := .later }
def AccountOrderUptoCardSaid : Prop := Claim7.holds Tryd.pinned (.plain (OpenSpec.upto accountOrderSpec)) accountOrderUptoCard

/-- THE SECOND FORM's CARD OF 'cardnetlaw13.AccountFunds'. -/
def accountFundsUptoCard : Claim7 := { stood := { row := accountFundsUptoRow, standIns := [], harness := (true, "a5599212ed53620f36b0a8d3568e0a380b64c3d12817545778d4fa5036930234"), looks := false }, kinds := [], alts := [], laidByText := true, laidKinds := [.data], laidTests := true, laidLooks := .later }
def AccountFundsUptoCardSaid : Prop := Claim7.holds Tryd.pinned (.plain (OpenSpec.upto accountFundsSpec)) accountFundsUptoCard

/-- THE SECOND FORM's CARD OF 'cardnetlaw13.AccountCalls'. -/
def accountCallsUptoCard : Claim7 := { stood := { row := accountCallsUptoRow, standIns := [], harness := (true, "a5599212ed53620f36b0a8d3568e0a380b64c3d12817545778d4fa5036930234"), looks := false }, kinds := [], alts := [], laidByText := true, laidKinds := [.data], laidTests := true, laidLooks := .later }
def AccountCallsUptoCardSaid : Prop := Claim7.holds Tryd.pinned (.plain (OpenSpec.upto accountCallsSpec)) accountCallsUptoCard

/-- THE SECOND FORM's CARD OF 'cardnetlaw13.AccountConserves'. -/
def accountConservesUptoCard : Claim7 := { stood := { row := accountConservesUptoRow, standIns := [], harness := (true, "a5599212ed53620f36b0a8d3568e0a380b64c3d12817545778d4fa5036930234"), looks := false }, kinds := [], alts := [], laidByText := true, laidKinds := [.data], laidTests := true, laidLooks := .later }
def AccountConservesUptoCardSaid : Prop := Claim7.holds Tryd.pinned (.plain (OpenSpec.upto accountConservesSpec)) accountConservesUptoCard

/-- THE SECOND FORM's CARD OF 'cardnetlaw13.AccountNobody'. -/
def accountNobodyUptoCard : Claim7 := { stood := { row := accountNobodyUptoRow, standIns := [], harness := (true, "a5599212ed53620f36b0a8d3568e0a380b64c3d12817545778d4fa5036930234"), looks := false }, kinds := [], alts := [], laidByText := true, laidKinds := [.data], laidTests := true, laidLooks := .later }
def AccountNobodyUptoCardSaid : Prop := Claim7.holds Tryd.pinned (.plain (OpenSpec.upto accountNobodySpec)) accountNobodyUptoCard
end Rows
end Go.Proofs.YthnmooholhellaaDoor
