/-
  NARROWER THAN 'FOR EVERY INPUT', by the rows' own cells (each row's printed sentence says how): AccountReleases: laid · AccountOrder: laid · AccountFunds: laid · AccountCalls: laid · AccountConserves: laid · AccountNobody: laid.
  DERIVED. THE GIVEN ROWS OF THIS SEAT. 6 by the template 'for every input the law returns true; each argument reads behind the call as it read before'; 0 by the template 'total and deterministic' (their statements: YthnmooholhellaaDoorTotals.lean).
  GIVEN WITH THE SEED: the statements are not yours to turn. If you find one false, say at which input.
  Laid BY PROGRAM, IN A SANDBOX (cutbox-rows.mjs): the forced cells as the released guide's own fill.sh prints them over the translation f892ec7f7bffbd6b… (all of the seat's roots in one cut). By AI agents, Wed Nov 11 2026. No macro, syntax, notation, axiom, sorry.
-/
import Derived.Test.YthnmooholhellaaDoorChecked
import GoSem.Claim
import GoSem.ClaimJoined
import GoSem.ClaimMapViews
import Derived.JoinedTies
import Derived.KernelRfl
namespace Go.Proofs.YthnmooholhellaaDoor
/- THE CELL 'sum', in the pinned program and in every row, IS THE sha256 OF THE DUMP (.gsa) THAT YthnmooholhellaaDoorProg.lean LOADS. Nothing in Lean hashes anything: it is a label: what it is worth is what the hold of that sum in a sandbox is worth. -/
noncomputable def Tryd.pinned : Pinned := { name := "ythnmooholhellaadoor", sum := "f892ec7f7bffbd6b97ef2f3f62cdbf29fd4277688c01edab0b85803332877cd7", checked := Tryd.checked }
namespace Rows
def none {H : Type} : Left H := { results := [], args := [] }

/- WHAT THE LISTED PACKAGE-LEVEL VARIABLES READ AS WHEN THE CALL BEGINS. Each datum BY PROGRAM (the guide's laid-datum.mjs) off the statement by which the dump's own 'gosem.cut.vars' lays the variable. In a bare row this is a premise. The card (YthnmooholhellaaDoorCards.lean) ties it to the program's text. -/
def laid_cardnet_money_decimals {H : Type} : DataW H := .agg [.agg [.lit (.string [74, 80, 89]), .lit (.int .i64 0)], .agg [.lit (.string [75, 82, 87]), .lit (.int .i64 0)], .agg [.lit (.string [86, 78, 68]), .lit (.int .i64 0)], .agg [.lit (.string [67, 76, 80]), .lit (.int .i64 0)], .agg [.lit (.string [73, 83, 75]), .lit (.int .i64 0)], .agg [.lit (.string [66, 72, 68]), .lit (.int .i64 3)], .agg [.lit (.string [75, 87, 68]), .lit (.int .i64 3)], .agg [.lit (.string [74, 79, 68]), .lit (.int .i64 3)], .agg [.lit (.string [79, 77, 82]), .lit (.int .i64 3)], .agg [.lit (.string [84, 78, 68]), .lit (.int .i64 3)]]

/-- 'cardnetlaw13.AccountReleases': WHATEVER THE INPUT: true; the input reads as it did. -/
def accountReleasesSpec : ChangeSpec := { name := "accountReleases", fn := fun _ => fun
  | [d1, d2] => { results := [.lit (.bool true)], args := [d1, d2] }
  | _ => none }
def accountReleasesRow : OpenClaim := { program := "ythnmooholhellaadoor", sum := "f892ec7f7bffbd6b97ef2f3f62cdbf29fd4277688c01edab0b85803332877cd7", func := "cardnet/cardnetlaw13.AccountReleases", spec := "accountReleases", unfollowed := true, recurses := true, named := ["cardnet/money.decimals"], apart := false, laid := [("cardnet/money.decimals", laid_cardnet_money_decimals)] }
def AccountReleasesSaid : Prop := accountReleasesRow.holds Tryd.pinned (OpenSpec.ofChange accountReleasesSpec)

/-- ITS FALSE NEIGHBOUR: 'it returns false'. Refute it at one input. -/
def accountReleasesWrong : ChangeSpec := { name := "accountReleases", fn := fun _ => fun
  | [d1, d2] => { results := [.lit (.bool false)], args := [d1, d2] }
  | _ => none }
def AccountReleasesWrongFalsely : Prop := accountReleasesRow.holds Tryd.pinned (OpenSpec.ofChange accountReleasesWrong)

/-- 'cardnetlaw13.AccountOrder': WHATEVER THE INPUT: true; the input reads as it did. -/
def accountOrderSpec : ChangeSpec := { name := "accountOrder", fn := fun _ => fun
  | [d] => { results := [.lit (.bool true)], args := [d] }
  | _ => none }
def accountOrderRow : OpenClaim := { program := "ythnmooholhellaadoor", sum := "f892ec7f7bffbd6b97ef2f3f62cdbf29fd4277688c01edab0b85803332877cd7", func := "cardnet/cardnetlaw13.AccountOrder", spec := "accountOrder", unfollowed := true, recurses := true, named := ["cardnet/money.decimals"], apart := false, laid := [("cardnet/money.decimals", laid_cardnet_money_decimals)] }
def AccountOrderSaid : Prop := accountOrderRow.holds Tryd.pinned (OpenSpec.ofChange accountOrderSpec)

/-- ITS FALSE NEIGHBOUR: 'it returns false'. Refute it at one input. -/
def accountOrderWrong : ChangeSpec := { name := "accountOrder", fn := fun _ => fun
  | [d] => { results := [.lit (.bool false)], args := [d] }
  | _ => none }
def AccountOrderWrongFalsely : Prop := accountOrderRow.holds Tryd.pinned (OpenSpec.ofChange accountOrderWrong)

/-- 'cardnetlaw13.AccountFunds': WHATEVER THE INPUT: true; the input reads as it did. -/
def accountFundsSpec : ChangeSpec := { name := "accountFunds", fn := fun _ => fun
  | [d1, d2, d3] => { results := [.lit (.bool true)], args := [d1, d2, d3] }
  | _ => none }
def accountFundsRow : OpenClaim := { program := "ythnmooholhellaadoor", sum := "f892ec7f7bffbd6b97ef2f3f62cdbf29fd4277688c01edab0b85803332877cd7", func := "cardnet/cardnetlaw13.AccountFunds", spec := "accountFunds", unfollowed := true, recurses := true, named := ["cardnet/money.decimals"], apart := false, laid := [("cardnet/money.decimals", laid_cardnet_money_decimals)] }
def AccountFundsSaid : Prop := accountFundsRow.holds Tryd.pinned (OpenSpec.ofChange accountFundsSpec)

/-- ITS FALSE NEIGHBOUR: 'it returns false'. Refute it at one input. -/
def accountFundsWrong : ChangeSpec := { name := "accountFunds", fn := fun _ => fun
  | [d1, d2, d3] => { results := [.lit (.bool false)], args := [d1, d2, d3] }
  | _ => none }
def AccountFundsWrongFalsely : Prop := accountFundsRow.holds Tryd.pinned (OpenSpec.ofChange accountFundsWrong)

/-- 'cardnetlaw13.AccountCalls': WHATEVER THE INPUT: true; the input reads as it did. -/
def accountCallsSpec : ChangeSpec := { name := "accountCalls", fn := fun _ => fun
  | [d1, d2] => { results := [.lit (.bool true)], args := [d1, d2] }
  | _ => none }
def accountCallsRow : OpenClaim := { program := "ythnmooholhellaadoor", sum := "f892ec7f7bffbd6b97ef2f3f62cdbf29fd4277688c01edab0b85803332877cd7", func := "cardnet/cardnetlaw13.AccountCalls", spec := "accountCalls", unfollowed := true, recurses := true, named := ["cardnet/money.decimals"], apart := false, laid := [("cardnet/money.decimals", laid_cardnet_money_decimals)] }
def AccountCallsSaid : Prop := accountCallsRow.holds Tryd.pinned (OpenSpec.ofChange accountCallsSpec)

/-- ITS FALSE NEIGHBOUR: 'it returns false'. Refute it at one input. -/
def accountCallsWrong : ChangeSpec := { name := "accountCalls", fn := fun _ => fun
  | [d1, d2] => { results := [.lit (.bool false)], args := [d1, d2] }
  | _ => none }
def AccountCallsWrongFalsely : Prop := accountCallsRow.holds Tryd.pinned (OpenSpec.ofChange accountCallsWrong)

/-- 'cardnetlaw13.AccountConserves': WHATEVER THE INPUT: true; the input reads as it did. -/
def accountConservesSpec : ChangeSpec := { name := "accountConserves", fn := fun _ => fun
  | [d1, d2, d3] => { results := [.lit (.bool true)], args := [d1, d2, d3] }
  | _ => none }
def accountConservesRow : OpenClaim := { program := "ythnmooholhellaadoor", sum := "f892ec7f7bffbd6b97ef2f3f62cdbf29fd4277688c01edab0b85803332877cd7", func := "cardnet/cardnetlaw13.AccountConserves", spec := "accountConserves", unfollowed := true, recurses := true, named := ["cardnet/money.decimals"], apart := false, laid := [("cardnet/money.decimals", laid_cardnet_money_decimals)] }
def AccountConservesSaid : Prop := accountConservesRow.holds Tryd.pinned (OpenSpec.ofChange accountConservesSpec)

/-- ITS FALSE NEIGHBOUR: 'it returns false'. Refute it at one input. -/
def accountConservesWrong : ChangeSpec := { name := "accountConserves", fn := fun _ => fun
  | [d1, d2, d3] => { results := [.lit (.bool false)], args := [d1, d2, d3] }
  | _ => none }
def AccountConservesWrongFalsely : Prop := accountConservesRow.holds Tryd.pinned (OpenSpec.ofChange accountConservesWrong)

/-- 'cardnetlaw13.AccountNobody': WHATEVER THE INPUT: true; the input reads as it did. -/
def accountNobodySpec : ChangeSpec := { name := "accountNobody", fn := fun _ => fun
  | [d] => { results := [.lit (.bool true)], args := [d] }
  | _ => none }
def accountNobodyRow : OpenClaim := { program := "ythnmooholhellaadoor", sum := "f892ec7f7bffbd6b97ef2f3f62cdbf29fd4277688c01edab0b85803332877cd7", func := "cardnet/cardnetlaw13.AccountNobody", spec := "accountNobody", unfollowed := true, recurses := true, named := ["cardnet/money.decimals"], apart := false, laid := [("cardnet/money.decimals", laid_cardnet_money_decimals)] }
def AccountNobodySaid : Prop := accountNobodyRow.holds Tryd.pinned (OpenSpec.ofChange accountNobodySpec)

/-- ITS FALSE NEIGHBOUR: 'it returns false'. Refute it at one input. -/
def accountNobodyWrong : ChangeSpec := { name := "accountNobody", fn := fun _ => fun
  | [d] => { results := [.lit (.bool false)], args := [d] }
  | _ => none }
def AccountNobodyWrongFalsely : Prop := accountNobodyRow.holds Tryd.pinned (OpenSpec.ofChange accountNobodyWrong)

/- THE SECOND FORM. 'bulk': how many values and letters a reading holds, each counted each time it is reached (what is shared counts as often as it is met; a slice's spare places count too). A statement '..UptoSaid' is the law's where the arguments, and the package variables that the reading takes, are together of bulk at most 1048576: NARROWER than '..Said'. Prove '..Said' where nothing that the law and all that it calls make is longer than what came in: it says more and counts as full. Else prove '..UptoSaid'. A law counts once. -/
mutual
def uptoBulk {H : Type} : DataW H → Nat
  | .lit (.string bytes) => bytes.length + 1
  | .lit _ => 1
  | .nil => 1
  | .ptr d => uptoBulk d + 1
  | .slice elems spare => uptoBulkAll elems + uptoBulkAll spare + 1
  | .agg parts => uptoBulkAll parts + 1
  | .iface _ d => uptoBulk d + 1
  | .map entries => uptoBulkEntries entries + 1
  | .held _ => 1
def uptoBulkAll {H : Type} : List (DataW H) → Nat
  | [] => 0
  | d :: r => uptoBulk d + uptoBulkAll r
def uptoBulkEntries {H : Type} : List (Lit × DataW H) → Nat
  | [] => 0
  | x :: r => uptoBulkEntry x + uptoBulkEntries r
def uptoBulkEntry {H : Type} : Lit × DataW H → Nat
  | (.string bytes, d) => bytes.length + uptoBulk d + 1
  | (_, d) => uptoBulk d + 1
 end
def uptoSmall : (H : Type) → List (DataW H) → Bool := fun _ ds => decide (uptoBulkAll ds ≤ 1048576)
def OpenSpec.upto (s : _root_.Go.ChangeSpec) : _root_.Go.OpenSpec := { _root_.Go.OpenSpec.ofChange s with cond := some uptoSmall }

/-- 'cardnetlaw13.AccountReleases', WHERE WHAT IT READS IS OF BULK AT MOST 1048576: true; the input reads as it did. -/
def accountReleasesUptoRow : OpenClaim := { program := "ythnmooholhellaadoor", sum := "f892ec7f7bffbd6b97ef2f3f62cdbf29fd4277688c01edab0b85803332877cd7", func := "cardnet/cardnetlaw13.AccountReleases", spec := "accountReleases", unfollowed := true, recurses := true, named := ["cardnet/money.decimals"], apart := false, laid := [("cardnet/money.decimals", laid_cardnet_money_decimals)], narrowed := true }
def AccountReleasesUptoSaid : Prop := accountReleasesUptoRow.holds Tryd.pinned (OpenSpec.upto accountReleasesSpec)

/-- 'cardnetlaw13.AccountOrder', WHERE WHAT IT READS IS OF BULK AT MOST 1048576: true; the input reads as it did. -/
def accountOrderUptoRow : OpenClaim := { program := "ythnmooholhellaadoor", sum := "f892ec7f7bffbd6b97ef2f3f62cdbf29fd4277688c01edab0b85803332877cd7", func := "cardnet/cardnetlaw13.AccountOrder", spec := "accountOrder", unfollowed := true, recurses := true, named := ["cardnet/money.decimals"], apart := false, laid := [("cardnet/money.decimals", laid_cardnet_money_decimals)], narrowed := true }
def AccountOrderUptoSaid : Prop := accountOrderUptoRow.holds Tryd.pinned (OpenSpec.upto accountOrderSpec)

/-- 'cardnetlaw13.AccountFunds', WHERE WHAT IT READS IS OF BULK AT MOST 1048576: true; the input reads as it did. -/
def accountFundsUptoRow : OpenClaim := { program := "ythnmooholhellaadoor", sum := "f892ec7f7bffbd6b97ef2f3f62cdbf29fd4277688c01edab0b85803332877cd7", func := "cardnet/cardnetlaw13.AccountFunds", spec := "accountFunds", unfollowed := true, recurses := true, named := ["cardnet/money.decimals"], apart := false, laid := [("cardnet/money.decimals", laid_cardnet_money_decimals)], narrowed := true }
def AccountFundsUptoSaid : Prop := accountFundsUptoRow.holds Tryd.pinned (OpenSpec.upto accountFundsSpec)

/-- 'cardnetlaw13.AccountCalls', WHERE WHAT IT READS IS OF BULK AT MOST 1048576: true; the input reads as it did. -/
def accountCallsUptoRow : OpenClaim := { program := "ythnmooholhellaadoor", sum := "f892ec7f7bffbd6b97ef2f3f62cdbf29fd4277688c01edab0b85803332877cd7", func := "cardnet/cardnetlaw13.AccountCalls", spec := "accountCalls", unfollowed := true, recurses := true, named := ["cardnet/money.decimals"], apart := false, laid := [("cardnet/money.decimals", laid_cardnet_money_decimals)], narrowed := true }
def AccountCallsUptoSaid : Prop := accountCallsUptoRow.holds Tryd.pinned (OpenSpec.upto accountCallsSpec)

/-- 'cardnetlaw13.AccountConserves', WHERE WHAT IT READS IS OF BULK AT MOST 1048576: true; the input reads as it did. -/
def accountConservesUptoRow : OpenClaim := { program := "ythnmooholhellaadoor", sum := "f892ec7f7bffbd6b97ef2f3f62cdbf29fd4277688c01edab0b85803332877cd7", func := "cardnet/cardnetlaw13.AccountConserves", spec := "accountConserves", unfollowed := true, recurses := true, named := ["cardnet/money.decimals"], apart := false, laid := [("cardnet/money.decimals", laid_cardnet_money_decimals)], narrowed := true }
def AccountConservesUptoSaid : Prop := accountConservesUptoRow.holds Tryd.pinned (OpenSpec.upto accountConservesSpec)

/-- 'cardnetlaw13.AccountNobody', WHERE WHAT IT READS IS OF BULK AT MOST 1048576: true; the input reads as it did. -/
def accountNobodyUptoRow : OpenClaim := { program := "ythnmooholhellaadoor", sum := "f892ec7f7bffbd6b97ef2f3f62cdbf29fd4277688c01edab0b85803332877cd7", func := "cardnet/cardnetlaw13.AccountNobody", spec := "accountNobody", unfollowed := true, recurses := true, named := ["cardnet/money.decimals"], apart := false, laid := [("cardnet/money.decimals", laid_cardnet_money_decimals)], narrowed := true }
def AccountNobodyUptoSaid : Prop := accountNobodyUptoRow.holds Tryd.pinned (OpenSpec.upto accountNobodySpec)

end Rows
end Go.Proofs.YthnmooholhellaaDoor
