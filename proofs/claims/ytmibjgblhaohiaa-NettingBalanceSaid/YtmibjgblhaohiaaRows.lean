/-
  No cell of these rows narrows 'for every input' (looked for: loops, veiled, ifaces, maps, wideKeys, modest, calm, conditions, laid).
  DERIVED. THE GIVEN ROWS OF THIS SEAT. 5 by the template 'for every input the law returns true; each argument reads behind the call as it read before'; 0 by the template 'total and deterministic' (their statements: YtmibjgblhaohiaaTotals.lean).
  GIVEN WITH THE SEED: the statements are not yours to turn. If you find one false, say at which input.
  Laid BY PROGRAM, IN A SANDBOX (cutbox-rows.mjs): the forced cells as the released guide's own fill.sh prints them over the translation 5aea7272b58e2946… (all of the seat's roots in one cut). By AI agents, Wed Nov 11 2026. No macro, syntax, notation, axiom, sorry.
-/
import Derived.Test.YtmibjgblhaohiaaChecked
import GoSem.Claim
import GoSem.ClaimJoined
import GoSem.ClaimMapViews
import Derived.JoinedTies
import Derived.KernelRfl
namespace Go.Proofs.Ytmibjgblhaohiaa
/- THE CELL 'sum', in the pinned program and in every row, IS THE sha256 OF THE DUMP (.gsa) THAT YtmibjgblhaohiaaProg.lean LOADS. Nothing in Lean hashes anything: it is a label: what it is worth is what the hold of that sum in a sandbox is worth. -/
noncomputable def Try.pinned : Pinned := { name := "ytmibjgblhaohiaa", sum := "5aea7272b58e294638b63c035b086cb9c202311f98962fed39ebc4ddae6a1baa", checked := Try.checked }
namespace Rows
def none {H : Type} : Left H := { results := [], args := [] }

/-- 'cardnetlaw41.NettingApplies': WHATEVER THE INPUT: true; the input reads as it did. -/
def nettingAppliesSpec : ChangeSpec := { name := "nettingApplies", fn := fun _ => fun
  | [d1, d2, d3] => { results := [.lit (.bool true)], args := [d1, d2, d3] }
  | _ => none }
def nettingAppliesRow : OpenClaim := { program := "ytmibjgblhaohiaa", sum := "5aea7272b58e294638b63c035b086cb9c202311f98962fed39ebc4ddae6a1baa", func := "cardnet/cardnetlaw41.NettingApplies", spec := "nettingApplies", unfollowed := true, recurses := true, plainKeys := false, apart := false }
def NettingAppliesSaid : Prop := nettingAppliesRow.holds Try.pinned (OpenSpec.ofChange nettingAppliesSpec)

/-- ITS FALSE NEIGHBOUR: 'it returns false'. Refute it at one input. -/
def nettingAppliesWrong : ChangeSpec := { name := "nettingApplies", fn := fun _ => fun
  | [d1, d2, d3] => { results := [.lit (.bool false)], args := [d1, d2, d3] }
  | _ => none }
def NettingAppliesWrongFalsely : Prop := nettingAppliesRow.holds Try.pinned (OpenSpec.ofChange nettingAppliesWrong)

/-- 'cardnetlaw41.NettingTransfers': WHATEVER THE INPUT: true; the input reads as it did. -/
def nettingTransfersSpec : ChangeSpec := { name := "nettingTransfers", fn := fun _ => fun
  | [d] => { results := [.lit (.bool true)], args := [d] }
  | _ => none }
def nettingTransfersRow : OpenClaim := { program := "ytmibjgblhaohiaa", sum := "5aea7272b58e294638b63c035b086cb9c202311f98962fed39ebc4ddae6a1baa", func := "cardnet/cardnetlaw41.NettingTransfers", spec := "nettingTransfers", unfollowed := true, recurses := true, plainKeys := false, apart := false }
def NettingTransfersSaid : Prop := nettingTransfersRow.holds Try.pinned (OpenSpec.ofChange nettingTransfersSpec)

/-- ITS FALSE NEIGHBOUR: 'it returns false'. Refute it at one input. -/
def nettingTransfersWrong : ChangeSpec := { name := "nettingTransfers", fn := fun _ => fun
  | [d] => { results := [.lit (.bool false)], args := [d] }
  | _ => none }
def NettingTransfersWrongFalsely : Prop := nettingTransfersRow.holds Try.pinned (OpenSpec.ofChange nettingTransfersWrong)

/-- 'cardnetlaw41.NettingSettles': WHATEVER THE INPUT: true; the input reads as it did. -/
def nettingSettlesSpec : ChangeSpec := { name := "nettingSettles", fn := fun _ => fun
  | [d] => { results := [.lit (.bool true)], args := [d] }
  | _ => none }
def nettingSettlesRow : OpenClaim := { program := "ytmibjgblhaohiaa", sum := "5aea7272b58e294638b63c035b086cb9c202311f98962fed39ebc4ddae6a1baa", func := "cardnet/cardnetlaw41.NettingSettles", spec := "nettingSettles", unfollowed := true, recurses := true, plainKeys := false, apart := false }
def NettingSettlesSaid : Prop := nettingSettlesRow.holds Try.pinned (OpenSpec.ofChange nettingSettlesSpec)

/-- ITS FALSE NEIGHBOUR: 'it returns false'. Refute it at one input. -/
def nettingSettlesWrong : ChangeSpec := { name := "nettingSettles", fn := fun _ => fun
  | [d] => { results := [.lit (.bool false)], args := [d] }
  | _ => none }
def NettingSettlesWrongFalsely : Prop := nettingSettlesRow.holds Try.pinned (OpenSpec.ofChange nettingSettlesWrong)

/-- 'cardnetlaw41.NettingOrder': WHATEVER THE INPUT: true; the input reads as it did. -/
def nettingOrderSpec : ChangeSpec := { name := "nettingOrder", fn := fun _ => fun
  | [d1, d2] => { results := [.lit (.bool true)], args := [d1, d2] }
  | _ => none }
def nettingOrderRow : OpenClaim := { program := "ytmibjgblhaohiaa", sum := "5aea7272b58e294638b63c035b086cb9c202311f98962fed39ebc4ddae6a1baa", func := "cardnet/cardnetlaw41.NettingOrder", spec := "nettingOrder", unfollowed := true, recurses := true, plainKeys := false, apart := false }
def NettingOrderSaid : Prop := nettingOrderRow.holds Try.pinned (OpenSpec.ofChange nettingOrderSpec)

/-- ITS FALSE NEIGHBOUR: 'it returns false'. Refute it at one input. -/
def nettingOrderWrong : ChangeSpec := { name := "nettingOrder", fn := fun _ => fun
  | [d1, d2] => { results := [.lit (.bool false)], args := [d1, d2] }
  | _ => none }
def NettingOrderWrongFalsely : Prop := nettingOrderRow.holds Try.pinned (OpenSpec.ofChange nettingOrderWrong)

/-- 'cardnetlaw41.NettingBalance': WHATEVER THE INPUT: true; the input reads as it did. -/
def nettingBalanceSpec : ChangeSpec := { name := "nettingBalance", fn := fun _ => fun
  | [d1, d2] => { results := [.lit (.bool true)], args := [d1, d2] }
  | _ => none }
def nettingBalanceRow : OpenClaim := { program := "ytmibjgblhaohiaa", sum := "5aea7272b58e294638b63c035b086cb9c202311f98962fed39ebc4ddae6a1baa", func := "cardnet/cardnetlaw41.NettingBalance", spec := "nettingBalance", unfollowed := true, recurses := true, plainKeys := false, apart := false }
def NettingBalanceSaid : Prop := nettingBalanceRow.holds Try.pinned (OpenSpec.ofChange nettingBalanceSpec)

/-- ITS FALSE NEIGHBOUR: 'it returns false'. Refute it at one input. -/
def nettingBalanceWrong : ChangeSpec := { name := "nettingBalance", fn := fun _ => fun
  | [d1, d2] => { results := [.lit (.bool false)], args := [d1, d2] }
  | _ => none }
def NettingBalanceWrongFalsely : Prop := nettingBalanceRow.holds Try.pinned (OpenSpec.ofChange nettingBalanceWrong)

/- THE SECOND FORM. 'bulk': how many values and letters a reading holds, each counted each time it is reached (what is shared counts as often as it is met; a slice's spare places count too). A statement '..UptoSaid' is the law's where the arguments, and the package variables that the reading takes, are together of bulk at most 1048576: NARROWER than '..Said'. Prove '..Said' where nothing that the law and all that it calls make is longer than what came in: it says more and counts as full. Else prove '..UptoSaid'. A law counts once. -/
mutual
def uptoBulk {H : Type} : DataW H → Nat
  | .lit (.string bytes) => bytes.length + 1
  | .lit _ => 1
  | .nil => 1
  | .ptr d => uptoBulk d + 1
  | .slice elems spare => uptoBulkAll elems + uptoBulkAll spare + 1
  | .agg parts => uptoBulkAll parts + 1
  | .iface _ d => uptoBulk d + 1
  | .map entries => uptoBulkEntries entries + 1
  | .held _ => 1
def uptoBulkAll {H : Type} : List (DataW H) → Nat
  | [] => 0
  | d :: r => uptoBulk d + uptoBulkAll r
def uptoBulkEntries {H : Type} : List (Lit × DataW H) → Nat
  | [] => 0
  | x :: r => uptoBulkEntry x + uptoBulkEntries r
def uptoBulkEntry {H : Type} : Lit × DataW H → Nat
  | (.string bytes, d) => bytes.length + uptoBulk d + 1
  | (_, d) => uptoBulk d + 1
 end
def uptoSmall : (H : Type) → List (DataW H) → Bool := fun _ ds => decide (uptoBulkAll ds ≤ 1048576)
def OpenSpec.upto (s : _root_.Go.ChangeSpec) : _root_.Go.OpenSpec := { _root_.Go.OpenSpec.ofChange s with cond := some uptoSmall }

/-- 'cardnetlaw41.NettingApplies', WHERE WHAT IT READS IS OF BULK AT MOST 1048576: true; the input reads as it did. -/
def nettingAppliesUptoRow : OpenClaim := { program := "ytmibjgblhaohiaa", sum := "5aea7272b58e294638b63c035b086cb9c202311f98962fed39ebc4ddae6a1baa", func := "cardnet/cardnetlaw41.NettingApplies", spec := "nettingApplies", unfollowed := true, recurses := true, plainKeys := false, apart := false, narrowed := true }
def NettingAppliesUptoSaid : Prop := nettingAppliesUptoRow.holds Try.pinned (OpenSpec.upto nettingAppliesSpec)

/-- 'cardnetlaw41.NettingTransfers', WHERE WHAT IT READS IS OF BULK AT MOST 1048576: true; the input reads as it did. -/
def nettingTransfersUptoRow : OpenClaim := { program := "ytmibjgblhaohiaa", sum := "5aea7272b58e294638b63c035b086cb9c202311f98962fed39ebc4ddae6a1baa", func := "cardnet/cardnetlaw41.NettingTransfers", spec := "nettingTransfers", unfollowed := true, recurses := true, plainKeys := false, apart := false, narrowed := true }
def NettingTransfersUptoSaid : Prop := nettingTransfersUptoRow.holds Try.pinned (OpenSpec.upto nettingTransfersSpec)

/-- 'cardnetlaw41.NettingSettles', WHERE WHAT IT READS IS OF BULK AT MOST 1048576: true; the input reads as it did. -/
def nettingSettlesUptoRow : OpenClaim := { program := "ytmibjgblhaohiaa", sum := "5aea7272b58e294638b63c035b086cb9c202311f98962fed39ebc4ddae6a1baa", func := "cardnet/cardnetlaw41.NettingSettles", spec := "nettingSettles", unfollowed := true, recurses := true, plainKeys := false, apart := false, narrowed := true }
def NettingSettlesUptoSaid : Prop := nettingSettlesUptoRow.holds Try.pinned (OpenSpec.upto nettingSettlesSpec)

/-- 'cardnetlaw41.NettingOrder', WHERE WHAT IT READS IS OF BULK AT MOST 1048576: true; the input reads as it did. -/
def nettingOrderUptoRow : OpenClaim := { program := "ytmibjgblhaohiaa", sum := "5aea7272b58e294638b63c035b086cb9c202311f98962fed39ebc4ddae6a1baa", func := "cardnet/cardnetlaw41.NettingOrder", spec := "nettingOrder", unfollowed := true, recurses := true, plainKeys := false, apart := false, narrowed := true }
def NettingOrderUptoSaid : Prop := nettingOrderUptoRow.holds Try.pinned (OpenSpec.upto nettingOrderSpec)

/-- 'cardnetlaw41.NettingBalance', WHERE WHAT IT READS IS OF BULK AT MOST 1048576: true; the input reads as it did. -/
def nettingBalanceUptoRow : OpenClaim := { program := "ytmibjgblhaohiaa", sum := "5aea7272b58e294638b63c035b086cb9c202311f98962fed39ebc4ddae6a1baa", func := "cardnet/cardnetlaw41.NettingBalance", spec := "nettingBalance", unfollowed := true, recurses := true, plainKeys := false, apart := false, narrowed := true }
def NettingBalanceUptoSaid : Prop := nettingBalanceUptoRow.holds Try.pinned (OpenSpec.upto nettingBalanceSpec)

end Rows
end Go.Proofs.Ytmibjgblhaohiaa
