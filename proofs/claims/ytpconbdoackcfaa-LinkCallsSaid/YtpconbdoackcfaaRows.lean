/-
  No cell of these rows narrows 'for every input' (looked for: loops, veiled, ifaces, maps, wideKeys, modest, calm, conditions, laid).
  DERIVED. THE GIVEN ROWS OF THIS SEAT. 3 by the template 'for every input the law returns true; each argument reads behind the call as it read before'; 0 by the template 'total and deterministic' (their statements: YtpconbdoackcfaaTotals.lean).
  GIVEN WITH THE SEED: the statements are not yours to turn. If you find one false, say at which input.
  Laid BY PROGRAM, IN A SANDBOX (cutbox-rows.mjs): the forced cells as the released guide's own fill.sh prints them over the translation 7638852e841f04fc… (all of the seat's roots in one cut). By AI agents, Wed Nov 11 2026. No macro, syntax, notation, axiom, sorry.
-/
import Derived.Test.YtpconbdoackcfaaChecked
import GoSem.Claim
import GoSem.ClaimJoined
import GoSem.ClaimMapViews
import Derived.JoinedTies
import Derived.KernelRfl
namespace Go.Proofs.Ytpconbdoackcfaa
/- THE CELL 'sum', in the pinned program and in every row, IS THE sha256 OF THE DUMP (.gsa) THAT YtpconbdoackcfaaProg.lean LOADS. Nothing in Lean hashes anything: it is a label: what it is worth is what the hold of that sum in a sandbox is worth. -/
noncomputable def Try.pinned : Pinned := { name := "ytpconbdoackcfaa", sum := "7638852e841f04fccb6cedfeb423d6fdc229d253eb5c2474bbec774c045e50f9", checked := Try.checked }
namespace Rows
def none {H : Type} : Left H := { results := [], args := [] }

/-- 'cardnetlaw18.LinkDelivers': WHATEVER THE INPUT: true; the input reads as it did. -/
def linkDeliversSpec : ChangeSpec := { name := "linkDelivers", fn := fun _ => fun
  | [d1, d2] => { results := [.lit (.bool true)], args := [d1, d2] }
  | _ => none }
def linkDeliversRow : OpenClaim := { program := "ytpconbdoackcfaa", sum := "7638852e841f04fccb6cedfeb423d6fdc229d253eb5c2474bbec774c045e50f9", func := "cardnet/cardnetlaw18.LinkDelivers", spec := "linkDelivers", recurses := true, apart := false }
def LinkDeliversSaid : Prop := linkDeliversRow.holds Try.pinned (OpenSpec.ofChange linkDeliversSpec)

/-- ITS FALSE NEIGHBOUR: 'it returns false'. Refute it at one input. -/
def linkDeliversWrong : ChangeSpec := { name := "linkDelivers", fn := fun _ => fun
  | [d1, d2] => { results := [.lit (.bool false)], args := [d1, d2] }
  | _ => none }
def LinkDeliversWrongFalsely : Prop := linkDeliversRow.holds Try.pinned (OpenSpec.ofChange linkDeliversWrong)

/-- 'cardnetlaw18.LinkInvents': WHATEVER THE INPUT: true; the input reads as it did. -/
def linkInventsSpec : ChangeSpec := { name := "linkInvents", fn := fun _ => fun
  | [d1, d2, d3] => { results := [.lit (.bool true)], args := [d1, d2, d3] }
  | _ => none }
def linkInventsRow : OpenClaim := { program := "ytpconbdoackcfaa", sum := "7638852e841f04fccb6cedfeb423d6fdc229d253eb5c2474bbec774c045e50f9", func := "cardnet/cardnetlaw18.LinkInvents", spec := "linkInvents", recurses := true, apart := false }
def LinkInventsSaid : Prop := linkInventsRow.holds Try.pinned (OpenSpec.ofChange linkInventsSpec)

/-- ITS FALSE NEIGHBOUR: 'it returns false'. Refute it at one input. -/
def linkInventsWrong : ChangeSpec := { name := "linkInvents", fn := fun _ => fun
  | [d1, d2, d3] => { results := [.lit (.bool false)], args := [d1, d2, d3] }
  | _ => none }
def LinkInventsWrongFalsely : Prop := linkInventsRow.holds Try.pinned (OpenSpec.ofChange linkInventsWrong)

/-- 'cardnetlaw18.LinkCalls': WHATEVER THE INPUT: true; the input reads as it did. -/
def linkCallsSpec : ChangeSpec := { name := "linkCalls", fn := fun _ => fun
  | [d1, d2, d3, d4] => { results := [.lit (.bool true)], args := [d1, d2, d3, d4] }
  | _ => none }
def linkCallsRow : OpenClaim := { program := "ytpconbdoackcfaa", sum := "7638852e841f04fccb6cedfeb423d6fdc229d253eb5c2474bbec774c045e50f9", func := "cardnet/cardnetlaw18.LinkCalls", spec := "linkCalls", unfollowed := true, recurses := true, apart := false }
def LinkCallsSaid : Prop := linkCallsRow.holds Try.pinned (OpenSpec.ofChange linkCallsSpec)

/-- ITS FALSE NEIGHBOUR: 'it returns false'. Refute it at one input. -/
def linkCallsWrong : ChangeSpec := { name := "linkCalls", fn := fun _ => fun
  | [d1, d2, d3, d4] => { results := [.lit (.bool false)], args := [d1, d2, d3, d4] }
  | _ => none }
def LinkCallsWrongFalsely : Prop := linkCallsRow.holds Try.pinned (OpenSpec.ofChange linkCallsWrong)

/- THE SECOND FORM. 'bulk': how many values and letters a reading holds, each counted each time it is reached (what is shared counts as often as it is met; a slice's spare places count too). A statement '..UptoSaid' is the law's where the arguments, and the package variables that the reading takes, are together of bulk at most 1048576: NARROWER than '..Said'. Prove '..Said' where nothing that the law and all that it calls make is longer than what came in: it says more and counts as full. Else prove '..UptoSaid'. A law counts once. -/
mutual
def uptoBulk {H : Type} : DataW H → Nat
  | .lit (.string bytes) => bytes.length + 1
  | .lit _ => 1
  | .nil => 1
  | .ptr d => uptoBulk d + 1
  | .slice elems spare => uptoBulkAll elems + uptoBulkAll spare + 1
  | .agg parts => uptoBulkAll parts + 1
  | .iface _ d => uptoBulk d + 1
  | .map entries => uptoBulkEntries entries + 1
  | .held _ => 1
def uptoBulkAll {H : Type} : List (DataW H) → Nat
  | [] => 0
  | d :: r => uptoBulk d + uptoBulkAll r
def uptoBulkEntries {H : Type} : List (Lit × DataW H) → Nat
  | [] => 0
  | x :: r => uptoBulkEntry x + uptoBulkEntries r
def uptoBulkEntry {H : Type} : Lit × DataW H → Nat
  | (.string bytes, d) => bytes.length + uptoBulk d + 1
  | (_, d) => uptoBulk d + 1
 end
def uptoSmall : (H : Type) → List (DataW H) → Bool := fun _ ds => decide (uptoBulkAll ds ≤ 1048576)
def OpenSpec.upto (s : _root_.Go.ChangeSpec) : _root_.Go.OpenSpec := { _root_.Go.OpenSpec.ofChange s with cond := some uptoSmall }

/-- 'cardnetlaw18.LinkDelivers', WHERE WHAT IT READS IS OF BULK AT MOST 1048576: true; the input reads as it did. -/
def linkDeliversUptoRow : OpenClaim := { program := "ytpconbdoackcfaa", sum := "7638852e841f04fccb6cedfeb423d6fdc229d253eb5c2474bbec774c045e50f9", func := "cardnet/cardnetlaw18.LinkDelivers", spec := "linkDelivers", recurses := true, apart := false, narrowed := true }
def LinkDeliversUptoSaid : Prop := linkDeliversUptoRow.holds Try.pinned (OpenSpec.upto linkDeliversSpec)

/-- 'cardnetlaw18.LinkInvents', WHERE WHAT IT READS IS OF BULK AT MOST 1048576: true; the input reads as it did. -/
def linkInventsUptoRow : OpenClaim := { program := "ytpconbdoackcfaa", sum := "7638852e841f04fccb6cedfeb423d6fdc229d253eb5c2474bbec774c045e50f9", func := "cardnet/cardnetlaw18.LinkInvents", spec := "linkInvents", recurses := true, apart := false, narrowed := true }
def LinkInventsUptoSaid : Prop := linkInventsUptoRow.holds Try.pinned (OpenSpec.upto linkInventsSpec)

/-- 'cardnetlaw18.LinkCalls', WHERE WHAT IT READS IS OF BULK AT MOST 1048576: true; the input reads as it did. -/
def linkCallsUptoRow : OpenClaim := { program := "ytpconbdoackcfaa", sum := "7638852e841f04fccb6cedfeb423d6fdc229d253eb5c2474bbec774c045e50f9", func := "cardnet/cardnetlaw18.LinkCalls", spec := "linkCalls", unfollowed := true, recurses := true, apart := false, narrowed := true }
def LinkCallsUptoSaid : Prop := linkCallsUptoRow.holds Try.pinned (OpenSpec.upto linkCallsSpec)

end Rows
end Go.Proofs.Ytpconbdoackcfaa
