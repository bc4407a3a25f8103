/-
  No cell of these rows narrows 'for every input' (looked for: loops, veiled, ifaces, maps, wideKeys, modest, calm, conditions, laid).
  DERIVED. THE GIVEN ROWS OF THIS SEAT. 3 by the template 'for every input the law returns true; each argument reads behind the call as it read before'; 0 by the template 'total and deterministic' (their statements: YtkmbnniikncaiaaTotals.lean).
  GIVEN WITH THE SEED: the statements are not yours to turn. If you find one false, say at which input.
  Laid BY PROGRAM, IN A SANDBOX (cutbox-rows.mjs): the forced cells as the released guide's own fill.sh prints them over the translation e5287133edb4eca4… (all of the seat's roots in one cut). By AI agents, Wed Nov 11 2026. No macro, syntax, notation, axiom, sorry.
-/
import Derived.Test.YtkmbnniikncaiaaChecked
import GoSem.Claim
import GoSem.ClaimJoined
import GoSem.ClaimMapViews
import Derived.JoinedTies
import Derived.KernelRfl
namespace Go.Proofs.Ytkmbnniikncaiaa
/- THE CELL 'sum', in the pinned program and in every row, IS THE sha256 OF THE DUMP (.gsa) THAT YtkmbnniikncaiaaProg.lean LOADS. Nothing in Lean hashes anything: it is a label: what it is worth is what the hold of that sum in a sandbox is worth. -/
noncomputable def Try.pinned : Pinned := { name := "ytkmbnniikncaiaa", sum := "e5287133edb4eca41e6c582abeb91f04ede07d33012842d473443d50a54595a7", checked := Try.checked }
namespace Rows
def none {H : Type} : Left H := { results := [], args := [] }

/-- 'cardnetlaw22.RouteFallbacks': WHATEVER THE INPUT: true; the input reads as it did. -/
def routeFallbacksSpec : ChangeSpec := { name := "routeFallbacks", fn := fun _ => fun
  | [d1, d2, d3] => { results := [.lit (.bool true)], args := [d1, d2, d3] }
  | _ => none }
def routeFallbacksRow : OpenClaim := { program := "ytkmbnniikncaiaa", sum := "e5287133edb4eca41e6c582abeb91f04ede07d33012842d473443d50a54595a7", func := "cardnet/cardnetlaw22.RouteFallbacks", spec := "routeFallbacks", inPlace := ["internal/bytealg.IndexByteString", "internal/bytealg.IndexString", "internal/abi.NoEscape", "internal/bytealg.MakeNoZero"], unfollowed := true, recurses := true, named := ["internal/bytealg.MaxLen"], apart := false }
def RouteFallbacksSaid : Prop := routeFallbacksRow.holds Try.pinned (OpenSpec.ofChange routeFallbacksSpec)

/-- ITS FALSE NEIGHBOUR: 'it returns false'. Refute it at one input. -/
def routeFallbacksWrong : ChangeSpec := { name := "routeFallbacks", fn := fun _ => fun
  | [d1, d2, d3] => { results := [.lit (.bool false)], args := [d1, d2, d3] }
  | _ => none }
def RouteFallbacksWrongFalsely : Prop := routeFallbacksRow.holds Try.pinned (OpenSpec.ofChange routeFallbacksWrong)

/-- 'cardnetlaw22.RouteRecovers': WHATEVER THE INPUT: true; the input reads as it did. -/
def routeRecoversSpec : ChangeSpec := { name := "routeRecovers", fn := fun _ => fun
  | [d1, d2, d3] => { results := [.lit (.bool true)], args := [d1, d2, d3] }
  | _ => none }
def routeRecoversRow : OpenClaim := { program := "ytkmbnniikncaiaa", sum := "e5287133edb4eca41e6c582abeb91f04ede07d33012842d473443d50a54595a7", func := "cardnet/cardnetlaw22.RouteRecovers", spec := "routeRecovers", inPlace := ["internal/bytealg.IndexByteString", "internal/bytealg.IndexString", "internal/abi.NoEscape", "internal/bytealg.MakeNoZero"], unfollowed := true, recurses := true, named := ["internal/bytealg.MaxLen"], apart := false }
def RouteRecoversSaid : Prop := routeRecoversRow.holds Try.pinned (OpenSpec.ofChange routeRecoversSpec)

/-- ITS FALSE NEIGHBOUR: 'it returns false'. Refute it at one input. -/
def routeRecoversWrong : ChangeSpec := { name := "routeRecovers", fn := fun _ => fun
  | [d1, d2, d3] => { results := [.lit (.bool false)], args := [d1, d2, d3] }
  | _ => none }
def RouteRecoversWrongFalsely : Prop := routeRecoversRow.holds Try.pinned (OpenSpec.ofChange routeRecoversWrong)

/-- 'cardnetlaw22.RouteNobody': WHATEVER THE INPUT: true; the input reads as it did. -/
def routeNobodySpec : ChangeSpec := { name := "routeNobody", fn := fun _ => fun
  | [d1, d2] => { results := [.lit (.bool true)], args := [d1, d2] }
  | _ => none }
def routeNobodyRow : OpenClaim := { program := "ytkmbnniikncaiaa", sum := "e5287133edb4eca41e6c582abeb91f04ede07d33012842d473443d50a54595a7", func := "cardnet/cardnetlaw22.RouteNobody", spec := "routeNobody", inPlace := ["internal/bytealg.IndexByteString", "internal/bytealg.IndexString", "internal/abi.NoEscape", "internal/bytealg.MakeNoZero"], unfollowed := true, recurses := true, named := ["internal/bytealg.MaxLen"], apart := false }
def RouteNobodySaid : Prop := routeNobodyRow.holds Try.pinned (OpenSpec.ofChange routeNobodySpec)

/-- ITS FALSE NEIGHBOUR: 'it returns false'. Refute it at one input. -/
def routeNobodyWrong : ChangeSpec := { name := "routeNobody", fn := fun _ => fun
  | [d1, d2] => { results := [.lit (.bool false)], args := [d1, d2] }
  | _ => none }
def RouteNobodyWrongFalsely : Prop := routeNobodyRow.holds Try.pinned (OpenSpec.ofChange routeNobodyWrong)

/- THE SECOND FORM. 'bulk': how many values and letters a reading holds, each counted each time it is reached (what is shared counts as often as it is met; a slice's spare places count too). A statement '..UptoSaid' is the law's where the arguments, and the package variables that the reading takes, are together of bulk at most 1048576: NARROWER than '..Said'. Prove '..Said' where nothing that the law and all that it calls make is longer than what came in: it says more and counts as full. Else prove '..UptoSaid'. A law counts once. -/
mutual
def uptoBulk {H : Type} : DataW H → Nat
  | .lit (.string bytes) => bytes.length + 1
  | .lit _ => 1
  | .nil => 1
  | .ptr d => uptoBulk d + 1
  | .slice elems spare => uptoBulkAll elems + uptoBulkAll spare + 1
  | .agg parts => uptoBulkAll parts + 1
  | .iface _ d => uptoBulk d + 1
  | .map entries => uptoBulkEntries entries + 1
  | .held _ => 1
def uptoBulkAll {H : Type} : List (DataW H) → Nat
  | [] => 0
  | d :: r => uptoBulk d + uptoBulkAll r
def uptoBulkEntries {H : Type} : List (Lit × DataW H) → Nat
  | [] => 0
  | x :: r => uptoBulkEntry x + uptoBulkEntries r
def uptoBulkEntry {H : Type} : Lit × DataW H → Nat
  | (.string bytes, d) => bytes.length + uptoBulk d + 1
  | (_, d) => uptoBulk d + 1
 end
def uptoSmall : (H : Type) → List (DataW H) → Bool := fun _ ds => decide (uptoBulkAll ds ≤ 1048576)
def OpenSpec.upto (s : _root_.Go.ChangeSpec) : _root_.Go.OpenSpec := { _root_.Go.OpenSpec.ofChange s with cond := some uptoSmall }

/-- 'cardnetlaw22.RouteFallbacks', WHERE WHAT IT READS IS OF BULK AT MOST 1048576: true; the input reads as it did. -/
def routeFallbacksUptoRow : OpenClaim := { program := "ytkmbnniikncaiaa", sum := "e5287133edb4eca41e6c582abeb91f04ede07d33012842d473443d50a54595a7", func := "cardnet/cardnetlaw22.RouteFallbacks", spec := "routeFallbacks", inPlace := ["internal/bytealg.IndexByteString", "internal/bytealg.IndexString", "internal/abi.NoEscape", "internal/bytealg.MakeNoZero"], unfollowed := true, recurses := true, named := ["internal/bytealg.MaxLen"], apart := false, narrowed := true }
def RouteFallbacksUptoSaid : Prop := routeFallbacksUptoRow.holds Try.pinned (OpenSpec.upto routeFallbacksSpec)

/-- 'cardnetlaw22.RouteRecovers', WHERE WHAT IT READS IS OF BULK AT MOST 1048576: true; the input reads as it did. -/
def routeRecoversUptoRow : OpenClaim := { program := "ytkmbnniikncaiaa", sum := "e5287133edb4eca41e6c582abeb91f04ede07d33012842d473443d50a54595a7", func := "cardnet/cardnetlaw22.RouteRecovers", spec := "routeRecovers", inPlace := ["internal/bytealg.IndexByteString", "internal/bytealg.IndexString", "internal/abi.NoEscape", "internal/bytealg.MakeNoZero"], unfollowed := true, recurses := true, named := ["internal/bytealg.MaxLen"], apart := false, narrowed := true }
def RouteRecoversUptoSaid : Prop := routeRecoversUptoRow.holds Try.pinned (OpenSpec.upto routeRecoversSpec)

/-- 'cardnetlaw22.RouteNobody', WHERE WHAT IT READS IS OF BULK AT MOST 1048576: true; the input reads as it did. -/
def routeNobodyUptoRow : OpenClaim := { program := "ytkmbnniikncaiaa", sum := "e5287133edb4eca41e6c582abeb91f04ede07d33012842d473443d50a54595a7", func := "cardnet/cardnetlaw22.RouteNobody", spec := "routeNobody", inPlace := ["internal/bytealg.IndexByteString", "internal/bytealg.IndexString", "internal/abi.NoEscape", "internal/bytealg.MakeNoZero"], unfollowed := true, recurses := true, named := ["internal/bytealg.MaxLen"], apart := false, narrowed := true }
def RouteNobodyUptoSaid : Prop := routeNobodyUptoRow.holds Try.pinned (OpenSpec.upto routeNobodySpec)

end Rows
end Go.Proofs.Ytkmbnniikncaiaa
