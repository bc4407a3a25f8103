/-
  No cell of these rows narrows 'for every input' (looked for: loops, veiled, ifaces, maps, wideKeys, modest, calm, conditions, laid).
  DERIVED. THE GIVEN ROWS OF THIS SEAT. 5 by the template 'for every input the law returns true; each argument reads behind the call as it read before'; 0 by the template 'total and deterministic' (their statements: YtllgfdogieohaaaTotals.lean).
  GIVEN WITH THE SEED: the statements are not yours to turn. If you find one false, say at which input.
  Laid BY PROGRAM, IN A SANDBOX (cutbox-rows.mjs): the forced cells as the released guide's own fill.sh prints them over the translation 3400b0189ed30678… (all of the seat's roots in one cut). By AI agents, Wed Nov 11 2026. No macro, syntax, notation, axiom, sorry.
-/
import Derived.Test.YtllgfdogieohaaaChecked
import GoSem.Claim
import GoSem.ClaimJoined
import GoSem.ClaimMapViews
import Derived.JoinedTies
import Derived.KernelRfl
namespace Go.Proofs.Ytllgfdogieohaaa
/- THE CELL 'sum', in the pinned program and in every row, IS THE sha256 OF THE DUMP (.gsa) THAT YtllgfdogieohaaaProg.lean LOADS. Nothing in Lean hashes anything: it is a label: what it is worth is what the hold of that sum in a sandbox is worth. -/
noncomputable def Try.pinned : Pinned := { name := "ytllgfdogieohaaa", sum := "3400b0189ed306786f7595f2471ea769af829579c0026c75c914b5b55d8cd04c", checked := Try.checked }
namespace Rows
def none {H : Type} : Left H := { results := [], args := [] }

/-- 'cardnetlaw27.AuthParts': WHATEVER THE INPUT: true; the input reads as it did. -/
def authPartsSpec : ChangeSpec := { name := "authParts", fn := fun _ => fun
  | [d1, d2] => { results := [.lit (.bool true)], args := [d1, d2] }
  | _ => none }
def authPartsRow : OpenClaim := { program := "ytllgfdogieohaaa", sum := "3400b0189ed306786f7595f2471ea769af829579c0026c75c914b5b55d8cd04c", func := "cardnet/cardnetlaw27.AuthParts", spec := "authParts", apart := false }
def AuthPartsSaid : Prop := authPartsRow.holds Try.pinned (OpenSpec.ofChange authPartsSpec)

/-- ITS FALSE NEIGHBOUR: 'it returns false'. Refute it at one input. -/
def authPartsWrong : ChangeSpec := { name := "authParts", fn := fun _ => fun
  | [d1, d2] => { results := [.lit (.bool false)], args := [d1, d2] }
  | _ => none }
def AuthPartsWrongFalsely : Prop := authPartsRow.holds Try.pinned (OpenSpec.ofChange authPartsWrong)

/-- 'cardnetlaw27.AuthBegins': WHATEVER THE INPUT: true; the input reads as it did. -/
def authBeginsSpec : ChangeSpec := { name := "authBegins", fn := fun _ => fun
  | [d1, d2, d3, d4, d5, d6] => { results := [.lit (.bool true)], args := [d1, d2, d3, d4, d5, d6] }
  | _ => none }
def authBeginsRow : OpenClaim := { program := "ytllgfdogieohaaa", sum := "3400b0189ed306786f7595f2471ea769af829579c0026c75c914b5b55d8cd04c", func := "cardnet/cardnetlaw27.AuthBegins", spec := "authBegins", apart := false }
def AuthBeginsSaid : Prop := authBeginsRow.holds Try.pinned (OpenSpec.ofChange authBeginsSpec)

/-- ITS FALSE NEIGHBOUR: 'it returns false'. Refute it at one input. -/
def authBeginsWrong : ChangeSpec := { name := "authBegins", fn := fun _ => fun
  | [d1, d2, d3, d4, d5, d6] => { results := [.lit (.bool false)], args := [d1, d2, d3, d4, d5, d6] }
  | _ => none }
def AuthBeginsWrongFalsely : Prop := authBeginsRow.holds Try.pinned (OpenSpec.ofChange authBeginsWrong)

/-- 'cardnetlaw27.AuthConserves': WHATEVER THE INPUT: true; the input reads as it did. -/
def authConservesSpec : ChangeSpec := { name := "authConserves", fn := fun _ => fun
  | [d1, d2] => { results := [.lit (.bool true)], args := [d1, d2] }
  | _ => none }
def authConservesRow : OpenClaim := { program := "ytllgfdogieohaaa", sum := "3400b0189ed306786f7595f2471ea769af829579c0026c75c914b5b55d8cd04c", func := "cardnet/cardnetlaw27.AuthConserves", spec := "authConserves", apart := false }
def AuthConservesSaid : Prop := authConservesRow.holds Try.pinned (OpenSpec.ofChange authConservesSpec)

/-- ITS FALSE NEIGHBOUR: 'it returns false'. Refute it at one input. -/
def authConservesWrong : ChangeSpec := { name := "authConserves", fn := fun _ => fun
  | [d1, d2] => { results := [.lit (.bool false)], args := [d1, d2] }
  | _ => none }
def AuthConservesWrongFalsely : Prop := authConservesRow.holds Try.pinned (OpenSpec.ofChange authConservesWrong)

/-- 'cardnetlaw27.AuthSteps': WHATEVER THE INPUT: true; the input reads as it did. -/
def authStepsSpec : ChangeSpec := { name := "authSteps", fn := fun _ => fun
  | [d1, d2] => { results := [.lit (.bool true)], args := [d1, d2] }
  | _ => none }
def authStepsRow : OpenClaim := { program := "ytllgfdogieohaaa", sum := "3400b0189ed306786f7595f2471ea769af829579c0026c75c914b5b55d8cd04c", func := "cardnet/cardnetlaw27.AuthSteps", spec := "authSteps", apart := false }
def AuthStepsSaid : Prop := authStepsRow.holds Try.pinned (OpenSpec.ofChange authStepsSpec)

/-- ITS FALSE NEIGHBOUR: 'it returns false'. Refute it at one input. -/
def authStepsWrong : ChangeSpec := { name := "authSteps", fn := fun _ => fun
  | [d1, d2] => { results := [.lit (.bool false)], args := [d1, d2] }
  | _ => none }
def AuthStepsWrongFalsely : Prop := authStepsRow.holds Try.pinned (OpenSpec.ofChange authStepsWrong)

/-- 'cardnetlaw27.AuthEnds': WHATEVER THE INPUT: true; the input reads as it did. -/
def authEndsSpec : ChangeSpec := { name := "authEnds", fn := fun _ => fun
  | [d1, d2] => { results := [.lit (.bool true)], args := [d1, d2] }
  | _ => none }
def authEndsRow : OpenClaim := { program := "ytllgfdogieohaaa", sum := "3400b0189ed306786f7595f2471ea769af829579c0026c75c914b5b55d8cd04c", func := "cardnet/cardnetlaw27.AuthEnds", spec := "authEnds", apart := false }
def AuthEndsSaid : Prop := authEndsRow.holds Try.pinned (OpenSpec.ofChange authEndsSpec)

/-- ITS FALSE NEIGHBOUR: 'it returns false'. Refute it at one input. -/
def authEndsWrong : ChangeSpec := { name := "authEnds", fn := fun _ => fun
  | [d1, d2] => { results := [.lit (.bool false)], args := [d1, d2] }
  | _ => none }
def AuthEndsWrongFalsely : Prop := authEndsRow.holds Try.pinned (OpenSpec.ofChange authEndsWrong)

/- THE SECOND FORM. 'bulk': how many values and letters a reading holds, each counted each time it is reached (what is shared counts as often as it is met; a slice's spare places count too). A statement '..UptoSaid' is the law's where the arguments, and the package variables that the reading takes, are together of bulk at most 1048576: NARROWER than '..Said'. Prove '..Said' where nothing that the law and all that it calls make is longer than what came in: it says more and counts as full. Else prove '..UptoSaid'. A law counts once. -/
mutual
def uptoBulk {H : Type} : DataW H → Nat
  | .lit (.string bytes) => bytes.length + 1
  | .lit _ => 1
  | .nil => 1
  | .ptr d => uptoBulk d + 1
  | .slice elems spare => uptoBulkAll elems + uptoBulkAll spare + 1
  | .agg parts => uptoBulkAll parts + 1
  | .iface _ d => uptoBulk d + 1
  | .map entries => uptoBulkEntries entries + 1
  | .held _ => 1
def uptoBulkAll {H : Type} : List (DataW H) → Nat
  | [] => 0
  | d :: r => uptoBulk d + uptoBulkAll r
def uptoBulkEntries {H : Type} : List (Lit × DataW H) → Nat
  | [] => 0
  | x :: r => uptoBulkEntry x + uptoBulkEntries r
def uptoBulkEntry {H : Type} : Lit × DataW H → Nat
  | (.string bytes, d) => bytes.length + uptoBulk d + 1
  | (_, d) => uptoBulk d + 1
 end
def uptoSmall : (H : Type) → List (DataW H) → Bool := fun _ ds => decide (uptoBulkAll ds ≤ 1048576)
def OpenSpec.upto (s : _root_.Go.ChangeSpec) : _root_.Go.OpenSpec := { _root_.Go.OpenSpec.ofChange s with cond := some uptoSmall }

/-- 'cardnetlaw27.AuthParts', WHERE WHAT IT READS IS OF BULK AT MOST 1048576: true; the input reads as it did. -/
def authPartsUptoRow : OpenClaim := { program := "ytllgfdogieohaaa", sum := "3400b0189ed306786f7595f2471ea769af829579c0026c75c914b5b55d8cd04c", func := "cardnet/cardnetlaw27.AuthParts", spec := "authParts", apart := false, narrowed := true }
def AuthPartsUptoSaid : Prop := authPartsUptoRow.holds Try.pinned (OpenSpec.upto authPartsSpec)

/-- 'cardnetlaw27.AuthBegins', WHERE WHAT IT READS IS OF BULK AT MOST 1048576: true; the input reads as it did. -/
def authBeginsUptoRow : OpenClaim := { program := "ytllgfdogieohaaa", sum := "3400b0189ed306786f7595f2471ea769af829579c0026c75c914b5b55d8cd04c", func := "cardnet/cardnetlaw27.AuthBegins", spec := "authBegins", apart := false, narrowed := true }
def AuthBeginsUptoSaid : Prop := authBeginsUptoRow.holds Try.pinned (OpenSpec.upto authBeginsSpec)

/-- 'cardnetlaw27.AuthConserves', WHERE WHAT IT READS IS OF BULK AT MOST 1048576: true; the input reads as it did. -/
def authConservesUptoRow : OpenClaim := { program := "ytllgfdogieohaaa", sum := "3400b0189ed306786f7595f2471ea769af829579c0026c75c914b5b55d8cd04c", func := "cardnet/cardnetlaw27.AuthConserves", spec := "authConserves", apart := false, narrowed := true }
def AuthConservesUptoSaid : Prop := authConservesUptoRow.holds Try.pinned (OpenSpec.upto authConservesSpec)

/-- 'cardnetlaw27.AuthSteps', WHERE WHAT IT READS IS OF BULK AT MOST 1048576: true; the input reads as it did. -/
def authStepsUptoRow : OpenClaim := { program := "ytllgfdogieohaaa", sum := "3400b0189ed306786f7595f2471ea769af829579c0026c75c914b5b55d8cd04c", func := "cardnet/cardnetlaw27.AuthSteps", spec := "authSteps", apart := false, narrowed := true }
def AuthStepsUptoSaid : Prop := authStepsUptoRow.holds Try.pinned (OpenSpec.upto authStepsSpec)

/-- 'cardnetlaw27.AuthEnds', WHERE WHAT IT READS IS OF BULK AT MOST 1048576: true; the input reads as it did. -/
def authEndsUptoRow : OpenClaim := { program := "ytllgfdogieohaaa", sum := "3400b0189ed306786f7595f2471ea769af829579c0026c75c914b5b55d8cd04c", func := "cardnet/cardnetlaw27.AuthEnds", spec := "authEnds", apart := false, narrowed := true }
def AuthEndsUptoSaid : Prop := authEndsUptoRow.holds Try.pinned (OpenSpec.upto authEndsSpec)

end Rows
end Go.Proofs.Ytllgfdogieohaaa
