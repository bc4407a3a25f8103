/-
  NARROWER THAN 'FOR EVERY INPUT', by the rows' own cells (each row's printed sentence says how): CyclePlays: laid.
  DERIVED. THE GIVEN ROWS OF THIS SEAT. 1 by the template 'for every input the law returns true; each argument reads behind the call as it read before'; 0 by the template 'total and deterministic' (their statements: YtegbehopnoocnaaGreatDoorTotals.lean).
  GIVEN WITH THE SEED: the statements are not yours to turn. If you find one false, say at which input.
  Laid BY PROGRAM, IN A SANDBOX (cutbox-rows.mjs): the forced cells as the released guide's own fill.sh prints them over the translation 2dd500c7264e71dc… (all of the seat's roots in one cut). By AI agents, Wed Nov 11 2026. No macro, syntax, notation, axiom, sorry.
-/
import Derived.Test.YtegbehopnoocnaaGreatDoorChecked
import GoSem.Claim
import GoSem.ClaimJoined
import GoSem.ClaimMapViews
import Derived.JoinedTies
import Derived.KernelRfl
namespace Go.Proofs.YtegbehopnoocnaaGreatDoor
/- THE CELL 'sum', in the pinned program and in every row, IS THE sha256 OF THE DUMP (.gsa) THAT YtegbehopnoocnaaGreatDoorProg.lean LOADS. Nothing in Lean hashes anything: it is a label: what it is worth is what the hold of that sum in a sandbox is worth. -/
noncomputable def Tryz.pinned : Pinned := { name := "ytegbehopnoocnaagreatdoor", sum := "2dd500c7264e71dc2bca5c8c77ced0b54e512f2b7ebb1269ffd6bbb650a87325", checked := Tryz.checked }
namespace Rows
def none {H : Type} : Left H := { results := [], args := [] }

/- WHAT THE LISTED PACKAGE-LEVEL VARIABLES READ AS WHEN THE CALL BEGINS. Each datum BY PROGRAM (the guide's laid-datum.mjs) off the statement by which the dump's own 'gosem.cut.vars' lays the variable. In a bare row this is a premise. The card (YtegbehopnoocnaaGreatDoorCards.lean) ties it to the program's text. -/
def laid_cardnet_money_decimals {H : Type} : DataW H := .agg [.agg [.lit (.string [74, 80, 89]), .lit (.int .i64 0)], .agg [.lit (.string [75, 82, 87]), .lit (.int .i64 0)], .agg [.lit (.string [86, 78, 68]), .lit (.int .i64 0)], .agg [.lit (.string [67, 76, 80]), .lit (.int .i64 0)], .agg [.lit (.string [73, 83, 75]), .lit (.int .i64 0)], .agg [.lit (.string [66, 72, 68]), .lit (.int .i64 3)], .agg [.lit (.string [75, 87, 68]), .lit (.int .i64 3)], .agg [.lit (.string [74, 79, 68]), .lit (.int .i64 3)], .agg [.lit (.string [79, 77, 82]), .lit (.int .i64 3)], .agg [.lit (.string [84, 78, 68]), .lit (.int .i64 3)]]

/-- 'cardnetlaw42.CyclePlays': WHATEVER THE INPUT: true; the input reads as it did. -/
def cyclePlaysSpec : ChangeSpec := { name := "cyclePlays", fn := fun _ => fun
  | [d1, d2] => { results := [.lit (.bool true)], args := [d1, d2] }
  | _ => none }
def cyclePlaysRow : OpenClaim := { program := "ytegbehopnoocnaagreatdoor", sum := "2dd500c7264e71dc2bca5c8c77ced0b54e512f2b7ebb1269ffd6bbb650a87325", func := "cardnet/cardnetlaw42.CyclePlays", spec := "cyclePlays", inPlace := ["internal/bytealg.IndexByteString", "internal/bytealg.IndexString", "math/bits.Add64"], unfollowed := true, recurses := true, named := ["cardnet/money.decimals", "math/bits.divideError", "math/bits.overflowError", "internal/bytealg.MaxLen"], plainKeys := false, apart := false, laid := [("cardnet/money.decimals", laid_cardnet_money_decimals)] }
def CyclePlaysSaid : Prop := cyclePlaysRow.holds Tryz.pinned (OpenSpec.ofChange cyclePlaysSpec)

/-- ITS FALSE NEIGHBOUR: 'it returns false'. Refute it at one input. -/
def cyclePlaysWrong : ChangeSpec := { name := "cyclePlays", fn := fun _ => fun
  | [d1, d2] => { results := [.lit (.bool false)], args := [d1, d2] }
  | _ => none }
def CyclePlaysWrongFalsely : Prop := cyclePlaysRow.holds Tryz.pinned (OpenSpec.ofChange cyclePlaysWrong)

/- THE SECOND FORM. 'bulk': how many values and letters a reading holds, each counted each time it is reached (what is shared counts as often as it is met; a slice's spare places count too). A statement '..UptoSaid' is the law's where the arguments, and the package variables that the reading takes, are together of bulk at most 1048576: NARROWER than '..Said'. Prove '..Said' where nothing that the law and all that it calls make is longer than what came in: it says more and counts as full. Else prove '..UptoSaid'. A law counts once. -/
mutual
def uptoBulk {H : Type} : DataW H → Nat
  | .lit (.string bytes) => bytes.length + 1
  | .lit _ => 1
  | .nil => 1
  | .ptr d => uptoBulk d + 1
  | .slice elems spare => uptoBulkAll elems + uptoBulkAll spare + 1
  | .agg parts => uptoBulkAll parts + 1
  | .iface _ d => uptoBulk d + 1
  | .map entries => uptoBulkEntries entries + 1
  | .held _ => 1
def uptoBulkAll {H : Type} : List (DataW H) → Nat
  | [] => 0
  | d :: r => uptoBulk d + uptoBulkAll r
def uptoBulkEntries {H : Type} : List (Lit × DataW H) → Nat
  | [] => 0
  | x :: r => uptoBulkEntry x + uptoBulkEntries r
def uptoBulkEntry {H : Type} : Lit × DataW H → Nat
  | (.string bytes, d) => bytes.length + uptoBulk d + 1
  | (_, d) => uptoBulk d + 1
 end
def uptoSmall : (H : Type) → List (DataW H) → Bool := fun _ ds => decide (uptoBulkAll ds ≤ 1048576)
def OpenSpec.upto (s : _root_.Go.ChangeSpec) : _root_.Go.OpenSpec := { _root_.Go.OpenSpec.ofChange s with cond := some uptoSmall }

/-- 'cardnetlaw42.CyclePlays', WHERE WHAT IT READS IS OF BULK AT MOST 1048576: true; the input reads as it did. -/
def cyclePlaysUptoRow : OpenClaim := { program := "ytegbehopnoocnaagreatdoor", sum := "2dd500c7264e71dc2bca5c8c77ced0b54e512f2b7ebb1269ffd6bbb650a87325", func := "cardnet/cardnetlaw42.CyclePlays", spec := "cyclePlays", inPlace := ["internal/bytealg.IndexByteString", "internal/bytealg.IndexString", "math/bits.Add64"], unfollowed := true, recurses := true, named := ["cardnet/money.decimals", "math/bits.divideError", "math/bits.overflowError", "internal/bytealg.MaxLen"], plainKeys := false, apart := false, laid := [("cardnet/money.decimals", laid_cardnet_money_decimals)], narrowed := true }
def CyclePlaysUptoSaid : Prop := cyclePlaysUptoRow.holds Tryz.pinned (OpenSpec.upto cyclePlaysSpec)

end Rows
end Go.Proofs.YtegbehopnoocnaaGreatDoor
