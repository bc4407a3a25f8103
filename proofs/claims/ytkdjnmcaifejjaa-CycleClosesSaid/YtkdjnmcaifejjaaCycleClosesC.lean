/- Several texts in one: XCyCl. -/
import Derived.Test.YtkdjnmcaifejjaaCb2
/- Closed cycles never change -/
namespace Go.Proofs.Ytkdjnmcaifejjaa
open Go.RowKit Go.Sy
set_option linter.unusedVariables false

theorem cycleCloses_fc (l0 : Nat) (hl0 : l0 ≤ maxLen) (q0_0 : List Int) (eq0_0 : q0_0.length = l0) (wq0_0 : ∀ x ∈ q0_0, (Lit.int .u8 x).wf = true) (q0_1 : List Int) (eq0_1 : q0_1.length = l0) (wq0_1 : ∀ x ∈ q0_1, (Lit.int .u8 x).wf = true) (q0_2 : List Int) (eq0_2 : q0_2.length = l0) (wq0_2 : ∀ x ∈ q0_2, (Lit.int .u8 x).wf = true) (q0_3 : List Int) (eq0_3 : q0_3.length = l0) (wq0_3 : ∀ x ∈ q0_3, (Lit.int .u16 x).wf = true) (q0_4 : List Bool) (eq0_4 : q0_4.length = l0) (n1 : Int) (hw1 : (Lit.int .u16 n1).wf = true) :
    FC Try.prog 2 4 [.sl 1 0 0 l0, .int .u16 n1] [(1, some (.one true (.cols l0 [.sc (.ints .u8 q0_0), .sc (.ints .u8 q0_1), .sc (.ints .u8 q0_2), .sc (.ints .u16 q0_3), .sc (.bools q0_4)])))] (isOut (.bool true) [] 2) := law_Closes l0 q0_0 q0_1 q0_2 q0_3 q0_4 n1 hl0 (u8_get wq0_0) (u8_get wq0_1) (u8_get wq0_2) (u16_get wq0_3) (u16_wf hw1)
end Go.Proofs.Ytkdjnmcaifejjaa

