/- Several texts in one: XCyTi. -/
import Derived.Test.YtkdjnmcaifejjaaCa2
/- The cycle of a time -/
namespace Go.Proofs.Ytkdjnmcaifejjaa
open Go.RowKit Go.Sy
set_option linter.unusedVariables false

theorem cycleTimes_fc (l0 : Nat) (hl0 : l0 ≤ maxLen) (q0_0 : List Int) (eq0_0 : q0_0.length = l0) (wq0_0 : ∀ x ∈ q0_0, (Lit.int .i64 x).wf = true) (n1 : Int) (hw1 : (Lit.int .i64 n1).wf = true) (n2 : Int) (hw2 : (Lit.int .i64 n2).wf = true) :
    FC Try.prog 2 3 [.sl 1 0 0 l0, .int .i64 n1, .int .i64 n2] [(1, some (.one true (.cols l0 [.sc (.ints .i64 q0_0)])))] (isOut (.bool true) [] 2) := law_Times q0_0 l0 eq0_0 hl0 n1 n2
end Go.Proofs.Ytkdjnmcaifejjaa

