/- Several texts in one: XCyOr. -/
import Derived.Test.YtkdjnmcaifejjaaGreatDoorCo3
/- Cycles are closed in order, and settled when they are closed -/
namespace Go.Proofs.YtkdjnmcaifejjaaGreatDoor
open Go.RowKit Go.Sy
set_option linter.unusedVariables false

theorem cycleOrder_fc (n0 : Int) (hw0 : (Lit.int .u16 n0).wf = true) (n1 : Int) (hw1 : (Lit.int .u8 n1).wf = true) :
    FC Tryz.prog 1 4 [.int .u16 n0, .int .u8 n1] [(0, some (GB glT))] (isOut (.bool true) [] 1) := law_OrderC n0 n1 (wf16_bd hw0) (wf8_bd hw1)
end Go.Proofs.YtkdjnmcaifejjaaGreatDoor

