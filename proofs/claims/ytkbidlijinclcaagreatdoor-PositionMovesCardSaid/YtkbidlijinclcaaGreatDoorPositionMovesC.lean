/- Several texts in one: XPzMo. -/
import Derived.Test.YtkbidlijinclcaaGreatDoorPz3
/- The law PositionMoves: moves of a book return what the reference says -/
namespace Go.Proofs.YtkbidlijinclcaaGreatDoor
open Go.RowKit Go.Sy
set_option linter.unusedVariables false

theorem positionMoves_fc (l0 : Nat) (hl0 : l0 ≤ maxLen) (q0_0 : List ByteArray) (eq0_0 : q0_0.length = l0) (wq0_0 : ∀ x ∈ q0_0, x.size ≤ maxLen) (l1 : Nat) (hl1 : l1 ≤ maxLen) (q1_0 : List ByteArray) (eq1_0 : q1_0.length = l1) (wq1_0 : ∀ x ∈ q1_0, x.size ≤ maxLen) (q1_1 : List ByteArray) (eq1_1 : q1_1.length = l1) (wq1_1 : ∀ x ∈ q1_1, x.size ≤ maxLen) (q1_2 : List Int) (eq1_2 : q1_2.length = l1) (wq1_2 : ∀ x ∈ q1_2, (Lit.int .i64 x).wf = true) (q1_3 : List ByteArray) (eq1_3 : q1_3.length = l1) (wq1_3 : ∀ x ∈ q1_3, x.size ≤ maxLen) :
    FC Tryz.prog 3 3 [.sl 1 0 0 l0, .sl 2 0 0 l1] [(0, some (GB glT)), (1, some (.one true (.cols l0 [.sc (.strs q0_0)]))), (2, some (.one true (.cols l1 [.sc (.strs q1_0), .sc (.strs q1_1), .sc (.ints .i64 q1_2), .sc (.strs q1_3)])))] (isOut (.bool true) [] 3) := law_Moves l0 q0_0 eq0_0 hl0 l1 q1_0 q1_1 q1_2 q1_3 hl1
end Go.Proofs.YtkbidlijinclcaaGreatDoor

