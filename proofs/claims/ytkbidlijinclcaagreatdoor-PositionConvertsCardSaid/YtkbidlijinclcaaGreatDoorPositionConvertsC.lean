/- Several texts in one: XPzCo. -/
import Derived.Test.YtkbidlijinclcaaGreatDoorPc3
/- The law PositionConverts: converted positions are what the reference says -/
namespace Go.Proofs.YtkbidlijinclcaaGreatDoor
open Go.RowKit Go.Sy
set_option linter.unusedVariables false

theorem positionConverts_fc (l0 : Nat) (hl0 : l0 ≤ maxLen) (q0_0 : List ByteArray) (eq0_0 : q0_0.length = l0) (wq0_0 : ∀ x ∈ q0_0, x.size ≤ maxLen) (l1 : Nat) (hl1 : l1 ≤ maxLen) (q1_0 : List ByteArray) (eq1_0 : q1_0.length = l1) (wq1_0 : ∀ x ∈ q1_0, x.size ≤ maxLen) (q1_1 : List ByteArray) (eq1_1 : q1_1.length = l1) (wq1_1 : ∀ x ∈ q1_1, x.size ≤ maxLen) (q1_2 : List Int) (eq1_2 : q1_2.length = l1) (wq1_2 : ∀ x ∈ q1_2, (Lit.int .i64 x).wf = true) (q1_3 : List ByteArray) (eq1_3 : q1_3.length = l1) (wq1_3 : ∀ x ∈ q1_3, x.size ≤ maxLen) (l2 : Nat) (hl2 : l2 ≤ maxLen) (q2_0 : List ByteArray) (eq2_0 : q2_0.length = l2) (wq2_0 : ∀ x ∈ q2_0, x.size ≤ maxLen) (q2_1 : List ByteArray) (eq2_1 : q2_1.length = l2) (wq2_1 : ∀ x ∈ q2_1, x.size ≤ maxLen) (q2_2 : List Int) (eq2_2 : q2_2.length = l2) (wq2_2 : ∀ x ∈ q2_2, (Lit.int .i64 x).wf = true) (q2_3 : List Int) (eq2_3 : q2_3.length = l2) (wq2_3 : ∀ x ∈ q2_3, (Lit.int .i64 x).wf = true) (s3 : ByteArray) (hs3 : s3.size ≤ maxLen) (s4 : ByteArray) (hs4 : s4.size ≤ maxLen) :
    FC Tryz.prog 4 4 [.sl 1 0 0 l0, .sl 2 0 0 l1, .sl 3 0 0 l2, .str s3, .str s4] [(0, some (GB glT)), (1, some (.one true (.cols l0 [.sc (.strs q0_0)]))), (2, some (.one true (.cols l1 [.sc (.strs q1_0), .sc (.strs q1_1), .sc (.ints .i64 q1_2), .sc (.strs q1_3)]))), (3, some (.one true (.cols l2 [.sc (.strs q2_0), .sc (.strs q2_1), .sc (.ints .i64 q2_2), .sc (.ints .i64 q2_3)])))] (isOut (.bool true) [] 4) := law_Converts l0 q0_0 eq0_0 hl0 l1 q1_0 q1_1 q1_2 q1_3 hl1 ⟨q2_0, q2_1, q2_2, q2_3, l2⟩ hl2 (fun i => ⟨sz_of wq2_0 i, sz_of wq2_1 i⟩) s3 s4 hs3
end Go.Proofs.YtkbidlijinclcaaGreatDoor

