/- Several texts in one: XNetAp. -/
import Derived.Test.YtmibjgblhaohiaaNetB
/- The law NettingApplies: Check, Apply, Valid and Volume return the specified results; for all arguments. -/
namespace Go.Proofs.Ytmibjgblhaohiaa
open Go.RowKit Go.Sy
set_option linter.unusedVariables false

theorem nettingApplies_fc (l0 : Nat) (hl0 : l0 ≤ maxLen) (q0_0 : List ByteArray) (eq0_0 : q0_0.length = l0) (wq0_0 : ∀ x ∈ q0_0, x.size ≤ maxLen) (q0_1 : List Int) (eq0_1 : q0_1.length = l0) (wq0_1 : ∀ x ∈ q0_1, (Lit.int .i64 x).wf = true) (q0_2 : List ByteArray) (eq0_2 : q0_2.length = l0) (wq0_2 : ∀ x ∈ q0_2, x.size ≤ maxLen) (l1 : Nat) (hl1 : l1 ≤ maxLen) (q1_0 : List ByteArray) (eq1_0 : q1_0.length = l1) (wq1_0 : ∀ x ∈ q1_0, x.size ≤ maxLen) (q1_1 : List ByteArray) (eq1_1 : q1_1.length = l1) (wq1_1 : ∀ x ∈ q1_1, x.size ≤ maxLen) (q1_2 : List Int) (eq1_2 : q1_2.length = l1) (wq1_2 : ∀ x ∈ q1_2, (Lit.int .i64 x).wf = true) (q1_3 : List ByteArray) (eq1_3 : q1_3.length = l1) (wq1_3 : ∀ x ∈ q1_3, x.size ≤ maxLen) (s2 : ByteArray) (hs2 : s2.size ≤ maxLen) :
    FC Try.prog 3 3 [.sl 1 0 0 l0, .sl 2 0 0 l1, .str s2] [(1, some (.one true (.cols l0 [.sc (.strs q0_0), .sc (.ints .i64 q0_1), .sc (.strs q0_2)]))), (2, some (.one true (.cols l1 [.sc (.strs q1_0), .sc (.strs q1_1), .sc (.ints .i64 q1_2), .sc (.strs q1_3)])))] (isOut (.bool true) [] 3) := by
  obtain ⟨L, hL, eL⟩ := mkPs q0_0 q0_1 q0_2 l0 eq0_0 eq0_1 eq0_2
  obtain ⟨T, hT, eT⟩ := mkTx q1_0 q1_1 q1_2 q1_3 l1 eq1_0 eq1_1 eq1_2 eq1_3
  have h := law_Applies L T s2 l0 l1 hL hT
  unfold psB txB at h
  rw [eL, eT] at h
  exact h
end Go.Proofs.Ytmibjgblhaohiaa

