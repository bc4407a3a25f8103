/- Several texts in one: XNetTr. -/
import Derived.Test.YtmibjgblhaohiaaNetB
/- The law NettingTransfers: Settle returns the specified transfers or error; for all arguments. -/
namespace Go.Proofs.Ytmibjgblhaohiaa
open Go.RowKit Go.Sy
set_option linter.unusedVariables false

theorem nettingTransfers_fc (l0 : Nat) (hl0 : l0 ≤ maxLen) (q0_0 : List ByteArray) (eq0_0 : q0_0.length = l0) (wq0_0 : ∀ x ∈ q0_0, x.size ≤ maxLen) (q0_1 : List Int) (eq0_1 : q0_1.length = l0) (wq0_1 : ∀ x ∈ q0_1, (Lit.int .i64 x).wf = true) (q0_2 : List ByteArray) (eq0_2 : q0_2.length = l0) (wq0_2 : ∀ x ∈ q0_2, x.size ≤ maxLen) :
    FC Try.prog 2 4 [.sl 1 0 0 l0] [(1, some (.one true (.cols l0 [.sc (.strs q0_0), .sc (.ints .i64 q0_1), .sc (.strs q0_2)])))] (isOut (.bool true) [] 2) := by
  obtain ⟨L, hL, eL⟩ := mkPs q0_0 q0_1 q0_2 l0 eq0_0 eq0_1 eq0_2
  have h := law_Transfers L l0 hL
  unfold psB at h
  rw [eL] at h
  exact h
end Go.Proofs.Ytmibjgblhaohiaa

