/- Several texts in one: XLgRe. -/
import Derived.Test.YtjjnbhbendlnhaaDoorLr2
/- The law LedgerReverses: an entry and its reversal leave all balances as they were; entries are never changed; the digest is that of a ledger with the same entries. -/
namespace Go.Proofs.YtjjnbhbendlnhaaDoor
open Go.RowKit Go.Sy
set_option linter.unusedVariables false

theorem ledgerReverses_fc (l0 : Nat) (hl0 : l0 ≤ maxLen) (q0_0 : List ByteArray) (eq0_0 : q0_0.length = l0) (wq0_0 : ∀ x ∈ q0_0, x.size ≤ maxLen) (l1 : Nat) (hl1 : l1 ≤ maxLen) (ns1 : List Nat) (ens1 : ns1.length = l1) (hns1 : ∀ i, i < l1 → ns1.getD i 0 ≤ maxLen) (q1_0 : List ByteArray) (eq1_0 : q1_0.length = l1) (wq1_0 : ∀ x ∈ q1_0, x.size ≤ maxLen) (q1_1 : List Int) (eq1_1 : q1_1.length = l1) (wq1_1 : ∀ x ∈ q1_1, (Lit.int .i64 x).wf = true) (q1_3 : List ByteArray) (eq1_3 : q1_3.length = l1) (wq1_3 : ∀ x ∈ q1_3, x.size ≤ maxLen) (z1_0 : Nat → List ByteArray) (ez1_0 : ∀ i, i < l1 → (z1_0 i).length = ns1.getD i 0) (wz1_0 : ∀ i, i < l1 → ∀ x ∈ z1_0 i, x.size ≤ maxLen) (z1_1 : Nat → List Int) (ez1_1 : ∀ i, i < l1 → (z1_1 i).length = ns1.getD i 0) (wz1_1 : ∀ i, i < l1 → ∀ x ∈ z1_1 i, (Lit.int .i64 x).wf = true) (z1_2 : Nat → List ByteArray) (ez1_2 : ∀ i, i < l1 → (z1_2 i).length = ns1.getD i 0) (wz1_2 : ∀ i, i < l1 → ∀ x ∈ z1_2 i, x.size ≤ maxLen) (x2_0 : ByteArray) (hx2_0 : x2_0.size ≤ maxLen) (x2_1 : Int) (hx2_1 : (Lit.int .i64 x2_1).wf = true) (l2_2 : Nat) (hl2_2 : l2_2 ≤ maxLen) (q2_2_0 : List ByteArray) (eq2_2_0 : q2_2_0.length = l2_2) (wq2_2_0 : ∀ x ∈ q2_2_0, x.size ≤ maxLen) (q2_2_1 : List Int) (eq2_2_1 : q2_2_1.length = l2_2) (wq2_2_1 : ∀ x ∈ q2_2_1, (Lit.int .i64 x).wf = true) (q2_2_2 : List ByteArray) (eq2_2_2 : q2_2_2.length = l2_2) (wq2_2_2 : ∀ x ∈ q2_2_2, x.size ≤ maxLen) :
    FC Tryd.prog 5 5 [.sl 1 0 0 l0, .sl 2 0 0 l1, .agg [.str x2_0, .int .i64 x2_1, .sl 4 0 0 l2_2]] [(0, some (GB glT)), (1, some (.one true (.cols l0 [.sc (.strs q0_0)]))), (2, some (.one true (.cols l1 [.sc (.strs q1_0), .sc (.ints .i64 q1_1), .own 3 ns1, .sc (.strs q1_3)]))), (3, some (.fam true (fun x => x < l1) (fun x => .cols (ns1.getD x 0) [.sc (.strs (z1_0 x)), .sc (.ints .i64 (z1_1 x)), .sc (.strs (z1_2 x))]))), (4, some (.one true (.cols l2_2 [.sc (.strs q2_2_0), .sc (.ints .i64 q2_2_1), .sc (.strs q2_2_2)])))] (isOut (.bool true) [] 5) := by
  have e2 : ∀ x, x < l1 → (z1_1 x).length = (z1_0 x).length := fun x hx => by rw [ez1_0 x hx, ez1_1 x hx]
  have e3 : ∀ x, x < l1 → (z1_2 x).length = (z1_0 x).length := fun x hx => by rw [ez1_0 x hx, ez1_2 x hx]
  have c := law_Reverses l0 l1 q0_0 q1_0 q1_3 q1_1 ns1 (fun x => mkL (z1_0 x) (z1_1 x) (z1_2 x)) eq0_0 hl0 hl1 (fun x hx => (mkL_len _ _ _).trans (ez1_0 x hx)) x2_0 x2_1 l2_2 (mkL q2_2_0 q2_2_1 q2_2_2) ((mkL_len _ _ _).trans eq2_2_0) hl2_2
  rw [mkL_poB l2_2 (by rw [eq2_2_0, eq2_2_1]) (by rw [eq2_2_0, eq2_2_2])] at c
  exact fc_ent (SameEnt.ent (.cons (.cons (.cons (.fam (fun x hx => mkL_poB (ns1.getD x 0) (e2 x hx) (e3 x hx)) (.cons .nil)))))) c
end Go.Proofs.YtjjnbhbendlnhaaDoor

