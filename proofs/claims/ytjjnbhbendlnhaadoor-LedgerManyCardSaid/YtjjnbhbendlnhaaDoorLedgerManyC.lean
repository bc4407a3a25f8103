/- Several texts in one: XLgMn. -/
import Derived.Test.YtjjnbhbendlnhaaDoorLm2
/- The law LedgerMany: a ledger may have 512 accounts and MaxEntries entries, and not more. -/
namespace Go.Proofs.YtjjnbhbendlnhaaDoor
open Go.RowKit Go.Sy
set_option linter.unusedVariables false

theorem ledgerMany_fc (n0 : Int) (hw0 : (Lit.int .u8 n0).wf = true) :
    FC Tryd.prog 1 3 [.int .u8 n0] [(0, some (GB glT))] (isOut (.bool true) [] 1) := law_Many n0 (by
  simp only [Lit.wf, IntKind.min, IntKind.max, IntKind.signed, IntKind.bits, Bool.and_eq_true, decide_eq_true_eq, if_true, Bool.false_eq_true, if_false] at hw0
  omega)
end Go.Proofs.YtjjnbhbendlnhaaDoor

