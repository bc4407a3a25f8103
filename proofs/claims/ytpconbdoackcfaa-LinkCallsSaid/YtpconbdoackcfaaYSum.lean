/- Plain facts on sums of rows. No program in sight. -/
import Derived.Test.YtpconbdoackcfaaYPlain
namespace Go.Sy
open Go.RowKit

/-- The sum of some rows. -/
def sumAt (vs : List Int) (sn : List Nat) : Int := (sn.map (fun i => vs.getD i 0)).sum
theorem perm_sum {l m : List Int} (h : l.Perm m) : l.sum = m.sum := by
  induction h with
  | nil => rfl
  | cons x _ ih => simp [ih]
  | swap x y l => simp; omega
  | trans _ _ a b => exact a.trans b
theorem sumAt_all {vs : List Int} {n : Nat} {sn : List Nat} (hn : vs.length = n) (hd : sn.Nodup) (hl : ∀ i ∈ sn, i < n) (ha : ∀ i, i < n → i ∈ sn) : sumAt vs sn = vs.sum := by
  subst hn
  unfold sumAt
  have := perm_sum ((perm_range hd hl ha).map (fun i => vs.getD i 0))
  rw [this, map_range_getD]
theorem wrap_i64 (n : Int) : IntKind.i64.wrap n = (n + 9223372036854775808) % 18446744073709551616 - 9223372036854775808 := by
  simp only [IntKind.wrap, IntKind.signed, IntKind.bits, Bool.true_and, decide_eq_true_eq, Int.reducePow, Nat.reduceSub, ge_iff_le]
  split <;> omega
theorem wrap_add (x y : Int) : IntKind.i64.wrap (IntKind.i64.wrap x + y) = IntKind.i64.wrap (x + y) := by
  rw [wrap_i64, wrap_i64, wrap_i64]
  omega
theorem wrap_sub (x y : Int) : IntKind.i64.wrap (x - IntKind.i64.wrap y) = IntKind.i64.wrap (x - y) := by
  rw [wrap_i64, wrap_i64, wrap_i64]
  omega
end Go.Sy
