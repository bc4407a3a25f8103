/- Contracts of the library: long multiplication. -/
import Derived.Test.YtkbajejkllkahaaDoorBitsP
import Derived.Test.YtkbajejkllkahaaDoorTab
namespace Go.Proofs.YtkbajejkllkahaaDoor
open Go.RowKit Go.Sy
attribute [local irreducible] vcall vloop vcallD retP
set_option maxRecDepth 100000
set_option linter.unusedVariables false
set_option linter.unusedSimpArgs false

theorem ishr32 {x : Nat} : ishr .u64 (x : Int) 32 = ((x / 4294967296 : Nat) : Int) := ishr_nat (s := 32) (by omega)
theorem wmul {a b : Nat} (h : a * b < 18446744073709551616) : IntKind.u64.wrap ((a : Int) * (b : Int)) = ((a * b : Nat) : Int) := by
  rw [← Int.natCast_mul]; exact u64_in' (by omega) (by omega)
theorem wadd {a b : Nat} (h : a + b < 18446744073709551616) : IntKind.u64.wrap ((a : Int) + (b : Int)) = ((a + b : Nat) : Int) := by
  rw [← Int.natCast_add]; exact u64_in' (by omega) (by omega)

theorem tup2 {k j : IntKind} {a b c d : Int} (h : a = c) (h' : b = d) : SV.tup [.int k a, .int j b] = SV.tup [.int k c, .int j d] := by rw [h, h']
theorem bits_Mul64 (x y : Nat) (hx : x < 18446744073709551616) (hy : y < 18446744073709551616) : Pure Tryd.prog 69 [.int .u64 x, .int .u64 y] (.tup [.int .u64 (x * y / 18446744073709551616 : Nat), .int .u64 (x * y % 18446744073709551616 : Nat)]) := by
  refine fc_of mixed T_ok Tryd.func69 rfl (by kernel_rfl) (by kernel_rfl) (by kernel_rfl) ?_
  repeat' ((conv => whnf); first | (refine br_dec (fun h => ?_) (fun h => ?_) <;> try (exfalso; omega)) | (refine br_ndec (fun h => ?_) (fun h => ?_) <;> try (exfalso; omega)) | refine br_seq (fun h => ?_) (fun h => ?_) | refine br_nseq (fun h => ?_) (fun h => ?_) | refine br_not (fun h => ?_) (fun h => ?_) | refine br_intro (fun h => ?_) (fun h => ?_) | refine cond_intro rfl ?_ | (refine cond_intro ⟨rfl, ?_⟩ ?_; (first | omega | (dsimp only; omega) | decide)) | (refine cond_intro ?_ ?_; (first | omega | (dsimp only; omega) | decide | (simp only [Nat.add_zero, Int.toNat_natCast, *]; omega))))
  all_goals (conv => whnf)
  refine ret_pure ?_
  have e1 := iand_mask hx
  have e3 := iand_mask hy
  have k := mul_hi (x := x) (y := y) (x0 := x % 4294967296) (x1 := x / 4294967296) (y0 := y % 4294967296) (y1 := y / 4294967296) (by omega) (by omega)
  have w : IntKind.u64.wrap ((x : Int) * (y : Int)) = ((x * y % 18446744073709551616 : Nat) : Int) := by rw [← Int.natCast_mul, u64_wrap_nat]
  have a0 : x % 4294967296 < 4294967296 := by omega
  have a1 : x / 4294967296 < 4294967296 := by omega
  have b0 : y % 4294967296 < 4294967296 := by omega
  have b1 : y / 4294967296 < 4294967296 := by omega
  simp only [oneOr, e1, e3, ishr32, w]
  generalize x % 4294967296 = x0 at *
  generalize x / 4294967296 = x1 at *
  generalize y % 4294967296 = y0 at *
  generalize y / 4294967296 = y1 at *
  have m00 := mul_lt a0 b0
  have m10 := mul_lt a1 b0
  have m01 := mul_lt a0 b1
  have m11 := mul_lt a1 b1
  rw [wmul (a := x0) (b := y0) (by omega), wmul (a := x1) (b := y0) (by omega), wmul (a := x0) (b := y1) (by omega), wmul (a := x1) (b := y1) (by omega), k]
  generalize x0 * y0 = S at *
  generalize x1 * y0 = Q at *
  generalize x0 * y1 = R at *
  generalize x1 * y1 = T at *
  rw [ishr32, wadd (by omega), ishr32, iand_mask (by omega), wadd (by omega), wadd (by omega), ishr32, wadd (by omega)]
  refine tup2 ?_ rfl
  omega

end Go.Proofs.YtkbajejkllkahaaDoor
