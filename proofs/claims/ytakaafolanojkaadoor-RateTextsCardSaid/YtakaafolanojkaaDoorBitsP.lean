/- Plain facts: long multiplication and long division of words. No program in sight. -/
import Derived.Test.YtakaafolanojkaaDoorNum
namespace Go.Sy
open Go.RowKit

theorem iand_mask {x : Nat} (h : x < 18446744073709551616) : iand .u64 (x : Int) 4294967295 = ((x % 4294967296 : Nat) : Int) := by
  have h1 : (BitVec.ofInt 64 (x : Int) &&& BitVec.ofInt 64 4294967295).toNat = x % 4294967296 := by
    rw [BitVec.toNat_and, BitVec.toNat_ofInt, BitVec.toNat_ofInt]
    rw [show ((x : Int) % ((2 ^ 64 : Nat) : Int)).toNat = x by omega, show ((4294967295 : Int) % ((2 ^ 64 : Nat) : Int)).toNat = 2 ^ 32 - 1 by decide, Nat.and_two_pow_sub_one_eq_mod]
  show IntKind.u64.wrap (((BitVec.ofInt 64 (x : Int) &&& BitVec.ofInt 64 4294967295).toNat : Nat) : Int) = _
  rw [h1]
  exact u64_in' (by omega) (by omega)
theorem ior_disj {x y k : Nat} (hx : x < 18446744073709551616) (hk : 2 ^ k ∣ x) (hy : y < 2 ^ k) (hy2 : y < 18446744073709551616) : ior .u64 (x : Int) (y : Int) = ((x + y : Nat) : Int) := by
  obtain ⟨z, rfl⟩ := hk
  have h1 : (BitVec.ofInt 64 ((2 ^ k * z : Nat) : Int) ||| BitVec.ofInt 64 (y : Int)).toNat = 2 ^ k * z + y := by
    rw [BitVec.toNat_or, BitVec.toNat_ofInt, BitVec.toNat_ofInt]
    rw [show (((2 ^ k * z : Nat) : Int) % ((2 ^ 64 : Nat) : Int)).toNat = 2 ^ k * z by omega, show ((y : Int) % ((2 ^ 64 : Nat) : Int)).toNat = y by omega]
    exact (Nat.two_pow_add_eq_or_of_lt hy z).symm
  have h2 : 2 ^ k * z + y < 18446744073709551616 := by rw [← h1]; exact BitVec.isLt _
  show IntKind.u64.wrap (((BitVec.ofInt 64 ((2 ^ k * z : Nat) : Int) ||| BitVec.ofInt 64 (y : Int)).toNat : Nat) : Int) = _
  rw [h1]
  exact u64_in' (by omega) (by omega)
theorem u64_wrap_nat (x : Nat) : IntKind.u64.wrap (x : Int) = ((x % 18446744073709551616 : Nat) : Int) := by
  simp only [IntKind.wrap, IntKind.bits, IntKind.signed]; simp
theorem ishl_nat {x s : Nat} (h : s ≤ 64) : ishl .u64 (x : Int) (s : Int) = ((x * 2 ^ s % 18446744073709551616 : Nat) : Int) := by
  unfold ishl
  rw [Int.toNat_natCast, show min s (IntKind.bits .u64) = s from Nat.min_eq_left h, ← u64_wrap_nat]
  simp
theorem ishr_nat {x s : Nat} (h : s ≤ 64) : ishr .u64 (x : Int) (s : Int) = ((x / 2 ^ s : Nat) : Int) := by
  rw [ishr_lit (k := .u64) s h]
  simp

/-- Long multiplication. -/
theorem mul_hi {x y x0 x1 y0 y1 : Nat} (hx : x = x1 * 4294967296 + x0) (hy : y = y1 * 4294967296 + y0) : x * y = (x1 * y1) * 18446744073709551616 + (x1 * y0) * 4294967296 + (x0 * y1) * 4294967296 + x0 * y0 := by
  subst hx; subst hy
  simp only [Nat.add_mul, Nat.mul_add]
  have e1 : x1 * 4294967296 * (y1 * 4294967296) = x1 * y1 * 18446744073709551616 := by
    rw [Nat.mul_assoc, Nat.mul_left_comm 4294967296 y1, ← Nat.mul_assoc]
  have e2 : x1 * 4294967296 * y0 = x1 * y0 * 4294967296 := by rw [Nat.mul_assoc, Nat.mul_comm 4294967296, ← Nat.mul_assoc]
  have e3 : x0 * (y1 * 4294967296) = x0 * y1 * 4294967296 := by rw [Nat.mul_assoc]
  omega
theorem mul_lt {a b : Nat} (ha : a < 4294967296) (hb : b < 4294967296) : a * b ≤ 18446744065119617025 := by
  have := Nat.mul_le_mul (show a ≤ 4294967295 by omega) (show b ≤ 4294967295 by omega)
  omega

/-- One digit of a long division. -/
structure KD (u32 u1 Y1 Y0 Q : Nat) : Prop where
  b1 : u1 < 4294967296
  b0 : Y0 < 4294967296
  n1 : 2147483648 ≤ Y1
  n2 : Y1 < 4294967296
  lt : u32 < Y1 * 4294967296 + Y0
  q : Q = (u32 * 4294967296 + u1) / (Y1 * 4294967296 + Y0)

section
variable {u32 u1 Y1 Y0 Q : Nat} (k : KD u32 u1 Y1 Y0 Q)
include k
theorem KD.qlt : Q < 4294967296 := by
  rw [k.q, Nat.div_lt_iff_lt_mul (by have := k.n1; omega)]
  have := k.lt; have := k.b1
  omega
theorem KD.le : Q ≤ u32 / Y1 := by
  have h1 : Q * (Y1 * 4294967296 + Y0) ≤ u32 * 4294967296 + u1 := by rw [k.q]; exact Nat.div_mul_le_self _ _
  rw [Nat.le_div_iff_mul_le (by have := k.n1; omega)]
  rw [Nat.mul_add, ← Nat.mul_assoc] at h1
  have := k.b1
  have h2 : 0 ≤ Q * Y0 := Nat.zero_le _
  omega
theorem KD.gt {q r : Nat} (hr : r + q * Y1 = u32) (h : 4294967296 ≤ q ∨ 4294967296 * r + u1 < q * Y0) : Q < q := by
  rcases h with h | h
  · have := k.qlt; omega
  · rw [k.q, Nat.div_lt_iff_lt_mul (by have := k.n1; omega), Nat.mul_add, ← Nat.mul_assoc]
    subst hr
    rw [Nat.add_mul]
    omega
theorem KD.eq {q r : Nat} (hr : r + q * Y1 = u32) (hq : Q ≤ q) (h : q * Y0 ≤ 4294967296 * r + u1) : q = Q := by
  refine Nat.le_antisymm ?_ hq
  rw [k.q, Nat.le_div_iff_mul_le (by have := k.n1; omega), Nat.mul_add, ← Nat.mul_assoc]
  subst hr
  rw [Nat.add_mul]
  omega
theorem KD.eqB {q r : Nat} (hr : r + q * Y1 = u32) (hq : Q ≤ q) (hb : q ≤ 4294967296) (h : 4294967296 ≤ r) : q = Q := by
  refine k.eq hr hq ?_
  have h1 : q * Y0 ≤ 4294967296 * Y0 := Nat.mul_le_mul_right _ hb
  have := k.b0
  omega
theorem KD.init : u32 / Y1 ≤ 4294967297 := by
  have h1 := k.n1
  have h2 := k.lt
  have h3 := k.b0
  have h4 := k.n2
  rw [← Nat.lt_succ_iff, Nat.div_lt_iff_lt_mul (by omega)]
  omega
theorem KD.rem : (u32 * 4294967296 + u1) - Q * (Y1 * 4294967296 + Y0) = (u32 * 4294967296 + u1) % (Y1 * 4294967296 + Y0) := by
  rw [k.q, Nat.mod_eq_sub, Nat.mul_comm (Y1 * 4294967296 + Y0)]
end

/-- The parts of a long division. -/
theorem div_parts {hi lo y s : Nat} (hy : y < 18446744073709551616) (hlo : lo < 18446744073709551616) (hhi : hi < y) (hs : s = 64 - blen y) :
    ∃ Y u32 u10, Y = y * 2 ^ s ∧ Y < 18446744073709551616 ∧ 9223372036854775808 ≤ Y ∧ u32 = hi * 2 ^ s + lo / 2 ^ (64 - s) ∧ u10 = lo * 2 ^ s % 18446744073709551616 ∧ u32 < Y ∧ hi * 2 ^ s < 18446744073709551616 ∧ 2 ^ s ∣ hi * 2 ^ s ∧ lo / 2 ^ (64 - s) < 2 ^ s ∧ s ≤ 63 ∧
      u32 * 18446744073709551616 + u10 = (hi * 18446744073709551616 + lo) * 2 ^ s := by
  have hy1 : 1 ≤ y := by omega
  have b1 := blen_lt y
  have b2 := blen_ge y hy1
  have b3 := blen_le64 (u := y) hy
  have b4 : 1 ≤ blen y := by unfold blen; rw [if_neg (by omega)]; omega
  have p0 : 0 < 2 ^ s := Nat.two_pow_pos s
  have e1 : 2 ^ (64 - s) * 2 ^ s = 18446744073709551616 := by rw [← Nat.pow_add, show 64 - s + s = 64 by omega]
  have f1 : y * 2 ^ s < 18446744073709551616 := by
    rw [← e1]
    refine Nat.mul_lt_mul_of_pos_right ?_ p0
    rw [show 64 - s = blen y by omega]; exact b1
  have f2 : 9223372036854775808 ≤ y * 2 ^ s := by
    have := Nat.mul_le_mul_right (2 ^ s) b2
    rw [← Nat.pow_add, show blen y - 1 + s = 63 by omega] at this
    exact this
  have f3 : (hi + 1) * 2 ^ s ≤ y * 2 ^ s := Nat.mul_le_mul_right _ hhi
  rw [Nat.add_mul, Nat.one_mul] at f3
  have f4 : lo / 2 ^ (64 - s) < 2 ^ s := by
    rw [Nat.div_lt_iff_lt_mul (Nat.two_pow_pos _), Nat.mul_comm, e1]; exact hlo
  refine ⟨_, _, _, rfl, f1, f2, rfl, rfl, by omega, by omega, ⟨hi, Nat.mul_comm _ _⟩, f4, by omega, ?_⟩
  have g1 : lo * 2 ^ s / 18446744073709551616 = lo / 2 ^ (64 - s) := by
    rw [← e1, Nat.mul_div_mul_right _ _ p0]
  have g2 := Nat.div_add_mod (lo * 2 ^ s) 18446744073709551616
  rw [g1] at g2
  have g3 : (hi * 18446744073709551616 + lo) * 2 ^ s = hi * 2 ^ s * 18446744073709551616 + lo * 2 ^ s := by
    rw [Nat.add_mul, Nat.mul_right_comm]
  omega
end Go.Sy
