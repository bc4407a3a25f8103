/- Several texts in one: XNum, XMoneyC, XBitsP, XFmtC, XBitsC, XMoneyC3, XMoneyC4, XPosA, XPosB, XPosC, XPanC, XBinC, XSortP, XPosD, XPosE, XCalA, XPosF, XPosG, XPosH, XPosI, XPosJ, XPosK, XMoneyC2, XRateC, XFmtC2, XFmtC3. -/
import Derived.Test.YtkdjnmcaifejjaaGreatDoorYLib
import Derived.Test.YtkdjnmcaifejjaaGreatDoorTab
import Derived.Test.YtkdjnmcaifejjaaGreatDoorYPlain
import Derived.Test.YtkdjnmcaifejjaaGreatDoorYCalls
import Derived.Test.YtkdjnmcaifejjaaGreatDoorShelf
import Derived.Test.YtkdjnmcaifejjaaGreatDoorYSort
import Derived.Sort.Walk0
import Derived.Test.YtkdjnmcaifejjaaGreatDoorLay
import Derived.Test.YtkdjnmcaifejjaaGreatDoorYKeys
import Derived.Test.YtkdjnmcaifejjaaGreatDoorYNil
import Derived.Test.YtkdjnmcaifejjaaGreatDoorYIdx
/- Plain facts on numbers: decimal digits, lengths in bits, division. No program in sight. -/
namespace Go.Sy
open Go.RowKit

theorem u32_in' {n : Int} (h : 0 ≤ n) (h' : n ≤ 4294967295) : IntKind.u32.wrap n = n := IntWalk.u32_in n ⟨h, h'⟩
theorem u64_in' {n : Int} (h : 0 ≤ n) (h' : n ≤ 18446744073709551615) : IntKind.u64.wrap n = n := IntWalk.u64_in n ⟨h, h'⟩
theorem u8_in' {n : Int} (h : 0 ≤ n) (h' : n ≤ 255) : IntKind.u8.wrap n = n := IntWalk.u8_in n ⟨h, h'⟩
theorem ishr_lit {k : IntKind} {x : Int} (n : Nat) (h : n ≤ k.bits) : ishr k x (n : Int) = x / 2 ^ n := by
  unfold ishr
  rw [Int.toNat_natCast, Nat.min_eq_left h, Int.fdiv_eq_ediv_of_nonneg]
  exact Int.pow_nonneg (by omega)
theorem ishr_lit8 {x : Int} : ishr .u64 x 8 = x / 256 := ishr_lit (k := .u64) 8 (by decide)
theorem ishr_lit16 {x : Int} : ishr .u64 x 16 = x / 65536 := ishr_lit (k := .u64) 16 (by decide)
theorem ishr_lit32 {x : Int} : ishr .u64 x 32 = x / 4294967296 := ishr_lit (k := .u64) 32 (by decide)
theorem ishr_lit18 {x : Int} : ishr .i64 x 18 = x / 262144 := ishr_lit (k := .i64) 18 (by decide)
theorem sz_lt {s : ByteArray} {x : Int} {n : Nat} (h : s.size = n) (k : x < (n : Int)) : x < (s.size : Int) := by rw [h]; exact k
/-- The length of a number in bits. -/
def blen (u : Nat) : Nat := if u = 0 then 0 else u.log2 + 1

theorem blen_lt (u : Nat) : u < 2 ^ blen u := by
  unfold blen
  split
  · omega
  · exact Nat.lt_log2_self
theorem blen_ge (u : Nat) (h : 1 ≤ u) : 2 ^ (blen u - 1) ≤ u := by
  unfold blen
  rw [if_neg (by omega), Nat.add_sub_cancel]
  exact Nat.log2_self_le (by omega)
theorem blen_unique {u k : Nat} (h1 : 2 ^ k ≤ u) (h2 : u < 2 ^ (k + 1)) : blen u = k + 1 := by
  have hu : 1 ≤ u := Nat.le_trans (Nat.one_le_pow _ _ (by omega)) h1
  have a := blen_lt u
  have b := blen_ge u hu
  have hp : 0 < blen u := by unfold blen; rw [if_neg (by omega)]; omega
  rcases Nat.lt_trichotomy (blen u) (k + 1) with h | h | h
  · have : 2 ^ blen u ≤ 2 ^ k := Nat.pow_le_pow_right (by omega) (by omega)
    omega
  · exact h
  · have : 2 ^ (k + 1) ≤ 2 ^ (blen u - 1) := Nat.pow_le_pow_right (by omega) (by omega)
    omega
theorem blen_le64 {u : Nat} (h : u < 2 ^ 64) : blen u ≤ 64 := by
  rcases Nat.lt_or_ge 64 (blen u) with h1 | h1
  · have hu : 1 ≤ u := by
      rcases Nat.eq_zero_or_pos u with e | e
      · subst e; simp [blen] at h1
      · exact e
    have a := blen_ge u hu
    have : 2 ^ 64 ≤ 2 ^ (blen u - 1) := Nat.pow_le_pow_right (by omega) (by omega)
    omega
  · exact h1
theorem blen_shift (u k : Nat) (h : 2 ^ k ≤ u) : blen u = k + blen (u / 2 ^ k) := by
  have h1 : 1 ≤ u / 2 ^ k := (Nat.one_le_div_iff (Nat.two_pow_pos k)).2 h
  have a := blen_lt (u / 2 ^ k)
  have b := blen_ge (u / 2 ^ k) h1
  have hp : 0 < blen (u / 2 ^ k) := by unfold blen; rw [if_neg (by omega)]; omega
  have : blen u = (k + blen (u / 2 ^ k) - 1) + 1 := by
    refine blen_unique ?_ ?_
    · rw [show k + blen (u / 2 ^ k) - 1 = (blen (u / 2 ^ k) - 1) + k from by omega, Nat.pow_add]
      exact (Nat.le_div_iff_mul_le (Nat.two_pow_pos k)).1 b
    · rw [show k + blen (u / 2 ^ k) - 1 + 1 = blen (u / 2 ^ k) + k from by omega, Nat.pow_add]
      exact (Nat.div_lt_iff_lt_mul (Nat.two_pow_pos k)).1 a
  omega

/-- A table of bytes. -/
def tabB (s : ByteArray) (n : Nat) (f : Nat → Nat) : Bool := decide (s.size = n) && (List.range n).all (fun i => Nat.beq (s.data.toList.getD i 0).toNat (f i))
theorem tabB_at {s : ByteArray} {n : Nat} {f : Nat → Nat} (h : tabB s n f = true) {i : Nat} (hi : i < n) : byteAt s (i : Int) = (f i : Int) := by
  unfold tabB at h
  simp only [Bool.and_eq_true, List.all_eq_true, List.mem_range] at h
  unfold byteAt
  rw [Int.toNat_natCast, Nat.eq_of_beq_eq_true (h.2 i hi)]
end Go.Sy

/- Contracts of package money, and of the reference's: currencies. -/
namespace Go.Proofs.YtkdjnmcaifejjaaGreatDoor
open Go.RowKit Go.Sy
attribute [local irreducible] vcall vloop vcallD retP
set_option maxRecDepth 100000
set_option linter.unusedVariables false

theorem i64_succ {k : Nat} (h : k < 9223372036854775806) : IntKind.i64.wrap ((k : Int) + 1) = ((k + 1 : Nat) : Int) := by rw [w64_in (by omega) (by omega)]; rfl

def capAt (s : ByteArray) (i : Nat) : Bool := decide (65 ≤ byteAt s (i : Int)) && decide (byteAt s (i : Int) ≤ 90)
def capsTo (s : ByteArray) : Nat → Bool
  | 0 => true
  | k + 1 => capsTo s k && capAt s k
/-- Three capital letters. -/
def curB (s : ByteArray) : Bool := decide (s.size = 3) && capsTo s s.size
theorem capsTo_false {s : ByteArray} {k n : Nat} (h : k < n) (hc : capAt s k = false) : capsTo s n = false := by
  induction n with
  | zero => omega
  | succ n ih =>
    simp only [capsTo]
    by_cases e : k = n
    · subst e; simp [hc]
    · rw [ih (by omega)]; rfl
theorem curB_false {s : ByteArray} {k : Nat} (h : k < s.size) (hc : byteAt s (k : Int) < 65 ∨ 90 < byteAt s (k : Int)) : curB s = false := by
  have : capAt s k = false := by unfold capAt; simp; omega
  unfold curB
  rw [capsTo_false h this]; simp
theorem curB_size {s : ByteArray} (h : s.size ≠ 3) : curB s = false := by unfold curB; simp [h]
theorem capsTo_step {s : ByteArray} {k : Nat} (h : capsTo s k = true) (h1 : ¬ byteAt s (k : Int) < 65) (h2 : ¬ 90 < byteAt s (k : Int)) : capsTo s (k + 1) = true := by
  simp only [capsTo, h, capAt]; simp; omega
attribute [irreducible] curB
theorem money_isCurrency (s : ByteArray) : Pure Tryz.prog 110 [.str s] (.bool (curB s)) := by
  refine fc_of mixed T_ok Tryz.func110 rfl (by kernel_rfl) (by kernel_rfl) (by kernel_rfl) ?_
  repeat' ((conv => whnf); first | ((first | apply br_dec | apply br_ndec) <;> intro h <;> try (exfalso; (try dsimp only at h); omega)) | ((first | apply br_seq | apply br_nseq | apply br_not | apply br_intro) <;> intro h) | refine cond_a ?_)
  all_goals (conv => whnf)
  · exact ret_pure (by rw [curB_size (by omega)]; rfl)
  · refine vloop_of (fun k : Nat => ⟨[(0, .str s), (8, .int .i64 s.size), (9, .int .i64 k)], [], 1⟩) (fun k => k ≤ s.size ∧ capsTo s k = true) (fun k => s.size - k) 0 [0] [] ⟨rfl, ⟨rfl, rfl, rfl, trivial⟩, trivial⟩ ⟨by omega, rfl⟩ ?_
    rintro k ⟨hk, hc⟩
    repeat' ((conv => whnf); first | ((first | apply br_dec | apply br_ndec) <;> intro h <;> try (exfalso; (try dsimp only at h); omega)) | ((first | apply br_seq | apply br_nseq | apply br_not | apply br_intro) <;> intro h) | refine cond_a ?_)
    all_goals (conv => whnf)
    · exact ret_pure (by rw [curB_false (k := k) (by omega) (by omega)]; rfl)
    · exact ret_pure (by rw [curB_false (k := k) (by omega) (by omega)]; rfl)
    · exact ⟨k + 1, [0], [], ⟨by omega, capsTo_step hc (by omega) (by omega)⟩, by omega, ⟨rfl, ⟨rfl, rfl, congrArg (fun z => some (SV.int .i64 z)) (i64_succ (by omega)), trivial⟩, trivial⟩⟩
    · have e : k = s.size := by omega
      subst e
      refine ret_pure ?_
      have : curB s = true := by unfold curB; rw [hc]; simp; omega
      rw [this]; rfl

end Go.Proofs.YtkdjnmcaifejjaaGreatDoor

/- Plain facts: long multiplication and long division of words. No program in sight. -/
namespace Go.Sy
open Go.RowKit

theorem iand_mask {x : Nat} (h : x < 18446744073709551616) : iand .u64 (x : Int) 4294967295 = ((x % 4294967296 : Nat) : Int) := by
  have h1 : (BitVec.ofInt 64 (x : Int) &&& BitVec.ofInt 64 4294967295).toNat = x % 4294967296 := by
    rw [BitVec.toNat_and, BitVec.toNat_ofInt, BitVec.toNat_ofInt]
    rw [show ((x : Int) % ((2 ^ 64 : Nat) : Int)).toNat = x by omega, show ((4294967295 : Int) % ((2 ^ 64 : Nat) : Int)).toNat = 2 ^ 32 - 1 by decide, Nat.and_two_pow_sub_one_eq_mod]
  show IntKind.u64.wrap (((BitVec.ofInt 64 (x : Int) &&& BitVec.ofInt 64 4294967295).toNat : Nat) : Int) = _
  rw [h1]
  exact u64_in' (by omega) (by omega)
theorem ior_disj {x y k : Nat} (hx : x < 18446744073709551616) (hk : 2 ^ k ∣ x) (hy : y < 2 ^ k) (hy2 : y < 18446744073709551616) : ior .u64 (x : Int) (y : Int) = ((x + y : Nat) : Int) := by
  obtain ⟨z, rfl⟩ := hk
  have h1 : (BitVec.ofInt 64 ((2 ^ k * z : Nat) : Int) ||| BitVec.ofInt 64 (y : Int)).toNat = 2 ^ k * z + y := by
    rw [BitVec.toNat_or, BitVec.toNat_ofInt, BitVec.toNat_ofInt]
    rw [show (((2 ^ k * z : Nat) : Int) % ((2 ^ 64 : Nat) : Int)).toNat = 2 ^ k * z by omega, show ((y : Int) % ((2 ^ 64 : Nat) : Int)).toNat = y by omega]
    exact (Nat.two_pow_add_eq_or_of_lt hy z).symm
  have h2 : 2 ^ k * z + y < 18446744073709551616 := by rw [← h1]; exact BitVec.isLt _
  show IntKind.u64.wrap (((BitVec.ofInt 64 ((2 ^ k * z : Nat) : Int) ||| BitVec.ofInt 64 (y : Int)).toNat : Nat) : Int) = _
  rw [h1]
  exact u64_in' (by omega) (by omega)
theorem u64_wrap_nat (x : Nat) : IntKind.u64.wrap (x : Int) = ((x % 18446744073709551616 : Nat) : Int) := by
  simp only [IntKind.wrap, IntKind.bits, IntKind.signed]; simp
theorem ishl_nat {x s : Nat} (h : s ≤ 64) : ishl .u64 (x : Int) (s : Int) = ((x * 2 ^ s % 18446744073709551616 : Nat) : Int) := by
  unfold ishl
  rw [Int.toNat_natCast, show min s (IntKind.bits .u64) = s from Nat.min_eq_left h, ← u64_wrap_nat]
  simp
theorem ishr_nat {x s : Nat} (h : s ≤ 64) : ishr .u64 (x : Int) (s : Int) = ((x / 2 ^ s : Nat) : Int) := by
  rw [ishr_lit (k := .u64) s h]
  simp

/-- Long multiplication. -/
theorem mul_hi {x y x0 x1 y0 y1 : Nat} (hx : x = x1 * 4294967296 + x0) (hy : y = y1 * 4294967296 + y0) : x * y = (x1 * y1) * 18446744073709551616 + (x1 * y0) * 4294967296 + (x0 * y1) * 4294967296 + x0 * y0 := by
  subst hx; subst hy
  simp only [Nat.add_mul, Nat.mul_add]
  have e1 : x1 * 4294967296 * (y1 * 4294967296) = x1 * y1 * 18446744073709551616 := by
    rw [Nat.mul_assoc, Nat.mul_left_comm 4294967296 y1, ← Nat.mul_assoc]
  have e2 : x1 * 4294967296 * y0 = x1 * y0 * 4294967296 := by rw [Nat.mul_assoc, Nat.mul_comm 4294967296, ← Nat.mul_assoc]
  have e3 : x0 * (y1 * 4294967296) = x0 * y1 * 4294967296 := by rw [Nat.mul_assoc]
  omega
theorem mul_lt {a b : Nat} (ha : a < 4294967296) (hb : b < 4294967296) : a * b ≤ 18446744065119617025 := by
  have := Nat.mul_le_mul (show a ≤ 4294967295 by omega) (show b ≤ 4294967295 by omega)
  omega

/-- One digit of a long division. -/
structure KD (u32 u1 Y1 Y0 Q : Nat) : Prop where
  b1 : u1 < 4294967296
  b0 : Y0 < 4294967296
  n1 : 2147483648 ≤ Y1
  n2 : Y1 < 4294967296
  lt : u32 < Y1 * 4294967296 + Y0
  q : Q = (u32 * 4294967296 + u1) / (Y1 * 4294967296 + Y0)

section
variable {u32 u1 Y1 Y0 Q : Nat} (k : KD u32 u1 Y1 Y0 Q)
include k
theorem KD.qlt : Q < 4294967296 := by
  rw [k.q, Nat.div_lt_iff_lt_mul (by have := k.n1; omega)]
  have := k.lt; have := k.b1
  omega
theorem KD.le : Q ≤ u32 / Y1 := by
  have h1 : Q * (Y1 * 4294967296 + Y0) ≤ u32 * 4294967296 + u1 := by rw [k.q]; exact Nat.div_mul_le_self _ _
  rw [Nat.le_div_iff_mul_le (by have := k.n1; omega)]
  rw [Nat.mul_add, ← Nat.mul_assoc] at h1
  have := k.b1
  have h2 : 0 ≤ Q * Y0 := Nat.zero_le _
  omega
theorem KD.gt {q r : Nat} (hr : r + q * Y1 = u32) (h : 4294967296 ≤ q ∨ 4294967296 * r + u1 < q * Y0) : Q < q := by
  rcases h with h | h
  · have := k.qlt; omega
  · rw [k.q, Nat.div_lt_iff_lt_mul (by have := k.n1; omega), Nat.mul_add, ← Nat.mul_assoc]
    subst hr
    rw [Nat.add_mul]
    omega
theorem KD.eq {q r : Nat} (hr : r + q * Y1 = u32) (hq : Q ≤ q) (h : q * Y0 ≤ 4294967296 * r + u1) : q = Q := by
  refine Nat.le_antisymm ?_ hq
  rw [k.q, Nat.le_div_iff_mul_le (by have := k.n1; omega), Nat.mul_add, ← Nat.mul_assoc]
  subst hr
  rw [Nat.add_mul]
  omega
theorem KD.eqB {q r : Nat} (hr : r + q * Y1 = u32) (hq : Q ≤ q) (hb : q ≤ 4294967296) (h : 4294967296 ≤ r) : q = Q := by
  refine k.eq hr hq ?_
  have h1 : q * Y0 ≤ 4294967296 * Y0 := Nat.mul_le_mul_right _ hb
  have := k.b0
  omega
theorem KD.init : u32 / Y1 ≤ 4294967297 := by
  have h1 := k.n1
  have h2 := k.lt
  have h3 := k.b0
  have h4 := k.n2
  rw [← Nat.lt_succ_iff, Nat.div_lt_iff_lt_mul (by omega)]
  omega
theorem KD.rem : (u32 * 4294967296 + u1) - Q * (Y1 * 4294967296 + Y0) = (u32 * 4294967296 + u1) % (Y1 * 4294967296 + Y0) := by
  rw [k.q, Nat.mod_eq_sub, Nat.mul_comm (Y1 * 4294967296 + Y0)]
end

/-- The parts of a long division. -/
theorem div_parts {hi lo y s : Nat} (hy : y < 18446744073709551616) (hlo : lo < 18446744073709551616) (hhi : hi < y) (hs : s = 64 - blen y) :
    ∃ Y u32 u10, Y = y * 2 ^ s ∧ Y < 18446744073709551616 ∧ 9223372036854775808 ≤ Y ∧ u32 = hi * 2 ^ s + lo / 2 ^ (64 - s) ∧ u10 = lo * 2 ^ s % 18446744073709551616 ∧ u32 < Y ∧ hi * 2 ^ s < 18446744073709551616 ∧ 2 ^ s ∣ hi * 2 ^ s ∧ lo / 2 ^ (64 - s) < 2 ^ s ∧ s ≤ 63 ∧
      u32 * 18446744073709551616 + u10 = (hi * 18446744073709551616 + lo) * 2 ^ s := by
  have hy1 : 1 ≤ y := by omega
  have b1 := blen_lt y
  have b2 := blen_ge y hy1
  have b3 := blen_le64 (u := y) hy
  have b4 : 1 ≤ blen y := by unfold blen; rw [if_neg (by omega)]; omega
  have p0 : 0 < 2 ^ s := Nat.two_pow_pos s
  have e1 : 2 ^ (64 - s) * 2 ^ s = 18446744073709551616 := by rw [← Nat.pow_add, show 64 - s + s = 64 by omega]
  have f1 : y * 2 ^ s < 18446744073709551616 := by
    rw [← e1]
    refine Nat.mul_lt_mul_of_pos_right ?_ p0
    rw [show 64 - s = blen y by omega]; exact b1
  have f2 : 9223372036854775808 ≤ y * 2 ^ s := by
    have := Nat.mul_le_mul_right (2 ^ s) b2
    rw [← Nat.pow_add, show blen y - 1 + s = 63 by omega] at this
    exact this
  have f3 : (hi + 1) * 2 ^ s ≤ y * 2 ^ s := Nat.mul_le_mul_right _ hhi
  rw [Nat.add_mul, Nat.one_mul] at f3
  have f4 : lo / 2 ^ (64 - s) < 2 ^ s := by
    rw [Nat.div_lt_iff_lt_mul (Nat.two_pow_pos _), Nat.mul_comm, e1]; exact hlo
  refine ⟨_, _, _, rfl, f1, f2, rfl, rfl, by omega, by omega, ⟨hi, Nat.mul_comm _ _⟩, f4, by omega, ?_⟩
  have g1 : lo * 2 ^ s / 18446744073709551616 = lo / 2 ^ (64 - s) := by
    rw [← e1, Nat.mul_div_mul_right _ _ p0]
  have g2 := Nat.div_add_mod (lo * 2 ^ s) 18446744073709551616
  rw [g1] at g2
  have g3 : (hi * 18446744073709551616 + lo) * 2 ^ s = hi * 2 ^ s * 18446744073709551616 + lo * 2 ^ s := by
    rw [Nat.add_mul, Nat.mul_right_comm]
  omega
end Go.Sy

/- Contracts of the library: numbers in decimal. -/
namespace Go.Proofs.YtkdjnmcaifejjaaGreatDoor
open Go.RowKit Go.Sy
attribute [local irreducible] vcall vloop vcallD retP
set_option maxRecDepth 100000
set_option linter.unusedVariables false
set_option linter.unusedSimpArgs false

theorem l8_at {s : ByteArray} (h : tabB s 256 blen = true) {x : Int} (h0 : 0 ≤ x) (h1 : x < 256) : byteAt s x = (blen x.toNat : Int) := by
  have := tabB_at h (i := x.toNat) (by omega)
  rw [← this, Int.toNat_of_nonneg h0]
theorem blen_small {u : Nat} (h : u < 256) : blen u ≤ 8 := by
  rcases Nat.lt_or_ge 8 (blen u) with h1 | h1
  · have hu : 1 ≤ u := by
      rcases Nat.eq_zero_or_pos u with e | e
      · subst e; simp [blen] at h1
      · exact e
    have a := blen_ge u hu
    have : 2 ^ 8 ≤ 2 ^ (blen u - 1) := Nat.pow_le_pow_right (by omega) (by omega)
    omega
  · exact h1

theorem len_fin {u c : Nat} {x : Int} (hx : x = ((u / 2 ^ c : Nat) : Int)) (h : c = 0 ∨ 2 ^ c ≤ u) : (c : Int) + (blen x.toNat : Int) = (blen u : Int) := by
  subst hx
  rw [Int.toNat_natCast]
  rcases h with rfl | h
  · simp
  · rw [blen_shift u c h]; omega

theorem len_fin' {u c : Nat} {x n : Int} (hn : n = (c : Int)) (hc : c ≤ 56) (hx : x = ((u / 2 ^ c : Nat) : Int)) (h : c = 0 ∨ 2 ^ c ≤ u) (h1 : x < 256) : IntKind.i64.wrap (n + IntKind.i64.wrap (blen x.toNat : Int)) = (blen u : Int) := by
  have hb := blen_small (u := x.toNat) (by omega)
  rw [w64_in (n := (blen x.toNat : Int)) (by omega) (by omega), w64_in (by omega) (by omega), hn]
  exact len_fin hx h

theorem bits_Len64 (u : Nat) (hu : u < 18446744073709551616) : Pure Tryz.prog 109 [.int .u64 u] (.int .i64 (blen u)) := by
  refine fc_of mixed T_ok Tryz.func109 rfl (by kernel_rfl) (by kernel_rfl) (by kernel_rfl) ?_
  repeat' ((conv => whnf); first | (refine cond_intro ⟨by (try simp only [ishr_lit8, ishr_lit16, ishr_lit32, ishr_lit18] at *); (try simp (disch := omega) only [w64_in, u32_in', u64_in', u8_in', ishr_lit8, ishr_lit16, ishr_lit32, ishr_lit18, Int.tmod_eq_emod_of_nonneg, Int.tdiv_eq_ediv_of_nonneg, Int.toNat_natCast, Nat.add_zero]); omega, sz_lt (n := 256) (by kernel_rfl) (by (try simp only [ishr_lit8, ishr_lit16, ishr_lit32, ishr_lit18] at *); (try simp (disch := omega) only [w64_in, u32_in', u64_in', u8_in', ishr_lit8, ishr_lit16, ishr_lit32, ishr_lit18, Int.tmod_eq_emod_of_nonneg, Int.tdiv_eq_ediv_of_nonneg, Int.toNat_natCast, Nat.add_zero]); omega)⟩ ?_) | ((first | apply br_dec | apply br_ndec) <;> intro h <;> try (exfalso; (try dsimp only at h); omega)) | ((first | apply br_seq | apply br_nseq | apply br_not | apply br_intro) <;> intro h) | refine cond_a ?_)
  all_goals (conv => whnf)
  all_goals refine ret_pure ?_
  all_goals simp only [oneOr]
  all_goals (try simp only [ishr_lit8, ishr_lit16, ishr_lit32, ishr_lit18] at *)
  all_goals rw [l8_at (by kernel_rfl) (by (try simp (disch := omega) only [w64_in, u32_in', u64_in', u8_in', ishr_lit8, ishr_lit16, ishr_lit32, ishr_lit18, Int.tmod_eq_emod_of_nonneg, Int.tdiv_eq_ediv_of_nonneg, Int.toNat_natCast, Nat.add_zero]); omega) (by (try simp (disch := omega) only [w64_in, u32_in', u64_in', u8_in', ishr_lit8, ishr_lit16, ishr_lit32, ishr_lit18, Int.tmod_eq_emod_of_nonneg, Int.tdiv_eq_ediv_of_nonneg, Int.toNat_natCast, Nat.add_zero]); omega)]
  all_goals refine congrArg (SV.int .i64) ?_
  · exact len_fin' (c := 56) (by first | rfl | ((try simp (disch := omega) only [w64_in, u32_in', u64_in', u8_in', ishr_lit8, ishr_lit16, ishr_lit32, ishr_lit18, Int.tmod_eq_emod_of_nonneg, Int.tdiv_eq_ediv_of_nonneg, Int.toNat_natCast, Nat.add_zero]); omega)) (by omega) (by (try simp (disch := omega) only [w64_in, u32_in', u64_in', u8_in', ishr_lit8, ishr_lit16, ishr_lit32, ishr_lit18, Int.tmod_eq_emod_of_nonneg, Int.tdiv_eq_ediv_of_nonneg, Int.toNat_natCast, Nat.add_zero]); omega) (by omega) (by (try simp (disch := omega) only [w64_in, u32_in', u64_in', u8_in', ishr_lit8, ishr_lit16, ishr_lit32, ishr_lit18, Int.tmod_eq_emod_of_nonneg, Int.tdiv_eq_ediv_of_nonneg, Int.toNat_natCast, Nat.add_zero]); omega)
  · exact len_fin' (c := 48) (by first | rfl | ((try simp (disch := omega) only [w64_in, u32_in', u64_in', u8_in', ishr_lit8, ishr_lit16, ishr_lit32, ishr_lit18, Int.tmod_eq_emod_of_nonneg, Int.tdiv_eq_ediv_of_nonneg, Int.toNat_natCast, Nat.add_zero]); omega)) (by omega) (by (try simp (disch := omega) only [w64_in, u32_in', u64_in', u8_in', ishr_lit8, ishr_lit16, ishr_lit32, ishr_lit18, Int.tmod_eq_emod_of_nonneg, Int.tdiv_eq_ediv_of_nonneg, Int.toNat_natCast, Nat.add_zero]); omega) (by omega) (by (try simp (disch := omega) only [w64_in, u32_in', u64_in', u8_in', ishr_lit8, ishr_lit16, ishr_lit32, ishr_lit18, Int.tmod_eq_emod_of_nonneg, Int.tdiv_eq_ediv_of_nonneg, Int.toNat_natCast, Nat.add_zero]); omega)
  · exact len_fin' (c := 40) (by first | rfl | ((try simp (disch := omega) only [w64_in, u32_in', u64_in', u8_in', ishr_lit8, ishr_lit16, ishr_lit32, ishr_lit18, Int.tmod_eq_emod_of_nonneg, Int.tdiv_eq_ediv_of_nonneg, Int.toNat_natCast, Nat.add_zero]); omega)) (by omega) (by (try simp (disch := omega) only [w64_in, u32_in', u64_in', u8_in', ishr_lit8, ishr_lit16, ishr_lit32, ishr_lit18, Int.tmod_eq_emod_of_nonneg, Int.tdiv_eq_ediv_of_nonneg, Int.toNat_natCast, Nat.add_zero]); omega) (by omega) (by (try simp (disch := omega) only [w64_in, u32_in', u64_in', u8_in', ishr_lit8, ishr_lit16, ishr_lit32, ishr_lit18, Int.tmod_eq_emod_of_nonneg, Int.tdiv_eq_ediv_of_nonneg, Int.toNat_natCast, Nat.add_zero]); omega)
  · exact len_fin' (c := 32) (by first | rfl | ((try simp (disch := omega) only [w64_in, u32_in', u64_in', u8_in', ishr_lit8, ishr_lit16, ishr_lit32, ishr_lit18, Int.tmod_eq_emod_of_nonneg, Int.tdiv_eq_ediv_of_nonneg, Int.toNat_natCast, Nat.add_zero]); omega)) (by omega) (by (try simp (disch := omega) only [w64_in, u32_in', u64_in', u8_in', ishr_lit8, ishr_lit16, ishr_lit32, ishr_lit18, Int.tmod_eq_emod_of_nonneg, Int.tdiv_eq_ediv_of_nonneg, Int.toNat_natCast, Nat.add_zero]); omega) (by omega) (by (try simp (disch := omega) only [w64_in, u32_in', u64_in', u8_in', ishr_lit8, ishr_lit16, ishr_lit32, ishr_lit18, Int.tmod_eq_emod_of_nonneg, Int.tdiv_eq_ediv_of_nonneg, Int.toNat_natCast, Nat.add_zero]); omega)
  · exact len_fin' (c := 24) (by first | rfl | ((try simp (disch := omega) only [w64_in, u32_in', u64_in', u8_in', ishr_lit8, ishr_lit16, ishr_lit32, ishr_lit18, Int.tmod_eq_emod_of_nonneg, Int.tdiv_eq_ediv_of_nonneg, Int.toNat_natCast, Nat.add_zero]); omega)) (by omega) (by (try simp (disch := omega) only [w64_in, u32_in', u64_in', u8_in', ishr_lit8, ishr_lit16, ishr_lit32, ishr_lit18, Int.tmod_eq_emod_of_nonneg, Int.tdiv_eq_ediv_of_nonneg, Int.toNat_natCast, Nat.add_zero]); omega) (by omega) (by (try simp (disch := omega) only [w64_in, u32_in', u64_in', u8_in', ishr_lit8, ishr_lit16, ishr_lit32, ishr_lit18, Int.tmod_eq_emod_of_nonneg, Int.tdiv_eq_ediv_of_nonneg, Int.toNat_natCast, Nat.add_zero]); omega)
  · exact len_fin' (c := 16) (by first | rfl | ((try simp (disch := omega) only [w64_in, u32_in', u64_in', u8_in', ishr_lit8, ishr_lit16, ishr_lit32, ishr_lit18, Int.tmod_eq_emod_of_nonneg, Int.tdiv_eq_ediv_of_nonneg, Int.toNat_natCast, Nat.add_zero]); omega)) (by omega) (by (try simp (disch := omega) only [w64_in, u32_in', u64_in', u8_in', ishr_lit8, ishr_lit16, ishr_lit32, ishr_lit18, Int.tmod_eq_emod_of_nonneg, Int.tdiv_eq_ediv_of_nonneg, Int.toNat_natCast, Nat.add_zero]); omega) (by omega) (by (try simp (disch := omega) only [w64_in, u32_in', u64_in', u8_in', ishr_lit8, ishr_lit16, ishr_lit32, ishr_lit18, Int.tmod_eq_emod_of_nonneg, Int.tdiv_eq_ediv_of_nonneg, Int.toNat_natCast, Nat.add_zero]); omega)
  · exact len_fin' (c := 8) (by first | rfl | ((try simp (disch := omega) only [w64_in, u32_in', u64_in', u8_in', ishr_lit8, ishr_lit16, ishr_lit32, ishr_lit18, Int.tmod_eq_emod_of_nonneg, Int.tdiv_eq_ediv_of_nonneg, Int.toNat_natCast, Nat.add_zero]); omega)) (by omega) (by (try simp (disch := omega) only [w64_in, u32_in', u64_in', u8_in', ishr_lit8, ishr_lit16, ishr_lit32, ishr_lit18, Int.tmod_eq_emod_of_nonneg, Int.tdiv_eq_ediv_of_nonneg, Int.toNat_natCast, Nat.add_zero]); omega) (by omega) (by (try simp (disch := omega) only [w64_in, u32_in', u64_in', u8_in', ishr_lit8, ishr_lit16, ishr_lit32, ishr_lit18, Int.tmod_eq_emod_of_nonneg, Int.tdiv_eq_ediv_of_nonneg, Int.toNat_natCast, Nat.add_zero]); omega)
  · exact len_fin' (c := 0) (by first | rfl | ((try simp (disch := omega) only [w64_in, u32_in', u64_in', u8_in', ishr_lit8, ishr_lit16, ishr_lit32, ishr_lit18, Int.tmod_eq_emod_of_nonneg, Int.tdiv_eq_ediv_of_nonneg, Int.toNat_natCast, Nat.add_zero]); omega)) (by omega) (by (try simp (disch := omega) only [w64_in, u32_in', u64_in', u8_in', ishr_lit8, ishr_lit16, ishr_lit32, ishr_lit18, Int.tmod_eq_emod_of_nonneg, Int.tdiv_eq_ediv_of_nonneg, Int.toNat_natCast, Nat.add_zero]); omega) (by omega) (by (try simp (disch := omega) only [w64_in, u32_in', u64_in', u8_in', ishr_lit8, ishr_lit16, ishr_lit32, ishr_lit18, Int.tmod_eq_emod_of_nonneg, Int.tdiv_eq_ediv_of_nonneg, Int.toNat_natCast, Nat.add_zero]); omega)

end Go.Proofs.YtkdjnmcaifejjaaGreatDoor

/- Contracts of the library: long multiplication and long division. -/
namespace Go.Proofs.YtkdjnmcaifejjaaGreatDoor
open Go.RowKit Go.Sy
attribute [local irreducible] vcall vloop vcallD retP
set_option maxRecDepth 100000
set_option linter.unusedVariables false
set_option linter.unusedSimpArgs false

theorem ishr32 {x : Nat} : ishr .u64 (x : Int) 32 = ((x / 4294967296 : Nat) : Int) := ishr_nat (s := 32) (by omega)
theorem wmul {a b : Nat} (h : a * b < 18446744073709551616) : IntKind.u64.wrap ((a : Int) * (b : Int)) = ((a * b : Nat) : Int) := by
  rw [← Int.natCast_mul]; exact u64_in' (by omega) (by omega)
theorem wadd {a b : Nat} (h : a + b < 18446744073709551616) : IntKind.u64.wrap ((a : Int) + (b : Int)) = ((a + b : Nat) : Int) := by
  rw [← Int.natCast_add]; exact u64_in' (by omega) (by omega)

theorem tup2 {k j : IntKind} {a b c d : Int} (h : a = c) (h' : b = d) : SV.tup [.int k a, .int j b] = SV.tup [.int k c, .int j d] := by rw [h, h']
theorem bits_Mul64 (x y : Nat) (hx : x < 18446744073709551616) (hy : y < 18446744073709551616) : Pure Tryz.prog 188 [.int .u64 x, .int .u64 y] (.tup [.int .u64 (x * y / 18446744073709551616 : Nat), .int .u64 (x * y % 18446744073709551616 : Nat)]) := by
  refine fc_of mixed T_ok Tryz.func188 rfl (by kernel_rfl) (by kernel_rfl) (by kernel_rfl) ?_
  repeat' ((conv => whnf); first | ((first | apply br_dec | apply br_ndec) <;> intro h <;> try (exfalso; (try dsimp only at h); omega)) | ((first | apply br_seq | apply br_nseq | apply br_not | apply br_intro) <;> intro h) | refine cond_a ?_)
  all_goals (conv => whnf)
  refine ret_pure ?_
  have e1 := iand_mask hx
  have e3 := iand_mask hy
  have k := mul_hi (x := x) (y := y) (x0 := x % 4294967296) (x1 := x / 4294967296) (y0 := y % 4294967296) (y1 := y / 4294967296) (by omega) (by omega)
  have w : IntKind.u64.wrap ((x : Int) * (y : Int)) = ((x * y % 18446744073709551616 : Nat) : Int) := by rw [← Int.natCast_mul, u64_wrap_nat]
  have a0 : x % 4294967296 < 4294967296 := by omega
  have a1 : x / 4294967296 < 4294967296 := by omega
  have b0 : y % 4294967296 < 4294967296 := by omega
  have b1 : y / 4294967296 < 4294967296 := by omega
  simp only [oneOr, e1, e3, ishr32, w]
  generalize x % 4294967296 = x0 at *
  generalize x / 4294967296 = x1 at *
  generalize y % 4294967296 = y0 at *
  generalize y / 4294967296 = y1 at *
  have m00 := mul_lt a0 b0
  have m10 := mul_lt a1 b0
  have m01 := mul_lt a0 b1
  have m11 := mul_lt a1 b1
  rw [wmul (a := x0) (b := y0) (by omega), wmul (a := x1) (b := y0) (by omega), wmul (a := x0) (b := y1) (by omega), wmul (a := x1) (b := y1) (by omega), k]
  generalize x0 * y0 = S at *
  generalize x1 * y0 = Q at *
  generalize x0 * y1 = R at *
  generalize x1 * y1 = T at *
  rw [ishr32, wadd (by omega), ishr32, iand_mask (by omega), wadd (by omega), wadd (by omega), ishr32, wadd (by omega)]
  refine tup2 ?_ rfl
  omega

theorem bits_LeadingZeros64 (u : Nat) (hu : u < 18446744073709551616) : Pure Tryz.prog 209 [.int .u64 u] (.int .i64 (64 - blen u : Nat)) := by
  have c := bits_Len64 u hu
  have hb := blen_le64 (u := u) hu
  refine fc_of mixed T_ok Tryz.func209 rfl (by kernel_rfl) (by kernel_rfl) (by kernel_rfl) ?_
  repeat' ((conv => whnf); first | (refine vcall_pure (c) rfl rfl rfl ?_) | ((first | apply br_dec | apply br_ndec) <;> intro h <;> try (exfalso; (try dsimp only at h); omega)) | ((first | apply br_seq | apply br_nseq | apply br_not | apply br_intro) <;> intro h) | refine cond_a ?_)
  all_goals (conv => whnf)
  refine ret_pure (congrArg (SV.int .i64) ?_)
  (try simp (disch := omega) only [w64_in, u32_in', u64_in', u8_in', ishr_lit8, ishr_lit16, ishr_lit32, ishr_lit18, Int.tmod_eq_emod_of_nonneg, Int.tdiv_eq_ediv_of_nonneg, Int.toNat_natCast, Nat.add_zero])
  omega

theorem wmulc {a : Nat} (h : a * 4294967296 < 18446744073709551616) : IntKind.u64.wrap ((a : Int) * 4294967296) = ((a * 4294967296 : Nat) : Int) := wmul (b := 4294967296) h
theorem wcmul {a : Nat} (h : 4294967296 * a < 18446744073709551616) : IntKind.u64.wrap (4294967296 * (a : Int)) = ((4294967296 * a : Nat) : Int) := wmul (a := 4294967296) h
/-- A difference that is there, of numbers that may have lost their upper bits. -/
theorem wsub_mod {a b c d m : Nat} (h1 : a = c % 18446744073709551616) (h2 : b = d % 18446744073709551616) (h3 : d ≤ c) (h4 : c - d = m) (h5 : m < 18446744073709551616) : IntKind.u64.wrap ((a : Int) - (b : Int)) = (m : Int) := by
  subst h1; subst h2; subst h4
  simp only [IntKind.wrap, IntKind.bits, IntKind.signed]; simp; omega

theorem whole_eq {u32 u10 Q1 Q0 Y R1 R0 : Nat} (l1 : Q1 * Y ≤ u32 * 4294967296 + u10 / 4294967296) (r1 : u32 * 4294967296 + u10 / 4294967296 - Q1 * Y = R1) (z2 : Q0 * Y + R0 = R1 * 4294967296 + u10 % 4294967296) : u32 * 18446744073709551616 + u10 = Q1 * Y * 4294967296 + Q0 * Y + R0 := by
  generalize Q1 * Y = a at *
  generalize Q0 * Y = b at *
  omega

set_option maxHeartbeats 4000000 in
theorem bits_Div64 (hi lo y : Nat) (hlo : lo < 18446744073709551616) (hy : y < 18446744073709551616) (hhi : hi < y) : Pure Tryz.prog 190 [.int .u64 hi, .int .u64 lo, .int .u64 y] (.tup [.int .u64 ((hi * 18446744073709551616 + lo) / y : Nat), .int .u64 ((hi * 18446744073709551616 + lo) % y : Nat)]) := by
  have c := bits_LeadingZeros64 y hy
  by_cases h0 : hi = 0
  · subst h0
    refine fc_of mixed T_ok Tryz.func190 rfl (by kernel_rfl) (by kernel_rfl) (by kernel_rfl) ?_
    repeat' ((conv => whnf); first | (refine vcall_pure (c) rfl rfl rfl ?_) | ((first | apply br_dec | apply br_ndec) <;> intro h <;> try (exfalso; (try dsimp only at h); omega)) | ((first | apply br_seq | apply br_nseq | apply br_not | apply br_intro) <;> intro h) | refine cond_a ?_)
    all_goals (conv => whnf)
    refine ret_pure ?_
    simp only [oneOr, Nat.zero_mul, Nat.zero_add]
    refine tup2 ?_ ?_
    · rw [show ((lo : Int).tdiv (y : Int)) = ((lo / y : Nat) : Int) from rfl]
      exact u64_in' (Int.natCast_nonneg _) (by have := Nat.div_le_self lo y; omega)
    · rfl
  · obtain ⟨Y, u32, u10, hY, Y1, Y2, h32, h10, hlt, k1, k2, k3, k4, k5⟩ := div_parts hy hlo hhi rfl
    refine fc_of mixed T_ok Tryz.func190 rfl (by kernel_rfl) (by kernel_rfl) (by kernel_rfl) ?_
    generalize 64 - blen y = s at *
    have es : IntKind.u64.wrap (s : Int) = (s : Int) := u64_in' (by omega) (by omega)
    have e64 : IntKind.u64.wrap (64 - (s : Int)) = ((64 - s : Nat) : Int) := by rw [u64_in' (by omega) (by omega)]; omega
    have eY : ishl .u64 (y : Int) (IntKind.u64.wrap (s : Int)) = (Y : Int) := by rw [es, ishl_nat (by omega), hY, Nat.mod_eq_of_lt (by omega)]
    have e32 : ior .u64 (ishl .u64 (hi : Int) (IntKind.u64.wrap (s : Int))) (ishr .u64 (lo : Int) (IntKind.u64.wrap (64 - IntKind.u64.wrap (s : Int)))) = (u32 : Int) := by
      rw [es, e64, ishl_nat (by omega), ishr_nat (by omega), Nat.mod_eq_of_lt k1, h32]
      exact ior_disj k1 k2 k3 (by have := Nat.div_le_self lo (2 ^ (64 - s)); omega)
    have e10 : ishl .u64 (lo : Int) (IntKind.u64.wrap (s : Int)) = (u10 : Int) := by rw [es, ishl_nat (by omega), h10]
    have hu10 : u10 < 18446744073709551616 := by omega
    have c0 : 0 ≤ IntKind.u64.wrap (s : Int) := by rw [es]; omega
    have c1 : 0 ≤ IntKind.u64.wrap (64 - IntKind.u64.wrap (s : Int)) := by rw [es, e64]; omega
    have c2 : ishr .u64 (ishl .u64 (y : Int) (IntKind.u64.wrap (s : Int))) 32 ≠ 0 := by rw [eY, ishr32]; omega
    repeat' ((conv => whnf); first | (refine vcall_pure (c) rfl rfl rfl ?_) | refine cond_intro c0 ?_ | refine cond_intro c1 ?_ | refine cond_intro c2 ?_ | ((first | apply br_dec | apply br_ndec) <;> intro h <;> try (exfalso; (try dsimp only at h); omega)) | ((first | apply br_seq | apply br_nseq | apply br_not | apply br_intro) <;> intro h) | refine cond_a ?_)
    all_goals (conv => whnf)
    have e9 : ishr .u64 (ishl .u64 (y : Int) (IntKind.u64.wrap (s : Int))) 32 = ((Y / 4294967296 : Nat) : Int) := by rw [eY, ishr32]
    have eA : iand .u64 (ishl .u64 (y : Int) (IntKind.u64.wrap (s : Int))) 4294967295 = ((Y % 4294967296 : Nat) : Int) := by rw [eY, iand_mask (by omega)]
    have e13 : ishr .u64 (ishl .u64 (lo : Int) (IntKind.u64.wrap (s : Int))) 32 = ((u10 / 4294967296 : Nat) : Int) := by rw [e10, ishr32]
    have e14 : iand .u64 (ishl .u64 (lo : Int) (IntKind.u64.wrap (s : Int))) 4294967295 = ((u10 % 4294967296 : Nat) : Int) := by rw [e10, iand_mask (by omega)]
    have tdq : ∀ a b : Nat, a < 18446744073709551616 → IntKind.u64.wrap ((a : Int).tdiv (b : Int)) = ((a / b : Nat) : Int) := fun a b h => by
      rw [show ((a : Int).tdiv (b : Int)) = ((a / b : Nat) : Int) from rfl]
      exact u64_in' (Int.natCast_nonneg _) (by have := Nat.div_le_self a b; omega)
    have tdr : ∀ a b : Nat, a < 18446744073709551616 → IntKind.u64.wrap ((a : Int) - IntKind.u64.wrap (((a / b : Nat) : Int) * (b : Int))) = ((a % b : Nat) : Int) := fun a b h => by
      have h1 := Nat.div_add_mod a b
      rw [Nat.mul_comm] at h1
      rw [wmul (by omega)]
      rw [u64_in' (by omega) (by omega)]; omega
    have e15 : IntKind.u64.wrap ((ior .u64 (ishl .u64 (hi : Int) (IntKind.u64.wrap (s : Int))) (ishr .u64 (lo : Int) (IntKind.u64.wrap (64 - IntKind.u64.wrap (s : Int))))).tdiv (ishr .u64 (ishl .u64 (y : Int) (IntKind.u64.wrap (s : Int))) 32)) = ((u32 / (Y / 4294967296) : Nat) : Int) := by
      rw [e32, e9, tdq _ _ (by omega)]
    have e16 : IntKind.u64.wrap (ior .u64 (ishl .u64 (hi : Int) (IntKind.u64.wrap (s : Int))) (ishr .u64 (lo : Int) (IntKind.u64.wrap (64 - IntKind.u64.wrap (s : Int)))) - IntKind.u64.wrap (IntKind.u64.wrap ((ior .u64 (ishl .u64 (hi : Int) (IntKind.u64.wrap (s : Int))) (ishr .u64 (lo : Int) (IntKind.u64.wrap (64 - IntKind.u64.wrap (s : Int))))).tdiv (ishr .u64 (ishl .u64 (y : Int) (IntKind.u64.wrap (s : Int))) 32)) * ishr .u64 (ishl .u64 (y : Int) (IntKind.u64.wrap (s : Int))) 32)) = ((u32 % (Y / 4294967296) : Nat) : Int) := by
      rw [e15, e32, e9, tdr _ _ (by omega)]
    have eYY : Y / 4294967296 * 4294967296 + Y % 4294967296 = Y := Nat.div_add_mod' _ _
    obtain ⟨Q1, hQ1⟩ : ∃ Q1, Q1 = (u32 * 4294967296 + u10 / 4294967296) / (Y / 4294967296 * 4294967296 + Y % 4294967296) := ⟨_, rfl⟩
    have K1 : KD u32 (u10 / 4294967296) (Y / 4294967296) (Y % 4294967296) Q1 := ⟨by omega, by omega, by omega, by omega, by omega, hQ1⟩
    obtain ⟨R1, hR1⟩ : ∃ R1, R1 = (u32 * 4294967296 + u10 / 4294967296) % Y := ⟨_, rfl⟩
    have hR1lt : R1 < Y := by rw [hR1]; exact Nat.mod_lt _ (by omega)
    obtain ⟨Q0, hQ0⟩ : ∃ Q0, Q0 = (R1 * 4294967296 + u10 % 4294967296) / (Y / 4294967296 * 4294967296 + Y % 4294967296) := ⟨_, rfl⟩
    have K0 : KD R1 (u10 % 4294967296) (Y / 4294967296) (Y % 4294967296) Q0 := ⟨by omega, by omega, by omega, by omega, by omega, hQ0⟩
    have qQ1 := K1.qlt
    have qQ0 := K0.qlt
    have r1 := K1.rem
    have r0 := K0.rem
    rw [eYY] at r1 r0 hQ1 hQ0
    rw [← hR1] at r1
    have l1 : Q1 * Y ≤ u32 * 4294967296 + u10 / 4294967296 := by rw [hQ1]; exact Nat.div_mul_le_self _ _
    have l0 : Q0 * Y ≤ R1 * 4294967296 + u10 % 4294967296 := by rw [hQ0]; exact Nat.div_mul_le_self _ _
    have e17 : IntKind.u64.wrap (IntKind.u64.wrap (IntKind.u64.wrap ((u32 : Int) * 4294967296) + ((u10 / 4294967296 : Nat) : Int)) - IntKind.u64.wrap ((Q1 : Int) * (Y : Int))) = (R1 : Int) := by
      have x1 : IntKind.u64.wrap ((u32 : Int) * 4294967296) = ((u32 * 4294967296 % 18446744073709551616 : Nat) : Int) := by rw [← u64_wrap_nat]; rfl
      have x2 : IntKind.u64.wrap (((u32 * 4294967296 % 18446744073709551616 : Nat) : Int) + ((u10 / 4294967296 : Nat) : Int)) = (((u32 * 4294967296 + u10 / 4294967296) % 18446744073709551616 : Nat) : Int) := by
        rw [← Int.natCast_add, u64_wrap_nat]; congr 1; omega
      have x3 : IntKind.u64.wrap ((Q1 : Int) * (Y : Int)) = ((Q1 * Y % 18446744073709551616 : Nat) : Int) := by rw [← u64_wrap_nat]; rfl
      rw [x1, x2, x3]
      exact wsub_mod rfl rfl l1 r1 (by omega)
    have e18 : IntKind.u64.wrap ((IntKind.u64.wrap (IntKind.u64.wrap (IntKind.u64.wrap ((u32 : Int) * 4294967296) + ((u10 / 4294967296 : Nat) : Int)) - IntKind.u64.wrap ((Q1 : Int) * (Y : Int)))).tdiv ((Y / 4294967296 : Nat) : Int)) = ((R1 / (Y / 4294967296) : Nat) : Int) := by
      rw [e17, tdq _ _ (by omega)]
    have e16' : IntKind.u64.wrap (IntKind.u64.wrap (IntKind.u64.wrap (IntKind.u64.wrap ((u32 : Int) * 4294967296) + ((u10 / 4294967296 : Nat) : Int)) - IntKind.u64.wrap ((Q1 : Int) * (Y : Int))) - IntKind.u64.wrap (IntKind.u64.wrap ((IntKind.u64.wrap (IntKind.u64.wrap (IntKind.u64.wrap ((u32 : Int) * 4294967296) + ((u10 / 4294967296 : Nat) : Int)) - IntKind.u64.wrap ((Q1 : Int) * (Y : Int)))).tdiv ((Y / 4294967296 : Nat) : Int)) * ((Y / 4294967296 : Nat) : Int))) = ((R1 % (Y / 4294967296) : Nat) : Int) := by
      rw [e18, e17, tdr _ _ (by omega)]
    obtain ⟨R0, hR0⟩ : ∃ R0, R0 = (R1 * 4294967296 + u10 % 4294967296) % Y := ⟨_, rfl⟩
    have hR0lt : R0 < Y := by rw [hR0]; exact Nat.mod_lt _ (by omega)
    have p0 : 0 < 2 ^ s := Nat.two_pow_pos s
    -- the whole
    have whole : (hi * 18446744073709551616 + lo) * 2 ^ s = (Q1 * 4294967296 + Q0) * Y + R0 := by
      rw [← k5, Nat.add_mul]
      have z1 : Q1 * 4294967296 * Y = (Q1 * Y) * 4294967296 := Nat.mul_right_comm _ _ _
      have z2 := Nat.div_add_mod (R1 * 4294967296 + u10 % 4294967296) Y
      rw [← hQ0, ← hR0, Nat.mul_comm Y] at z2
      rw [z1]
      exact whole_eq l1 r1 z2
    have quot : (hi * 18446744073709551616 + lo) / y = Q1 * 4294967296 + Q0 := by
      rw [← Nat.mul_div_mul_right _ _ p0, whole, ← hY, Nat.add_comm, Nat.add_mul_div_right _ _ (by omega), Nat.div_eq_of_lt hR0lt, Nat.zero_add]
    have rest : (hi * 18446744073709551616 + lo) % y = R0 / 2 ^ s := by
      have z := Nat.mul_mod_mul_right (2 ^ s) (hi * 18446744073709551616 + lo) y
      rw [whole, ← hY, Nat.add_comm, Nat.add_mul_mod_self_right, Nat.mod_eq_of_lt hR0lt] at z
      rw [z, Nat.mul_div_cancel _ p0]
    have eq : IntKind.u64.wrap (IntKind.u64.wrap ((Q1 : Int) * 4294967296) + (Q0 : Int)) = (((hi * 18446744073709551616 + lo) / y : Nat) : Int) := by
      rw [wmulc (by omega), wadd (by omega), quot]
    have er : ishr .u64 (IntKind.u64.wrap (IntKind.u64.wrap (IntKind.u64.wrap ((R1 : Int) * 4294967296) + ((u10 % 4294967296 : Nat) : Int)) - IntKind.u64.wrap ((Q0 : Int) * (Y : Int)))) (s : Int) = (((hi * 18446744073709551616 + lo) % y : Nat) : Int) := by
      have x1 : IntKind.u64.wrap ((R1 : Int) * 4294967296) = ((R1 * 4294967296 % 18446744073709551616 : Nat) : Int) := by rw [← u64_wrap_nat]; rfl
      have x2 : IntKind.u64.wrap (((R1 * 4294967296 % 18446744073709551616 : Nat) : Int) + ((u10 % 4294967296 : Nat) : Int)) = (((R1 * 4294967296 + u10 % 4294967296) % 18446744073709551616 : Nat) : Int) := by
        rw [← Int.natCast_add, u64_wrap_nat]; congr 1; omega
      have x3 : IntKind.u64.wrap ((Q0 : Int) * (Y : Int)) = ((Q0 * Y % 18446744073709551616 : Nat) : Int) := by rw [← u64_wrap_nat]; rfl
      rw [x1, x2, x3, wsub_mod rfl rfl l0 (r0.trans hR0.symm) (by omega), ishr_nat (by omega), rest]
    refine vloop_of (fun x : Nat × Nat => ⟨[(2, .int .u64 Y), (8, .int .u64 s), (9, .int .u64 (Y / 4294967296 : Nat)), (10, .int .u64 (Y % 4294967296 : Nat)), (11, .int .u64 u32), (13, .int .u64 (u10 / 4294967296 : Nat)), (14, .int .u64 (u10 % 4294967296 : Nat)), (15, .int .u64 x.1), (16, .int .u64 x.2)], [], 1⟩) (fun x => x.2 + x.1 * (Y / 4294967296) = u32 ∧ Q1 ≤ x.1 ∧ x.1 ≤ 4294967297 ∧ x.2 < 4294967296) (fun x => x.1) (u32 / (Y / 4294967296), u32 % (Y / 4294967296)) [0] []
      ⟨rfl, ⟨congrArg (fun z => some (SV.int .u64 z)) eY, congrArg (fun z => some (SV.int .u64 z)) es, congrArg (fun z => some (SV.int .u64 z)) e9, congrArg (fun z => some (SV.int .u64 z)) eA, congrArg (fun z => some (SV.int .u64 z)) e32, congrArg (fun z => some (SV.int .u64 z)) e13, congrArg (fun z => some (SV.int .u64 z)) e14, congrArg (fun z => some (SV.int .u64 z)) e15, congrArg (fun z => some (SV.int .u64 z)) e16, trivial⟩, trivial⟩
      ⟨by dsimp only; have := Nat.div_add_mod u32 (Y / 4294967296); rw [Nat.mul_comm] at this; omega, K1.le, K1.init, by dsimp only; have := Nat.mod_lt u32 (y := Y / 4294967296) (by omega); omega⟩ ?_
    clear e9 eA e13 e14 e15 e16 eY e32 e10 es e64 c0 c1 c2 c
    rintro ⟨q, r⟩ ⟨i1, i2, i3, i4⟩
    dsimp only at *
    have w1 : q < 4294967296 → IntKind.u64.wrap ((q : Int) * ((Y % 4294967296 : Nat) : Int)) = ((q * (Y % 4294967296) : Nat) : Int) := fun h => wmul (by have := mul_lt h (show Y % 4294967296 < 4294967296 by omega); omega)
    have w2 : IntKind.u64.wrap (4294967296 * (r : Int)) = ((4294967296 * r : Nat) : Int) := wcmul (by omega)
    have w3 : IntKind.u64.wrap (((4294967296 * r : Nat) : Int) + ((u10 / 4294967296 : Nat) : Int)) = ((4294967296 * r + u10 / 4294967296 : Nat) : Int) := wadd (by omega)
    have w4 : 1 ≤ q → IntKind.u64.wrap ((q : Int) - 1) = ((q - 1 : Nat) : Int) := fun h => by rw [u64_in' (by omega) (by omega)]; omega
    have w5 : IntKind.u64.wrap ((r : Int) + ((Y / 4294967296 : Nat) : Int)) = ((r + Y / 4294967296 : Nat) : Int) := wadd (by omega)
    have w6 : 1 ≤ q → (r + Y / 4294967296) + (q - 1) * (Y / 4294967296) = u32 := fun h => by
      have : (q - 1 + 1) * (Y / 4294967296) = q * (Y / 4294967296) := by rw [Nat.sub_add_cancel h]
      rw [Nat.add_mul] at this; omega
    by_cases hc : 4294967296 ≤ q ∨ 4294967296 * r + u10 / 4294967296 < q * (Y % 4294967296)
    · have g1 := K1.gt i1 hc
      have v6 := w6 (by omega)
      have v4 := w4 (by omega)
      by_cases hb : 4294967296 ≤ r + Y / 4294967296
      · have hq := K1.eqB v6 (by omega) (by omega) hb
        rw [hq] at v4
        repeat' ((conv => whnf); first | (refine br_dec (fun h => ?_) (fun h => ?_) <;> try (exfalso; first | omega | (rw [w2, w3, w1 (by omega)] at h; omega) | (rw [w5] at h; omega))) | ((first | apply br_dec | apply br_ndec) <;> intro h <;> try (exfalso; (try dsimp only at h); omega)) | ((first | apply br_seq | apply br_nseq | apply br_not | apply br_intro) <;> intro h) | refine cond_a ?_)
        all_goals (conv => whnf)
        all_goals simp only [v4]
        all_goals
          refine vloop_of (fun x : Nat × Nat => ⟨[(2, .int .u64 Y), (8, .int .u64 s), (9, .int .u64 (Y / 4294967296 : Nat)), (10, .int .u64 (Y % 4294967296 : Nat)), (14, .int .u64 (u10 % 4294967296 : Nat)), (15, .int .u64 Q1), (17, .int .u64 R1), (18, .int .u64 x.1), (16, .int .u64 x.2)], [], 1⟩) (fun x => x.2 + x.1 * (Y / 4294967296) = R1 ∧ Q0 ≤ x.1 ∧ x.1 ≤ 4294967297 ∧ x.2 < 4294967296) (fun x => x.1) (R1 / (Y / 4294967296), R1 % (Y / 4294967296)) [0] []
            ⟨rfl, ⟨rfl, rfl, rfl, rfl, rfl, rfl, congrArg (fun z => some (SV.int .u64 z)) e17, congrArg (fun z => some (SV.int .u64 z)) e18, congrArg (fun z => some (SV.int .u64 z)) e16', trivial⟩, trivial⟩
            ⟨by dsimp only; have := Nat.div_add_mod R1 (Y / 4294967296); rw [Nat.mul_comm] at this; omega, K0.le, K0.init, by dsimp only; have := Nat.mod_lt R1 (y := Y / 4294967296) (by omega); omega⟩ ?_
          rintro ⟨q', r'⟩ ⟨i1', i2', i3', i4'⟩
          dsimp only at *
          have w1' : q' < 4294967296 → IntKind.u64.wrap ((q' : Int) * ((Y % 4294967296 : Nat) : Int)) = ((q' * (Y % 4294967296) : Nat) : Int) := fun h => wmul (by have := mul_lt h (show Y % 4294967296 < 4294967296 by omega); omega)
          have w2' : IntKind.u64.wrap (4294967296 * (r' : Int)) = ((4294967296 * r' : Nat) : Int) := wcmul (by omega)
          have w3' : IntKind.u64.wrap (((4294967296 * r' : Nat) : Int) + ((u10 % 4294967296 : Nat) : Int)) = ((4294967296 * r' + u10 % 4294967296 : Nat) : Int) := wadd (by omega)
          have w4' : 1 ≤ q' → IntKind.u64.wrap ((q' : Int) - 1) = ((q' - 1 : Nat) : Int) := fun h => by rw [u64_in' (by omega) (by omega)]; omega
          have w5' : IntKind.u64.wrap ((r' : Int) + ((Y / 4294967296 : Nat) : Int)) = ((r' + Y / 4294967296 : Nat) : Int) := wadd (by omega)
          have w6' : 1 ≤ q' → (r' + Y / 4294967296) + (q' - 1) * (Y / 4294967296) = R1 := fun h => by
            have : (q' - 1 + 1) * (Y / 4294967296) = q' * (Y / 4294967296) := by rw [Nat.sub_add_cancel h]
            rw [Nat.add_mul] at this; omega
          have fin : SV.tup [.int .u64 (IntKind.u64.wrap (IntKind.u64.wrap ((Q1 : Int) * 4294967296) + (Q0 : Int))), .int .u64 (ishr .u64 (IntKind.u64.wrap (IntKind.u64.wrap (IntKind.u64.wrap ((R1 : Int) * 4294967296) + ((u10 % 4294967296 : Nat) : Int)) - IntKind.u64.wrap ((Q0 : Int) * (Y : Int)))) (s : Int))] = SV.tup [.int .u64 ((hi * 18446744073709551616 + lo) / y : Nat), .int .u64 ((hi * 18446744073709551616 + lo) % y : Nat)] := tup2 eq er
          by_cases hc' : 4294967296 ≤ q' ∨ 4294967296 * r' + u10 % 4294967296 < q' * (Y % 4294967296)
          · have g1' := K0.gt i1' hc'
            have v6' := w6' (by omega)
            have v4' := w4' (by omega)
            by_cases hb' : 4294967296 ≤ r' + Y / 4294967296
            · have hq' := K0.eqB v6' (by omega) (by omega) hb'
              rw [hq'] at v4'
              repeat' ((conv => whnf); first | (refine br_dec (fun h => ?_) (fun h => ?_) <;> try (exfalso; first | omega | (rw [w2', w3', w1' (by omega)] at h; omega) | (rw [w5'] at h; omega))) | ((first | apply br_dec | apply br_ndec) <;> intro h <;> try (exfalso; (try dsimp only at h); omega)) | ((first | apply br_seq | apply br_nseq | apply br_not | apply br_intro) <;> intro h) | refine cond_a ?_)
              all_goals (conv => whnf)
              all_goals refine ret_pure ?_
              all_goals simp only [v4']
              all_goals exact fin
            · repeat' ((conv => whnf); first | (refine br_dec (fun h => ?_) (fun h => ?_) <;> try (exfalso; first | omega | (rw [w2', w3', w1' (by omega)] at h; omega) | (rw [w5'] at h; omega))) | ((first | apply br_dec | apply br_ndec) <;> intro h <;> try (exfalso; (try dsimp only at h); omega)) | ((first | apply br_seq | apply br_nseq | apply br_not | apply br_intro) <;> intro h) | refine cond_a ?_)
              all_goals (conv => whnf)
              all_goals exact ⟨(q' - 1, r' + Y / 4294967296), [0], [], ⟨v6', by dsimp only; omega, by dsimp only; omega, by dsimp only; omega⟩, by dsimp only; omega, ⟨rfl, ⟨rfl, rfl, rfl, rfl, rfl, rfl, rfl, congrArg (fun z => some (SV.int .u64 z)) v4', congrArg (fun z => some (SV.int .u64 z)) w5', trivial⟩, trivial⟩⟩
          · have hq' := K0.eq i1' i2' (by omega)
            subst hq'
            repeat' ((conv => whnf); first | (refine br_dec (fun h => ?_) (fun h => ?_) <;> try (exfalso; first | omega | (rw [w2', w3', w1' (by omega)] at h; omega) | (rw [w5'] at h; omega))) | ((first | apply br_dec | apply br_ndec) <;> intro h <;> try (exfalso; (try dsimp only at h); omega)) | ((first | apply br_seq | apply br_nseq | apply br_not | apply br_intro) <;> intro h) | refine cond_a ?_)
            all_goals (conv => whnf)
            all_goals exact ret_pure fin
      · repeat' ((conv => whnf); first | (refine br_dec (fun h => ?_) (fun h => ?_) <;> try (exfalso; first | omega | (rw [w2, w3, w1 (by omega)] at h; omega) | (rw [w5] at h; omega))) | ((first | apply br_dec | apply br_ndec) <;> intro h <;> try (exfalso; (try dsimp only at h); omega)) | ((first | apply br_seq | apply br_nseq | apply br_not | apply br_intro) <;> intro h) | refine cond_a ?_)
        all_goals (conv => whnf)
        all_goals exact ⟨(q - 1, r + Y / 4294967296), [0], [], ⟨v6, by dsimp only; omega, by dsimp only; omega, by dsimp only; omega⟩, by dsimp only; omega, ⟨rfl, ⟨rfl, rfl, rfl, rfl, rfl, rfl, rfl, congrArg (fun z => some (SV.int .u64 z)) v4, congrArg (fun z => some (SV.int .u64 z)) w5, trivial⟩, trivial⟩⟩
    · have hq := (K1.eq i1 i2 (by omega)).symm
      subst hq
      repeat' ((conv => whnf); first | (refine br_dec (fun h => ?_) (fun h => ?_) <;> try (exfalso; first | omega | (rw [w2, w3, w1 (by omega)] at h; omega) | (rw [w5] at h; omega))) | ((first | apply br_dec | apply br_ndec) <;> intro h <;> try (exfalso; (try dsimp only at h); omega)) | ((first | apply br_seq | apply br_nseq | apply br_not | apply br_intro) <;> intro h) | refine cond_a ?_)
      all_goals (conv => whnf)
      refine vloop_of (fun x : Nat × Nat => ⟨[(2, .int .u64 Y), (8, .int .u64 s), (9, .int .u64 (Y / 4294967296 : Nat)), (10, .int .u64 (Y % 4294967296 : Nat)), (14, .int .u64 (u10 % 4294967296 : Nat)), (15, .int .u64 Q1), (17, .int .u64 R1), (18, .int .u64 x.1), (16, .int .u64 x.2)], [], 1⟩) (fun x => x.2 + x.1 * (Y / 4294967296) = R1 ∧ Q0 ≤ x.1 ∧ x.1 ≤ 4294967297 ∧ x.2 < 4294967296) (fun x => x.1) (R1 / (Y / 4294967296), R1 % (Y / 4294967296)) [0] []
        ⟨rfl, ⟨rfl, rfl, rfl, rfl, rfl, rfl, congrArg (fun z => some (SV.int .u64 z)) e17, congrArg (fun z => some (SV.int .u64 z)) e18, congrArg (fun z => some (SV.int .u64 z)) e16', trivial⟩, trivial⟩
        ⟨by dsimp only; have := Nat.div_add_mod R1 (Y / 4294967296); rw [Nat.mul_comm] at this; omega, K0.le, K0.init, by dsimp only; have := Nat.mod_lt R1 (y := Y / 4294967296) (by omega); omega⟩ ?_
      rintro ⟨q', r'⟩ ⟨i1', i2', i3', i4'⟩
      dsimp only at *
      have w1' : q' < 4294967296 → IntKind.u64.wrap ((q' : Int) * ((Y % 4294967296 : Nat) : Int)) = ((q' * (Y % 4294967296) : Nat) : Int) := fun h => wmul (by have := mul_lt h (show Y % 4294967296 < 4294967296 by omega); omega)
      have w2' : IntKind.u64.wrap (4294967296 * (r' : Int)) = ((4294967296 * r' : Nat) : Int) := wcmul (by omega)
      have w3' : IntKind.u64.wrap (((4294967296 * r' : Nat) : Int) + ((u10 % 4294967296 : Nat) : Int)) = ((4294967296 * r' + u10 % 4294967296 : Nat) : Int) := wadd (by omega)
      have w4' : 1 ≤ q' → IntKind.u64.wrap ((q' : Int) - 1) = ((q' - 1 : Nat) : Int) := fun h => by rw [u64_in' (by omega) (by omega)]; omega
      have w5' : IntKind.u64.wrap ((r' : Int) + ((Y / 4294967296 : Nat) : Int)) = ((r' + Y / 4294967296 : Nat) : Int) := wadd (by omega)
      have w6' : 1 ≤ q' → (r' + Y / 4294967296) + (q' - 1) * (Y / 4294967296) = R1 := fun h => by
        have : (q' - 1 + 1) * (Y / 4294967296) = q' * (Y / 4294967296) := by rw [Nat.sub_add_cancel h]
        rw [Nat.add_mul] at this; omega
      have fin : SV.tup [.int .u64 (IntKind.u64.wrap (IntKind.u64.wrap ((Q1 : Int) * 4294967296) + (Q0 : Int))), .int .u64 (ishr .u64 (IntKind.u64.wrap (IntKind.u64.wrap (IntKind.u64.wrap ((R1 : Int) * 4294967296) + ((u10 % 4294967296 : Nat) : Int)) - IntKind.u64.wrap ((Q0 : Int) * (Y : Int)))) (s : Int))] = SV.tup [.int .u64 ((hi * 18446744073709551616 + lo) / y : Nat), .int .u64 ((hi * 18446744073709551616 + lo) % y : Nat)] := tup2 eq er
      by_cases hc' : 4294967296 ≤ q' ∨ 4294967296 * r' + u10 % 4294967296 < q' * (Y % 4294967296)
      · have g1' := K0.gt i1' hc'
        have v6' := w6' (by omega)
        have v4' := w4' (by omega)
        by_cases hb' : 4294967296 ≤ r' + Y / 4294967296
        · have hq' := K0.eqB v6' (by omega) (by omega) hb'
          rw [hq'] at v4'
          repeat' ((conv => whnf); first | (refine br_dec (fun h => ?_) (fun h => ?_) <;> try (exfalso; first | omega | (rw [w2', w3', w1' (by omega)] at h; omega) | (rw [w5'] at h; omega))) | ((first | apply br_dec | apply br_ndec) <;> intro h <;> try (exfalso; (try dsimp only at h); omega)) | ((first | apply br_seq | apply br_nseq | apply br_not | apply br_intro) <;> intro h) | refine cond_a ?_)
          all_goals (conv => whnf)
          all_goals refine ret_pure ?_
          all_goals simp only [v4']
          all_goals exact fin
        · repeat' ((conv => whnf); first | (refine br_dec (fun h => ?_) (fun h => ?_) <;> try (exfalso; first | omega | (rw [w2', w3', w1' (by omega)] at h; omega) | (rw [w5'] at h; omega))) | ((first | apply br_dec | apply br_ndec) <;> intro h <;> try (exfalso; (try dsimp only at h); omega)) | ((first | apply br_seq | apply br_nseq | apply br_not | apply br_intro) <;> intro h) | refine cond_a ?_)
          all_goals (conv => whnf)
          all_goals exact ⟨(q' - 1, r' + Y / 4294967296), [0], [], ⟨v6', by dsimp only; omega, by dsimp only; omega, by dsimp only; omega⟩, by dsimp only; omega, ⟨rfl, ⟨rfl, rfl, rfl, rfl, rfl, rfl, rfl, congrArg (fun z => some (SV.int .u64 z)) v4', congrArg (fun z => some (SV.int .u64 z)) w5', trivial⟩, trivial⟩⟩
      · have hq' := K0.eq i1' i2' (by omega)
        subst hq'
        repeat' ((conv => whnf); first | (refine br_dec (fun h => ?_) (fun h => ?_) <;> try (exfalso; first | omega | (rw [w2', w3', w1' (by omega)] at h; omega) | (rw [w5'] at h; omega))) | ((first | apply br_dec | apply br_ndec) <;> intro h <;> try (exfalso; (try dsimp only at h); omega)) | ((first | apply br_seq | apply br_nseq | apply br_not | apply br_intro) <;> intro h) | refine cond_a ?_)
        all_goals (conv => whnf)
        all_goals exact ret_pure fin
end Go.Proofs.YtkdjnmcaifejjaaGreatDoor

/- Contracts of package money: checks, scaled amounts. -/
namespace Go.Proofs.YtkdjnmcaifejjaaGreatDoor
open Go.RowKit Go.Sy
attribute [local irreducible] vcall vloop vcallD retP
set_option maxRecDepth 100000
set_option linter.unusedVariables false
set_option linter.unusedSimpArgs false

theorem money_inTotal (n : Int) : Pure Tryz.prog 111 [.int .i64 n] (.bool (decide (-4503599627370496 ≤ n ∧ n ≤ 4503599627370496))) := by
  refine fc_of mixed T_ok Tryz.func111 rfl (by kernel_rfl) (by kernel_rfl) (by kernel_rfl) ?_
  repeat' ((conv => whnf); first | ((first | apply br_dec | apply br_ndec) <;> intro h <;> try (exfalso; (try dsimp only at h); omega)) | ((first | apply br_seq | apply br_nseq | apply br_not | apply br_intro) <;> intro h) | refine cond_a ?_)
  all_goals (conv => whnf)
  · exact ret_pure (congrArg SV.bool (by rw [decide_eq_decide]; omega))
  · exact ret_pure (congrArg SV.bool (by rw [eq_comm, decide_eq_false_iff_not]; omega))
/-- The error of an amount. -/
def mchk (a : Int) (c : ByteArray) : Int := if curB c = false then 11 else if -4503599627370496 ≤ a ∧ a ≤ 4503599627370496 then 0 else 4
theorem mchk_or (a : Int) (c : ByteArray) : (mchk a c = 11 ∨ mchk a c = 4) ∨ (mchk a c = 0 ∧ curB c = true ∧ -4503599627370496 ≤ a ∧ a ≤ 4503599627370496) := by
  unfold mchk
  split
  · exact .inl (.inl rfl)
  · split
    · rename_i h1 h2
      exact .inr ⟨rfl, by cases h : curB c <;> simp_all, h2⟩
    · exact .inl (.inr rfl)
attribute [irreducible] mchk
theorem money_Check (a : Int) (c : ByteArray) : Pure Tryz.prog 62 [.agg [.int .i64 a, .str c]] (.int .i64 (mchk a c)) := by
  refine fc_of mixed T_ok Tryz.func62 rfl (by kernel_rfl) (by kernel_rfl) (by kernel_rfl) ?_
  repeat' ((conv => whnf); first | (refine vcall_pure (money_isCurrency _) rfl rfl rfl ?_) | (refine vcall_pure (money_inTotal _) rfl rfl rfl ?_) | ((first | apply br_dec | apply br_ndec) <;> intro h <;> try (exfalso; (try dsimp only at h); omega)) | ((first | apply br_seq | apply br_nseq | apply br_not | apply br_intro) <;> intro h) | refine cond_a ?_)
  all_goals (conv => whnf)
  all_goals refine ret_pure (congrArg (SV.int .i64) ?_)
  all_goals unfold mchk
  all_goals simp_all
theorem money_magnitude (n : Int) (h1 : -9223372036854775808 ≤ n) (h2 : n ≤ 9223372036854775807) : Pure Tryz.prog 189 [.int .i64 n] (.int .u64 (n.natAbs : Int)) := by
  refine fc_of mixed T_ok Tryz.func189 rfl (by kernel_rfl) (by kernel_rfl) (by kernel_rfl) ?_
  repeat' ((conv => whnf); first | ((first | apply br_dec | apply br_ndec) <;> intro h <;> try (exfalso; (try dsimp only at h); omega)) | ((first | apply br_seq | apply br_nseq | apply br_not | apply br_intro) <;> intro h) | refine cond_a ?_)
  all_goals (conv => whnf)
  all_goals refine ret_pure (congrArg (SV.int .u64) ?_)
  · simp only [IntKind.wrap, IntKind.bits, IntKind.signed]; simp; omega
  · dsimp only
    rw [u64_in' (by omega) (by omega)]; omega

/-- A quotient rounded in a mode. -/
def rnd (q r d : Nat) (mode : Int) : Nat :=
  if (mode = 2 ∧ 0 < r) ∨ (mode = 3 ∧ d ≤ 2 * r) ∨ (mode = 4 ∧ (d < 2 * r ∨ (2 * r = d ∧ q % 2 = 1))) then q + 1 else q
theorem rnd_bd (q r d : Nat) (mode : Int) : q ≤ rnd q r d mode ∧ rnd q r d mode ≤ q + 1 := by unfold rnd; split <;> omega
attribute [irreducible] rnd
theorem money_rounded (q r d : Nat) (mode : Int) (hq : q ≤ 4503599627370496) (hd : d ≤ 1099511627776) (hr : r < d) : Pure Tryz.prog 191 [.int .u64 q, .int .u64 r, .int .u64 d, .int .i64 mode] (.int .u64 (rnd q r d mode : Nat)) := by
  have e2 : IntKind.u64.wrap (2 * (r : Int)) = 2 * (r : Int) := u64_in' (by omega) (by omega)
  have e1 : IntKind.u64.wrap ((q : Int) + 1) = ((q + 1 : Nat) : Int) := by rw [u64_in' (by omega) (by omega)]; rfl
  have em : ((q : Int).tmod 2) = ((q % 2 : Nat) : Int) := rfl
  refine fc_of mixed T_ok Tryz.func191 rfl (by kernel_rfl) (by kernel_rfl) (by kernel_rfl) ?_
  repeat' ((conv => whnf); first | ((first | apply br_dec | apply br_ndec) <;> intro h <;> try (exfalso; (try dsimp only at h); omega)) | ((first | apply br_seq | apply br_nseq | apply br_not | apply br_intro) <;> intro h) | refine cond_a ?_)
  all_goals (conv => whnf)
  all_goals refine ret_pure (congrArg (SV.int .u64) ?_)
  all_goals simp only [e1, e2, em] at *
  all_goals unfold rnd
  all_goals first
    | (rw [if_pos (by omega)]; done)
    | (rw [if_neg (by omega)]; done)
end Go.Proofs.YtkdjnmcaifejjaaGreatDoor

/- Contracts of package money: scaled amounts, and the reference's. -/
namespace Go.Proofs.YtkdjnmcaifejjaaGreatDoor
open Go.RowKit Go.Sy
attribute [local irreducible] vcall vloop vcallD retP
set_option maxRecDepth 100000
set_option linter.unusedVariables false
set_option linter.unusedSimpArgs false

/-- The magnitude of a product over a divisor: quotient, remainder, rounded. -/
def sclQ (a num den : Int) : Nat := a.natAbs * num.natAbs / den.toNat
def sclR (a num den : Int) : Nat := a.natAbs * num.natAbs % den.toNat
def sclN (a num den mode : Int) : Nat := rnd (sclQ a num den) (sclR a num den) den.toNat mode
/-- The error of a scaled amount. -/
def sclE (a : Int) (c : ByteArray) (num den mode : Int) : Int :=
  if mchk a c ≠ 0 then mchk a c else if den < 1 ∨ 1099511627776 < den ∨ num < -1099511627776 ∨ 1099511627776 < num ∨ mode < 1 ∨ 4 < mode then 4 else if 4503599627370496 < sclN a num den mode then 4 else 0
/-- The scaled amount. -/
def sclA (a num den mode : Int) : Int := if decide (a < 0) = decide (num < 0) then (sclN a num den mode : Int) else -(sclN a num den mode : Int)
/-- An amount, or nothing if there is an error. -/
def orS (e : Int) (c : ByteArray) : ByteArray := if e = 0 then c else ⟨#[]⟩
def orN (e : Int) (n : Int) : Int := if e = 0 then n else 0
def sclT (a : Int) (c : ByteArray) (num den mode : Int) : SV := .tup [.agg [.int .i64 (orN (sclE a c num den mode) (sclA a num den mode)), .str (orS (sclE a c num den mode) c)], .int .i64 (sclE a c num den mode)]
attribute [irreducible] sclN sclE sclA orS orN sclQ sclR
theorem money_total (n : Int) (c : ByteArray) : Pure Tryz.prog 192 [.int .i64 n, .str c] (.tup [.agg [.int .i64 (if -4503599627370496 ≤ n ∧ n ≤ 4503599627370496 then n else 0), .str (if -4503599627370496 ≤ n ∧ n ≤ 4503599627370496 then c else ⟨#[]⟩)], .int .i64 (if -4503599627370496 ≤ n ∧ n ≤ 4503599627370496 then 0 else 4)]) := by
  refine fc_of mixed T_ok Tryz.func192 rfl (by kernel_rfl) (by kernel_rfl) (by kernel_rfl) ?_
  repeat' ((conv => whnf); first | (refine vcall_pure (money_inTotal _) rfl rfl rfl ?_) | ((first | apply br_dec | apply br_ndec) <;> intro h <;> try (exfalso; (try dsimp only at h); omega)) | ((first | apply br_seq | apply br_nseq | apply br_not | apply br_intro) <;> intro h) | refine cond_a ?_)
  all_goals (conv => whnf)
  all_goals refine ret_pure ?_
  · rw [if_neg (by assumption), if_neg (by assumption), if_neg (by assumption)]; rfl
  · rw [if_pos (by assumption), if_pos (by assumption), if_pos (by assumption)]; rfl

theorem sclT_err {a : Int} {c : ByteArray} {num den mode e : Int} (h : sclE a c num den mode = e) (he : e ≠ 0) : sclT a c num den mode = .tup [.agg [.int .i64 0, .str ⟨#[]⟩], .int .i64 e] := by
  unfold sclT; rw [h]; unfold orN orS; rw [if_neg he, if_neg he]
theorem sclT_ok {a : Int} {c : ByteArray} {num den mode : Int} (h : sclE a c num den mode = 0) : sclT a c num den mode = .tup [.agg [.int .i64 (sclA a num den mode), .str c], .int .i64 0] := by
  unfold sclT; rw [h]; unfold orN orS; rw [if_pos rfl, if_pos rfl]

theorem money_Scale (a : Int) (c : ByteArray) (num den mode : Int) (hn1 : -9223372036854775808 ≤ num) (hn2 : num ≤ 9223372036854775807) : Pure Tryz.prog 156 [.agg [.int .i64 a, .str c], .int .i64 num, .int .i64 den, .int .i64 mode] (sclT a c num den mode) := by
  have ck := money_Check a c
  refine fc_of mixed T_ok Tryz.func156 rfl (by kernel_rfl) (by kernel_rfl) (by kernel_rfl) ?_
  rcases mchk_or a c with hm | ⟨hm, hcur, ha1, ha2⟩
  · have he : sclE a c num den mode = mchk a c := by unfold sclE; rw [if_pos (by omega)]
    rw [sclT_err he (by omega)]
    repeat' ((conv => whnf); first | (refine vcall_pure (ck) rfl rfl rfl ?_) | ((first | apply br_dec | apply br_ndec) <;> intro h <;> try (exfalso; (try dsimp only at h); omega)) | ((first | apply br_seq | apply br_nseq | apply br_not | apply br_intro) <;> intro h) | refine cond_a ?_)
    all_goals (conv => whnf)
    all_goals exact ret_pure rfl
  · rw [hm] at ck
    by_cases hp : den < 1 ∨ 1099511627776 < den ∨ num < -1099511627776 ∨ 1099511627776 < num ∨ mode < 1 ∨ 4 < mode
    · have he : sclE a c num den mode = 4 := by unfold sclE; rw [if_neg (by omega), if_pos hp]
      rw [sclT_err he (by omega)]
      repeat' ((conv => whnf); first | (refine vcall_pure (ck) rfl rfl rfl ?_) | ((first | apply br_dec | apply br_ndec) <;> intro h <;> try (exfalso; (try dsimp only at h); omega)) | ((first | apply br_seq | apply br_nseq | apply br_not | apply br_intro) <;> intro h) | refine cond_a ?_)
      all_goals (conv => whnf)
      all_goals exact ret_pure rfl
    · have m1 := money_magnitude a (by omega) (by omega)
      have m2 := money_magnitude num hn1 hn2
      have mm := bits_Mul64 a.natAbs num.natAbs (by omega) (by omega)
      have hprod : a.natAbs * num.natAbs ≤ 4503599627370496 * 1099511627776 := Nat.mul_le_mul (by omega) (by omega)
      have ed : IntKind.u64.wrap den = (den.toNat : Int) := by rw [u64_in' (by omega) (by omega)]; omega
      have sq : sclQ a num den = a.natAbs * num.natAbs / den.toNat := by unfold sclQ; rfl
      have sr : sclR a num den = a.natAbs * num.natAbs % den.toNat := by unfold sclR; rfl
      have hR : sclR a num den < den.toNat := by rw [sr]; exact Nat.mod_lt _ (by omega)
      by_cases hh : den.toNat ≤ a.natAbs * num.natAbs / 18446744073709551616
      · have hq : 4503599627370496 < sclN a num den mode := by
          have h1 := (rnd_bd (sclQ a num den) (sclR a num den) den.toNat mode).1
          have h2 : 18446744073709551616 ≤ sclQ a num den := by
            rw [sq, Nat.le_div_iff_mul_le (by omega)]
            have := (Nat.le_div_iff_mul_le (by omega)).1 hh
            omega
          unfold sclN
          omega
        have he : sclE a c num den mode = 4 := by unfold sclE; rw [if_neg (by omega), if_neg hp, if_pos hq]
        rw [sclT_err he (by omega)]
        repeat' ((conv => whnf); first | (refine vcall_pure (ck) rfl rfl rfl ?_) | (refine vcall_pure (m1) rfl rfl rfl ?_) | (refine vcall_pure (m2) rfl rfl rfl ?_) | (refine vcall_pure (mm) rfl rfl rfl ?_) | (refine br_dec (fun h => ?_) (fun h => ?_) <;> try (exfalso; first | omega | (dsimp only at h; rw [ed] at h; omega))) | ((first | apply br_dec | apply br_ndec) <;> intro h <;> try (exfalso; (try dsimp only at h); omega)) | ((first | apply br_seq | apply br_nseq | apply br_not | apply br_intro) <;> intro h) | refine cond_a ?_)
        all_goals (conv => whnf)
        all_goals exact ret_pure rfl
      · have dd := bits_Div64 (a.natAbs * num.natAbs / 18446744073709551616) (a.natAbs * num.natAbs % 18446744073709551616) den.toNat (by omega) (by omega) (by omega)
        rw [Nat.div_add_mod', ← sq, ← sr, ← ed] at dd
        by_cases hq : 4503599627370496 < sclQ a num den
        · have he : sclE a c num den mode = 4 := by
            have h1 := (rnd_bd (sclQ a num den) (sclR a num den) den.toNat mode).1
            unfold sclE; rw [if_neg (by omega), if_neg hp, if_pos (by unfold sclN; omega)]
          rw [sclT_err he (by omega)]
          repeat' ((conv => whnf); first | (refine vcall_pure (ck) rfl rfl rfl ?_) | (refine vcall_pure (m1) rfl rfl rfl ?_) | (refine vcall_pure (m2) rfl rfl rfl ?_) | (refine vcall_pure (mm) rfl rfl rfl ?_) | (refine vcall_pure (dd) rfl rfl rfl ?_) | (refine br_dec (fun h => ?_) (fun h => ?_) <;> try (exfalso; first | omega | (dsimp only at h; rw [ed] at h; omega))) | ((first | apply br_dec | apply br_ndec) <;> intro h <;> try (exfalso; (try dsimp only at h); omega)) | ((first | apply br_seq | apply br_nseq | apply br_not | apply br_intro) <;> intro h) | refine cond_a ?_)
          all_goals (conv => whnf)
          all_goals exact ret_pure rfl
        · have rr := money_rounded (sclQ a num den) (sclR a num den) den.toNat mode (by omega) (by omega) hR
          have en : rnd (sclQ a num den) (sclR a num den) den.toNat mode = sclN a num den mode := by unfold sclN; rfl
          have bd := rnd_bd (sclQ a num den) (sclR a num den) den.toNat mode
          rw [en] at rr bd
          rw [← ed] at rr
          have ew : IntKind.i64.wrap (sclN a num den mode : Int) = (sclN a num den mode : Int) := w64_in (by omega) (by omega)
          have ew2 : IntKind.i64.wrap (0 - IntKind.i64.wrap (sclN a num den mode : Int)) = -(sclN a num den mode : Int) := by rw [ew, w64_in (by omega) (by omega)]; omega
          have t1 := money_total (IntKind.i64.wrap (sclN a num den mode : Int)) c
          have t2 := money_total (IntKind.i64.wrap (0 - IntKind.i64.wrap (sclN a num den mode : Int))) c
          by_cases hs : (decide (a < 0) == decide (num < 0)) = true
          · by_cases hN : 4503599627370496 < sclN a num den mode
            · have he : sclE a c num den mode = 4 := by unfold sclE; rw [if_neg (by omega), if_neg hp, if_pos hN]
              rw [sclT_err he (by omega)]
              rw [if_neg (by rw [ew]; omega), if_neg (by rw [ew]; omega), if_neg (by rw [ew]; omega)] at t1
              repeat' ((conv => whnf); first | (refine vcall_pure (ck) rfl rfl rfl ?_) | (refine vcall_pure (m1) rfl rfl rfl ?_) | (refine vcall_pure (m2) rfl rfl rfl ?_) | (refine vcall_pure (mm) rfl rfl rfl ?_) | (refine vcall_pure (dd) rfl rfl rfl ?_) | (refine vcall_pure (rr) rfl rfl rfl ?_) | (refine vcall_pure (t1) rfl rfl rfl ?_) | (refine br_not (fun h => ?_) (fun h => ?_) <;> try (exfalso; exact absurd (hs.symm.trans h) (by decide))) | (refine br_dec (fun h => ?_) (fun h => ?_) <;> try (exfalso; first | omega | (dsimp only at h; rw [ed] at h; omega))) | ((first | apply br_dec | apply br_ndec) <;> intro h <;> try (exfalso; (try dsimp only at h); omega)) | ((first | apply br_seq | apply br_nseq | apply br_not | apply br_intro) <;> intro h) | refine cond_a ?_)
              all_goals (conv => whnf)
              all_goals exact ret_pure rfl
            · have he : sclE a c num den mode = 0 := by unfold sclE; rw [if_neg (by omega), if_neg hp, if_neg hN]
              have hA : sclA a num den mode = IntKind.i64.wrap (sclN a num den mode : Int) := by unfold sclA; rw [if_pos (by simpa using hs), ew]
              rw [sclT_ok he, hA]
              rw [if_pos (by rw [ew]; omega), if_pos (by rw [ew]; omega), if_pos (by rw [ew]; omega)] at t1
              repeat' ((conv => whnf); first | (refine vcall_pure (ck) rfl rfl rfl ?_) | (refine vcall_pure (m1) rfl rfl rfl ?_) | (refine vcall_pure (m2) rfl rfl rfl ?_) | (refine vcall_pure (mm) rfl rfl rfl ?_) | (refine vcall_pure (dd) rfl rfl rfl ?_) | (refine vcall_pure (rr) rfl rfl rfl ?_) | (refine vcall_pure (t1) rfl rfl rfl ?_) | (refine br_not (fun h => ?_) (fun h => ?_) <;> try (exfalso; exact absurd (hs.symm.trans h) (by decide))) | (refine br_dec (fun h => ?_) (fun h => ?_) <;> try (exfalso; first | omega | (dsimp only at h; rw [ed] at h; omega))) | ((first | apply br_dec | apply br_ndec) <;> intro h <;> try (exfalso; (try dsimp only at h); omega)) | ((first | apply br_seq | apply br_nseq | apply br_not | apply br_intro) <;> intro h) | refine cond_a ?_)
              all_goals (conv => whnf)
              all_goals exact ret_pure rfl
          · have hs' : (decide (a < 0) == decide (num < 0)) = false := by simpa using hs
            by_cases hN : 4503599627370496 < sclN a num den mode
            · have he : sclE a c num den mode = 4 := by unfold sclE; rw [if_neg (by omega), if_neg hp, if_pos hN]
              rw [sclT_err he (by omega)]
              rw [if_neg (by rw [ew2]; omega), if_neg (by rw [ew2]; omega), if_neg (by rw [ew2]; omega)] at t2
              repeat' ((conv => whnf); first | (refine vcall_pure (ck) rfl rfl rfl ?_) | (refine vcall_pure (m1) rfl rfl rfl ?_) | (refine vcall_pure (m2) rfl rfl rfl ?_) | (refine vcall_pure (mm) rfl rfl rfl ?_) | (refine vcall_pure (dd) rfl rfl rfl ?_) | (refine vcall_pure (rr) rfl rfl rfl ?_) | (refine vcall_pure (t2) rfl rfl rfl ?_) | (refine br_not (fun h => ?_) (fun h => ?_) <;> try (exfalso; exact absurd (hs'.symm.trans h) (by decide))) | (refine br_dec (fun h => ?_) (fun h => ?_) <;> try (exfalso; first | omega | (dsimp only at h; rw [ed] at h; omega))) | ((first | apply br_dec | apply br_ndec) <;> intro h <;> try (exfalso; (try dsimp only at h); omega)) | ((first | apply br_seq | apply br_nseq | apply br_not | apply br_intro) <;> intro h) | refine cond_a ?_)
              all_goals (conv => whnf)
              all_goals exact ret_pure rfl
            · have he : sclE a c num den mode = 0 := by unfold sclE; rw [if_neg (by omega), if_neg hp, if_neg hN]
              have hA : sclA a num den mode = IntKind.i64.wrap (0 - IntKind.i64.wrap (sclN a num den mode : Int)) := by unfold sclA; rw [if_neg (by simpa using hs), ew2]
              rw [sclT_ok he, hA]
              rw [if_pos (by rw [ew2]; omega), if_pos (by rw [ew2]; omega), if_pos (by rw [ew2]; omega)] at t2
              repeat' ((conv => whnf); first | (refine vcall_pure (ck) rfl rfl rfl ?_) | (refine vcall_pure (m1) rfl rfl rfl ?_) | (refine vcall_pure (m2) rfl rfl rfl ?_) | (refine vcall_pure (mm) rfl rfl rfl ?_) | (refine vcall_pure (dd) rfl rfl rfl ?_) | (refine vcall_pure (rr) rfl rfl rfl ?_) | (refine vcall_pure (t2) rfl rfl rfl ?_) | (refine br_not (fun h => ?_) (fun h => ?_) <;> try (exfalso; exact absurd (hs'.symm.trans h) (by decide))) | (refine br_dec (fun h => ?_) (fun h => ?_) <;> try (exfalso; first | omega | (dsimp only at h; rw [ed] at h; omega))) | ((first | apply br_dec | apply br_ndec) <;> intro h <;> try (exfalso; (try dsimp only at h); omega)) | ((first | apply br_seq | apply br_nseq | apply br_not | apply br_intro) <;> intro h) | refine cond_a ?_)
              all_goals (conv => whnf)
              all_goals exact ret_pure rfl

end Go.Proofs.YtkdjnmcaifejjaaGreatDoor

/- Contracts: sums of 128 bits, and the sum of positions. -/
namespace Go.Proofs.YtkdjnmcaifejjaaGreatDoor
open Go.RowKit Go.Sy
attribute [local irreducible] vcall vloop vcallD retP
set_option maxRecDepth 100000
set_option linter.unusedVariables false
set_option linter.unusedSimpArgs false

theorem add64_run (x y : Nat) (w : World) : (callFunc 117 #[.int .u64 x, .int .u64 y, .int .u64 0]).run Tryz.prog w = .ok (.value (.tuple #[.int .u64 ((x + y) % 18446744073709551616 : Nat), .int .u64 ((x + y) / 18446744073709551616 : Nat)])) w := by
  have hf := Tryz.func117
  have h1 : (Tryz.f117.name == "runtime.NumGoroutine") = false := by kernel_rfl
  have h2 : Tryz.f117.body.isNone = true := by kernel_rfl
  have h3 : Extern.findNext Tryz.f117 = none := Option.isNone_iff_eq_none.1 (by kernel_rfl)
  have h4 : Extern.find Tryz.f117 = some (fun args => do
    let (x, y, c) ← Extern.MathBitsCarry.three "Add64" args
    pure (Extern.MathBitsCarry.pair ((x + y + c) % Extern.MathBitsCarry.m64) ((x + y + c) / Extern.MathBitsCarry.m64))) := by kernel_rfl
  rw [run_callFunc_extern hf h1 h2 h3 h4]
  rfl
theorem bits_Add64 (x y : Nat) : Pure Tryz.prog 117 [.int .u64 x, .int .u64 y, .int .u64 0] (.tup [.int .u64 ((x + y) % 18446744073709551616 : Nat), .int .u64 ((x + y) / 18446744073709551616 : Nat)]) := by
  refine Or.inr fun g w vs hg hu hH hvs => ?_
  have hv : vs = [.int .u64 x, .int .u64 y, .int .u64 0] := by
    simp only [Rvs, Rv] at hvs
    obtain ⟨_, _, rfl, rfl, _, _, rfl, rfl, _, _, rfl, rfl, rfl⟩ := hvs
    rfl
  subst hv
  refine ⟨_, w, add64_run x y w, _, [], 1, g, ⟨rfl, rfl, rfl⟩, Nat.le_refl _, hu, fun _ _ _ => rfl, ?_, ⟨?_, ?_⟩, allRw_nil, ⟨rfl, rfl, rfl, Nat.le_refl _, fun k _ _ => rfl⟩, ?_⟩
  · simp [Rv, Rvs]
  · intro h q ro b he; obtain ⟨hb, e, _⟩ := he; simp [hget] at e
  · intro h q h' q' b ro' b' β β' _ he; obtain ⟨hb, e, _⟩ := he; simp [hget] at e
  · intro h q b β he; obtain ⟨hb, e, _⟩ := he; simp [hget] at e
end Go.Proofs.YtkdjnmcaifejjaaGreatDoor

/- Contracts: the sum of positions, by the program and by the reference. -/
namespace Go.Proofs.YtkdjnmcaifejjaaGreatDoor
open Go.RowKit Go.Sy
attribute [local irreducible] vcall vloop vcallD retP
set_option maxRecDepth 100000
set_option linter.unusedVariables false
set_option linter.unusedSimpArgs false

/-- The two halves of a sum. -/
def exL (S : Int) : Int := S % 18446744073709551616
def exH (S : Int) : Int := S / 18446744073709551616
theorem ex_eq (S : Int) : S = exH S * 18446744073709551616 + exL S ∧ 0 ≤ exL S ∧ exL S < 18446744073709551616 := by unfold exL exH; omega
theorem ex_uniq {S h l : Int} (h1 : S = h * 18446744073709551616 + l) (h2 : 0 ≤ l) (h3 : l < 18446744073709551616) : exH S = h ∧ exL S = l := by unfold exL exH; omega
def okS (S : Int) : Prop := -1267650600228229401496703205376 ≤ S ∧ S ≤ 1267650600228229401496703205376
theorem exH_bd {S : Int} (h : okS S) : -68719476737 ≤ exH S ∧ exH S ≤ 68719476737 := by unfold okS at h; unfold exH; omega
theorem ishr63 (n : Int) (h1 : -9223372036854775808 ≤ n) (h2 : n ≤ 9223372036854775807) : ishr .i64 n 63 = if n < 0 then -1 else 0 := by
  have e : ishr .i64 n 63 = n / 9223372036854775808 := ishr_lit (k := .i64) 63 (by decide)
  rw [e]
  split <;> omega
theorem u64_of {n : Int} (h1 : -9223372036854775808 ≤ n) (h2 : n ≤ 9223372036854775807) : IntKind.u64.wrap n = if n < 0 then n + 18446744073709551616 else n := by
  unfold IntKind.wrap
  simp only [IntKind.bits, IntKind.signed, Bool.false_and, Bool.false_eq_true, if_false]
  rw [show (2 : Int) ^ 64 = 18446744073709551616 from rfl]
  split <;> omega
theorem i64_of {n : Int} (h1 : 0 ≤ n) (h2 : n < 18446744073709551616) : IntKind.i64.wrap n = if n < 9223372036854775808 then n else n - 18446744073709551616 := by
  have e : IntKind.i64.wrap n = if (decide (n % 18446744073709551616 ≥ 9223372036854775808)) = true then n % 18446744073709551616 - 18446744073709551616 else n % 18446744073709551616 := rfl
  rw [e, Int.emod_eq_of_lt h1 h2]
  simp only [decide_eq_true_eq]
  split <;> split <;> omega
def clampI (S l : Int) : Int := if S < -l then -l else if l < S then l else S
end Go.Proofs.YtkdjnmcaifejjaaGreatDoor

/- Contracts: the sum of positions, by the program and by the reference. -/
namespace Go.Proofs.YtkdjnmcaifejjaaGreatDoor
open Go.RowKit Go.Sy
attribute [local irreducible] vcall vloop vcallD retP
set_option maxRecDepth 100000
set_option linter.unusedVariables false
set_option linter.unusedSimpArgs false

theorem toNat0 (k : Nat) : (k : Int).toNat + 0 = k := rfl
end Go.Proofs.YtkdjnmcaifejjaaGreatDoor

/- Contracts of package pan: digits, the check of Luhn. -/
namespace Go.Proofs.YtkdjnmcaifejjaaGreatDoor
open Go.RowKit Go.Sy
attribute [local irreducible] vcall vloop vcallD retP
set_option maxRecDepth 100000
set_option linter.unusedVariables false
set_option linter.unusedSimpArgs false

/-- Digits. -/
def dgAt (s : ByteArray) (i : Nat) : Prop := 48 ≤ byteAt s (i : Int) ∧ byteAt s (i : Int) ≤ 57
instance (s : ByteArray) (i : Nat) : Decidable (dgAt s i) := by unfold dgAt; infer_instance
end Go.Proofs.YtkdjnmcaifejjaaGreatDoor

/- Contracts of packages lexer and binrange: names, prefixes. -/
namespace Go.Proofs.YtkdjnmcaifejjaaGreatDoor
open Go.RowKit Go.Sy
attribute [local irreducible] vcall vloop vcallD retP
set_option maxRecDepth 100000
set_option linter.unusedVariables false
set_option linter.unusedSimpArgs false

/-- The marks of the lexer. -/
def mkB (c : Int) : Bool := decide (0 ≤ Lib.indexByte [40, 41, 123, 125, 44, 59, 58, 61, 60, 62, 43, 45, 42, 37, 46] c.toNat.toUInt8)
theorem str_Marks (c : Int) (h0 : 0 ≤ c) (h1 : c < 128) : Pure Tryz.prog 122 [.str ⟨#[40, 41, 123, 125, 44, 59, 58, 61, 60, 62, 43, 45, 42, 37, 46]⟩, .int .i32 c] (.bool (mkB c)) := by
  refine pure_of_calls (vals := [.string ⟨#[40, 41, 123, 125, 44, 59, 58, 61, 60, 62, 43, 45, 42, 37, 46]⟩, .int .i32 c]) (v := .bool (mkB c)) (bodied_of' Tryz.func122 (by kernel_rfl) (by kernel_rfl)) ?_ ?_ ?_
  · intro g vs h
    simpa [Rvs, Rv] using h
  · intro g; simp [Rv]
  · intro w
    have h := Tryz.strings_ContainsRune_ascii ⟨#[40, 41, 123, 125, 44, 59, 58, 61, 60, 62, 43, 45, 42, 37, 46]⟩ c w h0 h1
    refine h.mono ?_
    rintro e w' ⟨rfl, rfl⟩
    exact ⟨rfl, Below.refl _ _⟩

/-- Letters; the bytes of a word. -/
def ltP (c : Int) : Prop := (97 ≤ c ∧ c ≤ 122) ∨ (65 ≤ c ∧ c ≤ 90)
instance (c : Int) : Decidable (ltP c) := by unfold ltP; infer_instance
def wdP (c : Int) : Prop := ltP c ∨ (48 ≤ c ∧ c ≤ 57) ∨ c = 95
instance (c : Int) : Decidable (wdP c) := by unfold wdP; infer_instance
def clsI (c : Int) : Int := if c = 32 ∨ c = 9 ∨ c = 10 then 1 else if ltP c then 2 else if 48 ≤ c ∧ c ≤ 57 then 3 else if c = 95 then 4 else if c = 34 then 5 else if c = 35 then 6 else if c ≤ 126 ∧ mkB c = true then 7 else 0
theorem i32_in {c : Int} (h0 : 0 ≤ c) (h1 : c ≤ 255) : IntKind.i32.wrap c = c := IntWalk.i32_in _ ⟨by omega, by omega⟩
theorem clsI_lt {c : Int} : clsI c = 2 ↔ ltP c := by
  unfold clsI
  by_cases h : ltP c
  · have : ¬ (c = 32 ∨ c = 9 ∨ c = 10) := by unfold ltP at h; omega
    rw [if_neg this, if_pos h]; simp [h]
  · simp only [if_neg h]
    (repeat' split) <;> simp [h]
theorem clsI_wd {c : Int} : (clsI c = 2 ∨ clsI c = 3 ∨ clsI c = 4) ↔ wdP c := by
  have e : ∀ x, clsI c = x → (clsI c = 2 ∨ clsI c = 3 ∨ clsI c = 4 ↔ x = 2 ∨ x = 3 ∨ x = 4) := fun x e => by rw [e]
  refine (e _ rfl).trans ?_
  unfold wdP
  by_cases h2 : ltP c
  · have := clsI_lt.2 h2; simp [this, h2]
  · have h2' := h2
    unfold ltP at h2'
    have n2 : clsI c ≠ 2 := fun h => h2 (clsI_lt.1 h)
    have e3 : clsI c = 3 ↔ (48 ≤ c ∧ c ≤ 57) := by
      unfold clsI; rw [if_neg h2]; (repeat' split) <;> omega
    have e4 : clsI c = 4 ↔ c = 95 := by
      unfold clsI; rw [if_neg h2]; (repeat' split) <;> omega
    rw [e3, e4]
    simp [n2, h2]
theorem lex_classOf (c : Int) (h0 : 0 ≤ c) (h1 : c ≤ 255) : Pure Tryz.prog 77 [.int .i32 c] (.int .i64 (clsI c)) := by
  by_cases h126 : c ≤ 126
  · have cm := str_Marks c h0 (by omega)
    cases hm : mkB c with
    | true =>
      rw [hm] at cm
      unfold clsI ltP
      rw [hm]
      refine fc_of mixed T_ok Tryz.func77 rfl (by kernel_rfl) (by kernel_rfl) (by kernel_rfl) ?_
      repeat' ((conv => whnf); first | (refine vcall_pure (cm) rfl rfl rfl ?_) | (refine vcallD_pure (cm) rfl rfl rfl ?_) | ((first | apply br_dec | apply br_ndec) <;> intro h <;> try (exfalso; (try dsimp only at h); omega)) | ((first | apply br_seq | apply br_nseq | apply br_not | apply br_intro) <;> intro h) | refine cond_a ?_)
      all_goals (conv => whnf)
      all_goals (refine ret_pure (congrArg (SV.int .i64) ?_))
      all_goals first
        | ((try simp only [and_true, Bool.false_eq_true, and_false, if_false]); (repeat' split) <;> omega)
    | false =>
      rw [hm] at cm
      unfold clsI ltP
      rw [hm]
      refine fc_of mixed T_ok Tryz.func77 rfl (by kernel_rfl) (by kernel_rfl) (by kernel_rfl) ?_
      repeat' ((conv => whnf); first | (refine vcall_pure (cm) rfl rfl rfl ?_) | (refine vcallD_pure (cm) rfl rfl rfl ?_) | ((first | apply br_dec | apply br_ndec) <;> intro h <;> try (exfalso; (try dsimp only at h); omega)) | ((first | apply br_seq | apply br_nseq | apply br_not | apply br_intro) <;> intro h) | refine cond_a ?_)
      all_goals (conv => whnf)
      all_goals (refine ret_pure (congrArg (SV.int .i64) ?_))
      all_goals first
        | ((try simp only [and_true, Bool.false_eq_true, and_false, if_false]); (repeat' split) <;> omega)
  · unfold clsI ltP
    refine fc_of mixed T_ok Tryz.func77 rfl (by kernel_rfl) (by kernel_rfl) (by kernel_rfl) ?_
    repeat' ((conv => whnf); first | ((first | apply br_dec | apply br_ndec) <;> intro h <;> try (exfalso; (try dsimp only at h); omega)) | ((first | apply br_seq | apply br_nseq | apply br_not | apply br_intro) <;> intro h) | refine cond_a ?_)
    all_goals (conv => whnf)
    all_goals (refine ret_pure (congrArg (SV.int .i64) ?_))
    all_goals first
      | ((repeat' split) <;> omega)

theorem lex_isWordByte (c : Int) (h0 : 0 ≤ c) (h1 : c ≤ 255) : Pure Tryz.prog 123 [.int .u8 c] (.bool (decide (wdP c))) := by
  have c1 := lex_classOf c h0 h1
  have hw := clsI_wd (c := c)
  rw [show (SV.int .i32 c) = SV.int .i32 (IntKind.i32.wrap c) by rw [i32_in h0 h1]] at c1
  generalize clsI c = x at c1 hw
  refine fc_of mixed T_ok Tryz.func123 rfl (by kernel_rfl) (by kernel_rfl) (by kernel_rfl) ?_
  repeat' ((conv => whnf); first | (refine vcall_pure (c1) rfl rfl rfl ?_) | (refine vcallD_pure (c1) rfl rfl rfl ?_) | ((first | apply br_dec | apply br_ndec) <;> intro h <;> try (exfalso; (try dsimp only at h); omega)) | ((first | apply br_seq | apply br_nseq | apply br_not | apply br_intro) <;> intro h) | refine cond_a ?_)
  all_goals (conv => whnf)
  all_goals first
    | exact ret_pure (congrArg SV.bool (decide_eq_true (hw.1 (by omega))).symm)
    | exact ret_pure (congrArg SV.bool (decide_eq_decide.2 ⟨fun hh => hw.1 (Or.inr (Or.inr hh)), fun hh => (hw.2 hh).resolve_left (by omega) |>.resolve_left (by omega)⟩))

def wdTo (s : ByteArray) : Nat → Bool
  | 0 => true
  | k + 1 => wdTo s k && decide (wdP (byteAt s (k : Int)))
theorem wdTo_step {s : ByteArray} {k : Nat} (h : wdTo s k = true) (h1 : wdP (byteAt s (k : Int))) : wdTo s (k + 1) = true := by
  simp only [wdTo, h, Bool.true_and, decide_eq_true_eq]; exact h1
theorem wdTo_false {s : ByteArray} {k n : Nat} (h : k < n) (hc : ¬ wdP (byteAt s (k : Int))) : wdTo s n = false := by
  induction n with
  | zero => omega
  | succ n ih =>
    simp only [wdTo]
    by_cases e : k = n
    · subst e; simp [hc]
    · rw [ih (by omega)]; rfl
theorem wdTo_at {s : ByteArray} {k n : Nat} (h : k < n) (hd : wdTo s n = true) : wdP (byteAt s (k : Int)) := by
  by_cases hc : wdP (byteAt s (k : Int))
  · exact hc
  · rw [wdTo_false h hc] at hd; cases hd
theorem wdTo_first {s : ByteArray} : ∀ n, wdTo s n = false → ∃ k, k < n ∧ wdTo s k = true ∧ ¬ wdP (byteAt s (k : Int))
  | 0, h => by simp [wdTo] at h
  | n + 1, h => by
    cases hn : wdTo s n with
    | false => obtain ⟨k, h1, h2⟩ := wdTo_first n hn; exact ⟨k, by omega, h2⟩
    | true =>
      refine ⟨n, by omega, hn, fun hw => ?_⟩
      rw [wdTo_step hn hw] at h; cases h

/-- The word at the beginning. -/
theorem lex_wordAt (s : ByteArray) (e : Nat) (he : e ≤ s.size) (ht : wdTo s e = true) (hx : e = s.size ∨ ¬ wdP (byteAt s (e : Int))) (hs : s.size ≤ 1000000) : Pure Tryz.prog 78 [.str s, .int .i64 0] (.str (s.extract 0 e)) := by
  refine fc_of mixed T_ok Tryz.func78 rfl (by kernel_rfl) (by kernel_rfl) (by kernel_rfl) ?_
  (conv => whnf)
  refine vloop_of (fun k : Nat => ⟨[(0, .str s), (1, .int .i64 0), (5, .int .i64 k)], [], 1⟩) (fun k => k ≤ e) (fun k => e - k) 0 [0] [] ⟨rfl, ⟨rfl, rfl, rfl, trivial⟩, trivial⟩ (by omega) ?_
  intro k hk
  have bd := byteAt_bd s (k : Int)
  have c := lex_isWordByte (byteAt s (k : Int)) bd.1 bd.2
  by_cases hk2 : k < e
  · rw [decide_eq_true (wdTo_at hk2 ht)] at c
    repeat' ((conv => whnf); first | (refine vcall_pure (c) rfl rfl rfl ?_) | (refine vcallD_pure (c) rfl rfl rfl ?_) | ((first | apply br_dec | apply br_ndec) <;> intro h <;> try (exfalso; (try dsimp only at h); omega)) | ((first | apply br_seq | apply br_nseq | apply br_not | apply br_intro) <;> intro h) | refine cond_a ?_)
    all_goals (conv => whnf)
    all_goals first
      | exact ⟨k + 1, [0], [], by omega, by omega, ⟨rfl, ⟨rfl, rfl, congrArg (fun z => some (SV.int .i64 z)) (i64_succ (by omega)), trivial⟩, trivial⟩⟩
      | (exfalso; omega)
  · have e1 : k = e := by omega
    subst e1
    by_cases hsz : k < s.size
    · rw [decide_eq_false (hx.resolve_left (by omega))] at c
      repeat' ((conv => whnf); first | (refine vcall_pure (c) rfl rfl rfl ?_) | (refine vcallD_pure (c) rfl rfl rfl ?_) | ((first | apply br_dec | apply br_ndec) <;> intro h <;> try (exfalso; (try dsimp only at h); omega)) | ((first | apply br_seq | apply br_nseq | apply br_not | apply br_intro) <;> intro h) | refine cond_a ?_)
      all_goals (conv => whnf)
      all_goals first
        | exact ret_pure rfl
        | (exfalso; omega)
    · repeat' ((conv => whnf); first | ((first | apply br_dec | apply br_ndec) <;> intro h <;> try (exfalso; (try dsimp only at h); omega)) | ((first | apply br_seq | apply br_nseq | apply br_not | apply br_intro) <;> intro h) | refine cond_a ?_)
      all_goals (conv => whnf)
      all_goals first
        | exact ret_pure rfl
        | (exfalso; omega)

/-- Names. -/
def nmB (s : ByteArray) : Bool := decide (1 ≤ s.size) && decide (s.size ≤ 16) && decide (ltP (byteAt s 0)) && wdTo s s.size
theorem sz_pos {s : ByteArray} (h : ¬ s = ⟨#[]⟩) : 1 ≤ s.size := by
  rcases Nat.eq_zero_or_pos s.size with h0 | h0
  · exfalso; apply h
    cases s with | mk d => 
    have : d = #[] := Array.eq_empty_of_size_eq_zero h0
    rw [this]
  · exact h0
theorem extract_all (s : ByteArray) : s.extract 0 s.size = s := by
  apply ByteArray.ext
  simp
theorem lex_IsName (s : ByteArray) : Pure Tryz.prog 44 [.str s] (.bool (nmB s)) := by
  unfold nmB
  by_cases h0 : s = ⟨#[]⟩
  · subst h0
    refine fc_of mixed T_ok Tryz.func44 rfl (by kernel_rfl) (by kernel_rfl) (by kernel_rfl) ?_
    repeat' ((conv => whnf); first | ((first | apply br_dec | apply br_ndec) <;> intro h <;> try (exfalso; (try dsimp only at h); omega)) | ((first | apply br_seq | apply br_nseq | apply br_not | apply br_intro) <;> intro h) | refine cond_a ?_)
    all_goals (conv => whnf)
    all_goals first
      | exact ret_pure rfl
      | (exfalso; exact h rfl)
  · have hz := sz_pos h0
    by_cases h16 : s.size ≤ 16
    · have bd := byteAt_bd s 0
      have c1 := lex_classOf (byteAt s 0) bd.1 bd.2
      rw [show (SV.int .i32 (byteAt s 0)) = SV.int .i32 (IntKind.i32.wrap (byteAt s 0)) by rw [i32_in bd.1 bd.2]] at c1
      by_cases hl : ltP (byteAt s 0)
      · rw [clsI_lt.2 hl] at c1
        cases hw : wdTo s s.size with
        | true =>
          have c2 := lex_wordAt s s.size (Nat.le_refl _) hw (.inl rfl) (by omega)
          rw [extract_all] at c2
          rw [decide_eq_true hz, decide_eq_true h16, decide_eq_true hl]
          refine fc_of mixed T_ok Tryz.func44 rfl (by kernel_rfl) (by kernel_rfl) (by kernel_rfl) ?_
          repeat' ((conv => whnf); first | (refine vcall_pure (c1) rfl rfl rfl ?_) | (refine vcallD_pure (c1) rfl rfl rfl ?_) | (refine vcall_pure (c2) rfl rfl rfl ?_) | (refine vcallD_pure (c2) rfl rfl rfl ?_) | ((first | apply br_dec | apply br_ndec) <;> intro h <;> try (exfalso; (try dsimp only at h); omega)) | ((first | apply br_seq | apply br_nseq | apply br_not | apply br_intro) <;> intro h) | refine cond_a ?_)
          all_goals (conv => whnf)
          all_goals first
            | exact ret_pure rfl
            | (exfalso; exact h0 (by assumption))
            | (exfalso; omega)
            | exact ret_pure (congrArg SV.bool (decide_eq_true rfl))
        | false =>
          obtain ⟨k, k1, k2, k3⟩ := wdTo_first _ hw
          have c2 := lex_wordAt s k (by omega) k2 (.inr k3) (by omega)
          have hsz : (s.extract 0 k).size = k := by rw [ByteArray.size_extract]; omega
          rw [decide_eq_true hz, decide_eq_true h16, decide_eq_true hl]
          refine fc_of mixed T_ok Tryz.func44 rfl (by kernel_rfl) (by kernel_rfl) (by kernel_rfl) ?_
          repeat' ((conv => whnf); first | (refine vcall_pure (c1) rfl rfl rfl ?_) | (refine vcallD_pure (c1) rfl rfl rfl ?_) | (refine vcall_pure (c2) rfl rfl rfl ?_) | (refine vcallD_pure (c2) rfl rfl rfl ?_) | ((first | apply br_dec | apply br_ndec) <;> intro h <;> try (exfalso; (try dsimp only at h); omega)) | ((first | apply br_seq | apply br_nseq | apply br_not | apply br_intro) <;> intro h) | refine cond_a ?_)
          all_goals (conv => whnf)
          all_goals first
            | exact ret_pure rfl
            | (exfalso; exact h0 (by assumption))
            | (exfalso; omega)
            | exact ret_pure (congrArg SV.bool (decide_eq_false (by rw [hsz]; omega)))
      · have hne : clsI (byteAt s 0) ≠ 2 := fun h => hl (clsI_lt.1 h)
        rw [decide_eq_false hl]
        generalize clsI (byteAt s 0) = x at c1 hne
        refine fc_of mixed T_ok Tryz.func44 rfl (by kernel_rfl) (by kernel_rfl) (by kernel_rfl) ?_
        repeat' ((conv => whnf); first | (refine vcall_pure (c1) rfl rfl rfl ?_) | (refine vcallD_pure (c1) rfl rfl rfl ?_) | ((first | apply br_dec | apply br_ndec) <;> intro h <;> try (exfalso; (try dsimp only at h); omega)) | ((first | apply br_seq | apply br_nseq | apply br_not | apply br_intro) <;> intro h) | refine cond_a ?_)
        all_goals (conv => whnf)
        all_goals first
          | (exfalso; exact h0 (by assumption))
          | (exfalso; omega)
          | exact ret_pure (by rw [Bool.and_false]; rfl)
    · rw [decide_eq_false h16]
      refine fc_of mixed T_ok Tryz.func44 rfl (by kernel_rfl) (by kernel_rfl) (by kernel_rfl) ?_
      repeat' ((conv => whnf); first | ((first | apply br_dec | apply br_ndec) <;> intro h <;> try (exfalso; (try dsimp only at h); omega)) | ((first | apply br_seq | apply br_nseq | apply br_not | apply br_intro) <;> intro h) | refine cond_a ?_)
      all_goals (conv => whnf)
      all_goals first
        | (exfalso; exact h0 (by assumption))
        | (exfalso; omega)
        | exact ret_pure (by rw [Bool.and_false]; rfl)

end Go.Proofs.YtkdjnmcaifejjaaGreatDoor

/- Plain facts on texts in ascending order. No program in sight. -/
namespace Go.Sy
open Go.RowKit

theorem ofB_toList (s : ByteArray) : s.toList = ofB s := by
  exact (by simpa using ByteArray.toList_eq s : s.toList = s.data.toList)
theorem strLt_eq (a b : ByteArray) : strLt a b = decide (ofB a < ofB b) := by
  unfold strLt
  rw [ofB_toList, ofB_toList, Go.Proofs.bytesLess_eq]
theorem ofB_inj {a b : ByteArray} (h : ofB a = ofB b) : a = b := by rw [← toB_ofB a, ← toB_ofB b, h]
theorem strLt_irrefl (a : ByteArray) : strLt a a = false := by rw [strLt_eq]; exact decide_eq_false (List.lt_irrefl _)
theorem strLt_asymm {a b : ByteArray} (h : strLt a b = true) : strLt b a = false := by
  rw [strLt_eq] at h ⊢
  exact decide_eq_false (List.lt_asymm (of_decide_eq_true h))
theorem strLt_trans {a b c : ByteArray} (h : strLt a b = true) (k : strLt b c = true) : strLt a c = true := by
  rw [strLt_eq] at *
  exact decide_eq_true (List.lt_trans (of_decide_eq_true h) (of_decide_eq_true k))
theorem strLt_total {a b : ByteArray} (h : strLt a b = false) (hne : a ≠ b) : strLt b a = true := by
  rw [strLt_eq] at *
  have h1 := of_decide_eq_false h
  have h2 : ofB b ≤ ofB a := List.not_lt.1 h1
  rcases List.le_iff_lt_or_eq.1 h2 with h3 | h3
  · exact decide_eq_true h3
  · exact absurd (ofB_inj h3.symm) hne
theorem sortS_pairwise {l : List ByteArray} (hd : l.Nodup) : (sortS l).Pairwise (fun a b => strLt a b = true) := by
  have tr : ∀ a b c : List UInt8, leB a b = true → leB b c = true → leB a c = true := fun a b c h1 h2 => by simp only [leB, decide_eq_true_eq] at *; exact List.le_trans h1 h2
  have to : ∀ a b : List UInt8, (leB a b || leB b a) = true := fun a b => by simp only [leB, Bool.or_eq_true, decide_eq_true_eq]; exact List.le_total a b
  have h1 := List.pairwise_mergeSort tr to (l.map ofB)
  have hd2 : (sortS l).Nodup := (sortS_perm l).symm.nodup hd
  have h2 : (sortS l).Pairwise (fun a b => leB (ofB a) (ofB b) = true) := by
    unfold sortS
    rw [List.pairwise_map]
    exact h1
  refine (List.Pairwise.and h2 hd2).imp ?_
  rintro a b ⟨h3, h4⟩
  rw [strLt_eq]
  simp only [leB, decide_eq_true_eq] at h3
  rcases List.le_iff_lt_or_eq.1 h3 with h5 | h5
  · exact decide_eq_true h5
  · exact absurd (ofB_inj h5) h4
/-- Texts in strictly ascending order are their own order. -/
theorem sortS_of {l m : List ByteArray} (hp : m.Perm l) (hm : m.Pairwise (fun a b => strLt a b = true)) : sortS l = m := by
  have hdm : m.Nodup := hm.imp (fun {a b} h e => by subst e; rw [strLt_irrefl] at h; cases h)
  refine List.Perm.eq_of_pairwise (le := fun a b => strLt a b = true) (fun a b _ _ h1 h2 => ?_) (sortS_pairwise (hp.nodup hdm)) hm ((sortS_perm l).trans hp.symm)
  rw [strLt_asymm h1] at h2; cases h2
end Go.Sy

/- Contracts: a book of positions is made. -/
namespace Go.Proofs.YtkdjnmcaifejjaaGreatDoor
open Go.RowKit Go.Sy
attribute [local irreducible] vcall vloop vcallD retP
set_option maxRecDepth 100000
set_option linter.unusedVariables false
set_option linter.unusedSimpArgs false

/-- The place of a name, or -1. -/
def idI (ps : List ByteArray) (s : ByteArray) (n : Nat) : Int := if sidx ps s < n then (sidx ps s : Int) else -1
theorem sidx_le (s : ByteArray) : ∀ l : List ByteArray, sidx l s ≤ l.length
  | [] => Nat.le_refl _
  | x :: l => by
    have := sidx_le s l
    simp only [sidx, List.length_cons]
    cases seq x s <;> simp only [cond_true, cond_false] <;> omega
theorem seq_tr {a b : ByteArray} : seq a b = true ↔ a = b := by unfold seq; exact decide_eq_true_iff
theorem sidx_lo {s : ByteArray} : ∀ (l : List ByteArray) (j : Nat), j < sidx l s → ¬ l.getD j ⟨#[]⟩ = s
  | [], j, h => by simp [sidx] at h
  | x :: l, j, h => by
    simp only [sidx] at h
    cases hx : seq x s with
    | true => rw [hx] at h; simp at h
    | false =>
      rw [hx] at h
      simp only [cond_false] at h
      cases j with
      | zero => intro e; rw [seq_tr.2 (show x = s from e)] at hx; cases hx
      | succ j => exact sidx_lo l j (by omega)
theorem sidx_at {s : ByteArray} : ∀ (l : List ByteArray), sidx l s < l.length → l.getD (sidx l s) ⟨#[]⟩ = s
  | [], h => by simp [sidx] at h
  | x :: l, h => by
    simp only [sidx] at h ⊢
    cases hx : seq x s with
    | true => exact seq_tr.1 hx
    | false =>
      rw [hx] at h
      simp only [cond_false, List.length_cons] at h ⊢
      exact sidx_at l (by omega)
theorem sidx_eq {s : ByteArray} {l : List ByteArray} {k : Nat} (hk : k < l.length) (h : l.getD k ⟨#[]⟩ = s) (hlo : ∀ j, j < k → ¬ l.getD j ⟨#[]⟩ = s) : sidx l s = k := by
  rcases Nat.lt_trichotomy (sidx l s) k with q | q | q
  · exact absurd (sidx_at l (by omega)) (hlo _ q)
  · exact q
  · exact absurd h (sidx_lo l k q)
theorem str_Index (n : Nat) (ps : List ByteArray) (s : ByteArray) (hl : ps.length = n) (hn : n ≤ 100000) : FC Tryz.prog 2 61 [.sl 1 0 0 n, .str s] [(1, some (.one true (.cols n [.sc (.strs ps)])))] (isOut (.int .i64 (idI ps s n)) [] 2) := by
  refine fc_of mixed T_ok Tryz.func61 rfl (by kernel_rfl) (by kernel_rfl) (by kernel_rfl) ?_
  repeat' ((conv => whnf); first | ((first | apply br_dec | apply br_ndec) <;> intro h <;> try (exfalso; (try dsimp only at h); omega)) | ((first | apply br_seq | apply br_nseq | apply br_not | apply br_intro) <;> intro h) | refine cond_a ?_)
  all_goals (conv => whnf)
  refine vloop_lp (fun k : Nat => ⟨[(0, .sl 1 0 0 n), (1, .str s), (6, .sl 1 0 0 n), (7, .int .i64 n), (8, .int .i64 k)], [(1, some (.one true (.cols n [.sc (.strs ps)])))], 2⟩) (fun k => k ≤ n ∧ ∀ j, j < k → ¬ ps.getD j ⟨#[]⟩ = s) (fun k => n - k) 0 [0, 1] [] ⟨rfl, ⟨rfl, rfl, rfl, rfl, rfl, trivial⟩, ⟨rfl, trivial⟩⟩ ⟨Nat.zero_le _, fun j hj => by omega⟩ ?_
  rintro k ⟨hk, hlo⟩
  by_cases hk2 : k < n
  · by_cases q : ps.getD k ⟨#[]⟩ = s
    · have hi : idI ps s n = (k : Int) := by
        have e := sidx_eq (by omega) q hlo
        unfold idI; rw [e, if_pos hk2]
      rw [hi]
      repeat' ((conv => whnf); first | ((first | apply br_dec | apply br_ndec) <;> intro h <;> try (exfalso; (try dsimp only at h); omega)) | ((first | apply br_seq | apply br_nseq | apply br_not | apply br_intro) <;> intro h) | refine cond_a ?_)
      all_goals (conv => whnf)
      all_goals (try simp only [toNat0] at *)
      all_goals first
        | exact ret_out (l := [0, 1]) rfl rfl trivial allRw_nil
        | (exfalso; first | omega | contradiction | exact absurd q.symm (by assumption))
        | trace_state
    · have hnx : ∀ j, j < k + 1 → ¬ ps.getD j ⟨#[]⟩ = s := fun j hj => by
        by_cases e : j = k
        · subst e; exact q
        · exact hlo j (by omega)
      repeat' ((conv => whnf); first | ((first | apply br_dec | apply br_ndec) <;> intro h <;> try (exfalso; (try dsimp only at h); omega)) | ((first | apply br_seq | apply br_nseq | apply br_not | apply br_intro) <;> intro h) | refine cond_a ?_)
      all_goals (conv => whnf)
      all_goals (try simp only [toNat0] at *)
      all_goals first
        | exact ⟨k + 1, [0, 1], [], ⟨hk2, hnx⟩, (show n - (k + 1) < n - k by omega), ⟨rfl, ⟨rfl, rfl, rfl, rfl, congrArg (fun z => some (SV.int .i64 z)) (i64_succ (by omega)), trivial⟩, ⟨rfl, trivial⟩⟩⟩
        | (exfalso; first | omega | contradiction | exact q ((by assumption : s = _).symm))
        | trace_state
  · have e : k = n := by omega
    subst e
    have hi : idI ps s k = -1 := by
      unfold idI
      rw [if_neg]
      intro q
      exact hlo _ q (sidx_at ps (by omega))
    rw [hi]
    repeat' ((conv => whnf); first | ((first | apply br_dec | apply br_ndec) <;> intro h <;> try (exfalso; (try dsimp only at h); omega)) | ((first | apply br_seq | apply br_nseq | apply br_not | apply br_intro) <;> intro h) | refine cond_a ?_)
    all_goals (conv => whnf)
    all_goals first
      | exact ret_out (l := [0, 1]) rfl rfl trivial allRw_nil
      | (exfalso; omega)
      | trace_state
theorem str_Contains (n : Nat) (ps : List ByteArray) (s : ByteArray) (hl : ps.length = n) (hn : n ≤ 100000) : FC Tryz.prog 2 45 [.sl 1 0 0 n, .str s] [(1, some (.one true (.cols n [.sc (.strs ps)])))] (isOut (.bool (decide (0 ≤ idI ps s n))) [] 2) := by
  have c := str_Index n ps s hl hn
  refine fc_of mixed T_ok Tryz.func45 rfl (by kernel_rfl) (by kernel_rfl) (by kernel_rfl) ?_
  repeat' ((conv => whnf); first | refine vcall_o (l := [0, 1]) (c) ?_ | ((first | apply br_dec | apply br_ndec) <;> intro h <;> try (exfalso; (try dsimp only at h); omega)) | ((first | apply br_seq | apply br_nseq | apply br_not | apply br_intro) <;> intro h) | refine cond_a ?_)
  all_goals (conv => whnf)
  all_goals exact ret_out (l := [0, 1]) rfl rfl trivial allRw_nil
theorem bodied_of {P : Program} {f : FuncId} {fn : Func} (h : P.funcs[f]? = some fn) (hb : fn.body.isSome = true) (hn : (fn.name == "runtime.NumGoroutine") = false) : bodied P f := by
  obtain ⟨c, hc⟩ := Option.isSome_iff_exists.1 hb
  exact ⟨fn, c, h, hc, hn⟩
theorem str_Sort (n : Nat) (l : List ByteArray) (hn : n < 4611686018427387904) : FC Tryz.prog 2 46 [.sl 1 0 0 n] [(1, some (.one false (.cols n [.sc (.strs l)])))] (isOut (.tup []) [(1, some (.one false (.cols n [.sc (.strs (sortS l))])))] 2) :=
  fc_sortS ⟨fun blk off cap ss W hH hblk hsz => AnyM.slices_Sort_string Tryz.sortS blk off cap ss W hH hblk hsz, fun p cap W => AnyM.slices_Sort_string_none Tryz.sortS p cap W⟩ (bodied_of Tryz.func46 (by kernel_rfl) (by kernel_rfl)) n l hn
/-- A book: its parties, and the rows of its currencies. -/
structure Bk where
  n : Nat
  ps : List ByteArray
  m : Nat
  cs : List ByteArray
  vs : List (List Int)
  bs : List Nat
  ck : Nat
abbrev bkM (ro : Bool) (b : Bk) : Option HB := some (.one ro (.obj (.map false false b.m [.strs b.cs] [.arrs 16 .i64 b.vs] b.bs b.ck)))
abbrev bkP (ro : Bool) (b : Bk) : Option HB := some (.one ro (.cols b.n [.sc (.strs b.ps)]))
abbrev bkC (ro : Bool) (hp hm n : Nat) : Option HB := some (.one ro (.cells [.sl hp 0 0 n, .map hm 0]))
/-- The error of the k-th party, and of the first parties. -/
def nwE (ps : List ByteArray) (k : Nat) : Int := if nmB (ps.getD k ⟨#[]⟩) = false then 5 else if 0 ≤ idI (ps.take k) (ps.getD k ⟨#[]⟩) k then 7 else 0
def nwK (ps : List ByteArray) : Nat → Int
  | 0 => 0
  | k + 1 => if nwK ps k ≠ 0 then nwK ps k else nwE ps k
theorem nwK_stop {ps : List ByteArray} {k : Nat} (h0 : nwK ps k = 0) (h1 : nwE ps k ≠ 0) : ∀ n, k < n → nwK ps n = nwE ps k
  | 0, h => by omega
  | n + 1, h => by
    simp only [nwK]
    by_cases e : k = n
    · subst e; rw [if_neg (by omega)]
    · rw [nwK_stop h0 h1 n (by omega), if_pos h1]
def nwErr (ps : List ByteArray) : Int := if 16 < ps.length then 3 else nwK ps ps.length
def nwB (ps : List ByteArray) : Bk := ⟨ps.length, sortS ps, 0, [], [], [], 0⟩
def nwOut (ps : List ByteArray) : SV → Heap → Nat → Prop := if nwErr ps ≠ 0 then isOut (.tup [.nptr, .int .i64 (nwErr ps)]) [] 2 else isOut (.tup [.ptr 2 0 0 0, .int .i64 0]) [(2, bkC false 3 4 ps.length), (3, bkP false (nwB ps)), (4, bkM false (nwB ps))] 5
theorem take_snoc {ps : List ByteArray} {k : Nat} (hk : k < ps.length) : ps.take (k + 1) = ps.take k ++ [ps.getD k ⟨#[]⟩] := by
  rw [List.take_succ_eq_append_getElem hk, List.getD, List.getElem?_eq_getElem hk]; rfl
theorem pos_New (ps : List ByteArray) (n : Nat) (hl : ps.length = n) (hn : n ≤ 100000) : FC Tryz.prog 2 24 [.sl 1 0 0 n] [(1, some (.one true (.cols n [.sc (.strs ps)])))] (nwOut ps) := by
  unfold nwOut nwErr
  by_cases h16 : 16 < n
  · rw [hl, if_pos h16, if_pos (by decide)]
    refine fc_of mixed T_ok Tryz.func24 rfl (by kernel_rfl) (by kernel_rfl) (by kernel_rfl) ?_
    repeat' ((conv => whnf); first | ((first | apply br_dec | apply br_ndec) <;> intro h <;> try (exfalso; (try dsimp only at h); omega)) | ((first | apply br_seq | apply br_nseq | apply br_not | apply br_intro) <;> intro h) | refine cond_a ?_)
    all_goals (conv => whnf)
    all_goals first
      | exact ret_out (l := [0, 1]) rfl rfl trivial allRw_nil
      | (exfalso; omega)
      | trace_state
  rw [hl, if_neg h16]
  refine fc_of mixed T_ok Tryz.func24 rfl (by kernel_rfl) (by kernel_rfl) (by kernel_rfl) ?_
  repeat' ((conv => whnf); first | ((first | apply br_dec | apply br_ndec) <;> intro h <;> try (exfalso; (try dsimp only at h); omega)) | ((first | apply br_seq | apply br_nseq | apply br_not | apply br_intro) <;> intro h) | refine cond_a ?_)
  all_goals (conv => whnf)
  refine vloop_lp (fun k : Nat => ⟨[(4, .ptr 2 0 0 0), (13, .sl 1 0 0 n), (14, .int .i64 n), (15, .int .i64 k)], [(1, some (.one true (.cols n [.sc (.strs ps)]))), (2, bkC false 3 4 k), (3, some (.one false (.cols k [.sc (.strs (ps.take k))]))), (4, bkM false (nwB ps))], 5⟩) (fun k => k ≤ n ∧ nwK ps k = 0) (fun k => n - k) 0 [0, 1, 3, 4, 2] [.cell 3 0 [.sc (.strs [])]] ⟨rfl, ⟨rfl, rfl, rfl, rfl, trivial⟩, ⟨rfl, rfl, rfl, rfl, trivial⟩⟩ ⟨Nat.zero_le _, rfl⟩ ?_
  rintro k ⟨hk, h0⟩
  by_cases hk2 : k < n
  · have c1 := lex_IsName (ps.getD k ⟨#[]⟩)
    have c2 := str_Contains k (ps.take k) (ps.getD k ⟨#[]⟩) (by rw [List.length_take]; omega) (by omega)
    have hE : nwE ps k = if nmB (ps.getD k ⟨#[]⟩) = false then 5 else if 0 ≤ idI (ps.take k) (ps.getD k ⟨#[]⟩) k then 7 else 0 := rfl
    have hst := fun h => nwK_stop h0 h n hk2
    have hs0 : nwE ps k = 0 → nwK ps (k + 1) = 0 := fun h => by simp only [nwK]; rw [if_neg (by omega)]; exact h
    have htk := take_snoc (ps := ps) (k := k) (by omega)
    cases hnm : nmB (ps.getD k ⟨#[]⟩) with
    | false =>
      rw [hnm] at c1
      rw [hnm, if_pos rfl] at hE
      rw [hst (by omega), hE, if_pos (by decide)]
      repeat' ((conv => whnf); first | (refine vcall_pure (c1) rfl rfl rfl ?_) | refine vcall_o (l := [0, 3]) (c2) ?_ | ((first | apply br_dec | apply br_ndec) <;> intro h <;> try (exfalso; (try dsimp only at h); omega)) | ((first | apply br_seq | apply br_nseq | apply br_not | apply br_intro) <;> intro h) | refine cond_a ?_)
      all_goals (conv => whnf)
      all_goals first
        | exact ret_out (l := [0, 1]) rfl rfl trivial allRw_nil
        | (exfalso; omega)
        | trace_state
    | true =>
      rw [hnm] at c1
      rw [hnm, if_neg (by simp)] at hE
      by_cases hin : 0 ≤ idI (ps.take k) (ps.getD k ⟨#[]⟩) k
      · rw [if_pos hin] at hE
        rw [decide_eq_true hin] at c2
        rw [hst (by omega), hE, if_pos (by decide)]
        repeat' ((conv => whnf); first | (refine vcall_pure (c1) rfl rfl rfl ?_) | refine vcall_o (l := [0, 3]) (c2) ?_ | ((first | apply br_dec | apply br_ndec) <;> intro h <;> try (exfalso; (try dsimp only at h); omega)) | ((first | apply br_seq | apply br_nseq | apply br_not | apply br_intro) <;> intro h) | refine cond_a ?_)
        all_goals (conv => whnf)
        all_goals first
          | exact ret_out (l := [0, 1]) rfl rfl trivial allRw_nil
          | (exfalso; omega)
          | trace_state
      · rw [if_neg hin] at hE
        rw [decide_eq_false hin] at c2
        have hr : (some (HB.one false (.cols (k + 1) [.sc (.strs (ps.take k ++ [ps.getD k ⟨#[]⟩]))])) : Option HB) = some (.one false (.cols (k + 1) [.sc (.strs (ps.take (k + 1)))])) := by rw [htk]
        repeat' ((conv => whnf); first | (refine vcall_pure (c1) rfl rfl rfl ?_) | refine vcall_o (l := [0, 3]) (c2) ?_ | ((first | apply br_dec | apply br_ndec) <;> intro h <;> try (exfalso; (try dsimp only at h); omega)) | ((first | apply br_seq | apply br_nseq | apply br_not | apply br_intro) <;> intro h) | refine cond_a ?_)
        all_goals (conv => whnf)
        all_goals first
          | exact ⟨k + 1, [0, 1, 2, 6, 4], [], ⟨hk2, hs0 hE⟩, (show n - (k + 1) < n - k by omega), ⟨rfl, ⟨rfl, rfl, rfl, congrArg (fun z => some (SV.int .i64 z)) (i64_succ (by omega)), trivial⟩, ⟨rfl, rfl, hr, rfl, trivial⟩⟩⟩
          | (exfalso; omega)
          | trace_state
  · have e : k = n := by omega
    subst e
    have eT : ps.take k = ps := by rw [← hl, List.take_length]
    rw [eT, if_neg (by omega)]
    have c3 := str_Sort k ps (by omega)
    repeat' ((conv => whnf); first | refine vcall_o (l := [0, 3]) (c3) ?_ | ((first | apply br_dec | apply br_ndec) <;> intro h <;> try (exfalso; (try dsimp only at h); omega)) | ((first | apply br_seq | apply br_nseq | apply br_not | apply br_intro) <;> intro h) | refine cond_a ?_)
    all_goals (conv => whnf)
    all_goals first
      | exact ret_out (l := [0, 1, 2, 3, 4]) rfl rfl ⟨rfl, by rw [← hl]; rfl, rfl, trivial⟩ (allRw_cons (allRw_cons (allRw_cons allRw_nil)))
      | (exfalso; omega)
      | trace_state
end Go.Proofs.YtkdjnmcaifejjaaGreatDoor

/- Contracts: moves in a book, what a party owes, the currencies of a book. -/
namespace Go.Proofs.YtkdjnmcaifejjaaGreatDoor
open Go.RowKit Go.Sy
attribute [local irreducible] vcall vloop vcallD retP
set_option maxRecDepth 100000
set_option linter.unusedVariables false
set_option linter.unusedSimpArgs false

abbrev z16 : List Int := List.replicate 16 0
abbrev Bk.ix (b : Bk) (c : ByteArray) : Nat := sidx b.cs c
abbrev Bk.row (b : Bk) (c : ByteArray) : List Int := b.vs.getD (sidx b.cs c) z16
abbrev bkH (b : Bk) : Heap := [(1, bkC true 2 3 b.n), (2, bkP true b), (3, bkM false b)]
abbrev bkR (b : Bk) : Heap := [(1, bkC true 2 3 b.n), (2, bkP true b), (3, bkM true b)]
def Bk.put (b : Bk) (c : ByteArray) (r : List Int) : Bk :=
  ⟨b.n, b.ps, if sidx b.cs c < b.m then b.m else b.m + 1, putL (sidx b.cs c) c b.cs, putL (sidx b.cs c) r b.vs, if sidx b.cs c < b.m then b.bs else b.bs ++ [b.ck], if sidx b.cs c < b.m then b.ck else b.ck + 1⟩
def Bk.del (b : Bk) (c : ByteArray) : Bk :=
  ⟨b.n, b.ps, if sidx b.cs c < b.m then b.m - 1 else b.m, b.cs.eraseIdx (sidx b.cs c), b.vs.eraseIdx (sidx b.cs c), b.bs.eraseIdx (sidx b.cs c), b.ck⟩
/-- What a move needs to know of a book. -/
structure Bk.Ok (b : Bk) : Prop where
  n : b.n ≤ 16
  ps : b.ps.length = b.n
  len : ∀ i, (b.vs.getD i z16).length = 16
  bd : ∀ i j, -4503599627370496 ≤ (b.vs.getD i z16).getD j 0 ∧ (b.vs.getD i z16).getD j 0 ≤ 4503599627370496
def fitB (x : Int) : Bool := decide (-4503599627370496 ≤ x) && decide (x ≤ 4503599627370496)
theorem fitB_t {x : Int} : fitB x = true ↔ -4503599627370496 ≤ x ∧ x ≤ 4503599627370496 := by unfold fitB; simp
theorem fitB_f {x : Int} : fitB x = false ↔ ¬ (-4503599627370496 ≤ x ∧ x ≤ 4503599627370496) := by rw [← fitB_t]; simp
theorem pos_within (x : Int) : Pure Tryz.prog 63 [.int .i64 x] (.bool (fitB x)) := by
  by_cases h : -4503599627370496 ≤ x ∧ x ≤ 4503599627370496
  · rw [fitB_t.2 h]
    refine fc_of mixed T_ok Tryz.func63 rfl (by kernel_rfl) (by kernel_rfl) (by kernel_rfl) ?_
    repeat' ((conv => whnf); first | ((first | apply br_dec | apply br_ndec) <;> intro h <;> try (exfalso; (try dsimp only at h); omega)) | ((first | apply br_seq | apply br_nseq | apply br_not | apply br_intro) <;> intro h) | refine cond_a ?_)
    all_goals (conv => whnf)
    all_goals first
      | exact ret_pure rfl
      | (refine ret_pure (congrArg SV.bool ?_); simp; omega)
      | (exfalso; omega)
      | trace_state
  · rw [fitB_f.2 h]
    refine fc_of mixed T_ok Tryz.func63 rfl (by kernel_rfl) (by kernel_rfl) (by kernel_rfl) ?_
    repeat' ((conv => whnf); first | ((first | apply br_dec | apply br_ndec) <;> intro h <;> try (exfalso; (try dsimp only at h); omega)) | ((first | apply br_seq | apply br_nseq | apply br_not | apply br_intro) <;> intro h) | refine cond_a ?_)
    all_goals (conv => whnf)
    all_goals first
      | exact ret_pure rfl
      | (refine ret_pure (congrArg SV.bool ?_); simp; omega)
      | (exfalso; omega)
      | trace_state
/-- The row after a move. -/
abbrev mvRow (r : List Int) (F T : Nat) (a : Int) : List Int := (r.set F (r.getD F 0 - a)).set T (r.getD T 0 + a)
def mvE (b : Bk) (f t c : ByteArray) (a : Int) : Int :=
  if idI b.ps f b.n < 0 ∨ idI b.ps t b.n < 0 then 6
  else if idI b.ps f b.n = idI b.ps t b.n then 4
  else if mchk a c ≠ 0 then mchk a c
  else if a < 0 then 4
  else if fitB ((b.row c).getD (sidx b.ps f) 0 - a) = true ∧ fitB ((b.row c).getD (sidx b.ps t) 0 + a) = true then 0 else 4
def Bk.mv1 (b : Bk) (c : ByteArray) (r : List Int) : Bk := if r = z16 then (b.put c r).del c else b.put c r
def Bk.mv (b : Bk) (f t c : ByteArray) (a : Int) : Bk := if mvE b f t c a = 0 then b.mv1 c (mvRow (b.row c) (sidx b.ps f) (sidx b.ps t) a) else b
theorem mv_err {b : Bk} {f t c : ByteArray} {a : Int} (h : mvE b f t c a ≠ 0) : b.mv f t c a = b := if_neg h
theorem idI_lt {ps : List ByteArray} {s : ByteArray} {n : Nat} (h : sidx ps s < n) : idI ps s n = (sidx ps s : Int) := if_pos h
theorem idI_no {ps : List ByteArray} {s : ByteArray} {n : Nat} (h : ¬ sidx ps s < n) : idI ps s n = -1 := if_neg h
theorem pos_Move (b : Bk) (hb : b.Ok) (f t c : ByteArray) (a : Int) : FC Tryz.prog 4 38 [.ptr 1 0 0 0, .str f, .str t, .agg [.int .i64 a, .str c]] (bkH b) (isOut (.int .i64 (mvE b f t c a)) [(3, bkM false (b.mv f t c a))] 4) := by
  have hn := hb.n
  have c1 := str_Index b.n b.ps f hb.ps (by omega)
  have c2 := str_Index b.n b.ps t hb.ps (by omega)
  have c3 := money_Check a c
  by_cases h1 : sidx b.ps f < b.n
  case neg =>
    have e : mvE b f t c a = 6 := by unfold mvE; rw [idI_no h1, if_pos (Or.inl (by decide))]
    rw [mv_err (by rw [e]; decide), e]
    rw [idI_no h1] at c1
    refine fc_of mixed T_ok Tryz.func38 rfl (by kernel_rfl) (by kernel_rfl) (by kernel_rfl) ?_
    repeat' ((conv => whnf); first | refine vcall_o (l := [0, 2]) (c1) ?_ | refine vcall_o (l := [0, 2]) (c2) ?_ | refine vcallD_o (l := [0, 2]) (c1) ?_ | refine vcallD_o (l := [0, 2]) (c2) ?_ | ((first | apply br_dec | apply br_ndec) <;> intro h <;> try (exfalso; (try dsimp only at h); omega)) | ((first | apply br_seq | apply br_nseq | apply br_not | apply br_intro) <;> intro h) | refine cond_a ?_)
    all_goals (conv => whnf)
    all_goals first
      | exact ret_out (l := [0, 1, 2, 3]) rfl rfl ⟨rfl, trivial⟩ (allRw_cons allRw_nil)
      | (exfalso; omega)
      | trace_state
  by_cases h2 : sidx b.ps t < b.n
  case neg =>
    have e : mvE b f t c a = 6 := by unfold mvE; rw [idI_no h2, if_pos (Or.inr (by decide))]
    rw [mv_err (by rw [e]; decide), e]
    rw [idI_no h2] at c2
    refine fc_of mixed T_ok Tryz.func38 rfl (by kernel_rfl) (by kernel_rfl) (by kernel_rfl) ?_
    repeat' ((conv => whnf); first | refine vcall_o (l := [0, 2]) (c1) ?_ | refine vcall_o (l := [0, 2]) (c2) ?_ | refine vcallD_o (l := [0, 2]) (c1) ?_ | refine vcallD_o (l := [0, 2]) (c2) ?_ | ((first | apply br_dec | apply br_ndec) <;> intro h <;> try (exfalso; (try dsimp only at h); omega)) | ((first | apply br_seq | apply br_nseq | apply br_not | apply br_intro) <;> intro h) | refine cond_a ?_)
    all_goals (conv => whnf)
    all_goals first
      | exact ret_out (l := [0, 1, 2, 3]) rfl rfl ⟨rfl, trivial⟩ (allRw_cons allRw_nil)
      | (exfalso; omega)
      | trace_state
  have e0 : mvE b f t c a = if sidx b.ps f = sidx b.ps t then 4 else if mchk a c ≠ 0 then mchk a c else if a < 0 then 4 else if fitB ((b.row c).getD (sidx b.ps f) 0 - a) = true ∧ fitB ((b.row c).getD (sidx b.ps t) 0 + a) = true then 0 else 4 := by
    unfold mvE
    rw [idI_lt h1, idI_lt h2, if_neg (by omega)]
    by_cases q : sidx b.ps f = sidx b.ps t
    · rw [if_pos q, if_pos (by omega)]
    · rw [if_neg q, if_neg (by omega)]
  rw [idI_lt h1] at c1
  rw [idI_lt h2] at c2
  by_cases h3 : sidx b.ps f = sidx b.ps t
  · rw [if_pos h3] at e0
    rw [mv_err (by rw [e0]; decide), e0]
    refine fc_of mixed T_ok Tryz.func38 rfl (by kernel_rfl) (by kernel_rfl) (by kernel_rfl) ?_
    repeat' ((conv => whnf); first | refine vcall_o (l := [0, 2]) (c1) ?_ | refine vcall_o (l := [0, 2]) (c2) ?_ | refine vcallD_o (l := [0, 2]) (c1) ?_ | refine vcallD_o (l := [0, 2]) (c2) ?_ | ((first | apply br_dec | apply br_ndec) <;> intro h <;> try (exfalso; (try dsimp only at h); omega)) | ((first | apply br_seq | apply br_nseq | apply br_not | apply br_intro) <;> intro h) | refine cond_a ?_)
    all_goals (conv => whnf)
    all_goals first
      | exact ret_out (l := [0, 1, 2, 3]) rfl rfl ⟨rfl, trivial⟩ (allRw_cons allRw_nil)
      | (exfalso; omega)
      | trace_state
  rw [if_neg h3] at e0
  by_cases h4 : mchk a c = 0
  case neg =>
    rw [if_pos h4] at e0
    rw [mv_err (by rw [e0]; exact h4), e0]
    refine fc_of mixed T_ok Tryz.func38 rfl (by kernel_rfl) (by kernel_rfl) (by kernel_rfl) ?_
    repeat' ((conv => whnf); first | refine vcall_o (l := [0, 2]) (c1) ?_ | refine vcall_o (l := [0, 2]) (c2) ?_ | refine vcallD_o (l := [0, 2]) (c1) ?_ | refine vcallD_o (l := [0, 2]) (c2) ?_ | (refine vcall_pure (c3) rfl rfl rfl ?_) | ((first | apply br_dec | apply br_ndec) <;> intro h <;> try (exfalso; (try dsimp only at h); omega)) | ((first | apply br_seq | apply br_nseq | apply br_not | apply br_intro) <;> intro h) | refine cond_a ?_)
    all_goals (conv => whnf)
    all_goals first
      | exact ret_out (l := [0, 1, 2, 3]) rfl rfl ⟨rfl, trivial⟩ (allRw_cons allRw_nil)
      | (exfalso; omega)
      | trace_state
  rw [if_neg (by simpa using h4)] at e0
  rw [h4] at c3
  have ham := mchk_or a c
  rw [h4] at ham
  have hlen := hb.len (sidx b.cs c)
  have hbd := hb.bd (sidx b.cs c)
  have hF : -4503599627370496 ≤ (b.row c).getD (sidx b.ps f) 0 ∧ (b.row c).getD (sidx b.ps f) 0 ≤ 4503599627370496 := hbd (sidx b.ps f)
  have hT : -4503599627370496 ≤ (b.row c).getD (sidx b.ps t) 0 ∧ (b.row c).getD (sidx b.ps t) 0 ≤ 4503599627370496 := hbd (sidx b.ps t)
  by_cases h5 : a < 0
  · rw [if_pos h5] at e0
    rw [mv_err (by rw [e0]; decide), e0]
    refine fc_of mixed T_ok Tryz.func38 rfl (by kernel_rfl) (by kernel_rfl) (by kernel_rfl) ?_
    repeat' ((conv => whnf); first | refine vcall_o (l := [0, 2]) (c1) ?_ | refine vcall_o (l := [0, 2]) (c2) ?_ | refine vcallD_o (l := [0, 2]) (c1) ?_ | refine vcallD_o (l := [0, 2]) (c2) ?_ | (refine vcall_pure (c3) rfl rfl rfl ?_) | ((first | apply br_dec | apply br_ndec) <;> intro h <;> try (exfalso; (try dsimp only at h); omega)) | ((first | apply br_seq | apply br_nseq | apply br_not | apply br_intro) <;> intro h) | refine cond_a ?_)
    all_goals (conv => whnf)
    all_goals first
      | exact ret_out (l := [0, 1, 2, 3]) rfl rfl ⟨rfl, trivial⟩ (allRw_cons allRw_nil)
      | (exfalso; omega)
      | trace_state
  rw [if_neg h5] at e0
  have g1 : IntKind.i64.wrap ((b.row c).getD (sidx b.ps f) 0 - a) = (b.row c).getD (sidx b.ps f) 0 - a := w64_in (by omega) (by omega)
  have g2 : ((b.row c).set (sidx b.ps f) ((b.row c).getD (sidx b.ps f) 0 - a)).getD (sidx b.ps t) 0 = (b.row c).getD (sidx b.ps t) 0 := by
    rw [List.getD, List.getElem?_set_ne h3]; rfl
  have g3 : IntKind.i64.wrap ((b.row c).getD (sidx b.ps t) 0 + a) = (b.row c).getD (sidx b.ps t) 0 + a := w64_in (by omega) (by omega)
  have g4 : (mvRow (b.row c) (sidx b.ps f) (sidx b.ps t) a).getD (sidx b.ps f) 0 = (b.row c).getD (sidx b.ps f) 0 - a := by
    unfold mvRow
    rw [List.getD, List.getElem?_set_ne (fun e => h3 e.symm), List.getElem?_set_self (by rw [hlen]; omega)]; rfl
  have g5 : (mvRow (b.row c) (sidx b.ps f) (sidx b.ps t) a).getD (sidx b.ps t) 0 = (b.row c).getD (sidx b.ps t) 0 + a := by
    unfold mvRow
    rw [List.getD, List.getElem?_set_self (by rw [List.length_set, hlen]; omega)]; rfl
  by_cases h6 : fitB ((b.row c).getD (sidx b.ps f) 0 - a) = true ∧ fitB ((b.row c).getD (sidx b.ps t) 0 + a) = true
  case neg =>
    rw [if_neg h6] at e0
    rw [mv_err (by rw [e0]; decide), e0]
    refine fc_of mixed T_ok Tryz.func38 rfl (by kernel_rfl) (by kernel_rfl) (by kernel_rfl) ?_
    repeat' ((conv => whnf); first | refine vcall_o (l := [0, 2]) (c1) ?_ | refine vcall_o (l := [0, 2]) (c2) ?_ | refine vcallD_o (l := [0, 2]) (c1) ?_ | refine vcallD_o (l := [0, 2]) (c2) ?_ | (refine vcall_pure (c3) rfl rfl rfl ?_) | (refine vcall_pure (pos_within _) rfl rfl rfl ?_) | (refine vcallD_pure (pos_within _) rfl rfl rfl ?_) | ((first | apply br_dec | apply br_ndec) <;> intro h <;> try (exfalso; (try dsimp only at h); omega)) | ((first | apply br_seq | apply br_nseq | apply br_not | apply br_intro) <;> intro h) | refine cond_a ?_)
    all_goals (conv => whnf)
    all_goals (try simp only [toNat0, Int.toNat_natCast, g1, g2, g3, g4, g5] at *)
    all_goals first
      | exact ret_out (l := [0, 1, 2, 3]) rfl rfl ⟨rfl, trivial⟩ (allRw_cons allRw_nil)
      | (exfalso; omega)
      | (exfalso; exact h6 ⟨by assumption, by assumption⟩)
      | trace_state
  rw [if_pos h6] at e0
  have e1 : b.mv f t c a = b.mv1 c (mvRow (b.row c) (sidx b.ps f) (sidx b.ps t) a) := by unfold Bk.mv; rw [if_pos e0]
  rw [e1, e0]
  have h61 := h6.1
  have h62 := h6.2
  by_cases h7 : mvRow (b.row c) (sidx b.ps f) (sidx b.ps t) a = z16
  · unfold Bk.mv1
    rw [if_pos h7]
    refine fc_of mixed T_ok Tryz.func38 rfl (by kernel_rfl) (by kernel_rfl) (by kernel_rfl) ?_
    repeat' ((conv => whnf); first | refine vcall_o (l := [0, 2]) (c1) ?_ | refine vcall_o (l := [0, 2]) (c2) ?_ | refine vcallD_o (l := [0, 2]) (c1) ?_ | refine vcallD_o (l := [0, 2]) (c2) ?_ | (refine vcall_pure (c3) rfl rfl rfl ?_) | (refine vcall_pure (pos_within _) rfl rfl rfl ?_) | (refine vcallD_pure (pos_within _) rfl rfl rfl ?_) | ((first | apply br_dec | apply br_ndec) <;> intro h <;> try (exfalso; (try dsimp only at h); omega)) | ((first | apply br_seq | apply br_nseq | apply br_not | apply br_intro) <;> intro h) | refine cond_a ?_)
    all_goals (conv => whnf)
    all_goals (try simp only [toNat0, Int.toNat_natCast, g1, g2, g3, g4, g5] at *)
    all_goals first
      | exact ret_out (l := [0, 1, 2, 3]) rfl rfl ⟨rfl, trivial⟩ (allRw_cons allRw_nil)
      | (exfalso; omega)
      | (exfalso; exact bnf h61 (by assumption))
      | (exfalso; exact bnf h62 (by assumption))
      | contradiction
      | trace_state
  · unfold Bk.mv1
    rw [if_neg h7]
    refine fc_of mixed T_ok Tryz.func38 rfl (by kernel_rfl) (by kernel_rfl) (by kernel_rfl) ?_
    repeat' ((conv => whnf); first | refine vcall_o (l := [0, 2]) (c1) ?_ | refine vcall_o (l := [0, 2]) (c2) ?_ | refine vcallD_o (l := [0, 2]) (c1) ?_ | refine vcallD_o (l := [0, 2]) (c2) ?_ | (refine vcall_pure (c3) rfl rfl rfl ?_) | (refine vcall_pure (pos_within _) rfl rfl rfl ?_) | (refine vcallD_pure (pos_within _) rfl rfl rfl ?_) | ((first | apply br_dec | apply br_ndec) <;> intro h <;> try (exfalso; (try dsimp only at h); omega)) | ((first | apply br_seq | apply br_nseq | apply br_not | apply br_intro) <;> intro h) | refine cond_a ?_)
    all_goals (conv => whnf)
    all_goals (try simp only [toNat0, Int.toNat_natCast, g1, g2, g3, g4, g5] at *)
    all_goals first
      | exact ret_out (l := [0, 1, 2, 3]) rfl rfl ⟨rfl, trivial⟩ (allRw_cons allRw_nil)
      | (exfalso; omega)
      | (exfalso; exact bnf h61 (by assumption))
      | (exfalso; exact bnf h62 (by assumption))
      | contradiction
      | trace_state
end Go.Proofs.YtkdjnmcaifejjaaGreatDoor

/- Contracts of package calendar: dates, business days. -/
namespace Go.Proofs.YtkdjnmcaifejjaaGreatDoor
open Go.RowKit Go.Sy
attribute [local irreducible] vcall vloop vcallD retP
set_option maxRecDepth 100000
set_option linter.unusedVariables false
set_option linter.unusedSimpArgs false

/-- A date; its day of the week; date and second of a time. -/
def isD (d : Int) : Bool := decide (0 ≤ d) && decide (d ≤ 99999)
theorem isD_yes {d : Int} : isD d = true ↔ 0 ≤ d ∧ d ≤ 99999 := by unfold isD; simp
theorem isD_no {d : Int} : isD d = false ↔ d < 0 ∨ 99999 < d := by
  unfold isD
  rw [Bool.and_eq_false_iff, decide_eq_false_iff_not, decide_eq_false_iff_not]
  omega
theorem cal_isDate (d : Int) : Pure Tryz.prog 22 [.int .i64 d] (.bool (isD d)) := by
  unfold isD
  by_cases h1 : 0 ≤ d <;> by_cases h2 : d ≤ 99999
  all_goals simp only [h1, h2, decide_true, decide_false, Bool.and_true, Bool.and_false, Bool.true_and, Bool.false_and]
  all_goals refine fc_of mixed T_ok Tryz.func22 rfl (by kernel_rfl) (by kernel_rfl) (by kernel_rfl) ?_
  all_goals repeat' ((conv => whnf); first | ((first | apply br_dec | apply br_ndec) <;> intro h <;> try (exfalso; (try dsimp only at h); omega)) | ((first | apply br_seq | apply br_nseq | apply br_not | apply br_intro) <;> intro h) | refine cond_a ?_)
  all_goals (conv => whnf)
  all_goals first
    | exact ret_pure rfl
    | exact ret_pure (congrArg SV.bool (by simp; omega))
    | (exfalso; omega)
    | trace_state
def wkI (d : Int) : Int := if isD d = true then (d + 3) % 7 else -1
theorem tmod_pos {a b : Int} (h : 0 ≤ a) : a.tmod b = a % b := by rw [Int.tmod_eq_emod_of_nonneg h]
theorem tdiv_pos {a b : Int} (h : 0 ≤ a) : a.tdiv b = a / b := by rw [Int.tdiv_eq_ediv_of_nonneg h]
theorem cal_Weekday (d : Int) : Pure Tryz.prog 76 [.int .i64 d] (.int .i64 (wkI d)) := by
  have c := cal_isDate d
  unfold wkI
  cases h : isD d with
  | true =>
    have hd := isD_yes.1 h
    rw [h] at c
    rw [if_pos rfl]
    refine fc_of mixed T_ok Tryz.func76 rfl (by kernel_rfl) (by kernel_rfl) (by kernel_rfl) ?_
    repeat' ((conv => whnf); first | (refine vcall_pure (c) rfl rfl rfl ?_) | (refine vcallD_pure (c) rfl rfl rfl ?_) | ((first | apply br_dec | apply br_ndec) <;> intro h <;> try (exfalso; (try dsimp only at h); omega)) | ((first | apply br_seq | apply br_nseq | apply br_not | apply br_intro) <;> intro h) | refine cond_a ?_)
    all_goals (conv => whnf)
    all_goals first
      | exact ret_pure (congrArg (SV.int .i64) (by rw [w64_in (n := d + 3) (by omega) (by omega), tmod_pos (by omega)]))
      | (exfalso; omega)
      | trace_state
  | false =>
    rw [h] at c
    rw [if_neg (by simp)]
    refine fc_of mixed T_ok Tryz.func76 rfl (by kernel_rfl) (by kernel_rfl) (by kernel_rfl) ?_
    repeat' ((conv => whnf); first | (refine vcall_pure (c) rfl rfl rfl ?_) | (refine vcallD_pure (c) rfl rfl rfl ?_) | ((first | apply br_dec | apply br_ndec) <;> intro h <;> try (exfalso; (try dsimp only at h); omega)) | ((first | apply br_seq | apply br_nseq | apply br_not | apply br_intro) <;> intro h) | refine cond_a ?_)
    all_goals (conv => whnf)
    all_goals first
      | exact ret_pure rfl
      | (exfalso; omega)
      | trace_state
def okT (t : Int) : Bool := decide (0 ≤ t) && (decide (t ≤ 1099511627776) && isD (t / 86400))
def dayI (t : Int) : Int := if okT t = true then t / 86400 else -1
def secI (t : Int) : Int := if okT t = true then t % 86400 else -1
theorem okT_yes {t : Int} : okT t = true ↔ 0 ≤ t ∧ t ≤ 1099511627776 ∧ isD (t / 86400) = true := by unfold okT; simp
theorem cal_Day (t : Int) : Pure Tryz.prog 42 [.int .i64 t] (.tup [.int .i64 (dayI t), .int .i64 (secI t)]) := by
  have c := cal_isDate (t / 86400)
  unfold dayI secI
  by_cases h1 : 0 ≤ t
  · by_cases h2 : t ≤ 1099511627776
    · have e1 : IntKind.i64.wrap (t.tdiv 86400) = t / 86400 := by rw [tdiv_pos h1, w64_in (by omega) (by omega)]
      have e2 : t.tmod 86400 = t % 86400 := tmod_pos h1
      cases h3 : isD (t / 86400) with
      | true =>
        have hk : okT t = true := okT_yes.2 ⟨h1, h2, h3⟩
        rw [h3] at c
        rw [if_pos hk, if_pos hk]
        refine fc_of mixed T_ok Tryz.func42 rfl (by kernel_rfl) (by kernel_rfl) (by kernel_rfl) ?_
        repeat' ((conv => whnf); first | (simp only [e1]) | (refine vcall_pure (c) rfl rfl rfl ?_) | (refine vcallD_pure (c) rfl rfl rfl ?_) | ((first | apply br_dec | apply br_ndec) <;> intro h <;> try (exfalso; (try dsimp only at h); omega)) | ((first | apply br_seq | apply br_nseq | apply br_not | apply br_intro) <;> intro h) | refine cond_a ?_)
        all_goals (conv => whnf)
        all_goals (try simp only [e2])
        all_goals first
          | exact ret_pure rfl
          | (exfalso; omega)
          | trace_state
      | false =>
        have hk : ¬ okT t = true := fun q => by have := (okT_yes.1 q).2.2; rw [h3] at this; cases this
        rw [h3] at c
        rw [if_neg hk, if_neg hk]
        refine fc_of mixed T_ok Tryz.func42 rfl (by kernel_rfl) (by kernel_rfl) (by kernel_rfl) ?_
        repeat' ((conv => whnf); first | (simp only [e1]) | (refine vcall_pure (c) rfl rfl rfl ?_) | (refine vcallD_pure (c) rfl rfl rfl ?_) | ((first | apply br_dec | apply br_ndec) <;> intro h <;> try (exfalso; (try dsimp only at h); omega)) | ((first | apply br_seq | apply br_nseq | apply br_not | apply br_intro) <;> intro h) | refine cond_a ?_)
        all_goals (conv => whnf)
        all_goals first
          | exact ret_pure rfl
          | (exfalso; omega)
          | trace_state
    · have hk : ¬ okT t = true := fun q => h2 (okT_yes.1 q).2.1
      rw [if_neg hk, if_neg hk]
      refine fc_of mixed T_ok Tryz.func42 rfl (by kernel_rfl) (by kernel_rfl) (by kernel_rfl) ?_
      repeat' ((conv => whnf); first | ((first | apply br_dec | apply br_ndec) <;> intro h <;> try (exfalso; (try dsimp only at h); omega)) | ((first | apply br_seq | apply br_nseq | apply br_not | apply br_intro) <;> intro h) | refine cond_a ?_)
      all_goals (conv => whnf)
      all_goals first
        | exact ret_pure rfl
        | (exfalso; omega)
        | trace_state
  · have hk : ¬ okT t = true := fun q => h1 (okT_yes.1 q).1
    rw [if_neg hk, if_neg hk]
    refine fc_of mixed T_ok Tryz.func42 rfl (by kernel_rfl) (by kernel_rfl) (by kernel_rfl) ?_
    repeat' ((conv => whnf); first | ((first | apply br_dec | apply br_ndec) <;> intro h <;> try (exfalso; (try dsimp only at h); omega)) | ((first | apply br_seq | apply br_nseq | apply br_not | apply br_intro) <;> intro h) | refine cond_a ?_)
    all_goals (conv => whnf)
    all_goals first
      | exact ret_pure rfl
      | (exfalso; omega)
      | trace_state
/-- A set of dates in a map; a calendar. -/
abbrev tmM (ro : Bool) (n : Nat) (ks : List Int) : Option HB := some (.one ro (.obj (.map false false n [.ints .i64 ks] [.sc (.bools (List.replicate n true))] (List.range n) n)))
abbrev calC (ro : Bool) (h : Nat) : Option HB := some (.one ro (.cells [.map h 0]))
theorem tm_get {n : Nat} {ks : List Int} (hn : ks.length = n) (d : Int) : (List.replicate n true).getD (iidx ks d) false = decide (d ∈ ks) := by
  by_cases h : d ∈ ks
  · rw [decide_eq_true h, List.getD, List.getElem?_replicate, if_pos (by have := iidx_lt.2 h; omega)]; rfl
  · rw [decide_eq_false h, List.getD, List.getElem?_replicate, if_neg (fun q => h (iidx_lt.1 (by omega)))]; rfl
def busB (hs : List Int) (d : Int) : Bool := isD d && (decide ((d + 3) % 7 < 5) && !decide (d ∈ hs))
theorem cal_Business (n : Nat) (ks : List Int) (hn : ks.length = n) (d : Int) : FC Tryz.prog 3 41 [.ptr 1 0 0 0, .int .i64 d] [(1, calC true 2), (2, tmM true n ks)] (isOut (.bool (busB ks d)) [] 3) := by
  have c1 := cal_isDate d
  have c2 := cal_Weekday d
  have hg := tm_get hn d
  unfold busB
  cases h : isD d with
  | false =>
    rw [h] at c1
    rw [Bool.false_and]
    refine fc_of mixed T_ok Tryz.func41 rfl (by kernel_rfl) (by kernel_rfl) (by kernel_rfl) ?_
    repeat' ((conv => whnf); first | (refine vcall_pure (c1) rfl rfl rfl ?_) | (refine vcallD_pure (c1) rfl rfl rfl ?_) | (refine vcall_pure (c2) rfl rfl rfl ?_) | (refine vcallD_pure (c2) rfl rfl rfl ?_) | ((first | apply br_dec | apply br_ndec) <;> intro h <;> try (exfalso; (try dsimp only at h); omega)) | ((first | apply br_seq | apply br_nseq | apply br_not | apply br_intro) <;> intro h) | refine cond_a ?_)
    all_goals (conv => whnf)
    all_goals first
      | exact ret_out (l := [0, 1, 2]) rfl rfl trivial allRw_nil
      | (exfalso; omega)
      | trace_state
  | true =>
    have hd := isD_yes.1 h
    unfold wkI at c2
    rw [if_pos h] at c2
    rw [h] at c1
    rw [Bool.true_and]
    by_cases q : (d + 3) % 7 < 5
    · rw [decide_eq_true q, Bool.true_and]
      refine fc_of mixed T_ok Tryz.func41 rfl (by kernel_rfl) (by kernel_rfl) (by kernel_rfl) ?_
      repeat' ((conv => whnf); first | (refine vcall_pure (c1) rfl rfl rfl ?_) | (refine vcallD_pure (c1) rfl rfl rfl ?_) | (refine vcall_pure (c2) rfl rfl rfl ?_) | (refine vcallD_pure (c2) rfl rfl rfl ?_) | ((first | apply br_dec | apply br_ndec) <;> intro h <;> try (exfalso; (try dsimp only at h); omega)) | ((first | apply br_seq | apply br_nseq | apply br_not | apply br_intro) <;> intro h) | refine cond_a ?_)
      all_goals (conv => whnf)
      all_goals (try simp only [hg] at *)
      all_goals first
        | exact ret_out (l := [0, 1, 2]) rfl rfl trivial allRw_nil
        | (exfalso; omega)
        | trace_state
    · rw [decide_eq_false q, Bool.false_and]
      refine fc_of mixed T_ok Tryz.func41 rfl (by kernel_rfl) (by kernel_rfl) (by kernel_rfl) ?_
      repeat' ((conv => whnf); first | (refine vcall_pure (c1) rfl rfl rfl ?_) | (refine vcallD_pure (c1) rfl rfl rfl ?_) | (refine vcall_pure (c2) rfl rfl rfl ?_) | (refine vcallD_pure (c2) rfl rfl rfl ?_) | ((first | apply br_dec | apply br_ndec) <;> intro h <;> try (exfalso; (try dsimp only at h); omega)) | ((first | apply br_seq | apply br_nseq | apply br_not | apply br_intro) <;> intro h) | refine cond_a ?_)
      all_goals (conv => whnf)
      all_goals first
        | exact ret_out (l := [0, 1, 2]) rfl rfl trivial allRw_nil
        | (exfalso; omega)
        | trace_state
/-- The first business day at a date or later; none: -1. -/
def nxK (p : Int → Bool) : Nat → Int → Int
  | 0, _ => -1
  | k + 1, d => if p d = true then d else nxK p k (d + 1)
def nxI (hs : List Int) (d : Int) : Int := nxK (busB hs) (100000 - d).toNat d
def nxV (x : Int) : SV := if x < 0 then .tup [.int .i64 0, .int .i64 4] else .tup [.int .i64 x, .int .i64 0]
theorem nxI_yes {hs : List Int} {d : Int} (h : busB hs d = true) (hd : d ≤ 99999) : nxI hs d = d := by
  unfold nxI
  obtain ⟨k, hk⟩ : ∃ k, (100000 - d).toNat = k + 1 := ⟨(99999 - d).toNat, by omega⟩
  rw [hk]; exact if_pos h
theorem nxI_no {hs : List Int} {d : Int} (h : busB hs d = false) (hd : d ≤ 99999) : nxI hs d = nxI hs (d + 1) := by
  unfold nxI
  obtain ⟨k, hk⟩ : ∃ k, (100000 - d).toNat = k + 1 := ⟨(99999 - d).toNat, by omega⟩
  rw [hk, show (100000 - (d + 1)).toNat = k by omega]
  simp only [nxK, h, Bool.false_eq_true, if_false]
theorem nxI_end {hs : List Int} {d : Int} (hd : 99999 < d) : nxI hs d = -1 := by
  unfold nxI
  rw [show (100000 - d).toNat = 0 by omega]; rfl
theorem cal_Next (n : Nat) (ks : List Int) (hn : ks.length = n) (d : Int) : FC Tryz.prog 3 60 [.ptr 1 0 0 0, .int .i64 d] [(1, calC true 2), (2, tmM true n ks)] (isOut (if isD d = true then nxV (nxI ks d) else nxV (-1)) [] 3) := by
  have c1 := cal_isDate d
  cases h : isD d with
  | false =>
    rw [h] at c1
    rw [if_neg (by simp)]
    refine fc_of mixed T_ok Tryz.func60 rfl (by kernel_rfl) (by kernel_rfl) (by kernel_rfl) ?_
    repeat' ((conv => whnf); first | (refine vcall_pure (c1) rfl rfl rfl ?_) | (refine vcallD_pure (c1) rfl rfl rfl ?_) | ((first | apply br_dec | apply br_ndec) <;> intro h <;> try (exfalso; (try dsimp only at h); omega)) | ((first | apply br_seq | apply br_nseq | apply br_not | apply br_intro) <;> intro h) | refine cond_a ?_)
    all_goals (conv => whnf)
    all_goals first
      | exact ret_out (l := [0, 1, 2]) rfl rfl trivial allRw_nil
      | (exfalso; omega)
      | trace_state
  | true =>
    have hd := isD_yes.1 h
    rw [h] at c1
    rw [if_pos rfl]
    obtain ⟨a, ea⟩ := Int.eq_ofNat_of_zero_le hd.1
    subst ea
    generalize hX : nxI ks (a : Int) = X
    refine fc_of mixed T_ok Tryz.func60 rfl (by kernel_rfl) (by kernel_rfl) (by kernel_rfl) ?_
    repeat' ((conv => whnf); first | (refine vcall_pure (c1) rfl rfl rfl ?_) | (refine vcallD_pure (c1) rfl rfl rfl ?_) | ((first | apply br_dec | apply br_ndec) <;> intro h <;> try (exfalso; (try dsimp only at h); omega)) | ((first | apply br_seq | apply br_nseq | apply br_not | apply br_intro) <;> intro h) | refine cond_a ?_)
    all_goals (conv => whnf)
    refine vloop_lp (fun k : Nat => ⟨[(0, .ptr 1 0 0 0), (1, .int .i64 k)], [(1, calC true 2), (2, tmM true n ks)], 3⟩) (fun k => k ≤ 100000 ∧ nxI ks (k : Int) = X) (fun k => 100000 - k) a [0, 1, 2] [] ⟨rfl, ⟨rfl, rfl, trivial⟩, ⟨rfl, rfl, trivial⟩⟩ ⟨by omega, hX⟩ ?_
    rintro k ⟨hk, hx⟩
    have c := cal_Business n ks hn k
    by_cases hk2 : k ≤ 99999
    · cases hb : busB ks k with
      | true =>
        rw [nxI_yes hb (by omega)] at hx
        subst hx
        rw [hb] at c
        unfold nxV
        rw [if_neg (by omega)]
        repeat' ((conv => whnf); first | refine vcall_o (l := [0, 1, 2]) (c) ?_ | ((first | apply br_dec | apply br_ndec) <;> intro h <;> try (exfalso; (try dsimp only at h); omega)) | ((first | apply br_seq | apply br_nseq | apply br_not | apply br_intro) <;> intro h) | refine cond_a ?_)
        all_goals (conv => whnf)
        all_goals first
          | exact ret_out (l := [0, 1, 2]) rfl rfl trivial allRw_nil
          | (exfalso; omega)
          | trace_state
      | false =>
        rw [nxI_no hb (by omega)] at hx
        rw [hb] at c
        repeat' ((conv => whnf); first | refine vcall_o (l := [0, 1, 2]) (c) ?_ | ((first | apply br_dec | apply br_ndec) <;> intro h <;> try (exfalso; (try dsimp only at h); omega)) | ((first | apply br_seq | apply br_nseq | apply br_not | apply br_intro) <;> intro h) | refine cond_a ?_)
        all_goals (conv => whnf)
        all_goals first
          | exact ⟨k + 1, [0, 1, 2], [], ⟨by omega, hx⟩, (show 100000 - (k + 1) < 100000 - k by omega), ⟨rfl, ⟨rfl, congrArg (fun z => some (SV.int .i64 z)) (i64_succ (by omega)), trivial⟩, ⟨rfl, rfl, trivial⟩⟩⟩
          | (exfalso; omega)
          | trace_state
    · rw [nxI_end (by omega)] at hx
      subst hx
      repeat' ((conv => whnf); first | ((first | apply br_dec | apply br_ndec) <;> intro h <;> try (exfalso; (try dsimp only at h); omega)) | ((first | apply br_seq | apply br_nseq | apply br_not | apply br_intro) <;> intro h) | refine cond_a ?_)
      all_goals (conv => whnf)
      all_goals first
        | exact ret_out (l := [0, 1, 2]) rfl rfl trivial allRw_nil
        | (exfalso; omega)
        | trace_state
/-- The dates, each once. -/
def ddL (l : List Int) (k : Nat) : List Int := (l.take k).foldl (fun s d => if d ∈ s then s else s ++ [d]) []
theorem ddL_succ {l : List Int} {k : Nat} (h : k < l.length) : ddL l (k + 1) = if l.getD k 0 ∈ ddL l k then ddL l k else ddL l k ++ [l.getD k 0] := by
  unfold ddL
  rw [List.take_add_one, List.getElem?_eq_getElem h, List.foldl_append]
  simp only [Option.toList_some, List.foldl_cons, List.foldl_nil, List.getD, List.getElem?_eq_getElem h, Option.getD_some]
def ddS (l : List Int) : List Int := ddL l l.length
/-- The first holiday that is no date. -/
def holK (l : List Int) : Nat → Bool
  | 0 => true
  | k + 1 => holK l k && isD (l.getD k 0)
theorem holK_stop {l : List Int} {k : Nat} (h : isD (l.getD k 0) = false) : ∀ n, k < n → holK l n = false
  | 0, q => by omega
  | n + 1, q => by
    simp only [holK]
    by_cases e : k = n
    · subst e; rw [h, Bool.and_false]
    · rw [holK_stop h n (by omega), Bool.false_and]
/-- The error of New. -/
def holE (l : List Int) (n : Nat) : Int := if 400 < n then 3 else if holK l n = true then 0 else 4
def holO (l : List Int) (n : Nat) : SV → Heap → Nat → Prop := if holE l n = 0 then isOut (.tup [.ptr 2 0 0 0, .int .i64 0]) [(2, calC false 3), (3, tmM false (ddS l).length (ddS l))] 4 else isOut (.tup [.nptr, .int .i64 (holE l n)]) [] 2
theorem tmPut {m : Nat} {s : List Int} (hm : s.length = m) (x : Int) : (some (HB.one false (.obj (.map false false (if iidx s x < m then m else m + 1) [.ints .i64 (putL (iidx s x) x s)] [.sc (.bools (putL (iidx s x) true (List.replicate m true)))] (if iidx s x < m then List.range m else List.range m ++ [m]) (if iidx s x < m then m else m + 1)))) : Option HB) = tmM false (if x ∈ s then s else s ++ [x]).length (if x ∈ s then s else s ++ [x]) := by
  rw [iput_key]
  by_cases h : x ∈ s
  · have hi := iidx_lt.2 h
    rw [if_pos h, if_pos hi, if_pos (by omega), if_pos (by omega), hm]
    unfold putL
    rw [List.length_replicate, if_pos (by omega), List.set_replicate_self]
  · have hi : ¬ iidx s x < s.length := fun q => h (iidx_lt.1 q)
    rw [if_neg h, if_neg hi, if_neg (by omega), if_neg (by omega)]
    unfold putL
    have e : List.replicate m true ++ [true] = List.replicate (m + 1) true := List.replicate_succ'.symm
    rw [List.length_replicate, if_neg (by omega), List.length_append, hm, List.length_singleton, ← List.range_succ, e]
theorem cal_New (l : List Int) (n : Nat) (hl : l.length = n) : FC Tryz.prog 2 6 [.sl 1 0 0 n] [(1, some (.one true (.cols n [.sc (.ints .i64 l)])))] (holO l n) := by
  unfold holO holE
  by_cases h4 : 400 < n
  · rw [if_pos h4, if_neg (by decide)]
    refine fc_of mixed T_ok Tryz.func6 rfl (by kernel_rfl) (by kernel_rfl) (by kernel_rfl) ?_
    repeat' ((conv => whnf); first | ((first | apply br_dec | apply br_ndec) <;> intro h <;> try (exfalso; (try dsimp only at h); omega)) | ((first | apply br_seq | apply br_nseq | apply br_not | apply br_intro) <;> intro h) | refine cond_a ?_)
    all_goals (conv => whnf)
    all_goals first
      | exact ret_out (l := [0, 1]) rfl rfl trivial allRw_nil
      | (exfalso; omega)
      | trace_state
  rw [if_neg h4]
  refine fc_of mixed T_ok Tryz.func6 rfl (by kernel_rfl) (by kernel_rfl) (by kernel_rfl) ?_
  repeat' ((conv => whnf); first | ((first | apply br_dec | apply br_ndec) <;> intro h <;> try (exfalso; (try dsimp only at h); omega)) | ((first | apply br_seq | apply br_nseq | apply br_not | apply br_intro) <;> intro h) | refine cond_a ?_)
  all_goals (conv => whnf)
  all_goals first
    | (exfalso; omega)
    | skip
  refine vloop_lp (fun k : Nat => ⟨[(4, .ptr 3 0 0 0), (13, .sl 1 0 0 n), (14, .int .i64 n), (15, .int .i64 k)], [(1, some (.one true (.cols n [.sc (.ints .i64 l)]))), (2, tmM false (ddL l k).length (ddL l k)), (3, calC false 2)], 4⟩) (fun k => k ≤ n ∧ holK l k = true) (fun k => n - k) 0 [0, 1, 2, 3] [] ⟨rfl, ⟨rfl, rfl, rfl, rfl, trivial⟩, ⟨rfl, rfl, rfl, trivial⟩⟩ ⟨Nat.zero_le _, rfl⟩ ?_
  rintro k ⟨hk, hh⟩
  by_cases hk2 : k < n
  · have c := cal_isDate (l.getD k 0)
    have hs := ddL_succ (l := l) (k := k) (by omega)
    cases hb : isD (l.getD k 0) with
    | false =>
      rw [hb] at c
      rw [if_neg (by rw [if_neg (by rw [holK_stop hb n hk2]; simp)]; decide), if_neg (by rw [holK_stop hb n hk2]; simp)]
      repeat' ((conv => whnf); first | (refine vcall_pure (c) rfl rfl rfl ?_) | (refine vcallD_pure (c) rfl rfl rfl ?_) | ((first | apply br_dec | apply br_ndec) <;> intro h <;> try (exfalso; (try dsimp only at h); omega)) | ((first | apply br_seq | apply br_nseq | apply br_not | apply br_intro) <;> intro h) | refine cond_a ?_)
      all_goals (conv => whnf)
      all_goals first
        | exact ret_out (l := [0, 1]) rfl rfl trivial allRw_nil
        | (exfalso; omega)
        | trace_state
    | true =>
      rw [hb] at c
      have ht := tmPut (s := ddL l k) rfl (l.getD k 0)
      rw [← hs] at ht
      have hh2 : holK l (k + 1) = true := by simp only [holK, hh, hb, Bool.and_true]
      repeat' ((conv => whnf); first | (refine vcall_pure (c) rfl rfl rfl ?_) | (refine vcallD_pure (c) rfl rfl rfl ?_) | ((first | apply br_dec | apply br_ndec) <;> intro h <;> try (exfalso; (try dsimp only at h); omega)) | ((first | apply br_seq | apply br_nseq | apply br_not | apply br_intro) <;> intro h) | refine cond_a ?_)
      all_goals (conv => whnf)
      all_goals (try simp only [toNat0, Int.toNat_natCast, Nat.add_zero] at *)
      all_goals first
        | exact ⟨k + 1, [0, 1, 2, 3], [], ⟨hk2, hh2⟩, (show n - (k + 1) < n - k by omega), ⟨rfl, ⟨rfl, rfl, rfl, congrArg (fun z => some (SV.int .i64 z)) (i64_succ (by omega)), trivial⟩, ⟨rfl, ht, rfl, trivial⟩⟩⟩
        | (exfalso; omega)
        | trace_state
  · have e : k = n := by omega
    subst e
    rw [if_pos (by rw [if_pos hh])]
    unfold ddS
    rw [hl]
    repeat' ((conv => whnf); first | ((first | apply br_dec | apply br_ndec) <;> intro h <;> try (exfalso; (try dsimp only at h); omega)) | ((first | apply br_seq | apply br_nseq | apply br_not | apply br_intro) <;> intro h) | refine cond_a ?_)
    all_goals (conv => whnf)
    all_goals first
      | exact ret_out (l := [0, 1, 3, 2]) rfl rfl ⟨rfl, rfl, trivial⟩ (allRw_cons (allRw_cons allRw_nil))
      | (exfalso; omega)
      | trace_state
end Go.Proofs.YtkdjnmcaifejjaaGreatDoor

/- Contracts: what a party owes, the currencies of a book, capital letters. -/
namespace Go.Proofs.YtkdjnmcaifejjaaGreatDoor
open Go.RowKit Go.Sy
attribute [local irreducible] vcall vloop vcallD retP
set_option maxRecDepth 100000
set_option linter.unusedVariables false
set_option linter.unusedSimpArgs false

theorem pos_isCurrency (s : ByteArray) : Pure Tryz.prog 64 [.str s] (.bool (curB s)) := by
  refine fc_of mixed T_ok Tryz.func64 rfl (by kernel_rfl) (by kernel_rfl) (by kernel_rfl) ?_
  repeat' ((conv => whnf); first | ((first | apply br_dec | apply br_ndec) <;> intro h <;> try (exfalso; (try dsimp only at h); omega)) | ((first | apply br_seq | apply br_nseq | apply br_not | apply br_intro) <;> intro h) | refine cond_a ?_)
  all_goals (conv => whnf)
  · exact ret_pure (by rw [curB_size (by omega)]; rfl)
  · refine vloop_of (fun k : Nat => ⟨[(0, .str s), (8, .int .i64 s.size), (9, .int .i64 k)], [], 1⟩) (fun k => k ≤ s.size ∧ capsTo s k = true) (fun k => s.size - k) 0 [0] [] ⟨rfl, ⟨rfl, rfl, rfl, trivial⟩, trivial⟩ ⟨by omega, rfl⟩ ?_
    rintro k ⟨hk, hc⟩
    repeat' ((conv => whnf); first | ((first | apply br_dec | apply br_ndec) <;> intro h <;> try (exfalso; (try dsimp only at h); omega)) | ((first | apply br_seq | apply br_nseq | apply br_not | apply br_intro) <;> intro h) | refine cond_a ?_)
    all_goals (conv => whnf)
    · exact ret_pure (by rw [curB_false (k := k) (by omega) (by omega)]; rfl)
    · exact ret_pure (by rw [curB_false (k := k) (by omega) (by omega)]; rfl)
    · exact ⟨k + 1, [0], [], ⟨by omega, capsTo_step hc (by omega) (by omega)⟩, by omega, ⟨rfl, ⟨rfl, rfl, congrArg (fun z => some (SV.int .i64 z)) (i64_succ (by omega)), trivial⟩, trivial⟩⟩
    · have e : k = s.size := by omega
      subst e
      refine ret_pure ?_
      have : curB s = true := by unfold curB; rw [hc]; simp; omega
      rw [this]; rfl
theorem bk_keys (n : Nat) (ks : List ByteArray) (vs : List (List Int)) (bs : List Nat) (ck : Nat) : FC Tryz.prog 2 113 [.map 1 0] [] (isOut (.fn 152 [.ptr 2 0 0 0]) [(2, some (.one false (.cells [.map 1 0])))] 3) := by
  refine fc_of mixed T_ok Tryz.func113 rfl (by kernel_rfl) (by kernel_rfl) (by kernel_rfl) ?_
  repeat' ((conv => whnf); first | ((first | apply br_dec | apply br_ndec) <;> intro h <;> try (exfalso; (try dsimp only at h); omega)) | ((first | apply br_seq | apply br_nseq | apply br_not | apply br_intro) <;> intro h) | refine cond_a ?_)
  all_goals (conv => whnf)
  all_goals exact ret_out (l := [0, 1, 2]) rfl rfl ⟨rfl, trivial⟩ (allRw_cons allRw_nil)
theorem bk_sorted {n : Nat} {ks : List ByteArray} (vs : List (List Int)) (bs : List Nat) (ck : Nat) (hn : n ≤ 100000) (hz : ∀ s ∈ ks, s.size ≤ 9223372036854775807) (hnd : ks.Nodup) :
    FC Tryz.prog 3 112 [.fn 152 [.ptr 2 0 0 0]] [(1, some (.one true (.obj (.map false false n [.strs ks] [.arrs 16 .i64 vs] bs ck)))), (2, some (.one true (.cells [.map 1 0])))] (isOut (.sl 3 0 0 n) [(3, some (.one false (.cols n [.sc (.strs (sortS ks))])))] 4) :=
  fc_sorted (ρ := Tryz.keys113_ren) (ρ' := Tryz.sorted_ren) rfl rfl rfl { Tryz.keys113 with } Tryz.sorted
    (fun m => ⟨fun blk off cap ss W hH hblk hsz => callsIn_wide.2 (AnyM.slices_Sort_string Tryz.sortS blk off cap ss W hH hblk hsz), fun p cap W => callsIn_wide.2 (AnyM.slices_Sort_string_none Tryz.sortS p cap W)⟩)
    (bodied_of Tryz.func112 (by kernel_rfl) (by kernel_rfl)) (enters_of Tryz.func46 (by kernel_rfl) rfl) (enters_of Tryz.func152 (by kernel_rfl) rfl) Tryz.underlying9 hn hz hnd
/-- What the currencies of a book need. -/
structure Bk.Cok (b : Bk) : Prop where
  m : b.m ≤ 100000
  sz : ∀ s ∈ b.cs, s.size ≤ 9223372036854775807
  nd : b.cs.Nodup
theorem pos_Currencies (b : Bk) (hc : b.Cok) : FC Tryz.prog 4 65 [.ptr 1 0 0 0] (bkR b) (isOut (.sl 4 0 0 b.m) [(4, some (.one false (.cols b.m [.sc (.strs (sortS b.cs))])))] 5) := by
  have c1 := bk_keys b.m b.cs b.vs b.bs b.ck
  have c2 := bk_sorted (n := b.m) (ks := b.cs) b.vs b.bs b.ck hc.m hc.sz hc.nd
  refine fc_of mixed T_ok Tryz.func65 rfl (by kernel_rfl) (by kernel_rfl) (by kernel_rfl) ?_
  repeat' ((conv => whnf); first | refine vcall_o (l := [0, 3]) (c1) ?_ | refine vcall_o (l := [0, 3, 4]) (c2) ?_ | ((first | apply br_dec | apply br_ndec) <;> intro h <;> try (exfalso; (try dsimp only at h); omega)) | ((first | apply br_seq | apply br_nseq | apply br_not | apply br_intro) <;> intro h) | refine cond_a ?_)
  all_goals (conv => whnf)
  all_goals exact ret_out (l := [0, 1, 2, 3, 5]) rfl rfl ⟨rfl, trivial⟩ (allRw_cons allRw_nil)
end Go.Proofs.YtkdjnmcaifejjaaGreatDoor

/- Contract: the positions of a book that are not zero. -/
namespace Go.Proofs.YtkdjnmcaifejjaaGreatDoor
open Go.RowKit Go.Sy
attribute [local irreducible] vcall vloop vcallD retP
set_option maxRecDepth 100000
set_option linter.unusedVariables false
set_option linter.unusedSimpArgs false

structure Px where
  p : ByteArray
  a : Int
  c : ByteArray
structure PxC where
  p : List ByteArray
  a : List Int
  c : List ByteArray
def pxOf (L : List Px) : PxC := ⟨L.map Px.p, L.map Px.a, L.map Px.c⟩
theorem pxOf_snoc (L : List Px) (x : Px) : pxOf (L ++ [x]) = ⟨(pxOf L).p ++ [x.p], (pxOf L).a ++ [x.a], (pxOf L).c ++ [x.c]⟩ := by simp [pxOf]
abbrev pxB (n : Nat) (q : PxC) : Blk := .cols n [.sc (.strs q.p), .sc (.ints .i64 q.a), .sc (.strs q.c)]
/-- The positions of a row that are not zero. -/
def liR (r : List Int) (ps : List ByteArray) (c : ByteArray) : Nat → List Px
  | 0 => []
  | i + 1 => if r.getD i 0 = 0 then liR r ps c i else liR r ps c i ++ [⟨ps.getD i ⟨#[]⟩, r.getD i 0, c⟩]
def liA (b : Bk) (cs : List ByteArray) : Nat → List Px
  | 0 => []
  | k + 1 => liA b cs k ++ liR (b.row (cs.getD k ⟨#[]⟩)) b.ps (cs.getD k ⟨#[]⟩) b.n
def Bk.list (b : Bk) : List Px := liA b (sortS b.cs) b.m
theorem liR_len (r : List Int) (ps : List ByteArray) (c : ByteArray) : ∀ i, (liR r ps c i).length ≤ i
  | 0 => Nat.le_refl _
  | i + 1 => by
    have := liR_len r ps c i
    simp only [liR]
    split <;> simp <;> omega
theorem liA_len (b : Bk) (cs : List ByteArray) : ∀ k, (liA b cs k).length ≤ k * b.n
  | 0 => by simp [liA]
  | k + 1 => by
    have := liA_len b cs k
    have h2 := liR_len (b.row (cs.getD k ⟨#[]⟩)) b.ps (cs.getD k ⟨#[]⟩) b.n
    simp only [liA, List.length_append]
    rw [Nat.succ_mul]; omega
theorem pos_List (b : Bk) (hb : b.Ok) (hc : b.Cok) : FC Tryz.prog 4 43 [.ptr 1 0 0 0] (bkR b) (isOut (.sl 4 0 0 b.list.length) [(4, some (.one false (pxB b.list.length (pxOf b.list))))] 5) := by
  have hn := hb.n
  have hm := hc.m
  have c1 := pos_Currencies b hc
  refine fc_of mixed T_ok Tryz.func43 rfl (by kernel_rfl) (by kernel_rfl) (by kernel_rfl) ?_
  repeat' ((conv => whnf); first | refine vcall_o (l := [0, 1, 2, 3]) (c1) ?_ | ((first | apply br_dec | apply br_ndec) <;> intro h <;> try (exfalso; (try dsimp only at h); omega)) | ((first | apply br_seq | apply br_nseq | apply br_not | apply br_intro) <;> intro h) | refine cond_a ?_)
  all_goals (conv => whnf)
  refine vloop_lp (fun x : Nat × Nat × List Px => ⟨[(0, .ptr 1 0 0 0), (12, .sl 4 0 0 b.m), (13, .int .i64 b.m), (14, .int .i64 x.1), (3, .sl 5 0 0 x.2.1)], (4, some (.one false (.cols b.m [.sc (.strs (sortS b.cs))]))) :: (5, some (.one false (pxB x.2.1 (pxOf x.2.2)))) :: bkR b, 6⟩) (fun x => x.1 ≤ b.m ∧ x.2.2 = liA b (sortS b.cs) x.1 ∧ x.2.2.length = x.2.1) (fun x => b.m - x.1) (0, 0, []) [0, 1, 2, 3, 4, 5] [.slot 3 [.sc (.strs []), .sc (.ints .i64 []), .sc (.strs [])]] ⟨rfl, ⟨rfl, rfl, rfl, rfl, rfl, trivial⟩, ⟨rfl, rfl, rfl, rfl, rfl, trivial⟩⟩ ⟨Nat.zero_le _, rfl, rfl⟩ ?_
  rintro ⟨k, m, L⟩ ⟨hk, hL, hl⟩
  dsimp only at hk hL hl
  by_cases hk2 : k < b.m
  · have hstep : liA b (sortS b.cs) (k + 1) = L ++ liR (b.row ((sortS b.cs).getD k ⟨#[]⟩)) b.ps ((sortS b.cs).getD k ⟨#[]⟩) b.n := by rw [hL]; rfl
    repeat' ((conv => whnf); first | ((first | apply br_dec | apply br_ndec) <;> intro h <;> try (exfalso; (try dsimp only at h); omega)) | ((first | apply br_seq | apply br_nseq | apply br_not | apply br_intro) <;> intro h) | refine cond_a ?_)
    all_goals (conv => whnf)
    all_goals (try simp only [toNat0] at *)
    all_goals first
      | (exfalso; omega)
      | skip
    refine vloop_lp (fun x : Nat × Nat × List Px => ⟨[(0, .ptr 1 0 0 0), (12, .sl 4 0 0 b.m), (13, .int .i64 b.m), (14, .int .i64 k), (3, .sl 5 0 0 x.2.1), (5, .str ((sortS b.cs).getD k ⟨#[]⟩)), (6, .ptr 6 0 0 0), (27, .sl 2 0 0 b.n), (28, .int .i64 b.n), (29, .int .i64 x.1)], (4, some (.one false (.cols b.m [.sc (.strs (sortS b.cs))]))) :: (5, some (.one false (pxB x.2.1 (pxOf x.2.2)))) :: (6, some (.one false (.cols 16 [.sc (.ints .i64 (b.row ((sortS b.cs).getD k ⟨#[]⟩)))]))) :: bkR b, 7⟩) (fun x => x.1 ≤ b.n ∧ x.2.2 = L ++ liR (b.row ((sortS b.cs).getD k ⟨#[]⟩)) b.ps ((sortS b.cs).getD k ⟨#[]⟩) x.1 ∧ x.2.2.length = x.2.1) (fun x => b.n - x.1) (0, m, L) [0, 1, 2, 3, 4, 5, 6] [] ⟨rfl, ⟨rfl, rfl, rfl, rfl, rfl, rfl, rfl, rfl, rfl, rfl, trivial⟩, ⟨rfl, rfl, rfl, rfl, rfl, rfl, trivial⟩⟩ ⟨Nat.zero_le _, (List.append_nil L).symm, hl⟩ ?_
    rintro ⟨i, m2, L2⟩ ⟨hi, hL2, hl2⟩
    dsimp only at hi hL2 hl2
    have hmb : m2 ≤ 1600016 := by
      have b1 := liA_len b (sortS b.cs) k
      have b2 := liR_len (b.row ((sortS b.cs).getD k ⟨#[]⟩)) b.ps ((sortS b.cs).getD k ⟨#[]⟩) i
      have b3 : k * b.n ≤ 100000 * 16 := Nat.mul_le_mul (by omega) hn
      rw [← hl2, hL2, List.length_append, hL]; omega
    by_cases hi2 : i < b.n
    · by_cases hz : (b.row ((sortS b.cs).getD k ⟨#[]⟩)).getD i 0 = 0
      · have h3 : L2 = L ++ liR (b.row ((sortS b.cs).getD k ⟨#[]⟩)) b.ps ((sortS b.cs).getD k ⟨#[]⟩) (i + 1) := by simp only [liR]; rw [if_pos hz]; exact hL2
        repeat' ((conv => whnf); first | ((first | apply br_dec | apply br_ndec) <;> intro h <;> try (exfalso; (try dsimp only at h); omega)) | ((first | apply br_seq | apply br_nseq | apply br_not | apply br_intro) <;> intro h) | refine cond_a ?_)
        all_goals (conv => whnf)
        all_goals (try simp only [toNat0, Int.toNat_natCast] at *)
        all_goals first
          | exact ⟨(i + 1, m2, L2), [0, 1, 2, 3, 4, 5, 6], [], ⟨hi2, h3, hl2⟩, (show b.n - (i + 1) < b.n - i by omega), ⟨rfl, ⟨rfl, rfl, rfl, rfl, rfl, rfl, rfl, rfl, rfl, congrArg (fun z => some (SV.int .i64 z)) (i64_succ (by omega)), trivial⟩, ⟨rfl, rfl, rfl, rfl, rfl, rfl, trivial⟩⟩⟩
          | (exfalso; omega)
          | contradiction
          | trace_state
      · have h3 : L2 ++ [⟨b.ps.getD i ⟨#[]⟩, (b.row ((sortS b.cs).getD k ⟨#[]⟩)).getD i 0, (sortS b.cs).getD k ⟨#[]⟩⟩] = L ++ liR (b.row ((sortS b.cs).getD k ⟨#[]⟩)) b.ps ((sortS b.cs).getD k ⟨#[]⟩) (i + 1) := by simp only [liR]; rw [if_neg hz, hL2, List.append_assoc]
        have h4 : (L2 ++ [(⟨b.ps.getD i ⟨#[]⟩, (b.row ((sortS b.cs).getD k ⟨#[]⟩)).getD i 0, (sortS b.cs).getD k ⟨#[]⟩⟩ : Px)]).length = m2 + 1 := by rw [List.length_append, hl2]; rfl
        have h5 := pxOf_snoc L2 ⟨b.ps.getD i ⟨#[]⟩, (b.row ((sortS b.cs).getD k ⟨#[]⟩)).getD i 0, (sortS b.cs).getD k ⟨#[]⟩⟩
        have h6 : (some (HB.one false (pxB (m2 + 1) ⟨(pxOf L2).p ++ [b.ps.getD i ⟨#[]⟩], (pxOf L2).a ++ [(b.row ((sortS b.cs).getD k ⟨#[]⟩)).getD i 0], (pxOf L2).c ++ [(sortS b.cs).getD k ⟨#[]⟩]⟩)) : Option HB) = some (.one false (pxB (m2 + 1) (pxOf (L2 ++ [⟨b.ps.getD i ⟨#[]⟩, (b.row ((sortS b.cs).getD k ⟨#[]⟩)).getD i 0, (sortS b.cs).getD k ⟨#[]⟩⟩])))) := by rw [h5]
        repeat' ((conv => whnf); first | ((first | apply br_dec | apply br_ndec) <;> intro h <;> try (exfalso; (try dsimp only at h); omega)) | ((first | apply br_seq | apply br_nseq | apply br_not | apply br_intro) <;> intro h) | refine cond_a ?_)
        all_goals (conv => whnf)
        all_goals (try simp only [toNat0, Int.toNat_natCast] at *)
        all_goals first
          | exact ⟨(i + 1, m2 + 1, _), [0, 1, 2, 3, 4, 8, 6], [], ⟨hi2, h3, h4⟩, (show b.n - (i + 1) < b.n - i by omega), ⟨rfl, ⟨rfl, rfl, rfl, rfl, rfl, rfl, rfl, rfl, rfl, congrArg (fun z => some (SV.int .i64 z)) (i64_succ (by omega)), trivial⟩, ⟨rfl, h6, rfl, rfl, rfl, rfl, trivial⟩⟩⟩
          | (exfalso; omega)
          | contradiction
          | trace_state
    · have ei : i = b.n := by omega
      subst ei
      repeat' ((conv => whnf); first | ((first | apply br_dec | apply br_ndec) <;> intro h <;> try (exfalso; (try dsimp only at h); omega)) | ((first | apply br_seq | apply br_nseq | apply br_not | apply br_intro) <;> intro h) | refine cond_a ?_)
      all_goals (conv => whnf)
      all_goals (try simp only [toNat0] at *)
      all_goals first
        | exact ⟨(k + 1, m2, L2), [0, 1, 2, 3, 4, 5], [], ⟨hk2, hL2.trans hstep.symm, hl2⟩, (show b.m - (k + 1) < b.m - k by omega), ⟨rfl, ⟨rfl, rfl, rfl, congrArg (fun z => some (SV.int .i64 z)) (i64_succ (by omega)), rfl, trivial⟩, ⟨rfl, rfl, rfl, rfl, rfl, trivial⟩⟩⟩
        | (exfalso; omega)
        | trace_state
  · have e : k = b.m := by omega
    subst e
    have e2 : L = b.list := hL
    subst e2
    rw [hl]
    repeat' ((conv => whnf); first | ((first | apply br_dec | apply br_ndec) <;> intro h <;> try (exfalso; (try dsimp only at h); omega)) | ((first | apply br_seq | apply br_nseq | apply br_not | apply br_intro) <;> intro h) | refine cond_a ?_)
    all_goals (conv => whnf)
    all_goals first
      | exact ret_out (l := [0, 1, 2, 3, 5]) rfl rfl ⟨rfl, trivial⟩ (allRw_cons allRw_nil)
      | (exfalso; omega)
      | trace_state
end Go.Proofs.YtkdjnmcaifejjaaGreatDoor

/- Contracts: the sum of weights, the stable sort of at most 16 places by their rests. -/
namespace Go.Proofs.YtkdjnmcaifejjaaGreatDoor
open Go.RowKit Go.Sy
attribute [local irreducible] vcall vloop vcallD retP
set_option maxRecDepth 100000
set_option linter.unusedVariables false
set_option linter.unusedSimpArgs false

/-- The sum of the first weights; whether these are permitted. -/
def swK (ws : List Int) : Nat → Int
  | 0 => 0
  | k + 1 => swK ws k + ws.getD k 0
def wMx (ws : List Int) : Nat → Bool
  | 0 => true
  | k + 1 => wMx ws k && decide (ws.getD k 0 ≤ 1099511627776)
theorem wMx_stop {ws : List Int} {k : Nat} (h : ¬ ws.getD k 0 ≤ 1099511627776) : ∀ n, k < n → wMx ws n = false
  | 0, q => by omega
  | n + 1, q => by
    simp only [wMx]
    by_cases e : k = n
    · subst e; rw [decide_eq_false h, Bool.and_false]
    · rw [wMx_stop h n (by omega), Bool.false_and]
theorem swK_bd {ws : List Int} {n : Nat} (h : ∀ k, k < n → 1 ≤ ws.getD k 0) : ∀ k, k ≤ n → wMx ws k = true → (k : Int) ≤ swK ws k ∧ swK ws k ≤ 1099511627776 * (k : Int)
  | 0, _, _ => by simp [swK]
  | k + 1, hk, hm => by
    simp only [wMx, Bool.and_eq_true, decide_eq_true_eq] at hm
    have ih := swK_bd h k (by omega) hm.1
    have h1 := h k (by omega)
    simp only [swK]
    omega
def swT (ws : List Int) (n : Nat) : SV := if wMx ws n = true then .tup [.int .u64 (swK ws n), .bool (decide (0 < swK ws n))] else .tup [.int .u64 0, .bool false]
theorem money_sum (ws : List Int) (n : Nat) (hn : n ≤ 64) (hw : ∀ k, k < n → 1 ≤ ws.getD k 0) (hw2 : ∀ k, k < n → ws.getD k 0 ≤ 9223372036854775807) : FC Tryz.prog 2 193 [.sl 1 0 0 n] [(1, some (.one true (.cols n [.sc (.ints .i64 ws)])))] (isOut (swT ws n) [] 2) := by
  refine fc_of mixed T_ok Tryz.func193 rfl (by kernel_rfl) (by kernel_rfl) (by kernel_rfl) ?_
  repeat' ((conv => whnf); first | ((first | apply br_dec | apply br_ndec) <;> intro h <;> try (exfalso; (try dsimp only at h); omega)) | ((first | apply br_seq | apply br_nseq | apply br_not | apply br_intro) <;> intro h) | refine cond_a ?_)
  all_goals (conv => whnf)
  all_goals first
    | (exfalso; omega)
    | skip
  refine vloop_lp (fun k : Nat => ⟨[(10, .sl 1 0 0 n), (11, .int .i64 n), (12, .int .i64 k), (4, .int .u64 (swK ws k))], [(1, some (.one true (.cols n [.sc (.ints .i64 ws)])))], 2⟩) (fun k => k ≤ n ∧ wMx ws k = true) (fun k => n - k) 0 [0, 1] [] ⟨rfl, ⟨rfl, rfl, rfl, rfl, trivial⟩, ⟨rfl, trivial⟩⟩ ⟨Nat.zero_le _, rfl⟩ ?_
  rintro k ⟨hk, hm⟩
  have hb := swK_bd hw k hk hm
  by_cases hk2 : k < n
  · have h1 := hw k hk2
    have h2 := hw2 k hk2
    by_cases q : ws.getD k 0 ≤ 1099511627776
    · have hm2 : wMx ws (k + 1) = true := by simp only [wMx]; rw [hm, decide_eq_true q]; rfl
      have e1 : IntKind.u64.wrap (ws.getD k 0) = ws.getD k 0 := u64_in' (by omega) (by omega)
      have e2 : IntKind.u64.wrap (swK ws k + ws.getD k 0) = swK ws (k + 1) := by rw [u64_in' (by omega) (by omega)]; rfl
      repeat' ((conv => whnf); first | ((first | apply br_dec | apply br_ndec) <;> intro h <;> try (exfalso; (try dsimp only at h); omega)) | ((first | apply br_seq | apply br_nseq | apply br_not | apply br_intro) <;> intro h) | refine cond_a ?_)
      all_goals (conv => whnf)
      all_goals (try simp only [toNat0, Int.toNat_natCast, Nat.add_zero, e1, e2] at *)
      all_goals first
        | exact ⟨k + 1, [0, 1], [], ⟨hk2, hm2⟩, (show n - (k + 1) < n - k by omega), ⟨rfl, ⟨rfl, rfl, congrArg (fun z => some (SV.int .i64 z)) (i64_succ (by omega)), rfl, trivial⟩, ⟨rfl, trivial⟩⟩⟩
        | (exfalso; omega)
        | trace_state
    · have hm2 := wMx_stop q n hk2
      unfold swT
      rw [if_neg (by rw [hm2]; simp)]
      repeat' ((conv => whnf); first | ((first | apply br_dec | apply br_ndec) <;> intro h <;> try (exfalso; (try dsimp only at h); omega)) | ((first | apply br_seq | apply br_nseq | apply br_not | apply br_intro) <;> intro h) | refine cond_a ?_)
      all_goals (conv => whnf)
      all_goals (try simp only [toNat0, Int.toNat_natCast, Nat.add_zero] at *)
      all_goals first
        | exact ret_out (l := [0, 1]) rfl rfl trivial allRw_nil
        | (exfalso; omega)
        | trace_state
  · have e : k = n := by omega
    subst e
    unfold swT
    rw [if_pos hm]
    repeat' ((conv => whnf); first | ((first | apply br_dec | apply br_ndec) <;> intro h <;> try (exfalso; (try dsimp only at h); omega)) | ((first | apply br_seq | apply br_nseq | apply br_not | apply br_intro) <;> intro h) | refine cond_a ?_)
    all_goals (conv => whnf)
    all_goals first
      | exact ret_out (l := [0, 1]) rfl rfl trivial allRw_nil
      | (exfalso; omega)
      | trace_state
def cmpI (x y : Int) : Int := if x < y then -1 else if y < x then 1 else 0
theorem u64_isNaN (x : Int) : Pure Tryz.prog 211 [.int .u64 x] (.bool false) := by
  refine fc_of mixed T_ok Tryz.func211 rfl (by kernel_rfl) (by kernel_rfl) (by kernel_rfl) ?_
  repeat' ((conv => whnf); first | ((first | apply br_dec | apply br_ndec) <;> intro h <;> try (exfalso; (try dsimp only at h); omega)) | ((first | apply br_seq | apply br_nseq | apply br_not | apply br_intro) <;> intro h) | refine cond_a ?_)
  all_goals (conv => whnf)
  all_goals exact ret_pure (congrArg SV.bool (by simp))
theorem u64_Compare (x y : Int) : Pure Tryz.prog 196 [.int .u64 x, .int .u64 y] (.int .i64 (cmpI x y)) := by
  have c1 := u64_isNaN x
  have c2 := u64_isNaN y
  unfold cmpI
  refine fc_of mixed T_ok Tryz.func196 rfl (by kernel_rfl) (by kernel_rfl) (by kernel_rfl) ?_
  repeat' ((conv => whnf); first | (refine vcall_pure (c1) rfl rfl rfl ?_) | (refine vcallD_pure (c1) rfl rfl rfl ?_) | (refine vcall_pure (c2) rfl rfl rfl ?_) | (refine vcallD_pure (c2) rfl rfl rfl ?_) | ((first | apply br_dec | apply br_ndec) <;> intro h <;> try (exfalso; (try dsimp only at h); omega)) | ((first | apply br_seq | apply br_nseq | apply br_not | apply br_intro) <;> intro h) | refine cond_a ?_)
  all_goals (conv => whnf)
  all_goals first
    | (rw [if_pos (by omega)]; exact ret_pure rfl)
    | (rw [if_neg (by omega), if_pos (by omega)]; exact ret_pure rfl)
    | (rw [if_neg (by omega), if_neg (by omega)]; exact ret_pure rfl)
    | (exfalso; omega)
    | trace_state
abbrev rsH (n : Nat) (rs : List Int) : Heap := [(1, some (.one true (.cols n [.sc (.ints .u64 rs)]))), (2, some (.one true (.cells [.sl 1 0 0 n])))]
theorem split_less (n : Nat) (rs : List Int) (a b : Nat) (ha : a < n) (hb : b < n) : FC Tryz.prog 3 195 [.int .i64 a, .int .i64 b, .ptr 2 0 0 0] (rsH n rs) (isOut (.int .i64 (cmpI (rs.getD b 0) (rs.getD a 0))) [] 3) := by
  have c := u64_Compare (rs.getD b 0) (rs.getD a 0)
  refine fc_of mixed T_ok Tryz.func195 rfl (by kernel_rfl) (by kernel_rfl) (by kernel_rfl) ?_
  repeat' ((conv => whnf); first | (refine vcall_pure (c) rfl rfl rfl ?_) | (refine vcallD_pure (c) rfl rfl rfl ?_) | ((first | apply br_dec | apply br_ndec) <;> intro h <;> try (exfalso; (try dsimp only at h); omega)) | ((first | apply br_seq | apply br_nseq | apply br_not | apply br_intro) <;> intro h) | refine cond_a ?_)
  all_goals (conv => whnf)
  all_goals first
    | exact ret_out (l := [0, 1, 2]) rfl rfl trivial allRw_nil
    | (exfalso; omega)
    | trace_state
/-- Neighbours change places; a place goes down; the first places are sorted. -/
def sw1 (l : List Int) (j : Nat) : List Int := (l.set (j + 1) (l.getD j 0)).set j (l.getD (j + 1) 0)
def insJ (rs : List Int) : Nat → List Int → List Int
  | 0, l => l
  | j + 1, l => if rs.getD (l.getD j 0).toNat 0 < rs.getD (l.getD (j + 1) 0).toNat 0 then insJ rs j (sw1 l j) else l
def insO (rs l : List Int) : Nat → List Int
  | 0 => l
  | k + 1 => insJ rs (k + 1) (insO rs l k)
def inR (n : Nat) (l : List Int) : Prop := l.length = n ∧ ∀ k, k < n → 0 ≤ l.getD k 0 ∧ l.getD k 0 < n
theorem set_getD2 (l : List Int) (i k : Nat) (x : Int) (h : i < l.length) : (l.set i x).getD k 0 = if k = i then x else l.getD k 0 := by
  by_cases e : k = i
  · subst e; rw [if_pos rfl, List.getD, List.getElem?_set_self h]; rfl
  · rw [if_neg e, List.getD, List.getElem?_set_ne (fun q => e q.symm)]; rfl
theorem sw1_getD (l : List Int) (j k : Nat) (h : j + 1 < l.length) : (sw1 l j).getD k 0 = if k = j then l.getD (j + 1) 0 else if k = j + 1 then l.getD j 0 else l.getD k 0 := by
  unfold sw1
  rw [set_getD2 _ _ _ _ (by rw [List.length_set]; omega)]
  split
  · rfl
  · rw [set_getD2 _ _ _ _ h]
theorem sw1_in {n : Nat} {l : List Int} {j : Nat} (hj : j + 1 < n) (h : inR n l) : inR n (sw1 l j) := by
  refine ⟨by unfold sw1; rw [List.length_set, List.length_set]; exact h.1, fun k hk => ?_⟩
  rw [sw1_getD l j k (by have := h.1; omega)]
  split
  · exact h.2 _ (by omega)
  · split
    · exact h.2 _ (by omega)
    · exact h.2 _ hk
theorem insJ_in {n : Nat} (rs : List Int) : ∀ (j : Nat) (l : List Int), j < n → inR n l → inR n (insJ rs j l)
  | 0, l, _, h => h
  | j + 1, l, hj, h => by
    simp only [insJ]
    split
    · exact insJ_in rs j _ (by omega) (sw1_in hj h)
    · exact h
theorem insO_in {n : Nat} (rs l : List Int) (h : inR n l) : ∀ k, k < n → inR n (insO rs l k)
  | 0, _ => h
  | k + 1, hk => insJ_in rs (k + 1) _ hk (insO_in rs l h k (by omega))
theorem i64_pred {j : Nat} (h : j < 9223372036854775806) : IntKind.i64.wrap (((j + 1 : Nat) : Int) - 1) = (j : Int) := by rw [w64_in (by omega) (by omega)]; omega
abbrev isH (n : Nat) (l rs : List Int) : Heap := [(1, some (.one false (.cols n [.sc (.ints .i64 l)]))), (2, some (.one true (.cols n [.sc (.ints .u64 rs)]))), (3, some (.one true (.cells [.sl 2 0 0 n])))]
theorem ins_Sort (n : Nat) (l rs : List Int) (hn : n ≤ 100000) (hl : inR n l) : FC Tryz.prog 4 215 [.sl 1 0 0 n, .int .i64 0, .int .i64 n, .fn 195 [.ptr 3 0 0 0]] (isH n l rs) (isOut (.tup []) [(1, some (.one false (.cols n [.sc (.ints .i64 (insO rs l (n - 1)))])))] 4) := by
  refine fc_of mixed T_ok Tryz.func215 rfl (by kernel_rfl) (by kernel_rfl) (by kernel_rfl) ?_
  repeat' ((conv => whnf); first | ((first | apply br_dec | apply br_ndec) <;> intro h <;> try (exfalso; (try dsimp only at h); omega)) | ((first | apply br_seq | apply br_nseq | apply br_not | apply br_intro) <;> intro h) | refine cond_a ?_)
  all_goals (conv => whnf)
  refine vloop_lp (fun k : Nat => ⟨[(0, .sl 1 0 0 n), (1, .int .i64 0), (2, .int .i64 n), (3, .fn 195 [.ptr 3 0 0 0]), (8, .int .i64 ((k + 1 : Nat) : Int))], isH n (insO rs l k) rs, 4⟩) (fun k => k ≤ n - 1) (fun k => n - k) 0 [0, 1, 2, 3] [] ⟨rfl, ⟨rfl, rfl, rfl, rfl, rfl, trivial⟩, ⟨rfl, rfl, rfl, trivial⟩⟩ (Nat.zero_le _) ?_
  intro k hk
  by_cases hk2 : k + 1 < n
  · have hin := insO_in rs l hl k (by omega)
    have hst : insO rs l (k + 1) = insJ rs (k + 1) (insO rs l k) := rfl
    generalize hT : insO rs l (k + 1) = T at *
    have hTb : (some (HB.one false (.cols n [.sc (.ints .i64 T)])) : Option HB) = some (.one false (.cols n [.sc (.ints .i64 (insO rs l (k + 1)))])) := by rw [hT]
    generalize insO rs l k = L0 at *
    repeat' ((conv => whnf); first | ((first | apply br_dec | apply br_ndec) <;> intro h <;> try (exfalso; (try dsimp only at h); omega)) | ((first | apply br_seq | apply br_nseq | apply br_not | apply br_intro) <;> intro h) | refine cond_a ?_)
    all_goals (conv => whnf)
    all_goals (try simp only [toNat0] at *)
    all_goals first
      | (exfalso; omega)
      | skip
    refine vloop_lp (fun x : Nat × List Int => ⟨[(0, .sl 1 0 0 n), (1, .int .i64 0), (2, .int .i64 n), (3, .fn 195 [.ptr 3 0 0 0]), (8, .int .i64 ((k + 1 : Nat) : Int)), (9, .int .i64 (x.1 : Int))], isH n x.2 rs, 4⟩) (fun x => x.1 ≤ k + 1 ∧ inR n x.2 ∧ insJ rs x.1 x.2 = T) (fun x => x.1) (k + 1, L0) [0, 1, 2, 3] [] ⟨rfl, ⟨rfl, rfl, rfl, rfl, rfl, rfl, trivial⟩, ⟨rfl, rfl, rfl, trivial⟩⟩ ⟨Nat.le_refl _, hin, hst.symm⟩ ?_
    rintro ⟨j, L⟩ ⟨hj, hL, hJ⟩
    dsimp only at hj hL hJ
    cases j with
    | zero =>
      have e : L = T := hJ
      subst e
      repeat' ((conv => whnf); first | ((first | apply br_dec | apply br_ndec) <;> intro h <;> try (exfalso; (try dsimp only at h); omega)) | ((first | apply br_seq | apply br_nseq | apply br_not | apply br_intro) <;> intro h) | refine cond_a ?_)
      all_goals (conv => whnf)
      all_goals first
        | exact ⟨k + 1, [0, 1, 2, 3], [], (show k + 1 ≤ n - 1 by omega), (show n - (k + 1) < n - k by omega), ⟨rfl, ⟨rfl, rfl, rfl, rfl, congrArg (fun z => some (SV.int .i64 z)) (i64_succ (by omega)), trivial⟩, ⟨hTb, rfl, rfl, trivial⟩⟩⟩
        | (exfalso; omega)
        | trace_state
    | succ j =>
      have hp := i64_pred (j := j) (by omega)
      have r1 := hL.2 j (by omega)
      have r2 := hL.2 (j + 1) (by omega)
      obtain ⟨a, ea⟩ := Int.eq_ofNat_of_zero_le r2.1
      obtain ⟨b, eb⟩ := Int.eq_ofNat_of_zero_le r1.1
      have c := split_less n rs a b (by omega) (by omega)
      simp only [insJ] at hJ
      rw [ea, eb, Int.toNat_natCast, Int.toNat_natCast] at hJ
      rw [← ea, ← eb] at c
      by_cases q : rs.getD b 0 < rs.getD a 0
      · have hv : cmpI (rs.getD b 0) (rs.getD a 0) = -1 := by unfold cmpI; rw [if_pos q]
        rw [hv] at c
        rw [if_pos q] at hJ
        have hs := sw1_in (j := j) (by omega) hL
        repeat' ((conv => whnf); first | refine vcallD_o (l := [0, 2, 3]) (c) ?_ | (simp only [hp]) | ((first | apply br_dec | apply br_ndec) <;> intro h <;> try (exfalso; (try dsimp only at h); omega)) | ((first | apply br_seq | apply br_nseq | apply br_not | apply br_intro) <;> intro h) | refine cond_a ?_)
        all_goals (conv => whnf)
        all_goals (try simp only [toNat0, Int.toNat_natCast, Nat.add_zero, hp] at *)
        all_goals first
          | exact ⟨(j, sw1 L j), [0, 1, 2, 3], [], ⟨(show j ≤ k + 1 by omega), hs, hJ⟩, Nat.lt_succ_self j, ⟨rfl, ⟨rfl, rfl, rfl, rfl, rfl, rfl, trivial⟩, ⟨rfl, rfl, rfl, trivial⟩⟩⟩
          | (exfalso; omega)
          | trace_state
      · obtain ⟨v, hv, h0⟩ : ∃ v, cmpI (rs.getD b 0) (rs.getD a 0) = v ∧ 0 ≤ v := ⟨_, rfl, by unfold cmpI; rw [if_neg q]; split <;> omega⟩
        rw [hv] at c
        rw [if_neg q] at hJ
        subst hJ
        repeat' ((conv => whnf); first | refine vcallD_o (l := [0, 2, 3]) (c) ?_ | (simp only [hp]) | ((first | apply br_dec | apply br_ndec) <;> intro h <;> try (exfalso; (try dsimp only at h); omega)) | ((first | apply br_seq | apply br_nseq | apply br_not | apply br_intro) <;> intro h) | refine cond_a ?_)
        all_goals (conv => whnf)
        all_goals (try simp only [toNat0, Int.toNat_natCast, Nat.add_zero, hp] at *)
        all_goals first
          | exact ⟨k + 1, [0, 1, 2, 3], [], (show k + 1 ≤ n - 1 by omega), (show n - (k + 1) < n - k by omega), ⟨rfl, ⟨rfl, rfl, rfl, rfl, congrArg (fun z => some (SV.int .i64 z)) (i64_succ (by omega)), trivial⟩, ⟨hTb, rfl, rfl, trivial⟩⟩⟩
          | (exfalso; omega)
          | trace_state
  · have e : k = n - 1 := by omega
    subst e
    repeat' ((conv => whnf); first | ((first | apply br_dec | apply br_ndec) <;> intro h <;> try (exfalso; (try dsimp only at h); omega)) | ((first | apply br_seq | apply br_nseq | apply br_not | apply br_intro) <;> intro h) | refine cond_a ?_)
    all_goals (conv => whnf)
    all_goals first
      | exact ret_out (l := [0, 1, 2, 3]) rfl rfl ⟨rfl, trivial⟩ (allRw_cons allRw_nil)
      | (exfalso; omega)
      | trace_state
end Go.Proofs.YtkdjnmcaifejjaaGreatDoor

/- Contract: an amount is split in proportion to weights. -/
namespace Go.Proofs.YtkdjnmcaifejjaaGreatDoor
open Go.RowKit Go.Sy
attribute [local irreducible] vcall vloop vcallD retP
set_option maxRecDepth 100000
set_option linter.unusedVariables false
set_option linter.unusedSimpArgs false

theorem stable_Cmp (n : Nat) (l rs : List Int) (hn : n ≤ 16) (hl : inR n l) : FC Tryz.prog 4 210 [.sl 1 0 0 n, .int .i64 n, .fn 195 [.ptr 3 0 0 0]] (isH n l rs) (isOut (.tup []) [(1, some (.one false (.cols n [.sc (.ints .i64 (insO rs l (n - 1)))])))] 4) := by
  have c := ins_Sort n l rs (by omega) hl
  refine fc_of mixed T_ok Tryz.func210 rfl (by kernel_rfl) (by kernel_rfl) (by kernel_rfl) ?_
  repeat' ((conv => whnf); first | ((first | apply br_dec | apply br_ndec) <;> intro h <;> try (exfalso; (try dsimp only at h); omega)) | ((first | apply br_seq | apply br_nseq | apply br_not | apply br_intro) <;> intro h) | refine cond_a ?_)
  all_goals (conv => whnf)
  refine vloop_lp (fun k : Unit => ⟨[(0, .sl 1 0 0 n), (1, .int .i64 n), (2, .fn 195 [.ptr 3 0 0 0]), (6, .int .i64 20), (7, .int .i64 0), (8, .int .i64 20)], isH n l rs, 4⟩) (fun k => True) (fun k => 0) () [0, 1, 2, 3] [] ⟨rfl, ⟨rfl, rfl, rfl, rfl, rfl, rfl, trivial⟩, ⟨rfl, rfl, rfl, trivial⟩⟩ trivial ?_
  rintro ⟨⟩ _
  repeat' ((conv => whnf); first | refine vcall_o (l := [0, 1, 2, 3]) (c) ?_ | ((first | apply br_dec | apply br_ndec) <;> intro h <;> try (exfalso; (try dsimp only at h); omega)) | ((first | apply br_seq | apply br_nseq | apply br_not | apply br_intro) <;> intro h) | refine cond_a ?_)
  all_goals (conv => whnf)
  all_goals first
    | (exfalso; omega)
    | skip
  refine vloop_lp (fun k : Unit => ⟨[(0, .sl 1 0 0 n), (1, .int .i64 n), (2, .fn 195 [.ptr 3 0 0 0]), (6, .int .i64 20)], isH n (insO rs l (n - 1)) rs, 4⟩) (fun k => True) (fun k => 0) () [0, 1, 2, 3] [] ⟨rfl, ⟨rfl, rfl, rfl, rfl, trivial⟩, ⟨rfl, rfl, rfl, trivial⟩⟩ trivial ?_
  rintro ⟨⟩ _
  repeat' ((conv => whnf); first | ((first | apply br_dec | apply br_ndec) <;> intro h <;> try (exfalso; (try dsimp only at h); omega)) | ((first | apply br_seq | apply br_nseq | apply br_not | apply br_intro) <;> intro h) | refine cond_a ?_)
  all_goals (conv => whnf)
  all_goals first
    | exact ret_out (l := [0, 1, 2, 3]) rfl rfl ⟨rfl, trivial⟩ (allRw_cons allRw_nil)
    | (exfalso; omega)
    | trace_state
theorem stable_Sort (n : Nat) (l rs : List Int) (hn : n ≤ 16) (hl : inR n l) : FC Tryz.prog 4 194 [.sl 1 0 0 n, .fn 195 [.ptr 3 0 0 0]] (isH n l rs) (isOut (.tup []) [(1, some (.one false (.cols n [.sc (.ints .i64 (insO rs l (n - 1)))])))] 4) := by
  have c := stable_Cmp n l rs hn hl
  refine fc_of mixed T_ok Tryz.func194 rfl (by kernel_rfl) (by kernel_rfl) (by kernel_rfl) ?_
  repeat' ((conv => whnf); first | refine vcall_o (l := [0, 1, 2, 3]) (c) ?_ | ((first | apply br_dec | apply br_ndec) <;> intro h <;> try (exfalso; (try dsimp only at h); omega)) | ((first | apply br_seq | apply br_nseq | apply br_not | apply br_intro) <;> intro h) | refine cond_a ?_)
  all_goals (conv => whnf)
  all_goals exact ret_out (l := [0, 1, 2, 3]) rfl rfl ⟨rfl, trivial⟩ (allRw_cons allRw_nil)
/-- A list whose first places are filled. -/
def fillK {α : Type} (f : Nat → α) (z : α) (n : Nat) : Nat → List α
  | 0 => List.replicate n z
  | k + 1 => (fillK f z n k).set k (f k)
theorem fillK_len {α : Type} (f : Nat → α) (z : α) (n : Nat) : ∀ k, (fillK f z n k).length = n
  | 0 => by simp [fillK]
  | k + 1 => by simp only [fillK, List.length_set]; exact fillK_len f z n k
theorem fillK_get {α : Type} (f : Nat → α) (z d : α) (n : Nat) : ∀ k i, i < k → i < n → (fillK f z n k).getD i d = f i
  | 0, i, h, _ => by omega
  | k + 1, i, h, hn => by
    simp only [fillK]
    by_cases e : i = k
    · subst e; rw [List.getD, List.getElem?_set_self (by rw [fillK_len]; exact hn)]; rfl
    · rw [List.getD, List.getElem?_set_ne (fun q => e q.symm)]; exact fillK_get f z d n k i (by omega) hn
/-- The quotient and the rest of a weight's share. -/
def qN (A : Nat) (ws : List Int) (n i : Nat) : Nat := A * (ws.getD i 0).toNat / (swK ws n).toNat
def rN (A : Nat) (ws : List Int) (n i : Nat) : Nat := A * (ws.getD i 0).toNat % (swK ws n).toNat
def qsK (A : Nat) (ws : List Int) (n : Nat) : Nat → Nat
  | 0 => 0
  | k + 1 => qsK A ws n k + qN A ws n k
theorem qs_le {A : Nat} {ws : List Int} {n : Nat} (hw : ∀ k, k < n → 1 ≤ ws.getD k 0) : ∀ k, k ≤ n → (qsK A ws n k : Int) * swK ws n ≤ A * swK ws k ∧ 0 ≤ swK ws k
  | 0, _ => by simp [qsK, swK]
  | k + 1, hk => by
    have ih := qs_le (A := A) hw k (by omega)
    have h1 := hw k (by omega)
    have hS : 0 ≤ swK ws n := by
      have : ∀ m, m ≤ n → 0 ≤ swK ws m := by
        intro m
        induction m with
        | zero => intro _; simp [swK]
        | succ m ihm => intro hm; have := ihm (by omega); have := hw m (by omega); simp only [swK]; omega
      exact this n (Nat.le_refl _)
    simp only [qsK, swK]
    have hq : qN A ws n k * (swK ws n).toNat ≤ A * (ws.getD k 0).toNat := Nat.div_mul_le_self _ _
    have hq2 : (qN A ws n k : Int) * swK ws n ≤ A * ws.getD k 0 := by
      have e1 : ((swK ws n).toNat : Int) = swK ws n := Int.toNat_of_nonneg hS
      have e2 : ((ws.getD k 0).toNat : Int) = ws.getD k 0 := Int.toNat_of_nonneg (by omega)
      have := Int.ofNat_le.2 hq
      rw [Int.natCast_mul, Int.natCast_mul, e1, e2] at this
      exact this
    refine ⟨?_, by omega⟩
    rw [Int.natCast_add, Int.add_mul, Int.mul_add]
    omega
theorem sw_mono {ws : List Int} {n : Nat} (hw : ∀ k, k < n → 1 ≤ ws.getD k 0) : ∀ d k, k + d ≤ n → swK ws k + d ≤ swK ws (k + d)
  | 0, k, _ => by simp
  | d + 1, k, h => by
    have ih := sw_mono hw d k (by omega)
    have h1 := hw (k + d) (by omega)
    have : swK ws (k + (d + 1)) = swK ws (k + d) + ws.getD (k + d) 0 := rfl
    omega
theorem qs_leA {A : Nat} {ws : List Int} {n : Nat} (hw : ∀ k, k < n → 1 ≤ ws.getD k 0) {k : Nat} (hk : k ≤ n) (hn : 1 ≤ n) : qsK A ws n k ≤ A := by
  have h1 := (qs_le (A := A) hw k hk).1
  have hm := sw_mono hw (n - k) k (by omega)
  rw [show k + (n - k) = n by omega] at hm
  have h0 := (qs_le (A := A) hw k hk).2
  have hS : 1 ≤ swK ws n := by
    have := sw_mono hw n 0 (by omega)
    rw [Nat.zero_add] at this
    have e : swK ws 0 = 0 := rfl
    omega
  have h2 : (A : Int) * swK ws k ≤ A * swK ws n := Int.mul_le_mul_of_nonneg_left (by omega) (Int.natCast_nonneg A)
  have h3 : (qsK A ws n k : Int) * swK ws n ≤ A * swK ws n := Int.le_trans h1 h2
  have := Int.le_of_mul_le_mul_right h3 (by omega)
  omega
theorem q_le {A : Nat} {ws : List Int} {n : Nat} (hw : ∀ k, k < n → 1 ≤ ws.getD k 0) {k : Nat} (hk : k < n) : qN A ws n k ≤ A := by
  have h1 := qs_leA (A := A) hw (k := k + 1) (by omega) (by omega)
  simp only [qsK] at h1
  omega
theorem w_le {ws : List Int} {n : Nat} (hw : ∀ k, k < n → 1 ≤ ws.getD k 0) {k : Nat} (hk : k < n) : ws.getD k 0 ≤ swK ws n := by
  have hm := sw_mono hw (n - (k + 1)) (k + 1) (by omega)
  rw [show k + 1 + (n - (k + 1)) = n by omega] at hm
  have h0 := sw_mono hw k 0 (by omega)
  rw [Nat.zero_add] at h0
  have e : swK ws 0 = 0 := rfl
  have e2 : swK ws (k + 1) = swK ws k + ws.getD k 0 := rfl
  omega
/-- One unit more for the first places of an order. -/
def bumpK (P ord : List Int) : Nat → List Int
  | 0 => P
  | k + 1 => (bumpK P ord k).set (ord.getD k 0).toNat ((bumpK P ord k).getD (ord.getD k 0).toNat 0 + 1)
theorem bumpK_len (P ord : List Int) : ∀ k, (bumpK P ord k).length = P.length
  | 0 => rfl
  | k + 1 => by simp only [bumpK, List.length_set]; exact bumpK_len P ord k
theorem bumpK_bd {P ord : List Int} {A : Int} (hP : ∀ i, 0 ≤ P.getD i 0 ∧ P.getD i 0 ≤ A) (hA : 0 ≤ A) : ∀ k i, 0 ≤ (bumpK P ord k).getD i 0 ∧ (bumpK P ord k).getD i 0 ≤ A + k
  | 0, i => by have := hP i; simp only [bumpK]; omega
  | k + 1, i => by
    have ih := bumpK_bd hP hA (ord := ord) k
    simp only [bumpK]
    by_cases e : (ord.getD k 0).toNat < (bumpK P ord k).length
    · rw [set_getD2 _ _ _ _ e]
      split
      · have := ih (ord.getD k 0).toNat; omega
      · have := ih i; omega
    · rw [List.set_eq_of_length_le (by omega)]
      have := ih i; omega
def spQ (A : Nat) (ws : List Int) (n : Nat) : List Int := fillK (fun i => (qN A ws n i : Int)) 0 n n
def spR (A : Nat) (ws : List Int) (n : Nat) : List Int := fillK (fun i => (rN A ws n i : Int)) 0 n n
def spI (n : Nat) : List Int := fillK (fun i => (i : Int)) 0 n n
def spO (A : Nat) (ws : List Int) (n : Nat) : List Int := insO (spR A ws n) (spI n) (n - 1)
def spL (A : Nat) (ws : List Int) (n : Nat) : Nat := min (A - qsK A ws n n) n
/-- The parts. -/
def spP (A : Nat) (ws : List Int) (n : Nat) : List Int := bumpK (spQ A ws n) (spO A ws n) (spL A ws n)
def spE (A : Nat) (c : ByteArray) (ws : List Int) (n : Nat) : Int := if mchk A c ≠ 0 then mchk A c else if wMx ws n = true ∧ 0 < swK ws n then 0 else 4
abbrev spB (A : Nat) (c : ByteArray) (ws : List Int) (n : Nat) : Blk := .cols n [.sc (.ints .i64 (fillK (fun i => (spP A ws n).getD i 0) 0 n n)), .sc (.strs (fillK (fun _ => c) ⟨#[]⟩ n n))]
def spOut (A : Nat) (c : ByteArray) (ws : List Int) (n : Nat) : SV → Heap → Nat → Prop := if spE A c ws n ≠ 0 then isOut (.tup [.nsl, .int .i64 (spE A c ws n)]) [] 2 else isOut (.tup [.sl 2 0 0 n, .int .i64 0]) [(2, some (.one false (spB A c ws n)))] 3
theorem spI_in (n : Nat) : inR n (spI n) := by
  refine ⟨fillK_len _ _ _ _, fun k hk => ?_⟩
  unfold spI
  rw [fillK_get _ _ _ _ _ _ hk hk]; omega
theorem spO_in (A : Nat) (ws : List Int) (n : Nat) (hn : 1 ≤ n) : inR n (spO A ws n) := insO_in _ _ (spI_in n) _ (by omega)
theorem fillK_bd {f : Nat → Int} {n : Nat} {A : Int} (hA : 0 ≤ A) (h : ∀ i, i < n → 0 ≤ f i ∧ f i ≤ A) : ∀ k, k ≤ n → ∀ i, 0 ≤ (fillK f 0 n k).getD i 0 ∧ (fillK f 0 n k).getD i 0 ≤ A
  | 0, _, i => by
    simp only [fillK]
    rw [List.getD, List.getElem?_replicate]
    split <;> simp <;> omega
  | k + 1, hk, i => by
    simp only [fillK]
    rw [set_getD2 _ _ _ _ (by rw [fillK_len]; omega)]
    split
    · exact h k (by omega)
    · exact fillK_bd hA h k (by omega) i
end Go.Proofs.YtkdjnmcaifejjaaGreatDoor

/- Contract: an amount is split in proportion to weights (the walk). -/
namespace Go.Proofs.YtkdjnmcaifejjaaGreatDoor
open Go.RowKit Go.Sy
attribute [local irreducible] vcall vloop vcallD retP
set_option maxRecDepth 100000
set_option linter.unusedVariables false
set_option linter.unusedSimpArgs false

theorem bits_share (A : Nat) (ws : List Int) (n : Nat) (hA : A ≤ 4503599627370496) (hw : ∀ k, k < n → 1 ≤ ws.getD k 0) (hm : wMx ws n = true) (hn : n ≤ 64) {k : Nat} (hk : k < n) :
    ∃ W S : Nat, ws.getD k 0 = W ∧ swK ws n = S ∧ W < 18446744073709551616 ∧ S < 18446744073709551616 ∧ A * W / 18446744073709551616 < S ∧ A * W / S = qN A ws n k ∧ A * W % S = rN A ws n k ∧ W ≤ 1099511627776 := by
  have h1 := hw k hk
  have hb := swK_bd hw n (Nat.le_refl _) hm
  have hwl := w_le hw hk
  have hmk : ∀ m, k < m → wMx ws m = true → ws.getD k 0 ≤ 1099511627776 := by
    intro m hkm h
    rcases Int.lt_or_le 1099511627776 (ws.getD k 0) with q | q
    · exact absurd (wMx_stop (show ¬ ws.getD k 0 ≤ 1099511627776 by omega) m hkm) (by rw [h]; decide)
    · exact q
  have hw40 := hmk n hk hm
  obtain ⟨W, eW⟩ := Int.eq_ofNat_of_zero_le (a := ws.getD k 0) (by omega)
  obtain ⟨S, eS⟩ := Int.eq_ofNat_of_zero_le (a := swK ws n) (by omega)
  have hAW : A * W ≤ 4503599627370496 * W := Nat.mul_le_mul_right _ hA
  refine ⟨W, S, eW, eS, by omega, by omega, ?_, by unfold qN; rw [eW, eS]; rfl, by unfold rN; rw [eW, eS]; rfl, by omega⟩
  have : A * W / 18446744073709551616 < W := by
    rw [Nat.div_lt_iff_lt_mul (by decide)]
    omega
  omega
theorem money_Split (A : Nat) (c : ByteArray) (ws : List Int) (n : Nat) (hA : A ≤ 9223372036854775807) (hn : n ≤ 16) (hw : ∀ k, k < n → 1 ≤ ws.getD k 0) (hw2 : ∀ k, k < n → ws.getD k 0 ≤ 9223372036854775807) : FC Tryz.prog 2 157 [.agg [.int .i64 A, .str c], .sl 1 0 0 n] [(1, some (.one true (.cols n [.sc (.ints .i64 ws)])))] (spOut A c ws n) := by
  have c1 := money_Check A c
  have c2 := money_sum ws n (by omega) hw hw2
  have c3 := money_magnitude A (by omega) (by omega)
  have ec3 : ((A : Int).natAbs : Int) = A := by omega
  rw [ec3] at c3
  unfold spOut
  by_cases h1 : mchk A c = 0
  case neg =>
    have e : spE A c ws n = mchk A c := by unfold spE; rw [if_pos h1]
    rw [e, if_pos h1]
    refine fc_of mixed T_ok Tryz.func157 rfl (by kernel_rfl) (by kernel_rfl) (by kernel_rfl) ?_
    repeat' ((conv => whnf); first | (refine vcall_pure (c1) rfl rfl rfl ?_) | ((first | apply br_dec | apply br_ndec) <;> intro h <;> try (exfalso; (try dsimp only at h); omega)) | ((first | apply br_seq | apply br_nseq | apply br_not | apply br_intro) <;> intro h) | refine cond_a ?_)
    all_goals (conv => whnf)
    all_goals first
      | exact ret_out (l := [0, 1]) rfl rfl trivial allRw_nil
      | (exfalso; omega)
      | trace_state
  have hA2 : A ≤ 4503599627370496 := by
    have := mchk_or A c
    rw [h1] at this
    omega
  have e0 : spE A c ws n = if wMx ws n = true ∧ 0 < swK ws n then 0 else 4 := by unfold spE; rw [if_neg (by simpa using h1)]
  rw [h1] at c1
  by_cases h2 : wMx ws n = true ∧ 0 < swK ws n
  case neg =>
    rw [if_neg h2] at e0
    rw [e0, if_pos (by decide)]
    unfold swT at c2
    by_cases h3 : wMx ws n = true
    · rw [if_pos h3, decide_eq_false (fun q => h2 ⟨h3, q⟩)] at c2
      refine fc_of mixed T_ok Tryz.func157 rfl (by kernel_rfl) (by kernel_rfl) (by kernel_rfl) ?_
      repeat' ((conv => whnf); first | (refine vcall_pure (c1) rfl rfl rfl ?_) | refine vcall_o (l := [0, 1]) (c2) ?_ | ((first | apply br_dec | apply br_ndec) <;> intro h <;> try (exfalso; (try dsimp only at h); omega)) | ((first | apply br_seq | apply br_nseq | apply br_not | apply br_intro) <;> intro h) | refine cond_a ?_)
      all_goals (conv => whnf)
      all_goals first
        | exact ret_out (l := [0, 1]) rfl rfl trivial allRw_nil
        | (exfalso; omega)
        | trace_state
    · rw [if_neg h3] at c2
      refine fc_of mixed T_ok Tryz.func157 rfl (by kernel_rfl) (by kernel_rfl) (by kernel_rfl) ?_
      repeat' ((conv => whnf); first | (refine vcall_pure (c1) rfl rfl rfl ?_) | refine vcall_o (l := [0, 1]) (c2) ?_ | ((first | apply br_dec | apply br_ndec) <;> intro h <;> try (exfalso; (try dsimp only at h); omega)) | ((first | apply br_seq | apply br_nseq | apply br_not | apply br_intro) <;> intro h) | refine cond_a ?_)
      all_goals (conv => whnf)
      all_goals first
        | exact ret_out (l := [0, 1]) rfl rfl trivial allRw_nil
        | (exfalso; omega)
        | trace_state
  rw [if_pos h2] at e0
  rw [e0, if_neg (by decide)]
  unfold swT at c2
  rw [if_pos h2.1, decide_eq_true h2.2] at c2
  have hn1 : 1 ≤ n := by
    rcases Nat.eq_zero_or_pos n with q | q
    · subst q; exact absurd h2.2 (by simp [swK])
    · exact q
  have hbW := swK_bd hw n (Nat.le_refl _) h2.1
  refine fc_of mixed T_ok Tryz.func157 rfl (by kernel_rfl) (by kernel_rfl) (by kernel_rfl) ?_
  repeat' ((conv => whnf); first | (refine vcall_pure (c1) rfl rfl rfl ?_) | refine vcall_o (l := [0, 1]) (c2) ?_ | (refine vcall_pure (c3) rfl rfl rfl ?_) | ((first | apply br_dec | apply br_ndec) <;> intro h <;> try (exfalso; (try dsimp only at h); omega)) | ((first | apply br_seq | apply br_nseq | apply br_not | apply br_intro) <;> intro h) | refine cond_a ?_)
  all_goals (conv => whnf)
  refine vloop_lp (fun k : Nat => ⟨[(2, .ptr 2 0 0 0), (7, .int .u64 (swK ws n)), (9, .int .u64 A), (10, .int .u64 ((A : Int) - qsK A ws n k)), (11, .sl 3 0 0 n), (12, .ptr 5 0 0 0), (13, .sl 6 0 0 n), (50, .sl 1 0 0 n), (51, .int .i64 n), (52, .int .i64 k)], [(1, some (.one true (.cols n [.sc (.ints .i64 ws)]))), (2, some (.one false (.cells [.int .i64 A, .str c]))), (3, some (.one false (.cols n [.sc (.ints .i64 (fillK (fun i => (qN A ws n i : Int)) 0 n k))]))), (4, some (.one false (.cols n [.sc (.ints .u64 (fillK (fun i => (rN A ws n i : Int)) 0 n k))]))), (5, some (.one false (.cells [.sl 4 0 0 n]))), (6, some (.one false (.cols n [.sc (.ints .i64 (fillK (fun i => (i : Int)) 0 n k))])))], 7⟩) (fun k => k ≤ n) (fun k => n - k) 0 [0, 1, 2, 3, 4, 5, 6] [] ⟨rfl, ⟨rfl, rfl, rfl, congrArg (fun z => some (SV.int .u64 z)) (by simp [qsK]), rfl, rfl, rfl, rfl, rfl, rfl, trivial⟩, ⟨rfl, rfl, rfl, rfl, rfl, rfl, trivial⟩⟩ (Nat.zero_le _) ?_
  intro k hk
  by_cases hk2 : k < n
  · obtain ⟨W, S, eW, eS, hW, hS, hlt, hq, hr, hW40⟩ := bits_share A ws n hA2 hw h2.1 (by omega) hk2
    have m1 := bits_Mul64 A W (by omega) hW
    have m2 := bits_Div64 (A * W / 18446744073709551616) (A * W % 18446744073709551616) S (Nat.mod_lt _ (by decide)) hS hlt
    have em : A * W / 18446744073709551616 * 18446744073709551616 + A * W % 18446744073709551616 = A * W := by
      have := Nat.div_add_mod (A * W) 18446744073709551616
      omega
    rw [em, hq, hr, ← eS] at m2
    have eW2 : IntKind.u64.wrap (ws.getD k 0) = (W : Int) := by rw [eW]; exact u64_in' (by omega) (by omega)
    rw [← eW2] at m1
    have hqA := q_le (A := A) hw hk2
    have e3 : IntKind.i64.wrap (qN A ws n k : Int) = qN A ws n k := w64_in (by omega) (by omega)
    have hq1 := qs_leA (A := A) hw (k := k + 1) (by omega) hn1
    have e4 : IntKind.u64.wrap ((A : Int) - qsK A ws n k - qN A ws n k) = (A : Int) - qsK A ws n (k + 1) := by
      simp only [qsK] at hq1 ⊢
      rw [u64_in' (by omega) (by omega)]; omega
    repeat' ((conv => whnf); first | (refine vcall_pure (m1) rfl rfl rfl ?_) | (refine vcallD_pure (m1) rfl rfl rfl ?_) | (refine vcall_pure (m2) rfl rfl rfl ?_) | (refine vcallD_pure (m2) rfl rfl rfl ?_) | ((first | apply br_dec | apply br_ndec) <;> intro h <;> try (exfalso; (try dsimp only at h); omega)) | ((first | apply br_seq | apply br_nseq | apply br_not | apply br_intro) <;> intro h) | refine cond_a ?_)
    all_goals (conv => whnf)
    all_goals (try simp only [toNat0, Int.toNat_natCast, Nat.add_zero, e3, e4] at *)
    all_goals first
      | exact ⟨k + 1, [0, 1, 2, 3, 4, 5, 6], [], hk2, (show n - (k + 1) < n - k by omega), ⟨rfl, ⟨rfl, rfl, rfl, rfl, rfl, rfl, rfl, rfl, rfl, congrArg (fun z => some (SV.int .i64 z)) (i64_succ (by omega)), trivial⟩, ⟨rfl, rfl, rfl, rfl, rfl, rfl, trivial⟩⟩⟩
      | (exfalso; omega)
      | trace_state
  have ek : k = n := by omega
  subst ek
  have cs := stable_Sort k (spI k) (spR A ws k) hn (spI_in k)
  unfold isH spI spR at cs
  repeat' ((conv => whnf); first | refine vcall_o (l := [0, 6, 4, 5]) (cs) ?_ | ((first | apply br_dec | apply br_ndec) <;> intro h <;> try (exfalso; (try dsimp only at h); omega)) | ((first | apply br_seq | apply br_nseq | apply br_not | apply br_intro) <;> intro h) | refine cond_a ?_)
  all_goals (conv => whnf)
  all_goals first
    | (exfalso; omega)
    | skip
  have hO := spO_in A ws k hn1
  have hqb : ∀ i, 0 ≤ (spQ A ws k).getD i 0 ∧ (spQ A ws k).getD i 0 ≤ (A : Int) := fun i => fillK_bd (Int.natCast_nonneg A) (fun i hi => ⟨Int.natCast_nonneg _, Int.ofNat_le.2 (q_le hw hi)⟩) k (Nat.le_refl _) i
  have hbk := bumpK_bd (ord := spO A ws k) hqb (Int.natCast_nonneg A)
  have hbl := bumpK_len (spQ A ws k) (spO A ws k)
  have hql : (spQ A ws k).length = k := fillK_len _ _ _ _
  have hqs := qs_leA (A := A) hw (k := k) (Nat.le_refl _) hn1
  have eSL : spL A ws k = min (A - qsK A ws k k) k := rfl
  refine vloop_lp (fun i : Nat => ⟨[(2, .ptr 2 0 0 0), (10, .int .u64 ((A : Int) - qsK A ws k k - i)), (11, .sl 3 0 0 k), (91, .sl 6 0 0 k), (92, .int .i64 k), (93, .int .i64 i)], [(1, some (.one true (.cols k [.sc (.ints .i64 ws)]))), (2, some (.one false (.cells [.int .i64 A, .str c]))), (3, some (.one false (.cols k [.sc (.ints .i64 (bumpK (spQ A ws k) (spO A ws k) i))]))), (6, some (.one false (.cols k [.sc (.ints .i64 (spO A ws k))])))], 7⟩) (fun i => i ≤ spL A ws k) (fun i => k - i) 0 [0, 1, 2, 3, 4, 5, 6] [] ⟨rfl, ⟨rfl, congrArg (fun z => some (SV.int .u64 z)) (by simp), rfl, rfl, rfl, rfl, trivial⟩, ⟨rfl, rfl, rfl, rfl, trivial⟩⟩ (Nat.zero_le _) ?_
  intro i hi
  have fin : ∀ (vs : VS), vs = vs → True := fun _ _ => trivial
  by_cases hi2 : i < spL A ws k
  · have h3 := hO.2 i (by omega)
    obtain ⟨o, eo⟩ := Int.eq_ofNat_of_zero_le h3.1
    have hbo := hbk i o
    have e3 : IntKind.i64.wrap ((bumpK (spQ A ws k) (spO A ws k) i).getD o 0 + 1) = (bumpK (spQ A ws k) (spO A ws k) i).getD o 0 + 1 := w64_in (by omega) (by omega)
    have e4 : IntKind.u64.wrap ((A : Int) - qsK A ws k k - i - 1) = (A : Int) - qsK A ws k k - ((i + 1 : Nat) : Int) := by rw [u64_in' (by omega) (by omega)]; omega
    have e5 : bumpK (spQ A ws k) (spO A ws k) (i + 1) = (bumpK (spQ A ws k) (spO A ws k) i).set o ((bumpK (spQ A ws k) (spO A ws k) i).getD o 0 + 1) := by simp only [bumpK]; rw [eo, Int.toNat_natCast]
    have e6 : (some (HB.one false (.cols k [.sc (.ints .i64 ((bumpK (spQ A ws k) (spO A ws k) i).set o ((bumpK (spQ A ws k) (spO A ws k) i).getD o 0 + 1)))])) : Option HB) = some (.one false (.cols k [.sc (.ints .i64 (bumpK (spQ A ws k) (spO A ws k) (i + 1)))])) := by rw [e5]
    repeat' ((conv => whnf); first | ((first | apply br_dec | apply br_ndec) <;> intro h <;> try (exfalso; (try dsimp only at h); omega)) | ((first | apply br_seq | apply br_nseq | apply br_not | apply br_intro) <;> intro h) | refine cond_a ?_)
    all_goals (conv => whnf)
    all_goals (try simp only [toNat0, Int.toNat_natCast, Nat.add_zero, eo, e3, e4] at *)
    all_goals first
      | exact ⟨i + 1, [0, 1, 2, 3, 4, 5, 6], [], hi2, (show k - (i + 1) < k - i by omega), ⟨rfl, ⟨rfl, rfl, rfl, rfl, rfl, congrArg (fun z => some (SV.int .i64 z)) (i64_succ (by omega)), trivial⟩, ⟨rfl, rfl, e6, rfl, trivial⟩⟩⟩
      | (exfalso; omega)
      | trace_state
  · have ei : i = spL A ws k := by omega
    subst ei
    have eP : bumpK (spQ A ws k) (spO A ws k) (spL A ws k) = spP A ws k := rfl
    rw [eP]
    repeat' ((conv => whnf); first | ((first | apply br_dec | apply br_ndec) <;> intro h <;> try (exfalso; (try dsimp only at h); omega)) | ((first | apply br_seq | apply br_nseq | apply br_not | apply br_intro) <;> intro h) | refine cond_a ?_)
    all_goals (conv => whnf)
    all_goals first
      | (exfalso; omega)
      | skip
    all_goals refine vloop_lp (fun i : Nat => ⟨[(2, .ptr 3 0 0 0), (22, .sl 2 0 0 k), (111, .sl 4 0 0 k), (112, .int .i64 k), (113, .int .i64 i)], [(2, some (.one false (.cols k [.sc (.ints .i64 (fillK (fun i => (spP A ws k).getD i 0) 0 k i)), .sc (.strs (fillK (fun _ => c) ⟨#[]⟩ k i))]))), (3, some (.one false (.cells [.int .i64 A, .str c]))), (4, some (.one false (.cols k [.sc (.ints .i64 (spP A ws k))])))], 5⟩) (fun i => i ≤ k) (fun i => k - i) 0 [0, 1, 7, 2, 3] [] ⟨rfl, ⟨rfl, rfl, rfl, rfl, rfl, trivial⟩, ⟨rfl, rfl, rfl, trivial⟩⟩ (Nat.zero_le _) ?_
    all_goals intro i hi4
    all_goals by_cases hi5 : i < k
    all_goals try (have ei5 : i = k := by omega)
    all_goals try subst ei5
    all_goals repeat' ((conv => whnf); first | ((first | apply br_dec | apply br_ndec) <;> intro h <;> try (exfalso; (try dsimp only at h); omega)) | ((first | apply br_seq | apply br_nseq | apply br_not | apply br_intro) <;> intro h) | refine cond_a ?_)
    all_goals (conv => whnf)
    all_goals (try simp only [toNat0, Int.toNat_natCast, Nat.add_zero] at *)
    all_goals first
      | exact ⟨i + 1, [0, 1, 2, 3, 4], [], hi5, (show k - (i + 1) < k - i by omega), ⟨rfl, ⟨rfl, rfl, rfl, rfl, congrArg (fun z => some (SV.int .i64 z)) (i64_succ (by omega)), trivial⟩, ⟨rfl, rfl, rfl, trivial⟩⟩⟩
      | exact ret_out (l := [0, 1, 2]) rfl rfl ⟨rfl, trivial⟩ (allRw_cons allRw_nil)
      | (exfalso; omega)
      | trace_state
end Go.Proofs.YtkdjnmcaifejjaaGreatDoor

/- Contract: an amount is divided among the positions of a sign. -/
namespace Go.Proofs.YtkdjnmcaifejjaaGreatDoor
open Go.RowKit Go.Sy
attribute [local irreducible] vcall vloop vcallD retP
set_option maxRecDepth 100000
set_option linter.unusedVariables false
set_option linter.unusedSimpArgs false

/-- The magnitudes of the first positions of a sign; their places. -/
def wtK (r : List Int) (s : Int) : Nat → List Int
  | 0 => []
  | k + 1 => if 0 < r.getD k 0 * s then wtK r s k ++ [r.getD k 0 * s] else wtK r s k
def plK (r : List Int) (s : Int) : Nat → List Int
  | 0 => []
  | k + 1 => if 0 < r.getD k 0 * s then plK r s k ++ [(k : Int)] else plK r s k
theorem pl_len (r : List Int) (s : Int) : ∀ k, (plK r s k).length = (wtK r s k).length
  | 0 => rfl
  | k + 1 => by
    simp only [plK, wtK]
    split
    · rw [List.length_append, List.length_append, pl_len r s k]; rfl
    · exact pl_len r s k
theorem wt_len (r : List Int) (s : Int) : ∀ k, (wtK r s k).length ≤ k
  | 0 => Nat.le_refl _
  | k + 1 => by
    have := wt_len r s k
    simp only [wtK]
    split
    · rw [List.length_append, List.length_singleton]; omega
    · omega
theorem snoc_getD (l : List Int) (x : Int) (i : Nat) : (l ++ [x]).getD i 0 = if i = l.length then x else l.getD i 0 := by
  by_cases e : i < l.length
  · rw [if_neg (by omega), List.getD, List.getElem?_append_left e]; rfl
  · by_cases e2 : i = l.length
    · rw [if_pos e2, List.getD, List.getElem?_append_right (by omega), e2, Nat.sub_self]; rfl
    · rw [if_neg e2, List.getD, List.getElem?_append_right (by omega), List.getD, List.getElem?_eq_none (by rw [List.length_singleton]; omega), List.getElem?_eq_none (by omega)]
theorem wt_bd {r : List Int} {s B : Int} (hb : ∀ j, r.getD j 0 * s ≤ B) : ∀ k i, i < (wtK r s k).length → 1 ≤ (wtK r s k).getD i 0 ∧ (wtK r s k).getD i 0 ≤ B
  | 0, i, h => by simp [wtK] at h
  | k + 1, i, h => by
    simp only [wtK] at h ⊢
    by_cases q : 0 < r.getD k 0 * s
    · rw [if_pos q] at h ⊢
      rw [List.length_append, List.length_singleton] at h
      rw [snoc_getD]
      split
      · have := hb k; omega
      · exact wt_bd hb k i (by omega)
    · rw [if_neg q] at h ⊢
      exact wt_bd hb k i h
theorem pl_bd (r : List Int) (s : Int) : ∀ k i, i < (plK r s k).length → 0 ≤ (plK r s k).getD i 0 ∧ (plK r s k).getD i 0 < k
  | 0, i, h => by simp [plK] at h
  | k + 1, i, h => by
    simp only [plK] at h ⊢
    by_cases q : 0 < r.getD k 0 * s
    · rw [if_pos q] at h ⊢
      rw [List.length_append, List.length_singleton] at h
      rw [snoc_getD]
      split
      · omega
      · have := pl_bd r s k i (by omega); omega
    · rw [if_neg q] at h ⊢
      have := pl_bd r s k i h; omega
/-- The parts are put into their places. -/
def dvK (row pl P : List Int) (s : Int) : Nat → List Int
  | 0 => row
  | k + 1 => (dvK row pl P s k).set (pl.getD k 0).toNat (P.getD k 0 * s)
abbrev dvN (r : List Int) (s : Int) : Nat := (wtK r s 16).length
def dvE (A : Nat) (c : ByteArray) (r : List Int) (s : Int) : Int := spE A c (wtK r s 16) (dvN r s)
def dvR (row : List Int) (A : Nat) (r : List Int) (s : Int) : List Int := dvK row (plK r s 16) (spP A (wtK r s 16) (dvN r s)) s (dvN r s)
theorem dvK_len (row pl P : List Int) (s : Int) : ∀ k, (dvK row pl P s k).length = row.length
  | 0 => rfl
  | k + 1 => by simp only [dvK, List.length_set]; exact dvK_len row pl P s k
def dvO (row : List Int) (A : Nat) (c : ByteArray) (r : List Int) (s : Int) : List Int := if dvE A c r s = 0 then dvR row A r s else row
theorem spE_le {A : Nat} {c : ByteArray} {ws : List Int} {n : Nat} (h : spE A c ws n = 0) : A ≤ 4503599627370496 := by
  unfold spE at h
  have := mchk_or A c
  by_cases q : mchk A c = 0
  · rw [q] at this; omega
  · rw [if_pos q] at h; exact absurd h q
theorem sp_bd {A : Nat} {ws : List Int} {n : Nat} (hw : ∀ k, k < n → 1 ≤ ws.getD k 0) (i : Nat) : 0 ≤ (spP A ws n).getD i 0 ∧ (spP A ws n).getD i 0 ≤ (A : Int) + n := by
  have h := bumpK_bd (P := spQ A ws n) (ord := spO A ws n) (fun i => fillK_bd (Int.natCast_nonneg A) (fun i hi => ⟨Int.natCast_nonneg _, Int.ofNat_le.2 (q_le hw hi)⟩) n (Nat.le_refl _) i) (Int.natCast_nonneg A) (spL A ws n) i
  unfold spP
  have : spL A ws n ≤ n := Nat.min_le_right _ _
  omega
theorem pos_divide (row : List Int) (A : Nat) (c : ByteArray) (r : List Int) (s : Int) (hA : A ≤ 9223372036854775807) (hrow : row.length = 16) (hs : s = 1 ∨ s = -1) (hr : ∀ j, -4503599627370496 ≤ r.getD j 0 ∧ r.getD j 0 ≤ 4503599627370496) :
    FC Tryz.prog 2 116 [.ptr 1 0 0 0, .arr 16 [.ints .i64 r], .agg [.int .i64 A, .str c], .int .i64 s] [(1, some (.one false (.cols 16 [.sc (.ints .i64 row)])))] (isOut (.int .i64 (dvE A c r s)) [(1, some (.one false (.cols 16 [.sc (.ints .i64 (dvO row A c r s))])))] 2) := by
  have hrs : ∀ j, -4503599627370496 ≤ r.getD j 0 * s ∧ r.getD j 0 * s ≤ 4503599627370496 := fun j => by
    have := hr j
    rcases hs with e | e <;> subst e <;> omega
  refine fc_of mixed T_ok Tryz.func116 rfl (by kernel_rfl) (by kernel_rfl) (by kernel_rfl) ?_
  repeat' ((conv => whnf); first | ((first | apply br_dec | apply br_ndec) <;> intro h <;> try (exfalso; (try dsimp only at h); omega)) | ((first | apply br_seq | apply br_nseq | apply br_not | apply br_intro) <;> intro h) | refine cond_a ?_)
  all_goals (conv => whnf)
  refine vloop_lp (fun x : Nat × Nat => ⟨[(0, .ptr 1 0 0 0), (3, .int .i64 s), (6, .ptr 3 0 0 0), (17, .arr 16 [.ints .i64 r]), (18, .int .i64 x.1), (9, .sl 4 0 0 x.2), (10, .sl 5 0 0 x.2)], [(1, some (.one false (.cols 16 [.sc (.ints .i64 row)]))), (3, some (.one false (.cells [.int .i64 A, .str c]))), (4, some (.one false (.cols x.2 [.sc (.ints .i64 (wtK r s x.1))]))), (5, some (.one false (.cols x.2 [.sc (.ints .i64 (plK r s x.1))])))], 6⟩) (fun x => x.1 ≤ 16 ∧ (wtK r s x.1).length = x.2) (fun x => 16 - x.1) (0, 0) [0, 1, 2, 3, 4, 5] [.slot 9 [.sc (.ints .i64 [])], .slot 10 [.sc (.ints .i64 [])]] ⟨rfl, ⟨rfl, rfl, rfl, rfl, rfl, rfl, rfl, trivial⟩, ⟨rfl, rfl, rfl, rfl, trivial⟩⟩ ⟨Nat.zero_le _, rfl⟩ ?_
  rintro ⟨k, m⟩ ⟨hk, hm⟩
  dsimp only at hk hm
  have hml := wt_len r s k
  by_cases hk2 : k < 16
  · have hx := hrs k
    have e1 : IntKind.i64.wrap (r.getD k 0 * s) = r.getD k 0 * s := w64_in (by omega) (by omega)
    by_cases q : 0 < r.getD k 0 * s
    · have e2 : wtK r s (k + 1) = wtK r s k ++ [r.getD k 0 * s] := by simp only [wtK]; rw [if_pos q]
      have e3 : plK r s (k + 1) = plK r s k ++ [(k : Int)] := by simp only [plK]; rw [if_pos q]
      have hm2 : (wtK r s (k + 1)).length = m + 1 := by rw [e2, List.length_append, hm]; rfl
      have b2 : (some (HB.one false (.cols (m + 1) [.sc (.ints .i64 (wtK r s k ++ [r.getD k 0 * s]))])) : Option HB) = some (.one false (.cols (m + 1) [.sc (.ints .i64 (wtK r s (k + 1)))])) := by rw [e2]
      have b3 : (some (HB.one false (.cols (m + 1) [.sc (.ints .i64 (plK r s k ++ [(k : Int)]))])) : Option HB) = some (.one false (.cols (m + 1) [.sc (.ints .i64 (plK r s (k + 1)))])) := by rw [e3]
      repeat' ((conv => whnf); first | (simp only [e1]) | ((first | apply br_dec | apply br_ndec) <;> intro h <;> try (exfalso; (try dsimp only at h); omega)) | ((first | apply br_seq | apply br_nseq | apply br_not | apply br_intro) <;> intro h) | refine cond_a ?_)
      all_goals (conv => whnf)
      all_goals (try simp only [toNat0, Int.toNat_natCast, Nat.add_zero, e1] at *)
      all_goals first
        | exact ⟨(k + 1, m + 1), [0, 1, 2, 3, 7, 9], [], ⟨hk2, hm2⟩, (show 16 - (k + 1) < 16 - k by omega), ⟨rfl, ⟨rfl, rfl, rfl, rfl, congrArg (fun z => some (SV.int .i64 z)) (i64_succ (by omega)), rfl, rfl, trivial⟩, ⟨rfl, rfl, b2, b3, trivial⟩⟩⟩
        | (exfalso; omega)
        | trace_state
    · have e2 : wtK r s (k + 1) = wtK r s k := by simp only [wtK]; rw [if_neg q]
      have e3 : plK r s (k + 1) = plK r s k := by simp only [plK]; rw [if_neg q]
      have hm2 : (wtK r s (k + 1)).length = m := by rw [e2, hm]
      have b2 : (some (HB.one false (.cols m [.sc (.ints .i64 (wtK r s k))])) : Option HB) = some (.one false (.cols m [.sc (.ints .i64 (wtK r s (k + 1)))])) := by rw [e2]
      have b3 : (some (HB.one false (.cols m [.sc (.ints .i64 (plK r s k))])) : Option HB) = some (.one false (.cols m [.sc (.ints .i64 (plK r s (k + 1)))])) := by rw [e3]
      repeat' ((conv => whnf); first | (simp only [e1]) | ((first | apply br_dec | apply br_ndec) <;> intro h <;> try (exfalso; (try dsimp only at h); omega)) | ((first | apply br_seq | apply br_nseq | apply br_not | apply br_intro) <;> intro h) | refine cond_a ?_)
      all_goals (conv => whnf)
      all_goals (try simp only [toNat0, Int.toNat_natCast, Nat.add_zero, e1] at *)
      all_goals first
        | exact ⟨(k + 1, m), [0, 1, 2, 3, 4, 5], [], ⟨hk2, hm2⟩, (show 16 - (k + 1) < 16 - k by omega), ⟨rfl, ⟨rfl, rfl, rfl, rfl, congrArg (fun z => some (SV.int .i64 z)) (i64_succ (by omega)), rfl, rfl, trivial⟩, ⟨rfl, rfl, b2, b3, trivial⟩⟩⟩
        | (exfalso; omega)
        | trace_state
  have ek : k = 16 := by omega
  subst ek
  have hW := fun i (hi : i < m) => wt_bd (fun j => (hrs j).2) 16 i (by rw [hm]; exact hi)
  have cs := money_Split A c (wtK r s 16) m hA (by omega) (fun i hi => (hW i hi).1) (fun i hi => by have := (hW i hi).2; omega)
  unfold spOut at cs
  have hpl : (plK r s 16).length = m := by rw [pl_len, hm]
  unfold dvO
  have ed : dvE A c r s = spE A c (wtK r s 16) m := by unfold dvE dvN; rw [hm]
  by_cases he : spE A c (wtK r s 16) m = 0
  case neg =>
    rw [if_pos he] at cs
    rw [ed, if_neg he]
    repeat' ((conv => whnf); first | refine vcall_o (l := [0, 4]) (cs) ?_ | ((first | apply br_dec | apply br_ndec) <;> intro h <;> try (exfalso; (try dsimp only at h); omega)) | ((first | apply br_seq | apply br_nseq | apply br_not | apply br_intro) <;> intro h) | refine cond_a ?_)
    all_goals (conv => whnf)
    all_goals first
      | exact ret_out (l := [0, 1]) rfl rfl ⟨rfl, trivial⟩ (allRw_cons allRw_nil)
      | (exfalso; omega)
      | trace_state
  have hA2 := spE_le he
  have hP := sp_bd (A := A) (ws := wtK r s 16) (n := m) (fun i hi => (hW i hi).1)
  rw [if_neg (by simpa using he)] at cs
  rw [ed, if_pos he, he]
  have eR : dvR row A r s = dvK row (plK r s 16) (spP A (wtK r s 16) m) s m := by unfold dvR dvN; rw [hm]
  rw [eR]
  repeat' ((conv => whnf); first | refine vcall_o (l := [0, 4]) (cs) ?_ | ((first | apply br_dec | apply br_ndec) <;> intro h <;> try (exfalso; (try dsimp only at h); omega)) | ((first | apply br_seq | apply br_nseq | apply br_not | apply br_intro) <;> intro h) | refine cond_a ?_)
  all_goals (conv => whnf)
  all_goals first
    | (exfalso; omega)
    | skip
  refine vloop_lp (fun k : Nat => ⟨[(0, .ptr 1 0 0 0), (3, .int .i64 s), (10, .sl 2 0 0 m), (46, .sl 3 0 0 m), (47, .int .i64 m), (48, .int .i64 k)], [(1, some (.one false (.cols 16 [.sc (.ints .i64 (dvK row (plK r s 16) (spP A (wtK r s 16) m) s k))]))), (2, some (.one false (.cols m [.sc (.ints .i64 (plK r s 16))]))), (3, some (.one false (spB A c (wtK r s 16) m)))], 4⟩) (fun k => k ≤ m) (fun k => m - k) 0 [0, 1, 5, 6] [] ⟨rfl, ⟨rfl, rfl, rfl, rfl, rfl, rfl, trivial⟩, ⟨rfl, rfl, rfl, trivial⟩⟩ (Nat.zero_le _) ?_
  intro k hk
  by_cases hk2 : k < m
  · have hpk := pl_bd r s 16 k (by rw [hpl]; exact hk2)
    obtain ⟨o, eo⟩ := Int.eq_ofNat_of_zero_le hpk.1
    have hPk := hP k
    have eg : (fillK (fun i => (spP A (wtK r s 16) m).getD i 0) 0 m m).getD k 0 = (spP A (wtK r s 16) m).getD k 0 := fillK_get _ _ _ _ _ _ hk2 hk2
    have e1 : IntKind.i64.wrap ((spP A (wtK r s 16) m).getD k 0 * s) = (spP A (wtK r s 16) m).getD k 0 * s := by
      have key : ∀ x : Int, 0 ≤ x → x ≤ (A : Int) + m → IntKind.i64.wrap (x * s) = x * s := fun x g1 g2 => by
        rcases hs with e | e <;> rw [e] <;> exact w64_in (by omega) (by omega)
      exact key _ hPk.1 hPk.2
    have hl := dvK_len row (plK r s 16) (spP A (wtK r s 16) m) s k
    have e2 : dvK row (plK r s 16) (spP A (wtK r s 16) m) s (k + 1) = (dvK row (plK r s 16) (spP A (wtK r s 16) m) s k).set o ((spP A (wtK r s 16) m).getD k 0 * s) := by simp only [dvK]; rw [eo, Int.toNat_natCast]
    have b2 : (some (HB.one false (.cols 16 [.sc (.ints .i64 ((dvK row (plK r s 16) (spP A (wtK r s 16) m) s k).set o ((spP A (wtK r s 16) m).getD k 0 * s)))])) : Option HB) = some (.one false (.cols 16 [.sc (.ints .i64 (dvK row (plK r s 16) (spP A (wtK r s 16) m) s (k + 1)))])) := by rw [e2]
    repeat' ((conv => whnf); first | ((first | apply br_dec | apply br_ndec) <;> intro h <;> try (exfalso; (try dsimp only at h); omega)) | ((first | apply br_seq | apply br_nseq | apply br_not | apply br_intro) <;> intro h) | refine cond_a ?_)
    all_goals (conv => whnf)
    all_goals (try simp only [toNat0, Int.toNat_natCast, Nat.add_zero, eo, eg, e1] at *)
    all_goals first
      | exact ⟨k + 1, [0, 1, 2, 3], [], hk2, (show m - (k + 1) < m - k by omega), ⟨rfl, ⟨rfl, rfl, rfl, rfl, rfl, congrArg (fun z => some (SV.int .i64 z)) (i64_succ (by omega)), trivial⟩, ⟨b2, rfl, rfl, trivial⟩⟩⟩
      | (exfalso; omega)
      | trace_state
  · have e : k = m := by omega
    subst e
    repeat' ((conv => whnf); first | ((first | apply br_dec | apply br_ndec) <;> intro h <;> try (exfalso; (try dsimp only at h); omega)) | ((first | apply br_seq | apply br_nseq | apply br_not | apply br_intro) <;> intro h) | refine cond_a ?_)
    all_goals (conv => whnf)
    all_goals first
      | exact ret_out (l := [0, 1]) rfl rfl ⟨rfl, trivial⟩ (allRw_cons allRw_nil)
      | (exfalso; omega)
      | trace_state
end Go.Proofs.YtkdjnmcaifejjaaGreatDoor

/- Contracts of package money: decimal places. -/
namespace Go.Proofs.YtkdjnmcaifejjaaGreatDoor
open Go.RowKit Go.Sy
attribute [local irreducible] vcall vloop vcallD retP
set_option maxRecDepth 100000
set_option linter.unusedVariables false

def exS : List ByteArray := [⟨#[74, 80, 89]⟩, ⟨#[75, 82, 87]⟩, ⟨#[86, 78, 68]⟩, ⟨#[67, 76, 80]⟩, ⟨#[73, 83, 75]⟩, ⟨#[66, 72, 68]⟩, ⟨#[75, 87, 68]⟩, ⟨#[74, 79, 68]⟩, ⟨#[79, 77, 82]⟩, ⟨#[84, 78, 68]⟩]
def exN : List Int := [0, 0, 0, 0, 0, 3, 3, 3, 3, 3]
/-- The decimal places that the table has from row k on, of n rows. -/
def exFrom (s : ByteArray) : Nat → Nat → Int
  | 0, _ => 2
  | n + 1, k => if exS.getD k ⟨#[]⟩ = s then exN.getD k 0 else exFrom s n (k + 1)
def expo (s : ByteArray) : Int := if curB s = true then exFrom s 10 0 else 0
attribute [irreducible] expo
theorem money_Exponent (s : ByteArray) : Glob Tryz.prog glT 208 [.str s] (.tup [.int .i64 (expo s), .bool (curB s)]) := by
  refine fc_of mixed T_ok Tryz.func208 rfl (by kernel_rfl) (by kernel_rfl) (by kernel_rfl) ?_
  repeat' ((conv => whnf); first | (refine vcall_pure (money_isCurrency _) rfl rfl rfl ?_) | ((first | apply br_dec | apply br_ndec) <;> intro h <;> try (exfalso; (try dsimp only at h); omega)) | ((first | apply br_seq | apply br_nseq | apply br_not | apply br_intro) <;> intro h) | refine cond_a ?_)
  all_goals (conv => whnf)
  · exact ret_pure (by simp [expo, oneOr, h, cv])
  · have hcur := h
    clear h
    refine vloop_of (fun k : Nat => ⟨[(0, .str s), (9, .arr 10 [.strs exS, .ints .i64 exN]), (10, .int .i64 k)], [], 1⟩) (fun k => k ≤ 10 ∧ exFrom s (10 - k) k = exFrom s 10 0) (fun k => 10 - k) 0 [0] [] ⟨rfl, ⟨rfl, rfl, rfl, trivial⟩, trivial⟩ ⟨by omega, rfl⟩ ?_
    rintro k ⟨hk, hc⟩
    repeat' ((conv => whnf); first | ((first | apply br_dec | apply br_ndec) <;> intro h <;> try (exfalso; (try dsimp only at h); omega)) | ((first | apply br_seq | apply br_nseq | apply br_not | apply br_intro) <;> intro h) | refine cond_a ?_)
    all_goals (conv => whnf)
    · refine ret_pure ?_
      have e : expo s = exN.getD k 0 := by
        unfold expo; rw [if_pos hcur, ← hc, show 10 - k = (10 - k - 1) + 1 from by omega, exFrom, if_pos (by assumption)]
      rw [e, hcur]; rfl
    · refine ⟨k + 1, [0], [], ⟨by omega, ?_⟩, by omega, ⟨rfl, ⟨rfl, rfl, congrArg (fun z => some (SV.int .i64 z)) (i64_succ (by omega)), trivial⟩, trivial⟩⟩
      rw [← hc, show 10 - k = (10 - (k + 1)) + 1 from by omega, exFrom, if_neg (by assumption)]
    · have e : k = 10 := by omega
      subst e
      refine ret_pure ?_
      have : expo s = 2 := by unfold expo; rw [if_pos hcur, ← hc]; rfl
      rw [this, hcur]; rfl
end Go.Proofs.YtkdjnmcaifejjaaGreatDoor

/- Contracts of package rate, and of the reference's: checks, fractions in lowest terms. -/
namespace Go.Proofs.YtkdjnmcaifejjaaGreatDoor
open Go.RowKit Go.Sy
attribute [local irreducible] vcall vloop vcallD retP
set_option maxRecDepth 100000
set_option linter.unusedVariables false

theorem rate_isCurrency (s : ByteArray) : Glob Tryz.prog glT 187 [.str s] (.bool (curB s)) := by
  refine fc_of mixed T_ok Tryz.func187 rfl (by kernel_rfl) (by kernel_rfl) (by kernel_rfl) ?_
  repeat' ((conv => whnf); first | (refine vcall_glob (money_Exponent _) rfl rfl rfl rfl ?_) | ((first | apply br_dec | apply br_ndec) <;> intro h <;> try (exfalso; (try dsimp only at h); omega)) | ((first | apply br_seq | apply br_nseq | apply br_not | apply br_intro) <;> intro h) | refine cond_a ?_)
  all_goals (conv => whnf)
  all_goals exact ret_pure rfl

/-- The error of a rate. -/
def rchk (f t : ByteArray) (n d : Int) : Int :=
  if curB f = false ∨ curB t = false ∨ f = t then 11 else if n < 1 ∨ 1099511627776 < n ∨ d < 1 ∨ 1099511627776 < d then 4 else 0
theorem rchk_or (f t : ByteArray) (n d : Int) : rchk f t n d = 11 ∨ rchk f t n d = 4 ∨ (rchk f t n d = 0 ∧ curB f = true ∧ curB t = true ∧ f ≠ t ∧ 1 ≤ n ∧ n ≤ 1099511627776 ∧ 1 ≤ d ∧ d ≤ 1099511627776) := by
  unfold rchk
  split
  · exact .inl rfl
  · split
    · exact .inr (.inl rfl)
    · rename_i h1 h2
      refine .inr (.inr ⟨rfl, ?_, ?_, ?_, ?_⟩)
      · cases h : curB f <;> simp_all
      · cases h : curB t <;> simp_all
      · intro h; exact h1 (.inr (.inr h))
      · omega
theorem rchk_ok {f t : ByteArray} {n d : Int} (h : rchk f t n d = 0) : curB f = true ∧ curB t = true ∧ f ≠ t ∧ 1 ≤ n ∧ n ≤ 1099511627776 ∧ 1 ≤ d ∧ d ≤ 1099511627776 := by
  rcases rchk_or f t n d with e | e | e
  · omega
  · omega
  · exact e.2
attribute [irreducible] rchk
theorem rate_Check (f t : ByteArray) (n d : Int) : Glob Tryz.prog glT 155 [.agg [.str f, .str t, .int .i64 n, .int .i64 d]] (.int .i64 (rchk f t n d)) := by
  refine fc_of mixed T_ok Tryz.func155 rfl (by kernel_rfl) (by kernel_rfl) (by kernel_rfl) ?_
  repeat' ((conv => whnf); first | (refine vcall_glob (rate_isCurrency _) rfl rfl rfl rfl ?_) | ((first | apply br_dec | apply br_ndec) <;> intro h <;> try (exfalso; (try dsimp only at h); omega)) | ((first | apply br_seq | apply br_nseq | apply br_not | apply br_intro) <;> intro h) | refine cond_a ?_)
  all_goals (conv => whnf)
  all_goals refine ret_pure ?_
  all_goals simp only [oneOr, cv, rchk, SV.int.injEq, true_and]
  all_goals first
    | (rw [if_pos (by simp_all)]; done)
    | (rw [if_neg (by simp_all), if_pos (by omega)]; done)
    | (rw [if_neg (by simp_all), if_neg (by omega)]; done)

/-- The greatest common divisor. -/
def gcdI (a b : Int) : Int := (Nat.gcd a.toNat b.toNat : Nat)
attribute [irreducible] gcdI
theorem gcdI_step {a b : Int} (ha : 0 ≤ a) (hb : 1 ≤ b) : gcdI b (a.tmod b) = gcdI a b := by
  unfold gcdI
  rw [Int.tmod_eq_emod_of_nonneg ha, Int.toNat_emod ha (by omega), Nat.gcd_comm a.toNat, Nat.gcd_rec b.toNat a.toNat]
  rw [Nat.gcd_comm (a.toNat % b.toNat)]
theorem gcdI_zero {a : Int} (ha : 0 ≤ a) : gcdI a 0 = a := by unfold gcdI; simp; omega

theorem rate_divisor (a b : Int) (ha : 1 ≤ a) (hb : 1 ≤ b) : Pure Tryz.prog 207 [.int .i64 a, .int .i64 b] (.int .i64 (gcdI a b)) := by
  refine fc_of mixed T_ok Tryz.func207 rfl (by kernel_rfl) (by kernel_rfl) (by kernel_rfl) ?_
  (conv => whnf)
  refine vloop_of (fun x : Int × Int => ⟨[(0, .int .i64 x.1), (1, .int .i64 x.2)], [], 1⟩) (fun x => 0 ≤ x.1 ∧ 0 ≤ x.2 ∧ gcdI x.1 x.2 = gcdI a b) (fun x => x.2.toNat) (a, b) [0] [] ⟨rfl, ⟨rfl, rfl, trivial⟩, trivial⟩ ⟨by omega, by omega, rfl⟩ ?_
  rintro ⟨x, y⟩ ⟨hx, hy, hg⟩
  dsimp only at *
  repeat' ((conv => whnf); first | ((first | apply br_dec | apply br_ndec) <;> intro h <;> try (exfalso; (try dsimp only at h); omega)) | ((first | apply br_seq | apply br_nseq | apply br_not | apply br_intro) <;> intro h) | refine cond_a ?_)
  all_goals (conv => whnf)
  · have h1 := Int.tmod_nonneg y hx
    have h2 := Int.tmod_lt_of_pos x (b := y) (by omega)
    exact ⟨(y, x.tmod y), [0], [], ⟨hy, h1, by rw [gcdI_step hx (by omega), hg]⟩, by dsimp only; omega, ⟨rfl, ⟨rfl, rfl, trivial⟩, trivial⟩⟩
  · have e : y = 0 := by omega
    subst e
    rw [gcdI_zero hx] at hg
    exact ret_pure (by rw [← hg]; rfl)

theorem gcdI_pos {a b : Int} (ha : 1 ≤ a) (hb : 1 ≤ b) : 1 ≤ gcdI a b ∧ gcdI a b ≤ a ∧ gcdI a b ≤ b := by
  unfold gcdI
  have h1 : 0 < Nat.gcd a.toNat b.toNat := Nat.gcd_pos_of_pos_left _ (by omega)
  have h2 : Nat.gcd a.toNat b.toNat ≤ a.toNat := Nat.gcd_le_left _ (by omega)
  have h3 : Nat.gcd a.toNat b.toNat ≤ b.toNat := Nat.gcd_le_right _ (by omega)
  omega

/-- A fraction in lowest terms. -/
def redN (a b : Int) : Int := if a < 1 ∨ b < 1 then a else a.tdiv (gcdI a b)
def redD (a b : Int) : Int := if a < 1 ∨ b < 1 then b else b.tdiv (gcdI a b)
theorem tdiv_bd {a g : Int} (ha : 1 ≤ a) (hg : 1 ≤ g) (hga : g ≤ a) : 1 ≤ a.tdiv g ∧ a.tdiv g ≤ a := by
  rw [Int.tdiv_eq_ediv_of_nonneg (by omega)]
  refine ⟨?_, Int.ediv_le_self _ (by omega)⟩
  have := Int.ediv_le_ediv (c := g) (by omega) hga
  rw [Int.ediv_self (by omega)] at this
  exact this
theorem red_bd {a b : Int} (ha : 1 ≤ a) (hb : 1 ≤ b) : 1 ≤ redN a b ∧ redN a b ≤ a ∧ 1 ≤ redD a b ∧ redD a b ≤ b := by
  obtain ⟨g1, g2, g3⟩ := gcdI_pos ha hb
  unfold redN redD
  rw [if_neg (by omega), if_neg (by omega)]
  have h1 := tdiv_bd ha g1 g2
  have h2 := tdiv_bd hb g1 g3
  omega
attribute [irreducible] redN redD
theorem rate_Reduce (a b : Int) (ha : a ≤ 9223372036854775807) (hb : b ≤ 9223372036854775807) : Pure Tryz.prog 186 [.int .i64 a, .int .i64 b] (.tup [.int .i64 (redN a b), .int .i64 (redD a b)]) := by
  refine fc_of mixed T_ok Tryz.func186 rfl (by kernel_rfl) (by kernel_rfl) (by kernel_rfl) ?_
  by_cases hab : a < 1 ∨ b < 1
  · have e1 : redN a b = a := by unfold redN; rw [if_pos hab]
    have e2 : redD a b = b := by unfold redD; rw [if_pos hab]
    rw [e1, e2]
    repeat' ((conv => whnf); first | ((first | apply br_dec | apply br_ndec) <;> intro h <;> try (exfalso; (try dsimp only at h); omega)) | ((first | apply br_seq | apply br_nseq | apply br_not | apply br_intro) <;> intro h) | refine cond_a ?_)
    all_goals (conv => whnf)
    all_goals exact ret_pure rfl
  · obtain ⟨g1, g2, g3⟩ := gcdI_pos (a := a) (b := b) (by omega) (by omega)
    have t1 := tdiv_bd (a := a) (by omega) g1 g2
    have t2 := tdiv_bd (a := b) (by omega) g1 g3
    have e1 : redN a b = IntKind.i64.wrap (a.tdiv (gcdI a b)) := by rw [w64_in (by omega) (by omega)]; unfold redN; rw [if_neg hab]
    have e2 : redD a b = IntKind.i64.wrap (b.tdiv (gcdI a b)) := by rw [w64_in (by omega) (by omega)]; unfold redD; rw [if_neg hab]
    have hd := rate_divisor a b (by omega) (by omega)
    rw [e1, e2]
    repeat' ((conv => whnf); first | (refine vcall_pure (hd) rfl rfl rfl ?_) | ((first | apply br_dec | apply br_ndec) <;> intro h <;> try (exfalso; (try dsimp only at h); omega)) | ((first | apply br_seq | apply br_nseq | apply br_not | apply br_intro) <;> intro h) | refine cond_a ?_)
    all_goals (conv => whnf)
    all_goals exact ret_pure rfl

end Go.Proofs.YtkdjnmcaifejjaaGreatDoor

/- Contracts of the library: numbers in decimal. -/
namespace Go.Proofs.YtkdjnmcaifejjaaGreatDoor
open Go.RowKit Go.Sy
attribute [local irreducible] vcall vloop vcallD retP
set_option maxRecDepth 100000
set_option linter.unusedVariables false
set_option linter.unusedSimpArgs false

end Go.Proofs.YtkdjnmcaifejjaaGreatDoor

/- Contracts of the library: FormatInt. -/
namespace Go.Proofs.YtkdjnmcaifejjaaGreatDoor
open Go.RowKit Go.Sy
attribute [local irreducible] vcall vloop vcallD retP
set_option maxRecDepth 100000
set_option linter.unusedVariables false
set_option linter.unusedSimpArgs false

end Go.Proofs.YtkdjnmcaifejjaaGreatDoor

