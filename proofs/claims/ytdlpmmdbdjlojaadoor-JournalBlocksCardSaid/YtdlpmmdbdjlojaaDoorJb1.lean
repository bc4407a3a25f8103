/- Several texts in one: XNum, XFmtC, XFmtC2, XFmtC3, XBitsP, XBitsM, XWireP, XWireC, XWireC2, XWireC3, XWireC4, XWireC5, XWireC6, XWireC7, XJrP, XBld, XBldC, XJrC, XJrD, XJrE, XJrF, XDiskC, XDiskC2, XDiskC3. -/
import Derived.Test.YtdlpmmdbdjlojaaDoorYLib
import Derived.Test.YtdlpmmdbdjlojaaDoorTab
import Derived.WalkKit
import Derived.Lib.Builder
import Derived.Lib.AppendStr
import Derived.Lib.UnsafeStr
import Derived.Lib.Strings
import Derived.Lib.Slices
import Derived.Lib.Walk
import Derived.Shelf.RegionOpenPlain
import Derived.Test.YtdlpmmdbdjlojaaDoorYCalls
/- Plain facts on numbers: decimal digits, lengths in bits, division. No program in sight. -/
namespace Go.Sy
open Go.RowKit

theorem u32_in' {n : Int} (h : 0 ≤ n) (h' : n ≤ 4294967295) : IntKind.u32.wrap n = n := IntWalk.u32_in n ⟨h, h'⟩
theorem u64_in' {n : Int} (h : 0 ≤ n) (h' : n ≤ 18446744073709551615) : IntKind.u64.wrap n = n := IntWalk.u64_in n ⟨h, h'⟩
theorem u8_in' {n : Int} (h : 0 ≤ n) (h' : n ≤ 255) : IntKind.u8.wrap n = n := IntWalk.u8_in n ⟨h, h'⟩
theorem ishr_lit {k : IntKind} {x : Int} (n : Nat) (h : n ≤ k.bits) : ishr k x (n : Int) = x / 2 ^ n := by
  unfold ishr
  rw [Int.toNat_natCast, Nat.min_eq_left h, Int.fdiv_eq_ediv_of_nonneg]
  exact Int.pow_nonneg (by omega)
theorem ishr_lit8 {x : Int} : ishr .u64 x 8 = x / 256 := ishr_lit (k := .u64) 8 (by decide)
theorem ishr_lit16 {x : Int} : ishr .u64 x 16 = x / 65536 := ishr_lit (k := .u64) 16 (by decide)
theorem ishr_lit32 {x : Int} : ishr .u64 x 32 = x / 4294967296 := ishr_lit (k := .u64) 32 (by decide)
theorem ishr_lit18 {x : Int} : ishr .i64 x 18 = x / 262144 := ishr_lit (k := .i64) 18 (by decide)
theorem sz_lt {s : ByteArray} {x : Int} {n : Nat} (h : s.size = n) (k : x < (n : Int)) : x < (s.size : Int) := by rw [h]; exact k
theorem sz_le {s : ByteArray} {x : Int} {n : Nat} (h : s.size = n) (k : x ≤ (n : Int)) : x ≤ (s.size : Int) := by rw [h]; exact k

/-- The last n decimal digits of a number, as bytes. -/
def digs : Nat → Nat → List Int
  | 0, _ => []
  | n + 1, u => digs n (u / 10) ++ [((48 + u % 10 : Nat) : Int)]

theorem digs_length : ∀ n u, (digs n u).length = n
  | 0, _ => rfl
  | n + 1, u => by simp [digs, digs_length n]

theorem digs_get : ∀ (n u i : Nat), i < n → (digs n u)[i]? = some ((48 + u / 10 ^ (n - 1 - i) % 10 : Nat) : Int)
  | 0, _, i, h => by omega
  | n + 1, u, i, h => by
    simp only [digs]
    by_cases e : i < n
    · rw [List.getElem?_append_left (by rw [digs_length]; exact e), digs_get n (u / 10) i e, Nat.div_div_eq_div_mul, show 10 * 10 ^ (n - 1 - i) = 10 ^ (n + 1 - 1 - i) from by rw [← Nat.pow_succ']; congr 1; omega]
    · have e' : i = n := by omega
      subst e'
      rw [List.getElem?_append_right (by rw [digs_length]; exact Nat.le_refl _), digs_length]
      simp

/-- The number of decimal digits. -/
def ndig (u : Nat) : Nat := if u < 10 then 1 else ndig (u / 10) + 1
termination_by u
decreasing_by omega

theorem ndig_pos (u : Nat) : 0 < ndig u := by rw [ndig]; split <;> omega

theorem ndig_lt (u : Nat) : u < 10 ^ ndig u := by
  induction u using Nat.strongRecOn with
  | _ u ih =>
    rw [ndig]
    split
    · simpa using ‹u < 10›
    · have := ih (u / 10) (by omega)
      rw [Nat.pow_succ]
      omega

theorem ndig_ge (u : Nat) (h : 1 ≤ u) : 10 ^ (ndig u - 1) ≤ u := by
  induction u using Nat.strongRecOn with
  | _ u ih =>
    rw [ndig]
    split
    · simpa using h
    · have := ih (u / 10) (by omega) (by omega)
      have hp := ndig_pos (u / 10)
      rw [show ndig (u / 10) + 1 - 1 = (ndig (u / 10) - 1) + 1 from by omega, Nat.pow_succ]
      omega

theorem ndig_unique {u k : Nat} (h1 : 10 ^ k ≤ u) (h2 : u < 10 ^ (k + 1)) : ndig u = k + 1 := by
  have hu : 1 ≤ u := Nat.le_trans (Nat.one_le_pow _ _ (by omega)) h1
  have a := ndig_lt u
  have b := ndig_ge u hu
  have hp := ndig_pos u
  rcases Nat.lt_trichotomy (ndig u) (k + 1) with h | h | h
  · have : 10 ^ ndig u ≤ 10 ^ k := Nat.pow_le_pow_right (by omega) (by omega)
    omega
  · exact h
  · have : 10 ^ (k + 1) ≤ 10 ^ (ndig u - 1) := Nat.pow_le_pow_right (by omega) (by omega)
    omega

/-- A number from 0 on in decimal. -/
def dec (u : Nat) : ByteArray := bytesOf (digs (ndig u) u)
/-- An integer in decimal. -/
def decI (n : Int) : ByteArray := if n < 0 then bytesOf (45 :: digs (ndig n.natAbs) n.natAbs) else dec n.toNat

/-- The length of a number in bits. -/
def blen (u : Nat) : Nat := if u = 0 then 0 else u.log2 + 1

theorem blen_lt (u : Nat) : u < 2 ^ blen u := by
  unfold blen
  split
  · omega
  · exact Nat.lt_log2_self
theorem blen_ge (u : Nat) (h : 1 ≤ u) : 2 ^ (blen u - 1) ≤ u := by
  unfold blen
  rw [if_neg (by omega), Nat.add_sub_cancel]
  exact Nat.log2_self_le (by omega)
theorem blen_unique {u k : Nat} (h1 : 2 ^ k ≤ u) (h2 : u < 2 ^ (k + 1)) : blen u = k + 1 := by
  have hu : 1 ≤ u := Nat.le_trans (Nat.one_le_pow _ _ (by omega)) h1
  have a := blen_lt u
  have b := blen_ge u hu
  have hp : 0 < blen u := by unfold blen; rw [if_neg (by omega)]; omega
  rcases Nat.lt_trichotomy (blen u) (k + 1) with h | h | h
  · have : 2 ^ blen u ≤ 2 ^ k := Nat.pow_le_pow_right (by omega) (by omega)
    omega
  · exact h
  · have : 2 ^ (k + 1) ≤ 2 ^ (blen u - 1) := Nat.pow_le_pow_right (by omega) (by omega)
    omega
theorem blen_le64 {u : Nat} (h : u < 2 ^ 64) : blen u ≤ 64 := by
  rcases Nat.lt_or_ge 64 (blen u) with h1 | h1
  · have hu : 1 ≤ u := by
      rcases Nat.eq_zero_or_pos u with e | e
      · subst e; simp [blen] at h1
      · exact e
    have a := blen_ge u hu
    have : 2 ^ 64 ≤ 2 ^ (blen u - 1) := Nat.pow_le_pow_right (by omega) (by omega)
    omega
  · exact h1
theorem blen_shift (u k : Nat) (h : 2 ^ k ≤ u) : blen u = k + blen (u / 2 ^ k) := by
  have h1 : 1 ≤ u / 2 ^ k := (Nat.one_le_div_iff (Nat.two_pow_pos k)).2 h
  have a := blen_lt (u / 2 ^ k)
  have b := blen_ge (u / 2 ^ k) h1
  have hp : 0 < blen (u / 2 ^ k) := by unfold blen; rw [if_neg (by omega)]; omega
  have : blen u = (k + blen (u / 2 ^ k) - 1) + 1 := by
    refine blen_unique ?_ ?_
    · rw [show k + blen (u / 2 ^ k) - 1 = (blen (u / 2 ^ k) - 1) + k from by omega, Nat.pow_add]
      exact (Nat.le_div_iff_mul_le (Nat.two_pow_pos k)).1 b
    · rw [show k + blen (u / 2 ^ k) - 1 + 1 = blen (u / 2 ^ k) + k from by omega, Nat.pow_add]
      exact (Nat.div_lt_iff_lt_mul (Nat.two_pow_pos k)).1 a
  omega

/-- How many digits: as the library reckons it. -/
theorem ndig_by_blen : ∀ L, L ≤ 64 → 1 ≤ L → 10 ^ (L * 78913 / 2 ^ 18) ≤ 2 ^ L ∧ 2 ^ L ≤ 10 ^ (L * 78913 / 2 ^ 18 + 1) ∧ (L * 78913 / 2 ^ 18 = 0 ∨ 10 ^ (L * 78913 / 2 ^ 18 - 1) ≤ 2 ^ (L - 1)) := by
  decide +kernel
theorem ndig_lib {u : Nat} (h1 : 1 ≤ u) (h2 : u < 2 ^ 64) : ndig u = blen u * 78913 / 2 ^ 18 + (if 10 ^ (blen u * 78913 / 2 ^ 18) ≤ u then 1 else 0) := by
  have hp : 1 ≤ blen u := by unfold blen; rw [if_neg (by omega)]; omega
  obtain ⟨a, b, c⟩ := ndig_by_blen (blen u) (blen_le64 h2) hp
  have d := blen_lt u
  have e := blen_ge u h1
  generalize blen u * 78913 / 2 ^ 18 = k at *
  split
  · exact ndig_unique ‹_› (Nat.lt_of_lt_of_le d b)
  · rcases c with c | c
    · subst c; rename_i h; simp at h; omega
    · have hk : k ≠ 0 := by intro h; subst h; rename_i h; simp at h; omega
      have := ndig_unique (u := u) (k := k - 1) (Nat.le_trans c e) (by rw [show k - 1 + 1 = k from by omega]; omega)
      omega

/-- A table of bytes. -/
def tabB (s : ByteArray) (n : Nat) (f : Nat → Nat) : Bool := decide (s.size = n) && (List.range n).all (fun i => Nat.beq (s.data.toList.getD i 0).toNat (f i))
theorem tabB_at {s : ByteArray} {n : Nat} {f : Nat → Nat} (h : tabB s n f = true) {i : Nat} (hi : i < n) : byteAt s (i : Int) = (f i : Int) := by
  unfold tabB at h
  simp only [Bool.and_eq_true, List.all_eq_true, List.mem_range] at h
  unfold byteAt
  rw [Int.toNat_natCast, Nat.eq_of_beq_eq_true (h.2 i hi)]
def smF (i : Nat) : Nat := if i % 2 = 0 then 48 + i / 20 else 48 + i / 2 % 10
theorem sm_odd {s : ByteArray} (h : tabB s 200 smF = true) {y : Int} (h0 : 0 ≤ y) (h1 : y < 100) : byteAt s (y * 2 + 1) = 48 + y % 10 := by
  have e : y * 2 + 1 = ((y.toNat * 2 + 1 : Nat) : Int) := by omega
  rw [e, tabB_at h (by omega)]
  unfold smF
  rw [if_neg (by omega)]
  omega
theorem sm_even {s : ByteArray} (h : tabB s 200 smF = true) {y : Int} (h0 : 0 ≤ y) (h1 : y < 100) : byteAt s (y * 2) = 48 + y / 10 := by
  have e : y * 2 = ((y.toNat * 2 : Nat) : Int) := by omega
  rw [e, tabB_at h (by omega)]
  unfold smF
  rw [if_pos (by omega)]
  omega

/-- Digits that are written from behind: m of n digits of U, from place o on. -/
def dtab (l : List Int) (N o n U m : Nat) : List Int := (List.range N).map (fun x => if o + n - m ≤ x ∧ x < o + n then ((48 + U / 10 ^ (o + n - 1 - x) % 10 : Nat) : Int) else l.getD x 0)
theorem dtab_length (l : List Int) (N o n U m : Nat) : (dtab l N o n U m).length = N := by simp [dtab]
theorem dtab_zero {l : List Int} {N o n U : Nat} (h : l.length = N) : dtab l N o n U 0 = l := by
  apply List.ext_getElem?
  intro i
  simp only [dtab, List.getElem?_map]
  by_cases hi : i < N
  · rw [List.getElem?_range hi]
    simp only [Option.map_some]
    rw [if_neg (by omega), List.getD, List.getElem?_eq_getElem (by omega)]
    rfl
  · rw [List.getElem?_eq_none (by simp; omega), List.getElem?_eq_none (by omega)]; rfl
theorem dtab_set {l : List Int} {N o n U m i : Nat} {v : Int} (hm : m < n) (hN : o + n ≤ N) (hi : i = o + n - m - 1) (hv : v = ((48 + U / 10 ^ m % 10 : Nat) : Int)) : (dtab l N o n U m).set i v = dtab l N o n U (m + 1) := by
  subst hi
  apply List.ext_getElem?
  intro x
  rw [List.getElem?_set, dtab_length]
  by_cases e : o + n - m - 1 = x
  · subst e
    rw [if_pos rfl, if_pos (by omega)]
    simp only [dtab, List.getElem?_map]
    rw [List.getElem?_range (by omega)]
    simp only [Option.map_some]
    rw [if_pos (by omega), hv, show o + n - 1 - (o + n - m - 1) = m from by omega]
  · rw [if_neg e]
    simp only [dtab, List.getElem?_map]
    by_cases hx : x < N
    · rw [List.getElem?_range hx]
      simp only [Option.map_some]
      by_cases h2 : o + n - m ≤ x ∧ x < o + n
      · rw [if_pos h2, if_pos (by omega)]
      · rw [if_neg h2, if_neg (by omega)]
    · rw [List.getElem?_eq_none (by simp; omega)]; rfl
theorem dtab_seg {l : List Int} {N o n U : Nat} (hN : o + n ≤ N) : seg o n (dtab l N o n U n) = digs n U := by
  apply List.ext_getElem?
  intro i
  unfold seg
  by_cases hi : i < n
  · rw [List.getElem?_take, if_pos hi, List.getElem?_drop, digs_get _ _ _ hi]
    simp only [dtab, List.getElem?_map]
    rw [List.getElem?_range (by omega)]
    simp only [Option.map_some]
    rw [if_pos (by omega), show o + n - 1 - (o + i) = n - 1 - i from by omega]
  · rw [List.getElem?_take, if_neg hi, List.getElem?_eq_none (by rw [digs_length]; omega)]
theorem pow_step (U m j : Nat) : U / 10 ^ (m + j) = U / 10 ^ m / 10 ^ j := by rw [Nat.pow_add, Nat.div_div_eq_div_mul]
attribute [irreducible] dtab dec decI
theorem seg_head {L : List Int} {n : Nat} {v : Int} (h : 0 < L.length) : seg 0 (1 + n) (L.set 0 v) = v :: seg 1 n L := by
  cases L with
  | nil => simp at h
  | cons x l => simp [seg, Nat.add_comm 1 n]
end Go.Sy

/- Contracts of the library: numbers in decimal. -/
namespace Go.Proofs.YtdlpmmdbdjlojaaDoor
open Go.RowKit Go.Sy
attribute [local irreducible] vcall vloop vcallD retP
set_option maxRecDepth 100000
set_option linter.unusedVariables false
set_option linter.unusedSimpArgs false

theorem l8_at {s : ByteArray} (h : tabB s 256 blen = true) {x : Int} (h0 : 0 ≤ x) (h1 : x < 256) : byteAt s x = (blen x.toNat : Int) := by
  have := tabB_at h (i := x.toNat) (by omega)
  rw [← this, Int.toNat_of_nonneg h0]
theorem blen_small {u : Nat} (h : u < 256) : blen u ≤ 8 := by
  rcases Nat.lt_or_ge 8 (blen u) with h1 | h1
  · have hu : 1 ≤ u := by
      rcases Nat.eq_zero_or_pos u with e | e
      · subst e; simp [blen] at h1
      · exact e
    have a := blen_ge u hu
    have : 2 ^ 8 ≤ 2 ^ (blen u - 1) := Nat.pow_le_pow_right (by omega) (by omega)
    omega
  · exact h1

theorem len_fin {u c : Nat} {x : Int} (hx : x = ((u / 2 ^ c : Nat) : Int)) (h : c = 0 ∨ 2 ^ c ≤ u) : (c : Int) + (blen x.toNat : Int) = (blen u : Int) := by
  subst hx
  rw [Int.toNat_natCast]
  rcases h with rfl | h
  · simp
  · rw [blen_shift u c h]; omega

theorem len_fin' {u c : Nat} {x n : Int} (hn : n = (c : Int)) (hc : c ≤ 56) (hx : x = ((u / 2 ^ c : Nat) : Int)) (h : c = 0 ∨ 2 ^ c ≤ u) (h1 : x < 256) : IntKind.i64.wrap (n + IntKind.i64.wrap (blen x.toNat : Int)) = (blen u : Int) := by
  have hb := blen_small (u := x.toNat) (by omega)
  rw [w64_in (n := (blen x.toNat : Int)) (by omega) (by omega), w64_in (by omega) (by omega), hn]
  exact len_fin hx h

theorem bits_Len64 (u : Nat) (hu : u < 18446744073709551616) : Pure Tryd.prog 82 [.int .u64 u] (.int .i64 (blen u)) := by
  refine fc_of mixed T_ok Tryd.func82 rfl (by kernel_rfl) (by kernel_rfl) (by kernel_rfl) ?_
  repeat' ((conv => whnf); first | (refine cond_intro ⟨by (try simp only [ishr_lit8, ishr_lit16, ishr_lit32, ishr_lit18] at *); (try simp (disch := omega) only [w64_in, u32_in', u64_in', u8_in', ishr_lit8, ishr_lit16, ishr_lit32, ishr_lit18, Int.tmod_eq_emod_of_nonneg, Int.tdiv_eq_ediv_of_nonneg, Int.toNat_natCast, Nat.add_zero]); omega, sz_lt (n := 256) (by kernel_rfl) (by (try simp only [ishr_lit8, ishr_lit16, ishr_lit32, ishr_lit18] at *); (try simp (disch := omega) only [w64_in, u32_in', u64_in', u8_in', ishr_lit8, ishr_lit16, ishr_lit32, ishr_lit18, Int.tmod_eq_emod_of_nonneg, Int.tdiv_eq_ediv_of_nonneg, Int.toNat_natCast, Nat.add_zero]); omega)⟩ ?_) | ((first | apply br_dec | apply br_ndec) <;> intro h <;> try (exfalso; (try dsimp only at h); omega)) | ((first | apply br_seq | apply br_nseq | apply br_not | apply br_intro) <;> intro h) | refine cond_a ?_)
  all_goals (conv => whnf)
  all_goals refine ret_pure ?_
  all_goals simp only [oneOr]
  all_goals (try simp only [ishr_lit8, ishr_lit16, ishr_lit32, ishr_lit18] at *)
  all_goals rw [l8_at (by kernel_rfl) (by (try simp (disch := omega) only [w64_in, u32_in', u64_in', u8_in', ishr_lit8, ishr_lit16, ishr_lit32, ishr_lit18, Int.tmod_eq_emod_of_nonneg, Int.tdiv_eq_ediv_of_nonneg, Int.toNat_natCast, Nat.add_zero]); omega) (by (try simp (disch := omega) only [w64_in, u32_in', u64_in', u8_in', ishr_lit8, ishr_lit16, ishr_lit32, ishr_lit18, Int.tmod_eq_emod_of_nonneg, Int.tdiv_eq_ediv_of_nonneg, Int.toNat_natCast, Nat.add_zero]); omega)]
  all_goals refine congrArg (SV.int .i64) ?_
  · exact len_fin' (c := 56) (by first | rfl | ((try simp (disch := omega) only [w64_in, u32_in', u64_in', u8_in', ishr_lit8, ishr_lit16, ishr_lit32, ishr_lit18, Int.tmod_eq_emod_of_nonneg, Int.tdiv_eq_ediv_of_nonneg, Int.toNat_natCast, Nat.add_zero]); omega)) (by omega) (by (try simp (disch := omega) only [w64_in, u32_in', u64_in', u8_in', ishr_lit8, ishr_lit16, ishr_lit32, ishr_lit18, Int.tmod_eq_emod_of_nonneg, Int.tdiv_eq_ediv_of_nonneg, Int.toNat_natCast, Nat.add_zero]); omega) (by omega) (by (try simp (disch := omega) only [w64_in, u32_in', u64_in', u8_in', ishr_lit8, ishr_lit16, ishr_lit32, ishr_lit18, Int.tmod_eq_emod_of_nonneg, Int.tdiv_eq_ediv_of_nonneg, Int.toNat_natCast, Nat.add_zero]); omega)
  · exact len_fin' (c := 48) (by first | rfl | ((try simp (disch := omega) only [w64_in, u32_in', u64_in', u8_in', ishr_lit8, ishr_lit16, ishr_lit32, ishr_lit18, Int.tmod_eq_emod_of_nonneg, Int.tdiv_eq_ediv_of_nonneg, Int.toNat_natCast, Nat.add_zero]); omega)) (by omega) (by (try simp (disch := omega) only [w64_in, u32_in', u64_in', u8_in', ishr_lit8, ishr_lit16, ishr_lit32, ishr_lit18, Int.tmod_eq_emod_of_nonneg, Int.tdiv_eq_ediv_of_nonneg, Int.toNat_natCast, Nat.add_zero]); omega) (by omega) (by (try simp (disch := omega) only [w64_in, u32_in', u64_in', u8_in', ishr_lit8, ishr_lit16, ishr_lit32, ishr_lit18, Int.tmod_eq_emod_of_nonneg, Int.tdiv_eq_ediv_of_nonneg, Int.toNat_natCast, Nat.add_zero]); omega)
  · exact len_fin' (c := 40) (by first | rfl | ((try simp (disch := omega) only [w64_in, u32_in', u64_in', u8_in', ishr_lit8, ishr_lit16, ishr_lit32, ishr_lit18, Int.tmod_eq_emod_of_nonneg, Int.tdiv_eq_ediv_of_nonneg, Int.toNat_natCast, Nat.add_zero]); omega)) (by omega) (by (try simp (disch := omega) only [w64_in, u32_in', u64_in', u8_in', ishr_lit8, ishr_lit16, ishr_lit32, ishr_lit18, Int.tmod_eq_emod_of_nonneg, Int.tdiv_eq_ediv_of_nonneg, Int.toNat_natCast, Nat.add_zero]); omega) (by omega) (by (try simp (disch := omega) only [w64_in, u32_in', u64_in', u8_in', ishr_lit8, ishr_lit16, ishr_lit32, ishr_lit18, Int.tmod_eq_emod_of_nonneg, Int.tdiv_eq_ediv_of_nonneg, Int.toNat_natCast, Nat.add_zero]); omega)
  · exact len_fin' (c := 32) (by first | rfl | ((try simp (disch := omega) only [w64_in, u32_in', u64_in', u8_in', ishr_lit8, ishr_lit16, ishr_lit32, ishr_lit18, Int.tmod_eq_emod_of_nonneg, Int.tdiv_eq_ediv_of_nonneg, Int.toNat_natCast, Nat.add_zero]); omega)) (by omega) (by (try simp (disch := omega) only [w64_in, u32_in', u64_in', u8_in', ishr_lit8, ishr_lit16, ishr_lit32, ishr_lit18, Int.tmod_eq_emod_of_nonneg, Int.tdiv_eq_ediv_of_nonneg, Int.toNat_natCast, Nat.add_zero]); omega) (by omega) (by (try simp (disch := omega) only [w64_in, u32_in', u64_in', u8_in', ishr_lit8, ishr_lit16, ishr_lit32, ishr_lit18, Int.tmod_eq_emod_of_nonneg, Int.tdiv_eq_ediv_of_nonneg, Int.toNat_natCast, Nat.add_zero]); omega)
  · exact len_fin' (c := 24) (by first | rfl | ((try simp (disch := omega) only [w64_in, u32_in', u64_in', u8_in', ishr_lit8, ishr_lit16, ishr_lit32, ishr_lit18, Int.tmod_eq_emod_of_nonneg, Int.tdiv_eq_ediv_of_nonneg, Int.toNat_natCast, Nat.add_zero]); omega)) (by omega) (by (try simp (disch := omega) only [w64_in, u32_in', u64_in', u8_in', ishr_lit8, ishr_lit16, ishr_lit32, ishr_lit18, Int.tmod_eq_emod_of_nonneg, Int.tdiv_eq_ediv_of_nonneg, Int.toNat_natCast, Nat.add_zero]); omega) (by omega) (by (try simp (disch := omega) only [w64_in, u32_in', u64_in', u8_in', ishr_lit8, ishr_lit16, ishr_lit32, ishr_lit18, Int.tmod_eq_emod_of_nonneg, Int.tdiv_eq_ediv_of_nonneg, Int.toNat_natCast, Nat.add_zero]); omega)
  · exact len_fin' (c := 16) (by first | rfl | ((try simp (disch := omega) only [w64_in, u32_in', u64_in', u8_in', ishr_lit8, ishr_lit16, ishr_lit32, ishr_lit18, Int.tmod_eq_emod_of_nonneg, Int.tdiv_eq_ediv_of_nonneg, Int.toNat_natCast, Nat.add_zero]); omega)) (by omega) (by (try simp (disch := omega) only [w64_in, u32_in', u64_in', u8_in', ishr_lit8, ishr_lit16, ishr_lit32, ishr_lit18, Int.tmod_eq_emod_of_nonneg, Int.tdiv_eq_ediv_of_nonneg, Int.toNat_natCast, Nat.add_zero]); omega) (by omega) (by (try simp (disch := omega) only [w64_in, u32_in', u64_in', u8_in', ishr_lit8, ishr_lit16, ishr_lit32, ishr_lit18, Int.tmod_eq_emod_of_nonneg, Int.tdiv_eq_ediv_of_nonneg, Int.toNat_natCast, Nat.add_zero]); omega)
  · exact len_fin' (c := 8) (by first | rfl | ((try simp (disch := omega) only [w64_in, u32_in', u64_in', u8_in', ishr_lit8, ishr_lit16, ishr_lit32, ishr_lit18, Int.tmod_eq_emod_of_nonneg, Int.tdiv_eq_ediv_of_nonneg, Int.toNat_natCast, Nat.add_zero]); omega)) (by omega) (by (try simp (disch := omega) only [w64_in, u32_in', u64_in', u8_in', ishr_lit8, ishr_lit16, ishr_lit32, ishr_lit18, Int.tmod_eq_emod_of_nonneg, Int.tdiv_eq_ediv_of_nonneg, Int.toNat_natCast, Nat.add_zero]); omega) (by omega) (by (try simp (disch := omega) only [w64_in, u32_in', u64_in', u8_in', ishr_lit8, ishr_lit16, ishr_lit32, ishr_lit18, Int.tmod_eq_emod_of_nonneg, Int.tdiv_eq_ediv_of_nonneg, Int.toNat_natCast, Nat.add_zero]); omega)
  · exact len_fin' (c := 0) (by first | rfl | ((try simp (disch := omega) only [w64_in, u32_in', u64_in', u8_in', ishr_lit8, ishr_lit16, ishr_lit32, ishr_lit18, Int.tmod_eq_emod_of_nonneg, Int.tdiv_eq_ediv_of_nonneg, Int.toNat_natCast, Nat.add_zero]); omega)) (by omega) (by (try simp (disch := omega) only [w64_in, u32_in', u64_in', u8_in', ishr_lit8, ishr_lit16, ishr_lit32, ishr_lit18, Int.tmod_eq_emod_of_nonneg, Int.tdiv_eq_ediv_of_nonneg, Int.toNat_natCast, Nat.add_zero]); omega) (by omega) (by (try simp (disch := omega) only [w64_in, u32_in', u64_in', u8_in', ishr_lit8, ishr_lit16, ishr_lit32, ishr_lit18, Int.tmod_eq_emod_of_nonneg, Int.tdiv_eq_ediv_of_nonneg, Int.toNat_natCast, Nat.add_zero]); omega)

theorem conv_log10Pow2 (n : Nat) (hn : n ≤ 64) : Pure Tryd.prog 81 [.int .i64 n] (.int .i64 (n * 78913 / 262144 : Nat)) := by
  refine fc_of mixed T_ok Tryd.func81 rfl (by kernel_rfl) (by kernel_rfl) (by kernel_rfl) ?_
  repeat' ((conv => whnf); first | ((first | apply br_dec | apply br_ndec) <;> intro h <;> try (exfalso; (try dsimp only at h); omega)) | ((first | apply br_seq | apply br_nseq | apply br_not | apply br_intro) <;> intro h) | refine cond_a ?_)
  all_goals (conv => whnf)
  all_goals refine ret_pure ?_
  all_goals simp only [oneOr]
  all_goals (try simp (disch := omega) only [w64_in, u32_in', u64_in', u8_in', ishr_lit8, ishr_lit16, ishr_lit32, ishr_lit18, Int.tmod_eq_emod_of_nonneg, Int.tdiv_eq_ediv_of_nonneg, Int.toNat_natCast, Nat.add_zero])
  all_goals rfl

theorem conv_bool2 (b : Bool) : Pure Tryd.prog 83 [.bool b] (.int .i64 (if b = true then 1 else 0)) := by
  refine fc_of mixed T_ok Tryd.func83 rfl (by kernel_rfl) (by kernel_rfl) (by kernel_rfl) ?_
  repeat' ((conv => whnf); first | ((first | apply br_dec | apply br_ndec) <;> intro h <;> try (exfalso; (try dsimp only at h); omega)) | ((first | apply br_seq | apply br_nseq | apply br_not | apply br_intro) <;> intro h) | refine cond_a ?_)
  all_goals (conv => whnf)
  all_goals exact ret_pure (by simp [oneOr, h, cv])
end Go.Proofs.YtdlpmmdbdjlojaaDoor

/- Contracts of the library: numbers in decimal. -/
namespace Go.Proofs.YtdlpmmdbdjlojaaDoor
open Go.RowKit Go.Sy
attribute [local irreducible] vcall vloop vcallD retP
set_option maxRecDepth 100000
set_option linter.unusedVariables false
set_option linter.unusedSimpArgs false

def pow10L : List Int := [1, 10, 100, 1000, 10000, 100000, 1000000, 10000000, 100000000, 1000000000, 10000000000, 100000000000, 1000000000000, 10000000000000, 100000000000000, 1000000000000000, 10000000000000000, 100000000000000000, 1000000000000000000, 10000000000000000000]
theorem pow10_at : ∀ k, k < 20 → pow10L.getD k 0 = ((10 ^ k : Nat) : Int) := by decide +kernel

theorem conv_numDigits (u : Nat) (h1 : 1 ≤ u) (hu : u < 18446744073709551616) : Glob Tryd.prog glT 74 [.int .u64 u] (.int .i64 (ndig u)) := by
  have c1 := bits_Len64 u hu
  have hb := blen_le64 (u := u) hu
  have c2 := conv_log10Pow2 (blen u) hb
  have hk : blen u * 78913 / 262144 < 20 := by omega
  have hn := ndig_lib h1 hu
  have hp := pow10_at _ hk
  refine fc_of mixed T_ok Tryd.func74 rfl (by kernel_rfl) (by kernel_rfl) (by kernel_rfl) ?_
  generalize blen u * 78913 / 262144 = k at *
  repeat' ((conv => whnf); first | (refine vcall_pure (c1) rfl rfl rfl ?_) | (refine vcall_pure (c2) rfl rfl rfl ?_) | (refine vcall_pure (conv_bool2 _) rfl rfl rfl ?_) | ((first | apply br_dec | apply br_ndec) <;> intro h <;> try (exfalso; (try dsimp only at h); omega)) | ((first | apply br_seq | apply br_nseq | apply br_not | apply br_intro) <;> intro h) | refine cond_a ?_)
  all_goals (conv => whnf)
  all_goals refine ret_pure ?_
  all_goals simp only [oneOr]
  all_goals refine congrArg (SV.int .i64) ?_
  have e : ∀ b : Bool, b = decide ((pow10L.getD k 0) ≤ (u : Int)) → IntKind.i64.wrap ((k : Int) + if b = true then 1 else 0) = (ndig u : Int) := by
    intro b hb
    subst hb
    rw [hn, hp]
    by_cases h : 10 ^ k ≤ u
    · have h' : ((10 ^ k : Nat) : Int) ≤ (u : Int) := Int.ofNat_le.2 h
      rw [if_pos h, decide_eq_true h', if_pos rfl, w64_in (by omega) (by omega)]; rfl
    · have h' : ¬ ((10 ^ k : Nat) : Int) ≤ (u : Int) := fun x => h (Int.ofNat_le.1 x)
      rw [if_neg h, decide_eq_false h', if_neg (by simp), w64_in (by omega) (by omega)]; rfl
  exact e _ rfl

/-- A number below 100 in decimal. -/
theorem dec_small : ∀ n, n < 100 → (n < 10 → digs (ndig n) n = [((48 + n : Nat) : Int)]) ∧ (¬ n < 10 → digs (ndig n) n = [((48 + n / 10 : Nat) : Int), ((48 + n % 10 : Nat) : Int)]) := by
  intro n hn
  constructor
  · intro h
    rw [ndig, if_pos h]; simp [digs]; omega
  · intro h
    rw [ndig, if_neg h, ndig, if_pos (by omega)]; simp [digs]; omega
theorem extract_bytes {s : ByteArray} {a n : Nat} (h : a + n ≤ s.size) (l : List Int) (hl : l.length = n) (hg : ∀ i, i < n → byteAt s ((a + i : Nat) : Int) = l.getD i 0) : s.extract a (a + n) = bytesOf l := by
  have h1 : s.data.toList.length = s.size := by simp
  have : (s.extract a (a + n)).data.toList = (bytesOf l).data.toList := by
    unfold bytesOf
    simp only [ByteArray.data_extract, Array.toList_extract, List.extract_eq_take_drop]
    apply List.ext_getElem?
    intro i
    by_cases hi : i < n
    · rw [List.getElem?_take, if_pos (by omega), List.getElem?_drop, List.getElem?_eq_getElem (by omega)]
      rw [List.getElem?_map, List.getElem?_eq_getElem (by omega)]
      simp only [Option.map_some, Option.some.injEq]
      have hh := hg i hi
      unfold byteAt at hh
      rw [Int.toNat_natCast, List.getD, List.getElem?_eq_getElem (by omega), List.getD, List.getElem?_eq_getElem (by omega)] at hh
      simp only [Option.getD_some] at hh
      rw [← hh, Int.toNat_natCast]
      exact (UInt8.ofNat_toNat).symm
    · rw [List.getElem?_take, if_neg (by omega), List.getElem?_eq_none (by simp; omega)]
  have e2 : ∀ x y : ByteArray, x.data.toList = y.data.toList → x = y := by
    intro x y h; cases x; cases y; simp at h; congr
  exact e2 _ _ this

theorem conv_small (n : Nat) (hn : n < 100) : Pure Tryd.prog 73 [.int .i64 n] (.str (dec n)) := by
  obtain ⟨d1, d2⟩ := dec_small n hn
  refine fc_of mixed T_ok Tryd.func73 rfl (by kernel_rfl) (by kernel_rfl) (by kernel_rfl) ?_
  repeat' ((conv => whnf); first | (refine cond_intro ⟨by (try simp (disch := omega) only [w64_in, u32_in', u64_in', u8_in', ishr_lit8, ishr_lit16, ishr_lit32, ishr_lit18, Int.tmod_eq_emod_of_nonneg, Int.tdiv_eq_ediv_of_nonneg, Int.toNat_natCast, Nat.add_zero]); omega, by (try simp (disch := omega) only [w64_in, u32_in', u64_in', u8_in', ishr_lit8, ishr_lit16, ishr_lit32, ishr_lit18, Int.tmod_eq_emod_of_nonneg, Int.tdiv_eq_ediv_of_nonneg, Int.toNat_natCast, Nat.add_zero]); omega, sz_le (n := 36) (by kernel_rfl) (by (try simp (disch := omega) only [w64_in, u32_in', u64_in', u8_in', ishr_lit8, ishr_lit16, ishr_lit32, ishr_lit18, Int.tmod_eq_emod_of_nonneg, Int.tdiv_eq_ediv_of_nonneg, Int.toNat_natCast, Nat.add_zero]); omega)⟩ ?_) | (refine cond_intro ⟨by (try simp (disch := omega) only [w64_in, u32_in', u64_in', u8_in', ishr_lit8, ishr_lit16, ishr_lit32, ishr_lit18, Int.tmod_eq_emod_of_nonneg, Int.tdiv_eq_ediv_of_nonneg, Int.toNat_natCast, Nat.add_zero]); omega, by (try simp (disch := omega) only [w64_in, u32_in', u64_in', u8_in', ishr_lit8, ishr_lit16, ishr_lit32, ishr_lit18, Int.tmod_eq_emod_of_nonneg, Int.tdiv_eq_ediv_of_nonneg, Int.toNat_natCast, Nat.add_zero]); omega, sz_le (n := 200) (by kernel_rfl) (by (try simp (disch := omega) only [w64_in, u32_in', u64_in', u8_in', ishr_lit8, ishr_lit16, ishr_lit32, ishr_lit18, Int.tmod_eq_emod_of_nonneg, Int.tdiv_eq_ediv_of_nonneg, Int.toNat_natCast, Nat.add_zero]); omega)⟩ ?_) | ((first | apply br_dec | apply br_ndec) <;> intro h <;> try (exfalso; (try dsimp only at h); omega)) | ((first | apply br_seq | apply br_nseq | apply br_not | apply br_intro) <;> intro h) | refine cond_a ?_)
  all_goals (conv => whnf)
  all_goals refine ret_pure ?_
  all_goals simp only [oneOr]
  all_goals refine congrArg SV.str ?_
  all_goals unfold dec
  · rw [d1 (by omega), show (IntKind.i64.wrap ((n : Int) + 1)).toNat = n + 1 from by (try simp (disch := omega) only [w64_in, u32_in', u64_in', u8_in', ishr_lit8, ishr_lit16, ishr_lit32, ishr_lit18, Int.tmod_eq_emod_of_nonneg, Int.tdiv_eq_ediv_of_nonneg, Int.toNat_natCast, Nat.add_zero]); omega]
    refine extract_bytes (n := 1) (by show n + 1 ≤ 36; omega) _ rfl ?_
    intro i hi
    have e : i = 0 := by omega
    subst e
    refine Eq.trans (tabB_at (n := 36) (f := fun i => if i < 10 then 48 + i else 87 + i) (by kernel_rfl) (i := n + 0) (by omega)) ?_
    rw [if_pos (by omega)]; rfl
  · rw [d2 (by omega), show (IntKind.i64.wrap ((n : Int) * 2)).toNat = n * 2 from by (try simp (disch := omega) only [w64_in, u32_in', u64_in', u8_in', ishr_lit8, ishr_lit16, ishr_lit32, ishr_lit18, Int.tmod_eq_emod_of_nonneg, Int.tdiv_eq_ediv_of_nonneg, Int.toNat_natCast, Nat.add_zero]); omega, show (IntKind.i64.wrap (IntKind.i64.wrap ((n : Int) * 2) + 2)).toNat = n * 2 + 2 from by (try simp (disch := omega) only [w64_in, u32_in', u64_in', u8_in', ishr_lit8, ishr_lit16, ishr_lit32, ishr_lit18, Int.tmod_eq_emod_of_nonneg, Int.tdiv_eq_ediv_of_nonneg, Int.toNat_natCast, Nat.add_zero]); omega]
    refine extract_bytes (n := 2) (by show n * 2 + 2 ≤ 200; omega) _ rfl ?_
    intro i hi
    rcases (show i = 0 ∨ i = 1 by omega) with rfl | rfl
    · rw [show ((n * 2 + 0 : Nat) : Int) = (n : Int) * 2 by omega, sm_even (by kernel_rfl) (by omega) (by omega)]; rfl
    · rw [show ((n * 2 + 1 : Nat) : Int) = (n : Int) * 2 + 1 by omega, sm_odd (by kernel_rfl) (by omega) (by omega)]; rfl

set_option maxHeartbeats 2000000 in
/-- Digits into a row of bytes. -/
theorem conv_formatBase10 (l : List Int) (N o n U : Nat) (hl : l.length = N) (hN : o + n ≤ N) (hN2 : N ≤ 1000) (hU : U < 10 ^ n) (hU2 : U < 18446744073709551616) :
    FC Tryd.prog 2 75 [.sl 1 0 o n, .int .u64 U] [(1, some (.one false (.cols N [.sc (.ints .u8 l)])))] (isOut (.tup []) [(1, some (.one false (.cols N [.sc (.ints .u8 (dtab l N o n U n))])))] 2) := by
  refine fc_of mixed T_ok Tryd.func75 rfl (by kernel_rfl) (by kernel_rfl) (by kernel_rfl) ?_
  (conv => whnf)
  refine vloop_of (fun m : Nat => ⟨[(0, .sl 1 0 o n), (1, .int .u64 (U / 10 ^ m : Nat)), (4, .int .i64 (n - m : Nat))], [(1, some (.one false (.cols N [.sc (.ints .u8 (dtab l N o n U m))])))], 2⟩) (fun m => m ≤ n) (fun m => n - m) 0 [0, 1] [] ⟨rfl, ⟨rfl, ?_, rfl, trivial⟩, ⟨?_, trivial⟩⟩ (by omega) ?_
  · simp only [Nat.pow_zero, Nat.div_one]; rfl
  · rw [dtab_zero hl]; rfl
  intro m hm
  have hu : U / 10 ^ m ≤ U := Nat.div_le_self _ _
  have hdm : U / 10 ^ m < 10 ^ (n - m) := by
    rw [Nat.div_lt_iff_lt_mul (Nat.pow_pos (by omega)), ← Nat.pow_add, show n - m + m = n from by omega]; exact hU
  generalize hq : U / 10 ^ m = q at *
  by_cases h8 : 8 ≤ n - m
  · repeat' ((conv => whnf); first | (refine cond_intro ⟨by (try simp (disch := omega) only [w64_in, u32_in', u64_in', u8_in', ishr_lit8, ishr_lit16, ishr_lit32, ishr_lit18, Int.tmod_eq_emod_of_nonneg, Int.tdiv_eq_ediv_of_nonneg, Int.toNat_natCast, Nat.add_zero]); omega, sz_lt (n := 200) (by kernel_rfl) (by (try simp (disch := omega) only [w64_in, u32_in', u64_in', u8_in', ishr_lit8, ishr_lit16, ishr_lit32, ishr_lit18, Int.tmod_eq_emod_of_nonneg, Int.tdiv_eq_ediv_of_nonneg, Int.toNat_natCast, Nat.add_zero]); omega)⟩ ?_) | (refine cond_intro ⟨by (try simp (disch := omega) only [w64_in, u32_in', u64_in', u8_in', ishr_lit8, ishr_lit16, ishr_lit32, ishr_lit18, Int.tmod_eq_emod_of_nonneg, Int.tdiv_eq_ediv_of_nonneg, Int.toNat_natCast, Nat.add_zero]); omega, by (try simp (disch := omega) only [w64_in, u32_in', u64_in', u8_in', ishr_lit8, ishr_lit16, ishr_lit32, ishr_lit18, Int.tmod_eq_emod_of_nonneg, Int.tdiv_eq_ediv_of_nonneg, Int.toNat_natCast, Nat.add_zero]); omega⟩ ?_) | (refine cond_intro (by (try simp (disch := omega) only [w64_in, u32_in', u64_in', u8_in', ishr_lit8, ishr_lit16, ishr_lit32, ishr_lit18, Int.tmod_eq_emod_of_nonneg, Int.tdiv_eq_ediv_of_nonneg, Int.toNat_natCast, Nat.add_zero]); omega) ?_) | ((first | apply br_dec | apply br_ndec) <;> intro h <;> try (exfalso; (try dsimp only at h); omega)) | ((first | apply br_seq | apply br_nseq | apply br_not | apply br_intro) <;> intro h) | refine cond_a ?_)
    all_goals (conv => whnf)
    refine ⟨m + 8, [0, 1], [], by omega, by omega, ⟨rfl, ⟨rfl, ?_, ?_, trivial⟩, ⟨?_, trivial⟩⟩⟩
    · refine congrArg (fun z => some (SV.int .u64 z)) ?_
      (try simp (disch := omega) only [w64_in, u32_in', u64_in', u8_in', ishr_lit8, ishr_lit16, ishr_lit32, ishr_lit18, Int.tmod_eq_emod_of_nonneg, Int.tdiv_eq_ediv_of_nonneg, Int.toNat_natCast, Nat.add_zero])
      simp only [pow_step, hq, Nat.reducePow]; omega
    · refine congrArg (fun z => some (SV.int .i64 z)) ?_
      (try simp (disch := omega) only [w64_in, u32_in', u64_in', u8_in', ishr_lit8, ishr_lit16, ishr_lit32, ishr_lit18, Int.tmod_eq_emod_of_nonneg, Int.tdiv_eq_ediv_of_nonneg, Int.toNat_natCast, Nat.add_zero])
      omega
    · refine congrArg (fun z => some (HB.one false (.cols N [.sc (.ints .u8 z)]))) ?_
      rw [dtab_set (m := m), dtab_set (m := m + 1), dtab_set (m := m + 2), dtab_set (m := m + 3), dtab_set (m := m + 4), dtab_set (m := m + 5), dtab_set (m := m + 6), dtab_set (m := m + 7)]
      all_goals first | omega | ((try simp (disch := omega) only [w64_in, u32_in', u64_in', u8_in', ishr_lit8, ishr_lit16, ishr_lit32, ishr_lit18, Int.tmod_eq_emod_of_nonneg, Int.tdiv_eq_ediv_of_nonneg, Int.toNat_natCast, Nat.add_zero]); omega) | ((try simp (disch := omega) only [w64_in, u32_in', u64_in', u8_in', ishr_lit8, ishr_lit16, ishr_lit32, ishr_lit18, Int.tmod_eq_emod_of_nonneg, Int.tdiv_eq_ediv_of_nonneg, Int.toNat_natCast, Nat.add_zero]); rw [sm_odd (by kernel_rfl) (by omega) (by omega)]; simp only [pow_step, hq, Nat.reducePow]; omega) | ((try simp (disch := omega) only [w64_in, u32_in', u64_in', u8_in', ishr_lit8, ishr_lit16, ishr_lit32, ishr_lit18, Int.tmod_eq_emod_of_nonneg, Int.tdiv_eq_ediv_of_nonneg, Int.toNat_natCast, Nat.add_zero]); rw [sm_even (by kernel_rfl) (by omega) (by omega)]; simp only [pow_step, hq, Nat.reducePow]; omega)
  · have hk : n - m = 0 ∨ n - m = 1 ∨ n - m = 2 ∨ n - m = 3 ∨ n - m = 4 ∨ n - m = 5 ∨ n - m = 6 ∨ n - m = 7 := by omega
    rcases hk with hk | hk | hk | hk | hk | hk | hk | hk
    · obtain rfl : n = m + 0 := by omega
      have hk' : q < 10 ^ 0 := by simpa [hk] using hdm
      repeat' ((conv => whnf); first | (refine cond_intro ⟨by (try simp (disch := omega) only [w64_in, u32_in', u64_in', u8_in', ishr_lit8, ishr_lit16, ishr_lit32, ishr_lit18, Int.tmod_eq_emod_of_nonneg, Int.tdiv_eq_ediv_of_nonneg, Int.toNat_natCast, Nat.add_zero]); omega, sz_lt (n := 200) (by kernel_rfl) (by (try simp (disch := omega) only [w64_in, u32_in', u64_in', u8_in', ishr_lit8, ishr_lit16, ishr_lit32, ishr_lit18, Int.tmod_eq_emod_of_nonneg, Int.tdiv_eq_ediv_of_nonneg, Int.toNat_natCast, Nat.add_zero]); omega)⟩ ?_) | (refine cond_intro ⟨by (try simp (disch := omega) only [w64_in, u32_in', u64_in', u8_in', ishr_lit8, ishr_lit16, ishr_lit32, ishr_lit18, Int.tmod_eq_emod_of_nonneg, Int.tdiv_eq_ediv_of_nonneg, Int.toNat_natCast, Nat.add_zero]); omega, by (try simp (disch := omega) only [w64_in, u32_in', u64_in', u8_in', ishr_lit8, ishr_lit16, ishr_lit32, ishr_lit18, Int.tmod_eq_emod_of_nonneg, Int.tdiv_eq_ediv_of_nonneg, Int.toNat_natCast, Nat.add_zero]); omega⟩ ?_) | (refine cond_intro (by (try simp (disch := omega) only [w64_in, u32_in', u64_in', u8_in', ishr_lit8, ishr_lit16, ishr_lit32, ishr_lit18, Int.tmod_eq_emod_of_nonneg, Int.tdiv_eq_ediv_of_nonneg, Int.toNat_natCast, Nat.add_zero]); omega) ?_) | ((refine br_dec (fun h => ?_) (fun h => ?_)) <;> try (exfalso; revert h; (try simp (disch := omega) only [w64_in, u32_in', u64_in', u8_in', ishr_lit8, ishr_lit16, ishr_lit32, ishr_lit18, Int.tmod_eq_emod_of_nonneg, Int.tdiv_eq_ediv_of_nonneg, Int.toNat_natCast, Nat.add_zero]); omega)) | ((first | apply br_dec | apply br_ndec) <;> intro h <;> try (exfalso; (try dsimp only at h); omega)) | ((first | apply br_seq | apply br_nseq | apply br_not | apply br_intro) <;> intro h) | refine cond_a ?_)
      all_goals (conv => whnf)
      refine ret_out (l := [0, 1]) rfl rfl ⟨?_, trivial⟩ (allRw_cons allRw_nil)
      refine congrArg (fun z => some (HB.one false (.cols N [.sc (.ints .u8 z)]))) ?_
      rfl
    · obtain rfl : n = m + 1 := by omega
      have hk' : q < 10 ^ 1 := by simpa [hk] using hdm
      repeat' ((conv => whnf); first | (refine cond_intro ⟨by (try simp (disch := omega) only [w64_in, u32_in', u64_in', u8_in', ishr_lit8, ishr_lit16, ishr_lit32, ishr_lit18, Int.tmod_eq_emod_of_nonneg, Int.tdiv_eq_ediv_of_nonneg, Int.toNat_natCast, Nat.add_zero]); omega, sz_lt (n := 200) (by kernel_rfl) (by (try simp (disch := omega) only [w64_in, u32_in', u64_in', u8_in', ishr_lit8, ishr_lit16, ishr_lit32, ishr_lit18, Int.tmod_eq_emod_of_nonneg, Int.tdiv_eq_ediv_of_nonneg, Int.toNat_natCast, Nat.add_zero]); omega)⟩ ?_) | (refine cond_intro ⟨by (try simp (disch := omega) only [w64_in, u32_in', u64_in', u8_in', ishr_lit8, ishr_lit16, ishr_lit32, ishr_lit18, Int.tmod_eq_emod_of_nonneg, Int.tdiv_eq_ediv_of_nonneg, Int.toNat_natCast, Nat.add_zero]); omega, by (try simp (disch := omega) only [w64_in, u32_in', u64_in', u8_in', ishr_lit8, ishr_lit16, ishr_lit32, ishr_lit18, Int.tmod_eq_emod_of_nonneg, Int.tdiv_eq_ediv_of_nonneg, Int.toNat_natCast, Nat.add_zero]); omega⟩ ?_) | (refine cond_intro (by (try simp (disch := omega) only [w64_in, u32_in', u64_in', u8_in', ishr_lit8, ishr_lit16, ishr_lit32, ishr_lit18, Int.tmod_eq_emod_of_nonneg, Int.tdiv_eq_ediv_of_nonneg, Int.toNat_natCast, Nat.add_zero]); omega) ?_) | ((refine br_dec (fun h => ?_) (fun h => ?_)) <;> try (exfalso; revert h; (try simp (disch := omega) only [w64_in, u32_in', u64_in', u8_in', ishr_lit8, ishr_lit16, ishr_lit32, ishr_lit18, Int.tmod_eq_emod_of_nonneg, Int.tdiv_eq_ediv_of_nonneg, Int.toNat_natCast, Nat.add_zero]); omega)) | ((first | apply br_dec | apply br_ndec) <;> intro h <;> try (exfalso; (try dsimp only at h); omega)) | ((first | apply br_seq | apply br_nseq | apply br_not | apply br_intro) <;> intro h) | refine cond_a ?_)
      all_goals (conv => whnf)
      refine ret_out (l := [0, 1]) rfl rfl ⟨?_, trivial⟩ (allRw_cons allRw_nil)
      refine congrArg (fun z => some (HB.one false (.cols N [.sc (.ints .u8 z)]))) ?_
      rw [dtab_set (m := m)]
      all_goals first | omega | ((try simp (disch := omega) only [w64_in, u32_in', u64_in', u8_in', ishr_lit8, ishr_lit16, ishr_lit32, ishr_lit18, Int.tmod_eq_emod_of_nonneg, Int.tdiv_eq_ediv_of_nonneg, Int.toNat_natCast, Nat.add_zero]); omega) | ((try simp (disch := omega) only [w64_in, u32_in', u64_in', u8_in', ishr_lit8, ishr_lit16, ishr_lit32, ishr_lit18, Int.tmod_eq_emod_of_nonneg, Int.tdiv_eq_ediv_of_nonneg, Int.toNat_natCast, Nat.add_zero]); rw [sm_odd (by kernel_rfl) (by omega) (by omega)]; simp only [pow_step, hq, Nat.reducePow]; omega) | ((try simp (disch := omega) only [w64_in, u32_in', u64_in', u8_in', ishr_lit8, ishr_lit16, ishr_lit32, ishr_lit18, Int.tmod_eq_emod_of_nonneg, Int.tdiv_eq_ediv_of_nonneg, Int.toNat_natCast, Nat.add_zero]); rw [sm_even (by kernel_rfl) (by omega) (by omega)]; simp only [pow_step, hq, Nat.reducePow]; omega) | ((try simp (disch := omega) only [w64_in, u32_in', u64_in', u8_in', ishr_lit8, ishr_lit16, ishr_lit32, ishr_lit18, Int.tmod_eq_emod_of_nonneg, Int.tdiv_eq_ediv_of_nonneg, Int.toNat_natCast, Nat.add_zero]); simp only [pow_step, hq, Nat.reducePow]; omega)
    · obtain rfl : n = m + 2 := by omega
      have hk' : q < 10 ^ 2 := by simpa [hk] using hdm
      repeat' ((conv => whnf); first | (refine cond_intro ⟨by (try simp (disch := omega) only [w64_in, u32_in', u64_in', u8_in', ishr_lit8, ishr_lit16, ishr_lit32, ishr_lit18, Int.tmod_eq_emod_of_nonneg, Int.tdiv_eq_ediv_of_nonneg, Int.toNat_natCast, Nat.add_zero]); omega, sz_lt (n := 200) (by kernel_rfl) (by (try simp (disch := omega) only [w64_in, u32_in', u64_in', u8_in', ishr_lit8, ishr_lit16, ishr_lit32, ishr_lit18, Int.tmod_eq_emod_of_nonneg, Int.tdiv_eq_ediv_of_nonneg, Int.toNat_natCast, Nat.add_zero]); omega)⟩ ?_) | (refine cond_intro ⟨by (try simp (disch := omega) only [w64_in, u32_in', u64_in', u8_in', ishr_lit8, ishr_lit16, ishr_lit32, ishr_lit18, Int.tmod_eq_emod_of_nonneg, Int.tdiv_eq_ediv_of_nonneg, Int.toNat_natCast, Nat.add_zero]); omega, by (try simp (disch := omega) only [w64_in, u32_in', u64_in', u8_in', ishr_lit8, ishr_lit16, ishr_lit32, ishr_lit18, Int.tmod_eq_emod_of_nonneg, Int.tdiv_eq_ediv_of_nonneg, Int.toNat_natCast, Nat.add_zero]); omega⟩ ?_) | (refine cond_intro (by (try simp (disch := omega) only [w64_in, u32_in', u64_in', u8_in', ishr_lit8, ishr_lit16, ishr_lit32, ishr_lit18, Int.tmod_eq_emod_of_nonneg, Int.tdiv_eq_ediv_of_nonneg, Int.toNat_natCast, Nat.add_zero]); omega) ?_) | ((refine br_dec (fun h => ?_) (fun h => ?_)) <;> try (exfalso; revert h; (try simp (disch := omega) only [w64_in, u32_in', u64_in', u8_in', ishr_lit8, ishr_lit16, ishr_lit32, ishr_lit18, Int.tmod_eq_emod_of_nonneg, Int.tdiv_eq_ediv_of_nonneg, Int.toNat_natCast, Nat.add_zero]); omega)) | ((first | apply br_dec | apply br_ndec) <;> intro h <;> try (exfalso; (try dsimp only at h); omega)) | ((first | apply br_seq | apply br_nseq | apply br_not | apply br_intro) <;> intro h) | refine cond_a ?_)
      all_goals (conv => whnf)
      refine ret_out (l := [0, 1]) rfl rfl ⟨?_, trivial⟩ (allRw_cons allRw_nil)
      refine congrArg (fun z => some (HB.one false (.cols N [.sc (.ints .u8 z)]))) ?_
      rw [dtab_set (m := m), dtab_set (m := m + 1)]
      all_goals first | omega | ((try simp (disch := omega) only [w64_in, u32_in', u64_in', u8_in', ishr_lit8, ishr_lit16, ishr_lit32, ishr_lit18, Int.tmod_eq_emod_of_nonneg, Int.tdiv_eq_ediv_of_nonneg, Int.toNat_natCast, Nat.add_zero]); omega) | ((try simp (disch := omega) only [w64_in, u32_in', u64_in', u8_in', ishr_lit8, ishr_lit16, ishr_lit32, ishr_lit18, Int.tmod_eq_emod_of_nonneg, Int.tdiv_eq_ediv_of_nonneg, Int.toNat_natCast, Nat.add_zero]); rw [sm_odd (by kernel_rfl) (by omega) (by omega)]; simp only [pow_step, hq, Nat.reducePow]; omega) | ((try simp (disch := omega) only [w64_in, u32_in', u64_in', u8_in', ishr_lit8, ishr_lit16, ishr_lit32, ishr_lit18, Int.tmod_eq_emod_of_nonneg, Int.tdiv_eq_ediv_of_nonneg, Int.toNat_natCast, Nat.add_zero]); rw [sm_even (by kernel_rfl) (by omega) (by omega)]; simp only [pow_step, hq, Nat.reducePow]; omega) | ((try simp (disch := omega) only [w64_in, u32_in', u64_in', u8_in', ishr_lit8, ishr_lit16, ishr_lit32, ishr_lit18, Int.tmod_eq_emod_of_nonneg, Int.tdiv_eq_ediv_of_nonneg, Int.toNat_natCast, Nat.add_zero]); simp only [pow_step, hq, Nat.reducePow]; omega)
    · obtain rfl : n = m + 3 := by omega
      have hk' : q < 10 ^ 3 := by simpa [hk] using hdm
      repeat' ((conv => whnf); first | (refine cond_intro ⟨by (try simp (disch := omega) only [w64_in, u32_in', u64_in', u8_in', ishr_lit8, ishr_lit16, ishr_lit32, ishr_lit18, Int.tmod_eq_emod_of_nonneg, Int.tdiv_eq_ediv_of_nonneg, Int.toNat_natCast, Nat.add_zero]); omega, sz_lt (n := 200) (by kernel_rfl) (by (try simp (disch := omega) only [w64_in, u32_in', u64_in', u8_in', ishr_lit8, ishr_lit16, ishr_lit32, ishr_lit18, Int.tmod_eq_emod_of_nonneg, Int.tdiv_eq_ediv_of_nonneg, Int.toNat_natCast, Nat.add_zero]); omega)⟩ ?_) | (refine cond_intro ⟨by (try simp (disch := omega) only [w64_in, u32_in', u64_in', u8_in', ishr_lit8, ishr_lit16, ishr_lit32, ishr_lit18, Int.tmod_eq_emod_of_nonneg, Int.tdiv_eq_ediv_of_nonneg, Int.toNat_natCast, Nat.add_zero]); omega, by (try simp (disch := omega) only [w64_in, u32_in', u64_in', u8_in', ishr_lit8, ishr_lit16, ishr_lit32, ishr_lit18, Int.tmod_eq_emod_of_nonneg, Int.tdiv_eq_ediv_of_nonneg, Int.toNat_natCast, Nat.add_zero]); omega⟩ ?_) | (refine cond_intro (by (try simp (disch := omega) only [w64_in, u32_in', u64_in', u8_in', ishr_lit8, ishr_lit16, ishr_lit32, ishr_lit18, Int.tmod_eq_emod_of_nonneg, Int.tdiv_eq_ediv_of_nonneg, Int.toNat_natCast, Nat.add_zero]); omega) ?_) | ((refine br_dec (fun h => ?_) (fun h => ?_)) <;> try (exfalso; revert h; (try simp (disch := omega) only [w64_in, u32_in', u64_in', u8_in', ishr_lit8, ishr_lit16, ishr_lit32, ishr_lit18, Int.tmod_eq_emod_of_nonneg, Int.tdiv_eq_ediv_of_nonneg, Int.toNat_natCast, Nat.add_zero]); omega)) | ((first | apply br_dec | apply br_ndec) <;> intro h <;> try (exfalso; (try dsimp only at h); omega)) | ((first | apply br_seq | apply br_nseq | apply br_not | apply br_intro) <;> intro h) | refine cond_a ?_)
      all_goals (conv => whnf)
      refine ret_out (l := [0, 1]) rfl rfl ⟨?_, trivial⟩ (allRw_cons allRw_nil)
      refine congrArg (fun z => some (HB.one false (.cols N [.sc (.ints .u8 z)]))) ?_
      rw [dtab_set (m := m), dtab_set (m := m + 1), dtab_set (m := m + 2)]
      all_goals first | omega | ((try simp (disch := omega) only [w64_in, u32_in', u64_in', u8_in', ishr_lit8, ishr_lit16, ishr_lit32, ishr_lit18, Int.tmod_eq_emod_of_nonneg, Int.tdiv_eq_ediv_of_nonneg, Int.toNat_natCast, Nat.add_zero]); omega) | ((try simp (disch := omega) only [w64_in, u32_in', u64_in', u8_in', ishr_lit8, ishr_lit16, ishr_lit32, ishr_lit18, Int.tmod_eq_emod_of_nonneg, Int.tdiv_eq_ediv_of_nonneg, Int.toNat_natCast, Nat.add_zero]); rw [sm_odd (by kernel_rfl) (by omega) (by omega)]; simp only [pow_step, hq, Nat.reducePow]; omega) | ((try simp (disch := omega) only [w64_in, u32_in', u64_in', u8_in', ishr_lit8, ishr_lit16, ishr_lit32, ishr_lit18, Int.tmod_eq_emod_of_nonneg, Int.tdiv_eq_ediv_of_nonneg, Int.toNat_natCast, Nat.add_zero]); rw [sm_even (by kernel_rfl) (by omega) (by omega)]; simp only [pow_step, hq, Nat.reducePow]; omega) | ((try simp (disch := omega) only [w64_in, u32_in', u64_in', u8_in', ishr_lit8, ishr_lit16, ishr_lit32, ishr_lit18, Int.tmod_eq_emod_of_nonneg, Int.tdiv_eq_ediv_of_nonneg, Int.toNat_natCast, Nat.add_zero]); simp only [pow_step, hq, Nat.reducePow]; omega)
    · obtain rfl : n = m + 4 := by omega
      have hk' : q < 10 ^ 4 := by simpa [hk] using hdm
      repeat' ((conv => whnf); first | (refine cond_intro ⟨by (try simp (disch := omega) only [w64_in, u32_in', u64_in', u8_in', ishr_lit8, ishr_lit16, ishr_lit32, ishr_lit18, Int.tmod_eq_emod_of_nonneg, Int.tdiv_eq_ediv_of_nonneg, Int.toNat_natCast, Nat.add_zero]); omega, sz_lt (n := 200) (by kernel_rfl) (by (try simp (disch := omega) only [w64_in, u32_in', u64_in', u8_in', ishr_lit8, ishr_lit16, ishr_lit32, ishr_lit18, Int.tmod_eq_emod_of_nonneg, Int.tdiv_eq_ediv_of_nonneg, Int.toNat_natCast, Nat.add_zero]); omega)⟩ ?_) | (refine cond_intro ⟨by (try simp (disch := omega) only [w64_in, u32_in', u64_in', u8_in', ishr_lit8, ishr_lit16, ishr_lit32, ishr_lit18, Int.tmod_eq_emod_of_nonneg, Int.tdiv_eq_ediv_of_nonneg, Int.toNat_natCast, Nat.add_zero]); omega, by (try simp (disch := omega) only [w64_in, u32_in', u64_in', u8_in', ishr_lit8, ishr_lit16, ishr_lit32, ishr_lit18, Int.tmod_eq_emod_of_nonneg, Int.tdiv_eq_ediv_of_nonneg, Int.toNat_natCast, Nat.add_zero]); omega⟩ ?_) | (refine cond_intro (by (try simp (disch := omega) only [w64_in, u32_in', u64_in', u8_in', ishr_lit8, ishr_lit16, ishr_lit32, ishr_lit18, Int.tmod_eq_emod_of_nonneg, Int.tdiv_eq_ediv_of_nonneg, Int.toNat_natCast, Nat.add_zero]); omega) ?_) | ((refine br_dec (fun h => ?_) (fun h => ?_)) <;> try (exfalso; revert h; (try simp (disch := omega) only [w64_in, u32_in', u64_in', u8_in', ishr_lit8, ishr_lit16, ishr_lit32, ishr_lit18, Int.tmod_eq_emod_of_nonneg, Int.tdiv_eq_ediv_of_nonneg, Int.toNat_natCast, Nat.add_zero]); omega)) | ((first | apply br_dec | apply br_ndec) <;> intro h <;> try (exfalso; (try dsimp only at h); omega)) | ((first | apply br_seq | apply br_nseq | apply br_not | apply br_intro) <;> intro h) | refine cond_a ?_)
      all_goals (conv => whnf)
      refine ret_out (l := [0, 1]) rfl rfl ⟨?_, trivial⟩ (allRw_cons allRw_nil)
      refine congrArg (fun z => some (HB.one false (.cols N [.sc (.ints .u8 z)]))) ?_
      rw [dtab_set (m := m), dtab_set (m := m + 1), dtab_set (m := m + 2), dtab_set (m := m + 3)]
      all_goals first | omega | ((try simp (disch := omega) only [w64_in, u32_in', u64_in', u8_in', ishr_lit8, ishr_lit16, ishr_lit32, ishr_lit18, Int.tmod_eq_emod_of_nonneg, Int.tdiv_eq_ediv_of_nonneg, Int.toNat_natCast, Nat.add_zero]); omega) | ((try simp (disch := omega) only [w64_in, u32_in', u64_in', u8_in', ishr_lit8, ishr_lit16, ishr_lit32, ishr_lit18, Int.tmod_eq_emod_of_nonneg, Int.tdiv_eq_ediv_of_nonneg, Int.toNat_natCast, Nat.add_zero]); rw [sm_odd (by kernel_rfl) (by omega) (by omega)]; simp only [pow_step, hq, Nat.reducePow]; omega) | ((try simp (disch := omega) only [w64_in, u32_in', u64_in', u8_in', ishr_lit8, ishr_lit16, ishr_lit32, ishr_lit18, Int.tmod_eq_emod_of_nonneg, Int.tdiv_eq_ediv_of_nonneg, Int.toNat_natCast, Nat.add_zero]); rw [sm_even (by kernel_rfl) (by omega) (by omega)]; simp only [pow_step, hq, Nat.reducePow]; omega) | ((try simp (disch := omega) only [w64_in, u32_in', u64_in', u8_in', ishr_lit8, ishr_lit16, ishr_lit32, ishr_lit18, Int.tmod_eq_emod_of_nonneg, Int.tdiv_eq_ediv_of_nonneg, Int.toNat_natCast, Nat.add_zero]); simp only [pow_step, hq, Nat.reducePow]; omega)
    · obtain rfl : n = m + 5 := by omega
      have hk' : q < 10 ^ 5 := by simpa [hk] using hdm
      repeat' ((conv => whnf); first | (refine cond_intro ⟨by (try simp (disch := omega) only [w64_in, u32_in', u64_in', u8_in', ishr_lit8, ishr_lit16, ishr_lit32, ishr_lit18, Int.tmod_eq_emod_of_nonneg, Int.tdiv_eq_ediv_of_nonneg, Int.toNat_natCast, Nat.add_zero]); omega, sz_lt (n := 200) (by kernel_rfl) (by (try simp (disch := omega) only [w64_in, u32_in', u64_in', u8_in', ishr_lit8, ishr_lit16, ishr_lit32, ishr_lit18, Int.tmod_eq_emod_of_nonneg, Int.tdiv_eq_ediv_of_nonneg, Int.toNat_natCast, Nat.add_zero]); omega)⟩ ?_) | (refine cond_intro ⟨by (try simp (disch := omega) only [w64_in, u32_in', u64_in', u8_in', ishr_lit8, ishr_lit16, ishr_lit32, ishr_lit18, Int.tmod_eq_emod_of_nonneg, Int.tdiv_eq_ediv_of_nonneg, Int.toNat_natCast, Nat.add_zero]); omega, by (try simp (disch := omega) only [w64_in, u32_in', u64_in', u8_in', ishr_lit8, ishr_lit16, ishr_lit32, ishr_lit18, Int.tmod_eq_emod_of_nonneg, Int.tdiv_eq_ediv_of_nonneg, Int.toNat_natCast, Nat.add_zero]); omega⟩ ?_) | (refine cond_intro (by (try simp (disch := omega) only [w64_in, u32_in', u64_in', u8_in', ishr_lit8, ishr_lit16, ishr_lit32, ishr_lit18, Int.tmod_eq_emod_of_nonneg, Int.tdiv_eq_ediv_of_nonneg, Int.toNat_natCast, Nat.add_zero]); omega) ?_) | ((refine br_dec (fun h => ?_) (fun h => ?_)) <;> try (exfalso; revert h; (try simp (disch := omega) only [w64_in, u32_in', u64_in', u8_in', ishr_lit8, ishr_lit16, ishr_lit32, ishr_lit18, Int.tmod_eq_emod_of_nonneg, Int.tdiv_eq_ediv_of_nonneg, Int.toNat_natCast, Nat.add_zero]); omega)) | ((first | apply br_dec | apply br_ndec) <;> intro h <;> try (exfalso; (try dsimp only at h); omega)) | ((first | apply br_seq | apply br_nseq | apply br_not | apply br_intro) <;> intro h) | refine cond_a ?_)
      all_goals (conv => whnf)
      refine ret_out (l := [0, 1]) rfl rfl ⟨?_, trivial⟩ (allRw_cons allRw_nil)
      refine congrArg (fun z => some (HB.one false (.cols N [.sc (.ints .u8 z)]))) ?_
      rw [dtab_set (m := m), dtab_set (m := m + 1), dtab_set (m := m + 2), dtab_set (m := m + 3), dtab_set (m := m + 4)]
      all_goals first | omega | ((try simp (disch := omega) only [w64_in, u32_in', u64_in', u8_in', ishr_lit8, ishr_lit16, ishr_lit32, ishr_lit18, Int.tmod_eq_emod_of_nonneg, Int.tdiv_eq_ediv_of_nonneg, Int.toNat_natCast, Nat.add_zero]); omega) | ((try simp (disch := omega) only [w64_in, u32_in', u64_in', u8_in', ishr_lit8, ishr_lit16, ishr_lit32, ishr_lit18, Int.tmod_eq_emod_of_nonneg, Int.tdiv_eq_ediv_of_nonneg, Int.toNat_natCast, Nat.add_zero]); rw [sm_odd (by kernel_rfl) (by omega) (by omega)]; simp only [pow_step, hq, Nat.reducePow]; omega) | ((try simp (disch := omega) only [w64_in, u32_in', u64_in', u8_in', ishr_lit8, ishr_lit16, ishr_lit32, ishr_lit18, Int.tmod_eq_emod_of_nonneg, Int.tdiv_eq_ediv_of_nonneg, Int.toNat_natCast, Nat.add_zero]); rw [sm_even (by kernel_rfl) (by omega) (by omega)]; simp only [pow_step, hq, Nat.reducePow]; omega) | ((try simp (disch := omega) only [w64_in, u32_in', u64_in', u8_in', ishr_lit8, ishr_lit16, ishr_lit32, ishr_lit18, Int.tmod_eq_emod_of_nonneg, Int.tdiv_eq_ediv_of_nonneg, Int.toNat_natCast, Nat.add_zero]); simp only [pow_step, hq, Nat.reducePow]; omega)
    · obtain rfl : n = m + 6 := by omega
      have hk' : q < 10 ^ 6 := by simpa [hk] using hdm
      repeat' ((conv => whnf); first | (refine cond_intro ⟨by (try simp (disch := omega) only [w64_in, u32_in', u64_in', u8_in', ishr_lit8, ishr_lit16, ishr_lit32, ishr_lit18, Int.tmod_eq_emod_of_nonneg, Int.tdiv_eq_ediv_of_nonneg, Int.toNat_natCast, Nat.add_zero]); omega, sz_lt (n := 200) (by kernel_rfl) (by (try simp (disch := omega) only [w64_in, u32_in', u64_in', u8_in', ishr_lit8, ishr_lit16, ishr_lit32, ishr_lit18, Int.tmod_eq_emod_of_nonneg, Int.tdiv_eq_ediv_of_nonneg, Int.toNat_natCast, Nat.add_zero]); omega)⟩ ?_) | (refine cond_intro ⟨by (try simp (disch := omega) only [w64_in, u32_in', u64_in', u8_in', ishr_lit8, ishr_lit16, ishr_lit32, ishr_lit18, Int.tmod_eq_emod_of_nonneg, Int.tdiv_eq_ediv_of_nonneg, Int.toNat_natCast, Nat.add_zero]); omega, by (try simp (disch := omega) only [w64_in, u32_in', u64_in', u8_in', ishr_lit8, ishr_lit16, ishr_lit32, ishr_lit18, Int.tmod_eq_emod_of_nonneg, Int.tdiv_eq_ediv_of_nonneg, Int.toNat_natCast, Nat.add_zero]); omega⟩ ?_) | (refine cond_intro (by (try simp (disch := omega) only [w64_in, u32_in', u64_in', u8_in', ishr_lit8, ishr_lit16, ishr_lit32, ishr_lit18, Int.tmod_eq_emod_of_nonneg, Int.tdiv_eq_ediv_of_nonneg, Int.toNat_natCast, Nat.add_zero]); omega) ?_) | ((refine br_dec (fun h => ?_) (fun h => ?_)) <;> try (exfalso; revert h; (try simp (disch := omega) only [w64_in, u32_in', u64_in', u8_in', ishr_lit8, ishr_lit16, ishr_lit32, ishr_lit18, Int.tmod_eq_emod_of_nonneg, Int.tdiv_eq_ediv_of_nonneg, Int.toNat_natCast, Nat.add_zero]); omega)) | ((first | apply br_dec | apply br_ndec) <;> intro h <;> try (exfalso; (try dsimp only at h); omega)) | ((first | apply br_seq | apply br_nseq | apply br_not | apply br_intro) <;> intro h) | refine cond_a ?_)
      all_goals (conv => whnf)
      refine ret_out (l := [0, 1]) rfl rfl ⟨?_, trivial⟩ (allRw_cons allRw_nil)
      refine congrArg (fun z => some (HB.one false (.cols N [.sc (.ints .u8 z)]))) ?_
      rw [dtab_set (m := m), dtab_set (m := m + 1), dtab_set (m := m + 2), dtab_set (m := m + 3), dtab_set (m := m + 4), dtab_set (m := m + 5)]
      all_goals first | omega | ((try simp (disch := omega) only [w64_in, u32_in', u64_in', u8_in', ishr_lit8, ishr_lit16, ishr_lit32, ishr_lit18, Int.tmod_eq_emod_of_nonneg, Int.tdiv_eq_ediv_of_nonneg, Int.toNat_natCast, Nat.add_zero]); omega) | ((try simp (disch := omega) only [w64_in, u32_in', u64_in', u8_in', ishr_lit8, ishr_lit16, ishr_lit32, ishr_lit18, Int.tmod_eq_emod_of_nonneg, Int.tdiv_eq_ediv_of_nonneg, Int.toNat_natCast, Nat.add_zero]); rw [sm_odd (by kernel_rfl) (by omega) (by omega)]; simp only [pow_step, hq, Nat.reducePow]; omega) | ((try simp (disch := omega) only [w64_in, u32_in', u64_in', u8_in', ishr_lit8, ishr_lit16, ishr_lit32, ishr_lit18, Int.tmod_eq_emod_of_nonneg, Int.tdiv_eq_ediv_of_nonneg, Int.toNat_natCast, Nat.add_zero]); rw [sm_even (by kernel_rfl) (by omega) (by omega)]; simp only [pow_step, hq, Nat.reducePow]; omega) | ((try simp (disch := omega) only [w64_in, u32_in', u64_in', u8_in', ishr_lit8, ishr_lit16, ishr_lit32, ishr_lit18, Int.tmod_eq_emod_of_nonneg, Int.tdiv_eq_ediv_of_nonneg, Int.toNat_natCast, Nat.add_zero]); simp only [pow_step, hq, Nat.reducePow]; omega)
    · obtain rfl : n = m + 7 := by omega
      have hk' : q < 10 ^ 7 := by simpa [hk] using hdm
      repeat' ((conv => whnf); first | (refine cond_intro ⟨by (try simp (disch := omega) only [w64_in, u32_in', u64_in', u8_in', ishr_lit8, ishr_lit16, ishr_lit32, ishr_lit18, Int.tmod_eq_emod_of_nonneg, Int.tdiv_eq_ediv_of_nonneg, Int.toNat_natCast, Nat.add_zero]); omega, sz_lt (n := 200) (by kernel_rfl) (by (try simp (disch := omega) only [w64_in, u32_in', u64_in', u8_in', ishr_lit8, ishr_lit16, ishr_lit32, ishr_lit18, Int.tmod_eq_emod_of_nonneg, Int.tdiv_eq_ediv_of_nonneg, Int.toNat_natCast, Nat.add_zero]); omega)⟩ ?_) | (refine cond_intro ⟨by (try simp (disch := omega) only [w64_in, u32_in', u64_in', u8_in', ishr_lit8, ishr_lit16, ishr_lit32, ishr_lit18, Int.tmod_eq_emod_of_nonneg, Int.tdiv_eq_ediv_of_nonneg, Int.toNat_natCast, Nat.add_zero]); omega, by (try simp (disch := omega) only [w64_in, u32_in', u64_in', u8_in', ishr_lit8, ishr_lit16, ishr_lit32, ishr_lit18, Int.tmod_eq_emod_of_nonneg, Int.tdiv_eq_ediv_of_nonneg, Int.toNat_natCast, Nat.add_zero]); omega⟩ ?_) | (refine cond_intro (by (try simp (disch := omega) only [w64_in, u32_in', u64_in', u8_in', ishr_lit8, ishr_lit16, ishr_lit32, ishr_lit18, Int.tmod_eq_emod_of_nonneg, Int.tdiv_eq_ediv_of_nonneg, Int.toNat_natCast, Nat.add_zero]); omega) ?_) | ((refine br_dec (fun h => ?_) (fun h => ?_)) <;> try (exfalso; revert h; (try simp (disch := omega) only [w64_in, u32_in', u64_in', u8_in', ishr_lit8, ishr_lit16, ishr_lit32, ishr_lit18, Int.tmod_eq_emod_of_nonneg, Int.tdiv_eq_ediv_of_nonneg, Int.toNat_natCast, Nat.add_zero]); omega)) | ((first | apply br_dec | apply br_ndec) <;> intro h <;> try (exfalso; (try dsimp only at h); omega)) | ((first | apply br_seq | apply br_nseq | apply br_not | apply br_intro) <;> intro h) | refine cond_a ?_)
      all_goals (conv => whnf)
      refine ret_out (l := [0, 1]) rfl rfl ⟨?_, trivial⟩ (allRw_cons allRw_nil)
      refine congrArg (fun z => some (HB.one false (.cols N [.sc (.ints .u8 z)]))) ?_
      rw [dtab_set (m := m), dtab_set (m := m + 1), dtab_set (m := m + 2), dtab_set (m := m + 3), dtab_set (m := m + 4), dtab_set (m := m + 5), dtab_set (m := m + 6)]
      all_goals first | omega | ((try simp (disch := omega) only [w64_in, u32_in', u64_in', u8_in', ishr_lit8, ishr_lit16, ishr_lit32, ishr_lit18, Int.tmod_eq_emod_of_nonneg, Int.tdiv_eq_ediv_of_nonneg, Int.toNat_natCast, Nat.add_zero]); omega) | ((try simp (disch := omega) only [w64_in, u32_in', u64_in', u8_in', ishr_lit8, ishr_lit16, ishr_lit32, ishr_lit18, Int.tmod_eq_emod_of_nonneg, Int.tdiv_eq_ediv_of_nonneg, Int.toNat_natCast, Nat.add_zero]); rw [sm_odd (by kernel_rfl) (by omega) (by omega)]; simp only [pow_step, hq, Nat.reducePow]; omega) | ((try simp (disch := omega) only [w64_in, u32_in', u64_in', u8_in', ishr_lit8, ishr_lit16, ishr_lit32, ishr_lit18, Int.tmod_eq_emod_of_nonneg, Int.tdiv_eq_ediv_of_nonneg, Int.toNat_natCast, Nat.add_zero]); rw [sm_even (by kernel_rfl) (by omega) (by omega)]; simp only [pow_step, hq, Nat.reducePow]; omega) | ((try simp (disch := omega) only [w64_in, u32_in', u64_in', u8_in', ishr_lit8, ishr_lit16, ishr_lit32, ishr_lit18, Int.tmod_eq_emod_of_nonneg, Int.tdiv_eq_ediv_of_nonneg, Int.toNat_natCast, Nat.add_zero]); simp only [pow_step, hq, Nat.reducePow]; omega)
end Go.Proofs.YtdlpmmdbdjlojaaDoor

/- Contracts of the library: FormatInt. -/
namespace Go.Proofs.YtdlpmmdbdjlojaaDoor
open Go.RowKit Go.Sy
attribute [local irreducible] vcall vloop vcallD retP
set_option maxRecDepth 100000
set_option linter.unusedVariables false
set_option linter.unusedSimpArgs false

theorem ndig_le {u : Nat} (h : u < 18446744073709551616) : ndig u ≤ 20 := by
  rcases Nat.lt_or_ge 20 (ndig u) with h1 | h1
  · have hu : 1 ≤ u := by
      rcases Nat.eq_zero_or_pos u with e | e
      · subst e; rw [ndig, if_pos (by omega)] at h1; omega
      · exact e
    have a := ndig_ge u hu
    have : 10 ^ 20 ≤ 10 ^ (ndig u - 1) := Nat.pow_le_pow_right (by omega) (by omega)
    omega
  · exact h1

theorem iconv_FormatInt (i : Int) (h1 : -9223372036854775808 ≤ i) (h2 : i ≤ 9223372036854775807) : Glob Tryd.prog glT 68 [.int .i64 i, .int .i64 10] (.str (decI i)) := by
  refine fc_of mixed T_ok Tryd.func68 rfl (by kernel_rfl) (by kernel_rfl) (by kernel_rfl) ?_
  by_cases hs : 0 ≤ i ∧ i < 100
  · have c := conv_small i.toNat (by omega)
    rw [Int.toNat_of_nonneg hs.1] at c
    repeat' ((conv => whnf); first | (refine vcall_pure (c) rfl rfl rfl ?_) | ((first | apply br_dec | apply br_ndec) <;> intro h <;> try (exfalso; (try dsimp only at h); omega)) | ((first | apply br_seq | apply br_nseq | apply br_not | apply br_intro) <;> intro h) | refine cond_a ?_)
    all_goals (conv => whnf)
    all_goals refine ret_pure ?_
    unfold decI
    rw [if_neg (by omega)]; rfl
  · by_cases hi : i < 0
    · have e : IntKind.u64.wrap (0 - IntKind.u64.wrap i) = (i.natAbs : Int) := by
        simp only [IntKind.wrap, IntKind.bits, IntKind.signed]; simp; omega
      have hb : i.natAbs < 18446744073709551616 := by omega
      have hn := ndig_le hb
      have hp := ndig_pos i.natAbs
      have c2 := conv_numDigits i.natAbs (by omega) hb
      rw [← e] at c2
      have en : (IntKind.i64.wrap (1 + (ndig i.natAbs : Int))).toNat = 1 + ndig i.natAbs := by (try simp (disch := omega) only [w64_in, u32_in', u64_in', u8_in', ishr_lit8, ishr_lit16, ishr_lit32, ishr_lit18, Int.tmod_eq_emod_of_nonneg, Int.tdiv_eq_ediv_of_nonneg, Int.toNat_natCast, Nat.add_zero]); omega
      have en' : (IntKind.i64.wrap (1 + (ndig i.natAbs : Int))).toNat - Int.toNat 1 = ndig i.natAbs := by rw [en]; simp
      have c3 := conv_formatBase10 (List.replicate 24 0) 24 (Int.toNat 1) ((IntKind.i64.wrap (1 + (ndig i.natAbs : Int))).toNat - Int.toNat 1) i.natAbs rfl (by rw [en']; show 1 + _ ≤ 24; omega) (by omega) (by rw [en']; exact ndig_lt _) hb
      rw [← e] at c3
      repeat' ((conv => whnf); first | (refine vcall_glob (c2) rfl rfl rfl rfl ?_) | refine vcall_o (l := [0, 1]) (c3) ?_ | (refine cond_intro ⟨by (try simp (disch := omega) only [w64_in, u32_in', u64_in', u8_in', ishr_lit8, ishr_lit16, ishr_lit32, ishr_lit18, Int.tmod_eq_emod_of_nonneg, Int.tdiv_eq_ediv_of_nonneg, Int.toNat_natCast, Nat.add_zero]); omega, by (try simp (disch := omega) only [w64_in, u32_in', u64_in', u8_in', ishr_lit8, ishr_lit16, ishr_lit32, ishr_lit18, Int.tmod_eq_emod_of_nonneg, Int.tdiv_eq_ediv_of_nonneg, Int.toNat_natCast, Nat.add_zero]); omega, by (try simp (disch := omega) only [w64_in, u32_in', u64_in', u8_in', ishr_lit8, ishr_lit16, ishr_lit32, ishr_lit18, Int.tmod_eq_emod_of_nonneg, Int.tdiv_eq_ediv_of_nonneg, Int.toNat_natCast, Nat.add_zero]); omega⟩ ?_) | (refine cond_intro (by (try simp (disch := omega) only [w64_in, u32_in', u64_in', u8_in', ishr_lit8, ishr_lit16, ishr_lit32, ishr_lit18, Int.tmod_eq_emod_of_nonneg, Int.tdiv_eq_ediv_of_nonneg, Int.toNat_natCast, Nat.add_zero]); omega) ?_) | ((first | apply br_dec | apply br_ndec) <;> intro h <;> try (exfalso; (try dsimp only at h); omega)) | ((first | apply br_seq | apply br_nseq | apply br_not | apply br_intro) <;> intro h) | refine cond_a ?_)
      all_goals (conv => whnf)
      all_goals refine ret_pure ?_
      unfold decI
      rw [if_pos hi]
      refine congrArg SV.str (congrArg bytesOf ?_)
      rw [en', en]
      refine Eq.trans (seg_head (n := ndig i.natAbs) (by rw [dtab_length]; omega)) ?_
      rw [show Int.toNat 1 = 1 from rfl, dtab_seg (by omega)]
    · have e : IntKind.u64.wrap i = (i.toNat : Int) := by (try simp (disch := omega) only [w64_in, u32_in', u64_in', u8_in', ishr_lit8, ishr_lit16, ishr_lit32, ishr_lit18, Int.tmod_eq_emod_of_nonneg, Int.tdiv_eq_ediv_of_nonneg, Int.toNat_natCast, Nat.add_zero]); omega
      have hb : i.toNat < 18446744073709551616 := by omega
      have hn := ndig_le hb
      have hp := ndig_pos i.toNat
      have c2 := conv_numDigits i.toNat (by omega) hb
      rw [← e] at c2
      have en : (IntKind.i64.wrap (1 + (ndig i.toNat : Int))).toNat = 1 + ndig i.toNat := by (try simp (disch := omega) only [w64_in, u32_in', u64_in', u8_in', ishr_lit8, ishr_lit16, ishr_lit32, ishr_lit18, Int.tmod_eq_emod_of_nonneg, Int.tdiv_eq_ediv_of_nonneg, Int.toNat_natCast, Nat.add_zero]); omega
      have en' : (IntKind.i64.wrap (1 + (ndig i.toNat : Int))).toNat - Int.toNat 1 = ndig i.toNat := by rw [en]; simp
      have c3 := conv_formatBase10 (List.replicate 24 0) 24 (Int.toNat 1) ((IntKind.i64.wrap (1 + (ndig i.toNat : Int))).toNat - Int.toNat 1) i.toNat rfl (by rw [en']; show 1 + _ ≤ 24; omega) (by omega) (by rw [en']; exact ndig_lt _) hb
      rw [← e] at c3
      repeat' ((conv => whnf); first | (refine vcall_glob (c2) rfl rfl rfl rfl ?_) | refine vcall_o (l := [0, 1]) (c3) ?_ | (refine cond_intro ⟨by (try simp (disch := omega) only [w64_in, u32_in', u64_in', u8_in', ishr_lit8, ishr_lit16, ishr_lit32, ishr_lit18, Int.tmod_eq_emod_of_nonneg, Int.tdiv_eq_ediv_of_nonneg, Int.toNat_natCast, Nat.add_zero]); omega, by (try simp (disch := omega) only [w64_in, u32_in', u64_in', u8_in', ishr_lit8, ishr_lit16, ishr_lit32, ishr_lit18, Int.tmod_eq_emod_of_nonneg, Int.tdiv_eq_ediv_of_nonneg, Int.toNat_natCast, Nat.add_zero]); omega, by (try simp (disch := omega) only [w64_in, u32_in', u64_in', u8_in', ishr_lit8, ishr_lit16, ishr_lit32, ishr_lit18, Int.tmod_eq_emod_of_nonneg, Int.tdiv_eq_ediv_of_nonneg, Int.toNat_natCast, Nat.add_zero]); omega⟩ ?_) | (refine cond_intro (by (try simp (disch := omega) only [w64_in, u32_in', u64_in', u8_in', ishr_lit8, ishr_lit16, ishr_lit32, ishr_lit18, Int.tmod_eq_emod_of_nonneg, Int.tdiv_eq_ediv_of_nonneg, Int.toNat_natCast, Nat.add_zero]); omega) ?_) | ((first | apply br_dec | apply br_ndec) <;> intro h <;> try (exfalso; (try dsimp only at h); omega)) | ((first | apply br_seq | apply br_nseq | apply br_not | apply br_intro) <;> intro h) | refine cond_a ?_)
      all_goals (conv => whnf)
      all_goals refine ret_pure ?_
      unfold decI dec
      rw [if_neg hi]
      refine congrArg SV.str (congrArg bytesOf ?_)
      rw [en', show Int.toNat 1 = 1 from rfl, dtab_seg (by omega)]

theorem conv_FormatInt (i : Int) (h1 : -9223372036854775808 ≤ i) (h2 : i ≤ 9223372036854775807) : Glob Tryd.prog glT 60 [.int .i64 i, .int .i64 10] (.str (decI i)) := by
  have c := iconv_FormatInt i h1 h2
  refine fc_of mixed T_ok Tryd.func60 rfl (by kernel_rfl) (by kernel_rfl) (by kernel_rfl) ?_
  repeat' ((conv => whnf); first | (refine vcall_glob (c) rfl rfl rfl rfl ?_) | ((first | apply br_dec | apply br_ndec) <;> intro h <;> try (exfalso; (try dsimp only at h); omega)) | ((first | apply br_seq | apply br_nseq | apply br_not | apply br_intro) <;> intro h) | refine cond_a ?_)
  all_goals (conv => whnf)
  all_goals exact ret_pure rfl

end Go.Proofs.YtdlpmmdbdjlojaaDoor

/- Plain facts: long multiplication and long division of words. No program in sight. -/
namespace Go.Sy
open Go.RowKit

theorem iand_mask {x : Nat} (h : x < 18446744073709551616) : iand .u64 (x : Int) 4294967295 = ((x % 4294967296 : Nat) : Int) := by
  have h1 : (BitVec.ofInt 64 (x : Int) &&& BitVec.ofInt 64 4294967295).toNat = x % 4294967296 := by
    rw [BitVec.toNat_and, BitVec.toNat_ofInt, BitVec.toNat_ofInt]
    rw [show ((x : Int) % ((2 ^ 64 : Nat) : Int)).toNat = x by omega, show ((4294967295 : Int) % ((2 ^ 64 : Nat) : Int)).toNat = 2 ^ 32 - 1 by decide, Nat.and_two_pow_sub_one_eq_mod]
  show IntKind.u64.wrap (((BitVec.ofInt 64 (x : Int) &&& BitVec.ofInt 64 4294967295).toNat : Nat) : Int) = _
  rw [h1]
  exact u64_in' (by omega) (by omega)
theorem u64_wrap_nat (x : Nat) : IntKind.u64.wrap (x : Int) = ((x % 18446744073709551616 : Nat) : Int) := by
  simp only [IntKind.wrap, IntKind.bits, IntKind.signed]; simp
theorem ishr_nat {x s : Nat} (h : s ≤ 64) : ishr .u64 (x : Int) (s : Int) = ((x / 2 ^ s : Nat) : Int) := by
  rw [ishr_lit (k := .u64) s h]
  simp

/-- Long multiplication. -/
theorem mul_hi {x y x0 x1 y0 y1 : Nat} (hx : x = x1 * 4294967296 + x0) (hy : y = y1 * 4294967296 + y0) : x * y = (x1 * y1) * 18446744073709551616 + (x1 * y0) * 4294967296 + (x0 * y1) * 4294967296 + x0 * y0 := by
  subst hx; subst hy
  simp only [Nat.add_mul, Nat.mul_add]
  have e1 : x1 * 4294967296 * (y1 * 4294967296) = x1 * y1 * 18446744073709551616 := by
    rw [Nat.mul_assoc, Nat.mul_left_comm 4294967296 y1, ← Nat.mul_assoc]
  have e2 : x1 * 4294967296 * y0 = x1 * y0 * 4294967296 := by rw [Nat.mul_assoc, Nat.mul_comm 4294967296, ← Nat.mul_assoc]
  have e3 : x0 * (y1 * 4294967296) = x0 * y1 * 4294967296 := by rw [Nat.mul_assoc]
  omega
theorem mul_lt {a b : Nat} (ha : a < 4294967296) (hb : b < 4294967296) : a * b ≤ 18446744065119617025 := by
  have := Nat.mul_le_mul (show a ≤ 4294967295 by omega) (show b ≤ 4294967295 by omega)
  omega

/-- One digit of a long division. -/
structure KD (u32 u1 Y1 Y0 Q : Nat) : Prop where
  b1 : u1 < 4294967296
  b0 : Y0 < 4294967296
  n1 : 2147483648 ≤ Y1
  n2 : Y1 < 4294967296
  lt : u32 < Y1 * 4294967296 + Y0
  q : Q = (u32 * 4294967296 + u1) / (Y1 * 4294967296 + Y0)

section
variable {u32 u1 Y1 Y0 Q : Nat} (k : KD u32 u1 Y1 Y0 Q)
include k
theorem KD.le : Q ≤ u32 / Y1 := by
  have h1 : Q * (Y1 * 4294967296 + Y0) ≤ u32 * 4294967296 + u1 := by rw [k.q]; exact Nat.div_mul_le_self _ _
  rw [Nat.le_div_iff_mul_le (by have := k.n1; omega)]
  rw [Nat.mul_add, ← Nat.mul_assoc] at h1
  have := k.b1
  have h2 : 0 ≤ Q * Y0 := Nat.zero_le _
  omega
end

end Go.Sy

/- Contracts of the library: long multiplication. -/
namespace Go.Proofs.YtdlpmmdbdjlojaaDoor
open Go.RowKit Go.Sy
attribute [local irreducible] vcall vloop vcallD retP
set_option maxRecDepth 100000
set_option linter.unusedVariables false
set_option linter.unusedSimpArgs false

theorem ishr32 {x : Nat} : ishr .u64 (x : Int) 32 = ((x / 4294967296 : Nat) : Int) := ishr_nat (s := 32) (by omega)
theorem wmul {a b : Nat} (h : a * b < 18446744073709551616) : IntKind.u64.wrap ((a : Int) * (b : Int)) = ((a * b : Nat) : Int) := by
  rw [← Int.natCast_mul]; exact u64_in' (by omega) (by omega)
theorem wadd {a b : Nat} (h : a + b < 18446744073709551616) : IntKind.u64.wrap ((a : Int) + (b : Int)) = ((a + b : Nat) : Int) := by
  rw [← Int.natCast_add]; exact u64_in' (by omega) (by omega)

theorem tup2 {k j : IntKind} {a b c d : Int} (h : a = c) (h' : b = d) : SV.tup [.int k a, .int j b] = SV.tup [.int k c, .int j d] := by rw [h, h']
theorem bits_Mul64 (x y : Nat) (hx : x < 18446744073709551616) (hy : y < 18446744073709551616) : Pure Tryd.prog 78 [.int .u64 x, .int .u64 y] (.tup [.int .u64 (x * y / 18446744073709551616 : Nat), .int .u64 (x * y % 18446744073709551616 : Nat)]) := by
  refine fc_of mixed T_ok Tryd.func78 rfl (by kernel_rfl) (by kernel_rfl) (by kernel_rfl) ?_
  repeat' ((conv => whnf); first | ((first | apply br_dec | apply br_ndec) <;> intro h <;> try (exfalso; (try dsimp only at h); omega)) | ((first | apply br_seq | apply br_nseq | apply br_not | apply br_intro) <;> intro h) | refine cond_a ?_)
  all_goals (conv => whnf)
  refine ret_pure ?_
  have e1 := iand_mask hx
  have e3 := iand_mask hy
  have k := mul_hi (x := x) (y := y) (x0 := x % 4294967296) (x1 := x / 4294967296) (y0 := y % 4294967296) (y1 := y / 4294967296) (by omega) (by omega)
  have w : IntKind.u64.wrap ((x : Int) * (y : Int)) = ((x * y % 18446744073709551616 : Nat) : Int) := by rw [← Int.natCast_mul, u64_wrap_nat]
  have a0 : x % 4294967296 < 4294967296 := by omega
  have a1 : x / 4294967296 < 4294967296 := by omega
  have b0 : y % 4294967296 < 4294967296 := by omega
  have b1 : y / 4294967296 < 4294967296 := by omega
  simp only [oneOr, e1, e3, ishr32, w]
  generalize x % 4294967296 = x0 at *
  generalize x / 4294967296 = x1 at *
  generalize y % 4294967296 = y0 at *
  generalize y / 4294967296 = y1 at *
  have m00 := mul_lt a0 b0
  have m10 := mul_lt a1 b0
  have m01 := mul_lt a0 b1
  have m11 := mul_lt a1 b1
  rw [wmul (a := x0) (b := y0) (by omega), wmul (a := x1) (b := y0) (by omega), wmul (a := x0) (b := y1) (by omega), wmul (a := x1) (b := y1) (by omega), k]
  generalize x0 * y0 = S at *
  generalize x1 * y0 = Q at *
  generalize x0 * y1 = R at *
  generalize x1 * y1 = T at *
  rw [ishr32, wadd (by omega), ishr32, iand_mask (by omega), wadd (by omega), wadd (by omega), ishr32, wadd (by omega)]
  refine tup2 ?_ rfl
  omega

end Go.Proofs.YtdlpmmdbdjlojaaDoor

/- Plain facts on digits and strings. No program in sight. -/
namespace Go.Sy
open Go.RowKit

theorem ext_ba {x y : ByteArray} (h : x.data.toList = y.data.toList) : x = y := by
  cases x; cases y; simp at h; congr
theorem digs_pad {n k w : Nat} (h : n < 10 ^ k) (hk : k ≤ w) : digs w n = List.replicate (w - k) 48 ++ digs k n := by
  apply List.ext_getElem?
  intro i
  by_cases hi : i < w
  · rw [digs_get _ _ _ hi]
    by_cases h2 : i < w - k
    · rw [List.getElem?_append_left (by simpa using h2), List.getElem?_replicate, if_pos h2]
      have : n / 10 ^ (w - 1 - i) = 0 := Nat.div_eq_of_lt (Nat.lt_of_lt_of_le h (Nat.pow_le_pow_right (by omega) (by omega)))
      rw [this]; rfl
    · rw [List.getElem?_append_right (by simpa using Nat.le_of_not_lt h2), List.length_replicate, digs_get _ _ _ (by omega)]
      rw [show k - 1 - (i - (w - k)) = w - 1 - i from by omega]
  · rw [List.getElem?_eq_none (by rw [digs_length]; omega), List.getElem?_eq_none (by simp [digs_length]; omega)]
theorem digs_bd {w n : Nat} {x : Int} (h : x ∈ digs w n) : 48 ≤ x ∧ x ≤ 57 := by
  obtain ⟨i, hi, rfl⟩ := List.getElem_of_mem h
  rw [digs_length] at hi
  have := digs_get w n i hi
  rw [List.getElem?_eq_getElem (by rw [digs_length]; exact hi)] at this
  simp only [Option.some.injEq] at this
  rw [this]; omega
theorem bytesOf_size (l : List Int) : (bytesOf l).size = l.length := by simp [bytesOf, ByteArray.size]
theorem byteAt_bytesOf {l : List Int} (h : ∀ x ∈ l, 0 ≤ x ∧ x ≤ 255) (i : Nat) (hi : i < l.length) : byteAt (bytesOf l) (i : Int) = l.getD i 0 := by
  unfold byteAt bytesOf
  rw [Int.toNat_natCast]
  have hm := h _ (List.getElem_mem hi)
  rw [List.getD, List.getElem?_eq_getElem (by simpa using hi), List.getD, List.getElem?_eq_getElem hi]
  simp
  have : (UInt8.ofNat (l[i].toNat)).toNat = l[i].toNat := by
    rw [UInt8.toNat_ofNat']; omega
  omega
theorem append_bytesOf (a b : List Int) : bytesOf a ++ bytesOf b = bytesOf (a ++ b) := by
  apply ext_ba
  simp [bytesOf, ByteArray.data_append]
theorem extract_left {a b : ByteArray} {n : Nat} (h : a.size = n) : (a ++ b).extract 0 n = a := by
  apply ext_ba
  have : a.data.toList.length = n := by simpa using h
  simp only [ByteArray.data_extract, ByteArray.data_append, Array.toList_extract, Array.toList_append, List.extract_eq_take_drop, Nat.sub_zero, List.drop_zero]
  rw [List.take_append_of_le_length (by omega), List.take_of_length_le (by omega)]
theorem extract_right {a b : ByteArray} {n m : Nat} (h : a.size = n) (hm : m = n + b.size) : (a ++ b).extract n m = b := by
  apply ext_ba
  have h1 : a.data.toList.length = n := by simpa using h
  have h2 : b.data.toList.length = b.size := by simp
  simp only [ByteArray.data_extract, ByteArray.data_append, Array.toList_extract, Array.toList_append, List.extract_eq_take_drop]
  rw [List.drop_append_of_le_length (by omega), List.drop_eq_nil_of_le (by omega), List.nil_append, List.take_of_length_le (by omega)]

/-- A row of digits, and its value. -/
def dgAt (s : ByteArray) (i : Nat) : Prop := 48 ≤ byteAt s (i : Int) ∧ byteAt s (i : Int) ≤ 57
instance (s : ByteArray) (i : Nat) : Decidable (dgAt s i) := by unfold dgAt; infer_instance
def dgTo (s : ByteArray) : Nat → Bool
  | 0 => true
  | k + 1 => dgTo s k && decide (dgAt s k)
def numTo (s : ByteArray) : Nat → Int
  | 0 => 0
  | k + 1 => 10 * numTo s k + (byteAt s (k : Int) - 48)
theorem dgTo_false {s : ByteArray} {k n : Nat} (h : k < n) (hc : ¬ dgAt s k) : dgTo s n = false := by
  induction n with
  | zero => omega
  | succ n ih =>
    simp only [dgTo]
    by_cases e : k = n
    · subst e; simp [hc]
    · rw [ih (by omega)]; rfl
theorem numTo_bd {s : ByteArray} : ∀ k, dgTo s k = true → 0 ≤ numTo s k ∧ numTo s k < 10 ^ k
  | 0, _ => by simp [numTo]
  | k + 1, h => by
    simp only [dgTo, Bool.and_eq_true, decide_eq_true_eq] at h
    have ih := numTo_bd k h.1
    have hd := h.2
    unfold dgAt at hd
    simp only [numTo]
    have : (10 : Int) ^ (k + 1) = 10 * 10 ^ k := by rw [Int.pow_succ]; omega
    omega
theorem dg_digs {w n : Nat} {s : ByteArray} (hs : s = bytesOf (digs w n)) : ∀ k, k ≤ w → dgTo s k = true ∧ numTo s k = ((n / 10 ^ (w - k) % 10 ^ k : Nat) : Int)
  | 0, _ => by simp [dgTo, numTo, Nat.mod_one]
  | k + 1, h => by
    obtain ⟨i1, i2⟩ := dg_digs hs k (by omega)
    have hb : byteAt s (k : Int) = ((48 + n / 10 ^ (w - 1 - k) % 10 : Nat) : Int) := by
      rw [hs, byteAt_bytesOf (fun x hx => by have := digs_bd hx; omega) k (by rw [digs_length]; omega), List.getD, digs_get _ _ _ (by omega)]
      rfl
    constructor
    · simp only [dgTo, i1, Bool.true_and, decide_eq_true_eq]
      unfold dgAt
      omega
    · simp only [numTo, i2, hb]
      have e1 : w - k = (w - (k + 1)) + 1 := by omega
      have e2 : w - 1 - k = w - (k + 1) := by omega
      rw [e2, e1, Nat.pow_succ, ← Nat.div_div_eq_div_mul]
      generalize n / 10 ^ (w - (k + 1)) = q
      rw [Nat.pow_succ, Nat.mul_comm (10 ^ k) 10, Nat.mod_mul]
      omega

end Go.Sy

/- Contracts of package wire and of the library: numbers with leading zeros. -/
namespace Go.Proofs.YtdlpmmdbdjlojaaDoor
open Go.RowKit Go.Sy
attribute [local irreducible] vcall vloop vcallD retP
set_option maxRecDepth 100000
set_option linter.unusedVariables false
set_option linter.unusedSimpArgs false

theorem i64_succ {k : Nat} (h : k < 9223372036854775806) : IntKind.i64.wrap ((k : Int) + 1) = ((k + 1 : Nat) : Int) := by rw [w64_in (by omega) (by omega)]; rfl

theorem bits_Mul (x y : Nat) (hx : x < 18446744073709551616) (hy : y < 18446744073709551616) : Pure Tryd.prog 69 [.int .u64 x, .int .u64 y] (.tup [.int .u64 (x * y / 18446744073709551616 : Nat), .int .u64 (x * y % 18446744073709551616 : Nat)]) := by
  have c := bits_Mul64 x y hx hy
  refine fc_of mixed T_ok Tryd.func69 rfl (by kernel_rfl) (by kernel_rfl) (by kernel_rfl) ?_
  repeat' ((conv => whnf); first | (refine vcall_pure (c) rfl rfl rfl ?_) | ((first | apply br_dec | apply br_ndec) <;> intro h <;> try (exfalso; (try dsimp only at h); omega)) | ((first | apply br_seq | apply br_nseq | apply br_not | apply br_intro) <;> intro h) | refine cond_a ?_)
  all_goals (conv => whnf)
  all_goals exact ret_pure rfl

/-- Whether a string begins with another. -/
def preB (s p : ByteArray) : Bool := decide (p.size ≤ s.size) && seq (s.extract 0 p.size) p
theorem sl_HasPrefix (s p : ByteArray) (hs : s.size ≤ 9223372036854775807) : Pure Tryd.prog 79 [.str s, .str p] (.bool (preB s p)) := by
  refine fc_of mixed T_ok Tryd.func79 rfl (by kernel_rfl) (by kernel_rfl) (by kernel_rfl) ?_
  repeat' ((conv => whnf); first | ((first | apply br_dec | apply br_ndec) <;> intro h <;> try (exfalso; (try dsimp only at h); omega)) | ((first | apply br_seq | apply br_nseq | apply br_not | apply br_intro) <;> intro h) | refine cond_a ?_)
  all_goals (conv => whnf)
  all_goals refine ret_pure (congrArg SV.bool ?_)
  all_goals unfold preB
  · rw [decide_eq_true (by omega)]; rfl
  · rw [decide_eq_false (by omega)]; rfl
theorem str_HasPrefix (s p : ByteArray) (hs : s.size ≤ 9223372036854775807) : Pure Tryd.prog 70 [.str s, .str p] (.bool (preB s p)) := by
  have c := sl_HasPrefix s p hs
  refine fc_of mixed T_ok Tryd.func70 rfl (by kernel_rfl) (by kernel_rfl) (by kernel_rfl) ?_
  repeat' ((conv => whnf); first | (refine vcall_pure (c) rfl rfl rfl ?_) | ((first | apply br_dec | apply br_ndec) <;> intro h <;> try (exfalso; (try dsimp only at h); omega)) | ((first | apply br_seq | apply br_nseq | apply br_not | apply br_intro) <;> intro h) | refine cond_a ?_)
  all_goals (conv => whnf)
  all_goals exact ret_pure rfl

theorem rep_extract (c : Int) (N n : Nat) (h : n ≤ N) : (bytesOf (List.replicate N c)).extract 0 n = bytesOf (List.replicate n c) := by
  apply ext_ba
  simp only [bytesOf, ByteArray.data_extract, Array.toList_extract, List.extract_eq_take_drop, Nat.sub_zero, List.drop_zero, List.map_replicate, List.take_replicate]
  rw [Nat.min_eq_left h]
/-- Zeros. -/
theorem str_Repeat0 (n : Nat) (hn : n ≤ 64) : Pure Tryd.prog 61 [.str ⟨#[48]⟩, .int .i64 n] (.str (bytesOf (List.replicate n 48))) := by
  have m := bits_Mul 1 n (by omega) (by omega)
  rw [Nat.one_mul, Nat.div_eq_of_lt (by omega), Nat.mod_eq_of_lt (by omega)] at m
  have hp := fun s hs => str_HasPrefix s ⟨#[48]⟩ hs
  have wn : IntKind.u64.wrap (n : Int) = (n : Int) := u64_in' (by omega) (by omega)
  rw [← wn] at m
  have wi : IntKind.i64.wrap (IntKind.u64.wrap (n : Int)) = (n : Int) := by rw [wn]; exact w64_in (by omega) (by omega)
  have hle : IntKind.i64.wrap (IntKind.u64.wrap (n : Int)) ≤ 64 := by rw [wi]; omega
  refine fc_of mixed T_ok Tryd.func61 rfl (by kernel_rfl) (by kernel_rfl) (by kernel_rfl) ?_
  by_cases h0 : n = 0
  · subst h0
    repeat' ((conv => whnf); first | ((first | apply br_dec | apply br_ndec) <;> intro h <;> try (exfalso; (try dsimp only at h); omega)) | ((first | apply br_seq | apply br_nseq | apply br_not | apply br_intro) <;> intro h) | refine cond_a ?_)
    all_goals (conv => whnf)
    all_goals exact ret_pure rfl
  · by_cases h1 : n = 1
    · subst h1
      repeat' ((conv => whnf); first | ((first | apply br_dec | apply br_ndec) <;> intro h <;> try (exfalso; (try dsimp only at h); omega)) | ((first | apply br_seq | apply br_nseq | apply br_not | apply br_intro) <;> intro h) | refine cond_a ?_)
      all_goals (conv => whnf)
      all_goals exact ret_pure rfl
    · repeat' ((conv => whnf); first | (refine vcall_pure (m) rfl rfl rfl ?_) | (refine vcallD_pure (m) rfl rfl rfl ?_) | (refine vcall_pure (hp _ (by decide)) rfl rfl rfl ?_) | (refine vcallD_pure (hp _ (by decide)) rfl rfl rfl ?_) | (refine cond_intro (show (0 : Int) ≤ 0 ∧ 0 ≤ IntKind.i64.wrap (IntKind.u64.wrap (n : Int)) ∧ IntKind.i64.wrap (IntKind.u64.wrap (n : Int)) ≤ ((64 : Nat) : Int) from ?_) ?_; (rw [wi]; omega)) | ((first | apply br_dec | apply br_ndec) <;> intro h <;> try (exfalso; (try dsimp only at h); omega)) | ((first | apply br_seq | apply br_nseq | apply br_not | apply br_intro) <;> intro h) | refine cond_a ?_)
      all_goals (conv => whnf)
      · refine ret_pure (congrArg SV.str ?_)
        show (bytesOf (List.replicate 64 48)).extract 0 (IntKind.i64.wrap (IntKind.u64.wrap (n : Int))).toNat = _
        rw [wi, Int.toNat_natCast]
        exact rep_extract 48 64 n hn
      all_goals exact absurd hle (by assumption)
end Go.Proofs.YtdlpmmdbdjlojaaDoor

/- Contracts of package wire: numbers with leading zeros, texts. -/
namespace Go.Proofs.YtdlpmmdbdjlojaaDoor
open Go.RowKit Go.Sy
attribute [local irreducible] vcall vloop vcallD retP
set_option maxRecDepth 100000
set_option linter.unusedVariables false
set_option linter.unusedSimpArgs false

/-- Digits with leading zeros, if there is room. -/
def padS (w n : Nat) : ByteArray := if ndig n ≤ w then bytesOf (digs w n) else ⟨#[]⟩
theorem decI_nat (n : Nat) : decI (n : Int) = bytesOf (digs (ndig n) n) := by
  unfold decI dec
  rw [if_neg (by omega), Int.toNat_natCast]
theorem wire_padded (n w : Nat) (hn : n ≤ 9223372036854775807) (hw : w ≤ 64) : Glob Tryd.prog glT 49 [.int .i64 n, .int .i64 w] (.tup [.str (padS w n), .bool (decide (ndig n ≤ w))]) := by
  have f := conv_FormatInt (n : Int) (by omega) (by omega)
  rw [decI_nat] at f
  have z : (bytesOf (digs (ndig n) n)).size = ndig n := by rw [bytesOf_size, digs_length]
  have hd := ndig_le (u := n) (by omega)
  refine fc_of mixed T_ok Tryd.func49 rfl (by kernel_rfl) (by kernel_rfl) (by kernel_rfl) ?_
  by_cases hk : ndig n ≤ w
  · have c := str_Repeat0 (w - ndig n) (by omega)
    have wc : ((w - ndig n : Nat) : Int) = IntKind.i64.wrap ((w : Int) - ((bytesOf (digs (ndig n) n)).size : Int)) := by
      rw [z, w64_in (by omega) (by omega)]; omega
    rw [wc] at c
    repeat' ((conv => whnf); first | (refine vcall_glob (f) rfl rfl rfl rfl ?_) | (refine vcall_pure (c) rfl rfl rfl ?_) | (refine vcallD_pure (c) rfl rfl rfl ?_) | (refine cond_intro ?_ ?_; (rw [bytesOf_size, bytesOf_size, digs_length, List.length_replicate]; omega)) | ((first | apply br_dec | apply br_ndec) <;> intro h <;> try (exfalso; (try dsimp only at h); omega)) | ((first | apply br_seq | apply br_nseq | apply br_not | apply br_intro) <;> intro h) | refine cond_a ?_)
    all_goals (conv => whnf)
    · refine ret_pure ?_
      rw [show padS w n = bytesOf (List.replicate (w - ndig n) 48) ++ bytesOf (digs (ndig n) n) by
        unfold padS; rw [if_pos hk, append_bytesOf, digs_pad (ndig_lt n) hk], decide_eq_true hk]
      rfl
  · repeat' ((conv => whnf); first | (refine vcall_glob (f) rfl rfl rfl rfl ?_) | ((first | apply br_dec | apply br_ndec) <;> intro h <;> try (exfalso; (try dsimp only at h); omega)) | ((first | apply br_seq | apply br_nseq | apply br_not | apply br_intro) <;> intro h) | refine cond_a ?_)
    all_goals (conv => whnf)
    · refine ret_pure ?_
      rw [show padS w n = ⟨#[]⟩ by unfold padS; rw [if_neg hk], decide_eq_false hk]
      rfl

def numOk (n w : Int) : Prop := 1 ≤ w ∧ w ≤ 15 ∧ 0 ≤ n ∧ ndig n.toNat ≤ w.toNat
instance (n w : Int) : Decidable (numOk n w) := by unfold numOk; infer_instance
def numE (n w : Int) : Int := if numOk n w then 0 else 4
def numS (n w : Int) : ByteArray := if numOk n w then bytesOf (digs w.toNat n.toNat) else ⟨#[]⟩
theorem numE_no {n w : Int} (h : ¬ numOk n w) : numE n w = 4 := by unfold numE; rw [if_neg h]
theorem numS_no {n w : Int} (h : ¬ numOk n w) : numS n w = ⟨#[]⟩ := by unfold numS; rw [if_neg h]
theorem numE_ok {n w : Int} (h : numOk n w) : numE n w = 0 := by unfold numE; rw [if_pos h]
theorem numS_ok {n w : Int} (h : numOk n w) : numS n w = bytesOf (digs w.toNat n.toNat) := by unfold numS; rw [if_pos h]
attribute [irreducible] numE numS padS
theorem wire_Num (n w : Int) (hn : n ≤ 9223372036854775807) : Glob Tryd.prog glT 38 [.int .i64 n, .int .i64 w] (.tup [.str (numS n w), .int .i64 (numE n w)]) := by
  by_cases hb : 1 ≤ w ∧ w ≤ 15 ∧ 0 ≤ n
  · obtain ⟨n', rfl⟩ := Int.eq_ofNat_of_zero_le hb.2.2
    obtain ⟨w', rfl⟩ := Int.eq_ofNat_of_zero_le (show 0 ≤ w by omega)
    have c := wire_padded n' w' (by omega) (by omega)
    by_cases hk : ndig n' ≤ w'
    · have ho : numOk n' w' := ⟨hb.1, hb.2.1, hb.2.2, by simpa using hk⟩
      rw [show padS w' n' = bytesOf (digs w' n') by unfold padS; rw [if_pos hk], decide_eq_true hk] at c
      rw [numS_ok ho, numE_ok ho, Int.toNat_natCast, Int.toNat_natCast]
      refine fc_of mixed T_ok Tryd.func38 rfl (by kernel_rfl) (by kernel_rfl) (by kernel_rfl) ?_
      repeat' ((conv => whnf); first | (refine vcall_glob (c) rfl rfl rfl rfl ?_) | ((first | apply br_dec | apply br_ndec) <;> intro h <;> try (exfalso; (try dsimp only at h); omega)) | ((first | apply br_seq | apply br_nseq | apply br_not | apply br_intro) <;> intro h) | refine cond_a ?_)
      all_goals (conv => whnf)
      all_goals first
        | exact ret_pure rfl
        | (exfalso; omega)
    · have ho : ¬ numOk n' w' := fun h => hk (by simpa using h.2.2.2)
      rw [decide_eq_false hk] at c
      rw [numS_no ho, numE_no ho]
      refine fc_of mixed T_ok Tryd.func38 rfl (by kernel_rfl) (by kernel_rfl) (by kernel_rfl) ?_
      repeat' ((conv => whnf); first | (refine vcall_glob (c) rfl rfl rfl rfl ?_) | ((first | apply br_dec | apply br_ndec) <;> intro h <;> try (exfalso; (try dsimp only at h); omega)) | ((first | apply br_seq | apply br_nseq | apply br_not | apply br_intro) <;> intro h) | refine cond_a ?_)
      all_goals (conv => whnf)
      all_goals first
        | exact ret_pure rfl
        | (exfalso; omega)
  · have ho : ¬ numOk n w := fun h => hb ⟨h.1, h.2.1, h.2.2.1⟩
    rw [numS_no ho, numE_no ho]
    refine fc_of mixed T_ok Tryd.func38 rfl (by kernel_rfl) (by kernel_rfl) (by kernel_rfl) ?_
    repeat' ((conv => whnf); first | ((first | apply br_dec | apply br_ndec) <;> intro h <;> try (exfalso; (try dsimp only at h); omega)) | ((first | apply br_seq | apply br_nseq | apply br_not | apply br_intro) <;> intro h) | refine cond_a ?_)
    all_goals (conv => whnf)
    all_goals first
      | exact ret_pure rfl
      | (exfalso; omega)

theorem ndig_of_lt {n w : Nat} (h : n < 10 ^ w) (hw : 1 ≤ w) : ndig n ≤ w := by
  rcases Nat.lt_or_ge w (ndig n) with h1 | h1
  · by_cases h0 : n = 0
    · subst h0; rw [ndig] at h1; simp at h1; omega
    · have := ndig_ge n (by omega)
      have h2 := Nat.pow_le_pow_right (n := 10) (by omega) (show w ≤ ndig n - 1 by omega)
      omega
  · exact h1
/-- Printable bytes. -/
def prAt (s : ByteArray) (i : Nat) : Prop := 32 ≤ byteAt s (i : Int) ∧ byteAt s (i : Int) ≤ 126
instance (s : ByteArray) (i : Nat) : Decidable (prAt s i) := by unfold prAt; infer_instance
end Go.Proofs.YtdlpmmdbdjlojaaDoor

/- Contracts of package wire: texts filled up, hexadecimal digits. -/
namespace Go.Proofs.YtdlpmmdbdjlojaaDoor
open Go.RowKit Go.Sy
attribute [local irreducible] vcall vloop vcallD retP
set_option maxRecDepth 100000
set_option linter.unusedVariables false
set_option linter.unusedSimpArgs false

/-- Hexadecimal digits. -/
def hexd (x : Int) : Int := if x < 10 then 48 + x else 87 + x
def hexL (s : ByteArray) : Nat → List Int
  | 0 => []
  | k + 1 => hexL s k ++ [hexd (byteAt s (k : Int) / 16), hexd (byteAt s (k : Int) % 16)]
theorem hexL_length (s : ByteArray) : ∀ k, (hexL s k).length = 2 * k
  | 0 => rfl
  | k + 1 => by simp only [hexL, List.length_append, hexL_length s k, List.length_cons, List.length_nil]; omega
theorem byte_bd (s : ByteArray) (i : Int) : 0 ≤ byteAt s i ∧ byteAt s i ≤ 255 := by
  unfold byteAt
  have := (s.data.toList.getD i.toNat 0).toNat_lt
  omega
theorem iand_15 {x : Int} (h0 : 0 ≤ x) (h : x ≤ 255) : iand .u8 x 15 = x % 16 := by
  obtain ⟨n, rfl⟩ := Int.eq_ofNat_of_zero_le h0
  have h1 : (BitVec.ofInt 8 (n : Int) &&& BitVec.ofInt 8 15).toNat = n % 16 := by
    rw [BitVec.toNat_and, BitVec.toNat_ofInt, BitVec.toNat_ofInt]
    rw [show ((n : Int) % ((2 ^ 8 : Nat) : Int)).toNat = n by omega, show ((15 : Int) % ((2 ^ 8 : Nat) : Int)).toNat = 2 ^ 4 - 1 by decide, Nat.and_two_pow_sub_one_eq_mod]
  show IntKind.u8.wrap (((BitVec.ofInt 8 (n : Int) &&& BitVec.ofInt 8 15).toNat : Nat) : Int) = _
  rw [h1, u8_in' (by omega) (by omega)]
  omega
theorem ishr_4 {x : Int} : ishr .u8 x 4 = x / 16 := ishr_lit (k := .u8) 4 (by decide)
def hexT : ByteArray := ⟨#[48, 49, 50, 51, 52, 53, 54, 55, 56, 57, 97, 98, 99, 100, 101, 102]⟩
theorem hexT_at {x : Int} (h0 : 0 ≤ x) (h : x < 16) : byteAt hexT x = hexd x := by
  obtain ⟨n, rfl⟩ := Int.eq_ofNat_of_zero_le h0
  have hn : n < 16 := by omega
  have : ∀ n : Nat, n < 16 → byteAt hexT (n : Int) = hexd (n : Int) := by decide
  exact this n hn
theorem wire_Hex (s : ByteArray) (hs : s.size ≤ 1000) : Pure Tryd.prog 53 [.str s] (.str (bytesOf (hexL s s.size))) := by
  refine fc_of mixed T_ok Tryd.func53 rfl (by kernel_rfl) (by kernel_rfl) (by kernel_rfl) ?_
  have e0 : IntKind.i64.wrap (2 * (s.size : Int)) = ((2 * s.size : Nat) : Int) := by rw [w64_in (by omega) (by omega)]; omega
  repeat' ((conv => whnf); first | ((first | apply br_dec | apply br_ndec) <;> intro h <;> try (exfalso; (try dsimp only at h); omega)) | ((first | apply br_seq | apply br_nseq | apply br_not | apply br_intro) <;> intro h) | refine cond_a ?_)
  all_goals (conv => whnf)
  refine vloop_of (fun k : Nat => ⟨[(0, .str s), (3, .sl 1 0 0 (2 * k)), (10, .int .i64 s.size), (11, .int .i64 k)], [(1, some (.one false (.cols (2 * k) [.sc (.ints .u8 (hexL s k))])))], 2⟩) (fun k => k ≤ s.size) (fun k => s.size - k) 0 [0, 1] [] ⟨rfl, ⟨rfl, rfl, rfl, rfl, trivial⟩, ⟨rfl, trivial⟩⟩ (by omega) ?_
  intro k hk
  have b0 := byte_bd s (k : Int)
  have a15 := iand_15 b0.1 b0.2
  have s4 := ishr_4 (x := byteAt s (k : Int))
  repeat' ((conv => whnf); first | (refine cond_intro (show 0 ≤ ishr .u8 (byteAt s (k : Int)) 4 ∧ ishr .u8 (byteAt s (k : Int)) 4 < ((16 : Nat) : Int) from ?_) ?_; (rw [s4]; omega)) | (refine cond_intro (show 0 ≤ iand .u8 (byteAt s (k : Int)) 15 ∧ iand .u8 (byteAt s (k : Int)) 15 < ((16 : Nat) : Int) from ?_) ?_; (rw [a15]; omega)) | ((first | apply br_dec | apply br_ndec) <;> intro h <;> try (exfalso; (try dsimp only at h); omega)) | ((first | apply br_seq | apply br_nseq | apply br_not | apply br_intro) <;> intro h) | refine cond_a ?_)
  all_goals (conv => whnf)
  · refine ⟨k + 1, [0, 3], [], by omega, by omega, ⟨rfl, ⟨rfl, rfl, rfl, congrArg (fun z => some (SV.int .i64 z)) (i64_succ (by omega)), trivial⟩, ⟨?_, trivial⟩⟩⟩
    have t1 := hexT_at (x := byteAt s (k : Int) / 16) (by omega) (by omega)
    have t2 := hexT_at (x := byteAt s (k : Int) % 16) (by omega) (by omega)
    rw [← s4] at t1
    rw [← a15] at t2
    show some (HB.one false (Blk.cols (2 * k + 2) [BCol.sc (.ints .u8 (hexL s k ++ [byteAt hexT (ishr .u8 (byteAt s (k : Int)) 4), byteAt hexT (iand .u8 (byteAt s (k : Int)) 15)]))])) = some (HB.one false (Blk.cols (2 * (k + 1)) [BCol.sc (.ints .u8 (hexL s (k + 1)))]))
    rw [t1, t2, s4, a15]
    rfl
  · have e : k = s.size := by omega
    subst e
    refine ret_pure ?_
    rw [show seg 0 (2 * s.size) (hexL s s.size) = hexL s s.size by
      unfold seg; rw [List.drop_zero, List.take_of_length_le (by rw [hexL_length]; exact Nat.le_refl _)]]
    rfl
end Go.Proofs.YtdlpmmdbdjlojaaDoor

/- Contracts of package wire: readers. -/
namespace Go.Proofs.YtdlpmmdbdjlojaaDoor
open Go.RowKit Go.Sy
attribute [local irreducible] vcall vloop vcallD retP
set_option maxRecDepth 100000
set_option linter.unusedVariables false
set_option linter.unusedSimpArgs false

theorem byteAt_ext {s : ByteArray} {w i : Nat} (h : i < w) (hw : w ≤ s.size) : byteAt (s.extract 0 w) (i : Int) = byteAt s (i : Int) := by
  unfold byteAt
  rw [Int.toNat_natCast]
  congr 2
  simp only [ByteArray.data_extract, Array.toList_extract, List.extract_eq_take_drop, Nat.sub_zero, List.drop_zero, List.getD, List.getElem?_take, if_pos h]
theorem ext_size {s : ByteArray} {w : Nat} (hw : w ≤ s.size) : (s.extract 0 w).size = w := by rw [ByteArray.size_extract]; omega
theorem dgTo_ext {s : ByteArray} {w : Nat} (hw : w ≤ s.size) : ∀ k, k ≤ w → dgTo (s.extract 0 w) k = dgTo s k ∧ numTo (s.extract 0 w) k = numTo s k
  | 0, _ => ⟨rfl, rfl⟩
  | k + 1, h => by
    obtain ⟨i1, i2⟩ := dgTo_ext hw k (by omega)
    have e := byteAt_ext (s := s) (w := w) (i := k) (by omega) hw
    constructor
    · simp only [dgTo, i1, dgAt, e]
    · simp only [numTo, i2, e]
theorem dgTo_step {s : ByteArray} {k : Nat} (h : dgTo s k = true) (h1 : 48 ≤ byteAt s (k : Int)) (h2 : byteAt s (k : Int) ≤ 57) : dgTo s (k + 1) = true := by
  simp only [dgTo, h, Bool.true_and, decide_eq_true_eq]; exact ⟨h1, h2⟩
theorem numTo_lt {s : ByteArray} {k : Nat} (h : dgTo s k = true) (hk : k ≤ 15) : 0 ≤ numTo s k ∧ numTo s k < 1000000000000000 := by
  have := numTo_bd k h
  have h2 : (10 : Int) ^ k ≤ 10 ^ 15 := by
    have := Nat.pow_le_pow_right (n := 10) (by omega) hk
    have h3 : ((10 ^ k : Nat) : Int) ≤ ((10 ^ 15 : Nat) : Int) := by exact_mod_cast this
    simpa using h3
  have h4 : (10 : Int) ^ 15 = 1000000000000000 := by decide
  omega
def numR (s : ByteArray) : Int := if dgTo s s.size = true then numTo s s.size else 0
theorem wire_numberOf (s : ByteArray) (hs : s.size ≤ 15) : Pure Tryd.prog 66 [.str s] (.tup [.int .i64 (numR s), .bool (dgTo s s.size)]) := by
  refine fc_of mixed T_ok Tryd.func66 rfl (by kernel_rfl) (by kernel_rfl) (by kernel_rfl) ?_
  (conv => whnf)
  refine vloop_of (fun k : Nat => ⟨[(0, .str s), (4, .int .i64 (numTo s k)), (7, .int .i64 s.size), (8, .int .i64 k)], [], 1⟩) (fun k => k ≤ s.size ∧ dgTo s k = true) (fun k => s.size - k) 0 [0] [] ⟨rfl, ⟨rfl, rfl, rfl, rfl, trivial⟩, trivial⟩ ⟨by omega, rfl⟩ ?_
  rintro k ⟨hk, hc⟩
  have hb := numTo_lt hc (by omega)
  have bb := byte_bd s (k : Int)
  repeat' ((conv => whnf); first | ((first | apply br_dec | apply br_ndec) <;> intro h <;> try (exfalso; (try dsimp only at h); omega)) | ((first | apply br_seq | apply br_nseq | apply br_not | apply br_intro) <;> intro h) | refine cond_a ?_)
  all_goals (conv => whnf)
  · have hf : dgTo s s.size = false := dgTo_false (k := k) (by omega) (fun h => by have := h.1; omega)
    refine ret_pure ?_
    rw [show numR s = 0 by unfold numR; rw [hf]; rfl, hf]; rfl
  · have hf : dgTo s s.size = false := dgTo_false (k := k) (by omega) (fun h => by have := h.2; omega)
    refine ret_pure ?_
    rw [show numR s = 0 by unfold numR; rw [hf]; rfl, hf]; rfl
  · refine ⟨k + 1, [0], [], ⟨by omega, dgTo_step hc (by omega) (by omega)⟩, by omega, ⟨rfl, ⟨rfl, ?_, rfl, congrArg (fun z => some (SV.int .i64 z)) (i64_succ (by omega)), trivial⟩, trivial⟩⟩
    refine congrArg (fun z => some (SV.int .i64 z)) ?_
    show IntKind.i64.wrap (IntKind.i64.wrap (10 * numTo s k) + IntKind.i64.wrap (IntKind.u8.wrap (byteAt s (k : Int) - 48))) = numTo s (k + 1)
    rw [u8_in' (by omega) (by omega), w64_in (n := 10 * numTo s k) (by omega) (by omega), w64_in (n := byteAt s (k : Int) - 48) (by omega) (by omega), w64_in (by omega) (by omega)]
    rfl
  · have e : k = s.size := by omega
    subst e
    refine ret_pure ?_
    rw [show numR s = numTo s s.size by unfold numR; rw [if_pos hc], hc]; rfl

/-- A number of a width is read. -/
def nuE (s : ByteArray) (w : Int) : Int := if w < 1 ∨ 15 < w then 4 else if (s.size : Int) < w then 1 else if dgTo s w.toNat = true then 0 else 2
def nuV (s : ByteArray) (w : Int) : Int := if nuE s w = 0 then numTo s w.toNat else 0
def nuC (s : ByteArray) (w : Int) : Int := if nuE s w = 0 then w else 0
theorem nu_cases (s : ByteArray) (w : Int) : (nuE s w = 0 ∧ nuV s w = numTo s w.toNat ∧ nuC s w = w ∧ 1 ≤ w ∧ w ≤ 15 ∧ w ≤ (s.size : Int) ∧ dgTo s w.toNat = true) ∨ (nuE s w ≠ 0 ∧ nuV s w = 0 ∧ nuC s w = 0 ∧ ((nuE s w = 4 ∧ (w < 1 ∨ 15 < w)) ∨ (nuE s w = 1 ∧ 1 ≤ w ∧ w ≤ 15 ∧ (s.size : Int) < w) ∨ (nuE s w = 2 ∧ 1 ≤ w ∧ w ≤ 15 ∧ w ≤ (s.size : Int) ∧ dgTo s w.toNat = false))) := by
  unfold nuV nuC
  have : (nuE s w = 0 ∧ 1 ≤ w ∧ w ≤ 15 ∧ w ≤ (s.size : Int) ∧ dgTo s w.toNat = true) ∨ ((nuE s w = 4 ∧ (w < 1 ∨ 15 < w)) ∨ (nuE s w = 1 ∧ 1 ≤ w ∧ w ≤ 15 ∧ (s.size : Int) < w) ∨ (nuE s w = 2 ∧ 1 ≤ w ∧ w ≤ 15 ∧ w ≤ (s.size : Int) ∧ dgTo s w.toNat = false)) := by
    unfold nuE
    by_cases h1 : w < 1 ∨ 15 < w
    · rw [if_pos h1]; exact .inr (.inl ⟨rfl, h1⟩)
    · rw [if_neg h1]
      by_cases h2 : (s.size : Int) < w
      · rw [if_pos h2]; exact .inr (.inr (.inl ⟨rfl, by omega, by omega, h2⟩))
      · rw [if_neg h2]
        cases h3 : dgTo s w.toNat with
        | true => exact .inl ⟨rfl, by omega, by omega, by omega, rfl⟩
        | false => exact .inr (.inr (.inr ⟨rfl, by omega, by omega, by omega, rfl⟩))
  rcases this with h | h
  · rw [if_pos h.1, if_pos h.1]; exact .inl ⟨h.1, rfl, rfl, h.2⟩
  · have : nuE s w ≠ 0 := by rcases h with h | h | h <;> rw [h.1] <;> decide
    rw [if_neg this, if_neg this]; exact .inr ⟨this, rfl, rfl, h⟩
attribute [irreducible] nuE nuV nuC
theorem wire_NumF (s : ByteArray) (w : Int) (hs : s.size ≤ 9223372036854775000) : FC Tryd.prog 3 65 [.str s, .ptr 1 0 0 0, .ptr 2 0 0 0] [(1, some (.one true (.cells [.int .i64 w]))), (2, some (.one false (.cells [.int .i64 0])))]
    (isOut (.tup [.int .i64 (nuC s w), .int .i64 (nuE s w)]) [(2, some (.one false (.cells [.int .i64 (nuV s w)])))] 3) := by
  rcases nu_cases s w with ⟨e1, e2, e3, h⟩ | ⟨_, e2, e3, h⟩
  · rw [e1, e2, e3]
    obtain ⟨w', rfl⟩ := Int.eq_ofNat_of_zero_le (show 0 ≤ w by omega)
    rw [Int.toNat_natCast] at h ⊢
    have hz : (s.extract 0 w').size = w' := ext_size (by omega)
    have c := wire_numberOf (s.extract 0 w') (by omega)
    rw [hz, show numR (s.extract 0 w') = numTo s w' by
      unfold numR; rw [hz, (dgTo_ext (by omega) w' (Nat.le_refl _)).1, (dgTo_ext (by omega) w' (Nat.le_refl _)).2, if_pos h.2.2.2], (dgTo_ext (by omega) w' (Nat.le_refl _)).1, h.2.2.2] at c
    refine fc_of mixed T_ok Tryd.func65 rfl (by kernel_rfl) (by kernel_rfl) (by kernel_rfl) ?_
    repeat' ((conv => whnf); first | (refine vcall_pure (c) rfl rfl rfl ?_) | (refine vcallD_pure (c) rfl rfl rfl ?_) | ((first | apply br_dec | apply br_ndec) <;> intro h <;> try (exfalso; (try dsimp only at h); omega)) | ((first | apply br_seq | apply br_nseq | apply br_not | apply br_intro) <;> intro h) | refine cond_a ?_)
    all_goals (conv => whnf)
    all_goals exact ret_out (l := [0, 1, 2]) rfl rfl ⟨rfl, trivial⟩ (allRw_cons allRw_nil)
  · rw [e2, e3]
    rcases h with ⟨e1, h⟩ | ⟨e1, h⟩ | ⟨e1, h⟩
    · rw [e1]
      refine fc_of mixed T_ok Tryd.func65 rfl (by kernel_rfl) (by kernel_rfl) (by kernel_rfl) ?_
      repeat' ((conv => whnf); first | ((first | apply br_dec | apply br_ndec) <;> intro h <;> try (exfalso; (try dsimp only at h); omega)) | ((first | apply br_seq | apply br_nseq | apply br_not | apply br_intro) <;> intro h) | refine cond_a ?_)
      all_goals (conv => whnf)
      all_goals first
        | exact ret_out (l := [0, 1, 2]) rfl rfl ⟨rfl, trivial⟩ (allRw_cons allRw_nil)
        | (exfalso; omega)
    · rw [e1]
      refine fc_of mixed T_ok Tryd.func65 rfl (by kernel_rfl) (by kernel_rfl) (by kernel_rfl) ?_
      repeat' ((conv => whnf); first | ((first | apply br_dec | apply br_ndec) <;> intro h <;> try (exfalso; (try dsimp only at h); omega)) | ((first | apply br_seq | apply br_nseq | apply br_not | apply br_intro) <;> intro h) | refine cond_a ?_)
      all_goals (conv => whnf)
      all_goals first
        | exact ret_out (l := [0, 1, 2]) rfl rfl ⟨rfl, trivial⟩ (allRw_cons allRw_nil)
        | (exfalso; omega)
    · rw [e1]
      obtain ⟨w', rfl⟩ := Int.eq_ofNat_of_zero_le (show 0 ≤ w by omega)
      rw [Int.toNat_natCast] at h
      have hz : (s.extract 0 w').size = w' := ext_size (by omega)
      have c := wire_numberOf (s.extract 0 w') (by omega)
      rw [hz, (dgTo_ext (by omega) w' (Nat.le_refl _)).1, h.2.2.2] at c
      refine fc_of mixed T_ok Tryd.func65 rfl (by kernel_rfl) (by kernel_rfl) (by kernel_rfl) ?_
      repeat' ((conv => whnf); first | (refine vcall_pure (c) rfl rfl rfl ?_) | (refine vcallD_pure (c) rfl rfl rfl ?_) | ((first | apply br_dec | apply br_ndec) <;> intro h <;> try (exfalso; (try dsimp only at h); omega)) | ((first | apply br_seq | apply br_nseq | apply br_not | apply br_intro) <;> intro h) | refine cond_a ?_)
      all_goals (conv => whnf)
      all_goals first
        | exact ret_out (l := [0, 1, 2]) rfl rfl ⟨rfl, trivial⟩ (allRw_cons allRw_nil)
        | (exfalso; omega)

/-- A reader. -/
def rdB (s : ByteArray) (e : Int) : Option HB := some (.one false (.cells [.str s, .int .i64 e]))
theorem wire_readNum0 (s : ByteArray) (w : Int) (hs : s.size ≤ 9223372036854775000) : FC Tryd.prog 4 63 [.ptr 1 0 0 0, .fn 65 [.ptr 2 0 0 0, .ptr 3 0 0 0]] [(1, rdB s 0), (2, some (.one true (.cells [.int .i64 w]))), (3, some (.one false (.cells [.int .i64 0])))]
    (isOut (.tup []) [(1, rdB (s.extract (nuC s w).toNat s.size) (nuE s w)), (3, some (.one false (.cells [.int .i64 (nuV s w)])))] 4) := by
  have c := wire_NumF s w hs
  rcases nu_cases s w with ⟨e1, e2, e3, h⟩ | ⟨e1, e2, e3, h⟩
  · rw [e1, e2, e3] at c ⊢
    refine fc_of mixed T_ok Tryd.func63 rfl (by kernel_rfl) (by kernel_rfl) (by kernel_rfl) ?_
    repeat' ((conv => whnf); first | refine vcall_o (l := [0, 2, 3]) (c) ?_ | refine vcallD_o (l := [0, 2, 3]) (c) ?_ | ((first | apply br_dec | apply br_ndec) <;> intro h <;> try (exfalso; (try dsimp only at h); omega)) | ((first | apply br_seq | apply br_nseq | apply br_not | apply br_intro) <;> intro h) | refine cond_a ?_)
    all_goals (conv => whnf)
    all_goals exact ret_out (l := [0, 1, 2, 3]) rfl rfl ⟨rfl, rfl, trivial⟩ (allRw_cons (allRw_cons allRw_nil))
  · rw [e2, e3] at c ⊢
    rw [show s.extract (Int.toNat 0) s.size = s from by simp]
    refine fc_of mixed T_ok Tryd.func63 rfl (by kernel_rfl) (by kernel_rfl) (by kernel_rfl) ?_
    repeat' ((conv => whnf); first | refine vcall_o (l := [0, 2, 3]) (c) ?_ | refine vcallD_o (l := [0, 2, 3]) (c) ?_ | ((first | apply br_dec | apply br_ndec) <;> intro h <;> try (exfalso; (try dsimp only at h); omega)) | ((first | apply br_seq | apply br_nseq | apply br_not | apply br_intro) <;> intro h) | refine cond_a ?_)
    all_goals (conv => whnf)
    all_goals first
      | exact ret_out (l := [0, 1, 2, 3]) rfl rfl ⟨rfl, rfl, trivial⟩ (allRw_cons (allRw_cons allRw_nil))
      | (exfalso; exact e1 (by assumption))
end Go.Proofs.YtdlpmmdbdjlojaaDoor

/- Contracts of package wire: the methods of readers. -/
namespace Go.Proofs.YtdlpmmdbdjlojaaDoor
open Go.RowKit Go.Sy
attribute [local irreducible] vcall vloop vcallD retP
set_option maxRecDepth 100000
set_option linter.unusedVariables false
set_option linter.unusedSimpArgs false

theorem wire_readE2 (s : ByteArray) (e : Int) (F : Nat) (he : e ≠ 0) : FC Tryd.prog 4 63 [.ptr 1 0 0 0, .fn F [.ptr 2 0 0 0, .ptr 3 0 0 0]] [(1, rdB s e)] (isOut (.tup []) [(1, rdB s e)] 4) := by
  refine fc_of mixed T_ok Tryd.func63 rfl (by kernel_rfl) (by kernel_rfl) (by kernel_rfl) ?_
  repeat' ((conv => whnf); first | ((first | apply br_dec | apply br_ndec) <;> intro h <;> try (exfalso; (try dsimp only at h); omega)) | ((first | apply br_seq | apply br_nseq | apply br_not | apply br_intro) <;> intro h) | refine cond_a ?_)
  all_goals (conv => whnf)
  all_goals first
    | exact ret_out (l := [0, 1, 2, 3]) rfl rfl ⟨rfl, trivial⟩ (allRw_cons allRw_nil)
    | (exfalso; exact he (by assumption))
/-- A number. -/
def nS (s : ByteArray) (e w : Int) : ByteArray := if e = 0 then s.extract (nuC s w).toNat s.size else s
def nE (s : ByteArray) (e w : Int) : Int := if e = 0 then nuE s w else e
def nV (s : ByteArray) (e w : Int) : Int := if e = 0 then nuV s w else 0
theorem rd_Num (s : ByteArray) (e w : Int) (hs : s.size ≤ 9223372036854775000) : FC Tryd.prog 2 56 [.ptr 1 0 0 0, .int .i64 w] [(1, rdB s e)] (isOut (.int .i64 (nV s e w)) [(1, rdB (nS s e w) (nE s e w))] 2) := by
  unfold nS nE nV
  by_cases he : e = 0
  · subst he
    have c := wire_readNum0 s w hs
    rw [if_pos rfl, if_pos rfl, if_pos rfl]
    refine fc_of mixed T_ok Tryd.func56 rfl (by kernel_rfl) (by kernel_rfl) (by kernel_rfl) ?_
    repeat' ((conv => whnf); first | refine vcall_o (l := [0, 1, 2, 3]) (c) ?_ | refine vcallD_o (l := [0, 1, 2, 3]) (c) ?_ | ((first | apply br_dec | apply br_ndec) <;> intro h <;> try (exfalso; (try dsimp only at h); omega)) | ((first | apply br_seq | apply br_nseq | apply br_not | apply br_intro) <;> intro h) | refine cond_a ?_)
    all_goals (conv => whnf)
    all_goals exact ret_out (l := [0, 1]) rfl rfl ⟨rfl, trivial⟩ (allRw_cons allRw_nil)
  · have c := wire_readE2 s e 65 he
    rw [if_neg he, if_neg he, if_neg he]
    refine fc_of mixed T_ok Tryd.func56 rfl (by kernel_rfl) (by kernel_rfl) (by kernel_rfl) ?_
    repeat' ((conv => whnf); first | refine vcall_o (l := [0, 1, 2, 3]) (c) ?_ | refine vcallD_o (l := [0, 1, 2, 3]) (c) ?_ | ((first | apply br_dec | apply br_ndec) <;> intro h <;> try (exfalso; (try dsimp only at h); omega)) | ((first | apply br_seq | apply br_nseq | apply br_not | apply br_intro) <;> intro h) | refine cond_a ?_)
    all_goals (conv => whnf)
    all_goals exact ret_out (l := [0, 1]) rfl rfl ⟨rfl, trivial⟩ (allRw_cons allRw_nil)
theorem rd_New (s : ByteArray) : FC Tryd.prog 1 54 [.str s] [] (isOut (.ptr 1 0 0 0) [(1, rdB s 0)] 2) := by
  refine fc_of mixed T_ok Tryd.func54 rfl (by kernel_rfl) (by kernel_rfl) (by kernel_rfl) ?_
  repeat' ((conv => whnf); first | ((first | apply br_dec | apply br_ndec) <;> intro h <;> try (exfalso; (try dsimp only at h); omega)) | ((first | apply br_seq | apply br_nseq | apply br_not | apply br_intro) <;> intro h) | refine cond_a ?_)
  all_goals (conv => whnf)
  all_goals exact ret_out (l := [0, 1]) rfl rfl ⟨rfl, trivial⟩ (allRw_cons allRw_nil)
theorem rd_Left (s : ByteArray) (e : Int) : FC Tryd.prog 2 58 [.ptr 1 0 0 0] [(1, rdB s e)] (isOut (.int .i64 s.size) [(1, rdB s e)] 2) := by
  refine fc_of mixed T_ok Tryd.func58 rfl (by kernel_rfl) (by kernel_rfl) (by kernel_rfl) ?_
  repeat' ((conv => whnf); first | ((first | apply br_dec | apply br_ndec) <;> intro h <;> try (exfalso; (try dsimp only at h); omega)) | ((first | apply br_seq | apply br_nseq | apply br_not | apply br_intro) <;> intro h) | refine cond_a ?_)
  all_goals (conv => whnf)
  all_goals exact ret_out (l := [0, 1]) rfl rfl ⟨rfl, trivial⟩ (allRw_cons allRw_nil)
theorem rd_Err (s : ByteArray) (e : Int) : FC Tryd.prog 2 57 [.ptr 1 0 0 0] [(1, rdB s e)] (isOut (.int .i64 e) [(1, rdB s e)] 2) := by
  refine fc_of mixed T_ok Tryd.func57 rfl (by kernel_rfl) (by kernel_rfl) (by kernel_rfl) ?_
  repeat' ((conv => whnf); first | ((first | apply br_dec | apply br_ndec) <;> intro h <;> try (exfalso; (try dsimp only at h); omega)) | ((first | apply br_seq | apply br_nseq | apply br_not | apply br_intro) <;> intro h) | refine cond_a ?_)
  all_goals (conv => whnf)
  all_goals exact ret_out (l := [0, 1]) rfl rfl ⟨rfl, trivial⟩ (allRw_cons allRw_nil)
end Go.Proofs.YtdlpmmdbdjlojaaDoor

/- Contracts of package wire: texts of variable length, bytes taken. -/
namespace Go.Proofs.YtdlpmmdbdjlojaaDoor
open Go.RowKit Go.Sy
attribute [local irreducible] vcall vloop vcallD retP
set_option maxRecDepth 100000
set_option linter.unusedVariables false
set_option linter.unusedSimpArgs false

end Go.Proofs.YtdlpmmdbdjlojaaDoor

/- Contracts of package wire: texts of a width, bytes taken. -/
namespace Go.Proofs.YtdlpmmdbdjlojaaDoor
open Go.RowKit Go.Sy
attribute [local irreducible] vcall vloop vcallD retP
set_option maxRecDepth 100000
set_option linter.unusedVariables false
set_option linter.unusedSimpArgs false

theorem ext_all {s : ByteArray} : s.extract 0 s.size = s := by simp
theorem seq_ok {a b : ByteArray} (h : seq a b = true) : a = b := by
  simpa [seq] using h
def tkE (s : ByteArray) (w : Int) : Int := if w < 0 then 4 else if (s.size : Int) < w then 1 else 0
def tkS (s : ByteArray) (w : Int) : ByteArray := if tkE s w = 0 then s.extract 0 w.toNat else ⟨#[]⟩
def cntE (e w : Int) : Int := if e = 0 then w else 0
theorem tk_cases (s : ByteArray) (w : Int) : (tkE s w = 4 ∧ w < 0) ∨ (0 ≤ w ∧ ((tkE s w = 1 ∧ (s.size : Int) < w) ∨ (tkE s w = 0 ∧ w ≤ (s.size : Int)))) := by
  unfold tkE
  by_cases h1 : w < 0
  · rw [if_pos h1]; exact .inl ⟨rfl, h1⟩
  · rw [if_neg h1]
    refine .inr ⟨by omega, ?_⟩
    by_cases h2 : (s.size : Int) < w
    · rw [if_pos h2]; exact .inl ⟨rfl, h2⟩
    · rw [if_neg h2]; exact .inr ⟨rfl, by omega⟩
theorem tkS_ok {s : ByteArray} {w : Int} (h : tkE s w = 0) : tkS s w = s.extract 0 w.toNat := by unfold tkS; rw [if_pos h]
theorem tkS_no {s : ByteArray} {w : Int} (h : tkE s w ≠ 0) : tkS s w = ⟨#[]⟩ := by unfold tkS; rw [if_neg h]
attribute [irreducible] tkE tkS
theorem wire_TakeF (s : ByteArray) (w : Int) (hs : s.size ≤ 9223372036854775000) : FC Tryd.prog 3 64 [.str s, .ptr 1 0 0 0, .ptr 2 0 0 0] [(1, some (.one true (.cells [.int .i64 w]))), (2, some (.one false (.cells [.str ⟨#[]⟩])))]
    (isOut (.tup [.int .i64 (cntE (tkE s w) w), .int .i64 (tkE s w)]) [(2, some (.one false (.cells [.str (tkS s w)])))] 3) := by
  rcases tk_cases s w with ⟨e1, h⟩ | ⟨h1, ⟨e1, h⟩ | ⟨e1, h⟩⟩
  · rw [tkS_no (by omega), e1, show cntE 4 w = 0 from rfl]
    refine fc_of mixed T_ok Tryd.func64 rfl (by kernel_rfl) (by kernel_rfl) (by kernel_rfl) ?_
    repeat' ((conv => whnf); first | ((first | apply br_dec | apply br_ndec) <;> intro h <;> try (exfalso; (try dsimp only at h); omega)) | ((first | apply br_seq | apply br_nseq | apply br_not | apply br_intro) <;> intro h) | refine cond_a ?_)
    all_goals (conv => whnf)
    all_goals first
      | exact ret_out (l := [0, 1, 2]) rfl rfl ⟨rfl, trivial⟩ (allRw_cons allRw_nil)
      | (exfalso; omega)
  · rw [tkS_no (by omega), e1, show cntE 1 w = 0 from rfl]
    refine fc_of mixed T_ok Tryd.func64 rfl (by kernel_rfl) (by kernel_rfl) (by kernel_rfl) ?_
    repeat' ((conv => whnf); first | ((first | apply br_dec | apply br_ndec) <;> intro h <;> try (exfalso; (try dsimp only at h); omega)) | ((first | apply br_seq | apply br_nseq | apply br_not | apply br_intro) <;> intro h) | refine cond_a ?_)
    all_goals (conv => whnf)
    all_goals first
      | exact ret_out (l := [0, 1, 2]) rfl rfl ⟨rfl, trivial⟩ (allRw_cons allRw_nil)
      | (exfalso; omega)
  · rw [tkS_ok e1, e1, show cntE 0 w = w from rfl]
    refine fc_of mixed T_ok Tryd.func64 rfl (by kernel_rfl) (by kernel_rfl) (by kernel_rfl) ?_
    repeat' ((conv => whnf); first | ((first | apply br_dec | apply br_ndec) <;> intro h <;> try (exfalso; (try dsimp only at h); omega)) | ((first | apply br_seq | apply br_nseq | apply br_not | apply br_intro) <;> intro h) | refine cond_a ?_)
    all_goals (conv => whnf)
    all_goals first
      | exact ret_out (l := [0, 1, 2]) rfl rfl ⟨rfl, trivial⟩ (allRw_cons allRw_nil)
      | (exfalso; omega)

/-- A reader lets a function of texts read. -/
theorem wire_readT {F : Nat} {s V : ByteArray} {w E : Int} (hw : E = 0 → 0 ≤ w ∧ w ≤ (s.size : Int)) (c : FC Tryd.prog 3 F [.str s, .ptr 1 0 0 0, .ptr 2 0 0 0] [(1, some (.one true (.cells [.int .i64 w]))), (2, some (.one false (.cells [.str ⟨#[]⟩])))]
    (isOut (.tup [.int .i64 (cntE E w), .int .i64 E]) [(2, some (.one false (.cells [.str V])))] 3)) :
    FC Tryd.prog 4 63 [.ptr 1 0 0 0, .fn F [.ptr 2 0 0 0, .ptr 3 0 0 0]] [(1, rdB s 0), (2, some (.one true (.cells [.int .i64 w]))), (3, some (.one false (.cells [.str ⟨#[]⟩])))]
    (isOut (.tup []) [(1, rdB (s.extract (cntE E w).toNat s.size) E), (3, some (.one false (.cells [.str V])))] 4) := by
  by_cases e1 : E = 0
  · subst e1
    have hw' := hw rfl
    rw [show cntE 0 w = w from rfl] at c ⊢
    refine fc_of mixed T_ok Tryd.func63 rfl (by kernel_rfl) (by kernel_rfl) (by kernel_rfl) ?_
    repeat' ((conv => whnf); first | refine vcall_o (l := [0, 2, 3]) (c) ?_ | refine vcallD_o (l := [0, 2, 3]) (c) ?_ | ((first | apply br_dec | apply br_ndec) <;> intro h <;> try (exfalso; (try dsimp only at h); omega)) | ((first | apply br_seq | apply br_nseq | apply br_not | apply br_intro) <;> intro h) | refine cond_a ?_)
    all_goals (conv => whnf)
    all_goals exact ret_out (l := [0, 1, 2, 3]) rfl rfl ⟨rfl, rfl, trivial⟩ (allRw_cons (allRw_cons allRw_nil))
  · rw [show cntE E w = 0 by unfold cntE; rw [if_neg e1]] at c ⊢
    rw [show s.extract (Int.toNat 0) s.size = s from by simp]
    refine fc_of mixed T_ok Tryd.func63 rfl (by kernel_rfl) (by kernel_rfl) (by kernel_rfl) ?_
    repeat' ((conv => whnf); first | refine vcall_o (l := [0, 2, 3]) (c) ?_ | refine vcallD_o (l := [0, 2, 3]) (c) ?_ | ((first | apply br_dec | apply br_ndec) <;> intro h <;> try (exfalso; (try dsimp only at h); omega)) | ((first | apply br_seq | apply br_nseq | apply br_not | apply br_intro) <;> intro h) | refine cond_a ?_)
    all_goals (conv => whnf)
    all_goals first
      | exact ret_out (l := [0, 1, 2, 3]) rfl rfl ⟨rfl, rfl, trivial⟩ (allRw_cons (allRw_cons allRw_nil))
      | (exfalso; exact e1 (by assumption))
def tS (s : ByteArray) (e E w : Int) : ByteArray := if e = 0 then s.extract (cntE E w).toNat s.size else s
def tE (e E : Int) : Int := if e = 0 then E else e
def tV (e : Int) (V : ByteArray) : ByteArray := if e = 0 then V else ⟨#[]⟩
theorem rd_Take (s : ByteArray) (e w : Int) (hs : s.size ≤ 9223372036854775000) : FC Tryd.prog 2 55 [.ptr 1 0 0 0, .int .i64 w] [(1, rdB s e)] (isOut (.str (tV e (tkS s w))) [(1, rdB (tS s e (tkE s w) w) (tE e (tkE s w)))] 2) := by
  unfold tS tE tV
  by_cases he : e = 0
  · subst he
    have c := wire_readT (E := tkE s w) (w := w) (fun h => by
      rcases tk_cases s w with ⟨e1, _⟩ | ⟨h1, ⟨e1, _⟩ | ⟨hz, _⟩⟩ <;> omega) (wire_TakeF s w hs)
    rw [if_pos rfl, if_pos rfl, if_pos rfl]
    refine fc_of mixed T_ok Tryd.func55 rfl (by kernel_rfl) (by kernel_rfl) (by kernel_rfl) ?_
    repeat' ((conv => whnf); first | refine vcall_o (l := [0, 1, 2, 3]) (c) ?_ | refine vcallD_o (l := [0, 1, 2, 3]) (c) ?_ | ((first | apply br_dec | apply br_ndec) <;> intro h <;> try (exfalso; (try dsimp only at h); omega)) | ((first | apply br_seq | apply br_nseq | apply br_not | apply br_intro) <;> intro h) | refine cond_a ?_)
    all_goals (conv => whnf)
    all_goals exact ret_out (l := [0, 1]) rfl rfl ⟨rfl, trivial⟩ (allRw_cons allRw_nil)
  · have c := wire_readE2 s e 64 he
    rw [if_neg he, if_neg he, if_neg he]
    refine fc_of mixed T_ok Tryd.func55 rfl (by kernel_rfl) (by kernel_rfl) (by kernel_rfl) ?_
    repeat' ((conv => whnf); first | refine vcall_o (l := [0, 1, 2, 3]) (c) ?_ | refine vcallD_o (l := [0, 1, 2, 3]) (c) ?_ | ((first | apply br_dec | apply br_ndec) <;> intro h <;> try (exfalso; (try dsimp only at h); omega)) | ((first | apply br_seq | apply br_nseq | apply br_not | apply br_intro) <;> intro h) | refine cond_a ?_)
    all_goals (conv => whnf)
    all_goals exact ret_out (l := [0, 1]) rfl rfl ⟨rfl, trivial⟩ (allRw_cons allRw_nil)
end Go.Proofs.YtdlpmmdbdjlojaaDoor

/- Plain facts of the journal: hashes, blocks, streams. No program in sight. -/
namespace Go.Proofs.YtdlpmmdbdjlojaaDoor
open Go.RowKit Go.Sy
set_option maxRecDepth 100000
set_option linter.unusedVariables false
set_option linter.unusedSimpArgs false

/-- The hash of the first k bytes, from a value on. -/
def fnvK (h : Int) (s : ByteArray) : Nat → Int
  | 0 => h
  | k + 1 => IntKind.u64.wrap (ixor .u64 (fnvK h s k) (byteAt s (k : Int)) * 1099511628211)
theorem u64_wr (x : Int) : 0 ≤ IntKind.u64.wrap x ∧ IntKind.u64.wrap x < 18446744073709551616 := by
  have : IntKind.u64.wrap x = x % 18446744073709551616 := by simp [IntKind.wrap, IntKind.bits, IntKind.signed]
  omega
theorem fnvK_bd {h : Int} (hh : 0 ≤ h ∧ h < 18446744073709551616) (s : ByteArray) : ∀ k, 0 ≤ fnvK h s k ∧ fnvK h s k < 18446744073709551616
  | 0 => hh
  | k + 1 => u64_wr _
theorem byteAt_app1 {a b : ByteArray} {i : Nat} (h : i < a.size) : byteAt (a ++ b) (i : Int) = byteAt a (i : Int) := by
  unfold byteAt
  rw [Int.toNat_natCast]
  congr 2
  have h' : i < a.data.toList.length := by simpa using h
  simp only [ByteArray.data_append, Array.toList_append, List.getD, List.getElem?_append_left h']
theorem byteAt_app2 {a b : ByteArray} {i : Nat} : byteAt (a ++ b) ((a.size + i : Nat) : Int) = byteAt b (i : Int) := by
  unfold byteAt
  rw [Int.toNat_natCast, Int.toNat_natCast]
  congr 2
  have h' : a.data.toList.length = a.size := by simp
  simp only [ByteArray.data_append, Array.toList_append, List.getD]
  rw [List.getElem?_append_right (by omega), h', Nat.add_sub_cancel_left]
theorem fnvK_app1 (h : Int) (a b : ByteArray) : ∀ k, k ≤ a.size → fnvK h (a ++ b) k = fnvK h a k
  | 0, _ => rfl
  | k + 1, hk => by simp only [fnvK]; rw [fnvK_app1 h a b k (by omega), byteAt_app1 (by omega)]
theorem fnvK_app2 (h : Int) (a b : ByteArray) : ∀ k, fnvK h (a ++ b) (a.size + k) = fnvK (fnvK h a a.size) b k
  | 0 => fnvK_app1 h a b _ (Nat.le_refl _)
  | k + 1 => by
    rw [show a.size + (k + 1) = (a.size + k) + 1 from by omega]
    simp only [fnvK]
    rw [fnvK_app2 h a b k, byteAt_app2]

/-- The bytes of a number, the highest first. -/
def beL (p : Int) : Nat → List Int
  | 0 => []
  | k + 1 => beL p k ++ [IntKind.u8.wrap (ishr .u64 p ((56 - 8 * k : Nat) : Int))]
theorem beL_length (p : Int) : ∀ k, (beL p k).length = k
  | 0 => rfl
  | k + 1 => by simp [beL, beL_length p k]
theorem u8_wr (x : Int) : 0 ≤ IntKind.u8.wrap x ∧ IntKind.u8.wrap x ≤ 255 := by
  have : IntKind.u8.wrap x = x % 256 := by simp [IntKind.wrap, IntKind.bits, IntKind.signed]
  omega
theorem beL_bd (p : Int) : ∀ k, ∀ x ∈ beL p k, 0 ≤ x ∧ x ≤ 255
  | 0, x, h => by simp [beL] at h
  | k + 1, x, h => by
    simp only [beL, List.mem_append, List.mem_singleton] at h
    rcases h with h | rfl
    · exact beL_bd p k x h
    · exact u8_wr _
theorem beL_get (p : Int) : ∀ k i, i < k → (beL p k)[i]? = some (IntKind.u8.wrap (ishr .u64 p ((56 - 8 * i : Nat) : Int)))
  | 0, i, h => by omega
  | k + 1, i, h => by
    simp only [beL]
    by_cases e : i = k
    · subst e
      rw [List.getElem?_append_right (by rw [beL_length]; exact Nat.le_refl _), beL_length, Nat.sub_self]; rfl
    · rw [List.getElem?_append_left (by rw [beL_length]; omega)]
      exact beL_get p k i (by omega)
def be8S (p : Int) : ByteArray := bytesOf (beL p 8)
theorem be8S_size (p : Int) : (be8S p).size = 8 := by unfold be8S; rw [bytesOf_size, beL_length]
/-- The first k of eight bytes, zeros behind. -/
def beZ (p : Int) (k : Nat) : List Int := beL p k ++ List.replicate (8 - k) 0
theorem beZ_set (p : Int) (k : Nat) (h : k < 8) : (beZ p k).set k (IntKind.u8.wrap (ishr .u64 p ((56 - 8 * k : Nat) : Int))) = beZ p (k + 1) := by
  unfold beZ
  rw [show 8 - k = (8 - (k + 1)) + 1 from by omega, List.replicate_succ, List.set_append_right _ _ (by rw [beL_length]; exact Nat.le_refl _), beL_length, Nat.sub_self]
  simp [beL]
theorem beZ_all (p : Int) : beZ p 8 = beL p 8 := by unfold beZ; simp
/-- The hash of a chain that is extended. -/
def chI (p : Int) (s : ByteArray) : Int := fnvK (fnvK 14695981039346656037 (be8S p) 8) s s.size
theorem chI_bd (p : Int) (s : ByteArray) : 0 ≤ chI p s ∧ chI p s < 18446744073709551616 := fnvK_bd (fnvK_bd (by omega) _ _) _ _
theorem chI_app (p : Int) (s : ByteArray) : fnvK 14695981039346656037 (be8S p ++ s) (8 + s.size) = chI p s := by
  have := fnvK_app2 14695981039346656037 (be8S p) s s.size
  rw [be8S_size] at this
  exact this
/-- The digits of a hash. -/
def hxS (h : Int) : ByteArray := bytesOf (hexL (be8S h) 8)
theorem hxS_size (h : Int) : (hxS h).size = 16 := by unfold hxS; rw [bytesOf_size, hexL_length]
attribute [irreducible] chI hxS
def dotS : ByteArray := ⟨#[46]⟩
def plusS : ByteArray := ⟨#[43]⟩
theorem ba_size (a b : ByteArray) : (a ++ b).size = a.size + b.size := by simp
theorem numS_size {n w : Nat} (h : numOk n w) : (numS n w).size = w := by rw [numS_ok h, bytesOf_size, digs_length, Int.toNat_natCast]
theorem numOk4 {n : Nat} (h : n < 10000) : numOk n (4 : Nat) := ⟨by omega, by omega, by omega, by rw [Int.toNat_natCast, Int.toNat_natCast]; exact ndig_of_lt (by simpa using h) (by omega)⟩
theorem numOk2 {n : Nat} (h : n < 100) : numOk n (2 : Nat) := ⟨by omega, by omega, by omega, by rw [Int.toNat_natCast, Int.toNat_natCast]; exact ndig_of_lt (by simpa using h) (by omega)⟩
theorem numS4_size {n : Nat} (h : n < 10000) : (numS n 4).size = 4 := numS_size (numOk4 h)
theorem numS2_size {n : Nat} (h : n < 100) : (numS n 2).size = 2 := numS_size (numOk2 h)

/-- The stream of the first k records. -/
def stK (g : List ByteArray) : Nat → ByteArray
  | 0 => ⟨#[]⟩
  | k + 1 => stK g k ++ (numS (g.getD k ⟨#[]⟩).size 4 ++ g.getD k ⟨#[]⟩)
/-- The stream of a group. -/
def strm : List ByteArray → ByteArray
  | [] => ⟨#[]⟩
  | r :: l => (numS r.size 4 ++ r) ++ strm l
theorem ba_nil (a : ByteArray) : (⟨#[]⟩ : ByteArray) ++ a = a := by apply ext_ba; simp
theorem ba_nil' (a : ByteArray) : a ++ (⟨#[]⟩ : ByteArray) = a := by apply ext_ba; simp
theorem stK_cons (r : ByteArray) (l : List ByteArray) : ∀ k, stK (r :: l) (k + 1) = (numS r.size 4 ++ r) ++ stK l k
  | 0 => by simp only [stK, List.getD_cons_zero]; rw [ba_nil, ba_nil']
  | k + 1 => by
    rw [stK, stK_cons r l k]
    simp only [stK, List.getD_cons_succ, ByteArray.append_assoc]
theorem stK_strm : ∀ g : List ByteArray, stK g g.length = strm g
  | [] => rfl
  | r :: l => by rw [List.length_cons, stK_cons, stK_strm l]; rfl
def okR (g : List ByteArray) : Prop := ∀ r ∈ g, r.size ≤ 4000
/-- The bytes of a stream. -/
def szK (g : List ByteArray) : Nat → Nat
  | 0 => 0
  | k + 1 => szK g k + (4 + (g.getD k ⟨#[]⟩).size)
theorem okR_at {g : List ByteArray} (h : okR g) (i : Nat) : (g.getD i ⟨#[]⟩).size ≤ 4000 := by
  rcases Nat.lt_or_ge i g.length with hi | hi
  · rw [List.getD, List.getElem?_eq_getElem hi]; exact h _ (List.getElem_mem hi)
  · rw [List.getD, List.getElem?_eq_none hi]; decide
theorem stK_size {g : List ByteArray} (h : okR g) : ∀ k, (stK g k).size = szK g k
  | 0 => rfl
  | k + 1 => by
    have := okR_at h k
    rw [stK, szK, ba_size, ba_size, numS4_size (by omega), stK_size h k]
theorem szK_le {g : List ByteArray} (h : okR g) : ∀ k, szK g k ≤ 4004 * k
  | 0 => Nat.le_refl _
  | k + 1 => by
    have := okR_at h k
    have := szK_le h k
    simp only [szK]; omega
theorem szK_lt {g : List ByteArray} : ∀ k, 4 * k ≤ szK g k
  | 0 => Nat.le_refl _
  | k + 1 => by have := szK_lt (g := g) k; simp only [szK]; omega

/-- The rest of a stream behind k blocks, and the body of the next one. -/
def rsT (s : ByteArray) (k : Nat) : ByteArray := s.extract (45 * k) s.size
def bodyN (r : ByteArray) : ByteArray := (if r.size ≤ 45 then dotS else plusS) ++ numS (min r.size 45 : Nat) 2 ++ r.extract 0 (min r.size 45)
def hK (p : Int) (s : ByteArray) : Nat → Int
  | 0 => p
  | k + 1 => chI (hK p s k) (bodyN (rsT s k))
def bK (p : Int) (s : ByteArray) (k : Nat) : ByteArray := hxS (hK p s (k + 1)) ++ bodyN (rsT s k)
def bkL (p : Int) (s : ByteArray) (k : Nat) : List ByteArray := (List.range k).map (bK p s)
def nblk (s : ByteArray) : Nat := (s.size + 44) / 45
theorem bkL_succ (p : Int) (s : ByteArray) (k : Nat) : bkL p s (k + 1) = bkL p s k ++ [bK p s k] := by simp [bkL, List.range_succ]
theorem bkL_length (p : Int) (s : ByteArray) (k : Nat) : (bkL p s k).length = k := by simp [bkL]
theorem bkL_get (p : Int) (s : ByteArray) {k i : Nat} (h : i < k) : (bkL p s k).getD i ⟨#[]⟩ = bK p s i := by simp [bkL, List.getD, h]
theorem hK_bd {p : Int} (hp : 0 ≤ p ∧ p < 18446744073709551616) (s : ByteArray) : ∀ k, 0 ≤ hK p s k ∧ hK p s k < 18446744073709551616
  | 0 => hp
  | k + 1 => chI_bd _ _
theorem rsT_size (s : ByteArray) (k : Nat) : (rsT s k).size = s.size - 45 * k := by unfold rsT; rw [ByteArray.size_extract]; omega
theorem rsT_zero (s : ByteArray) : rsT s 0 = s := by unfold rsT; simp
theorem rsT_succ (s : ByteArray) (k : Nat) : (rsT s k).extract (min (rsT s k).size 45) (rsT s k).size = rsT s (k + 1) := by
  rw [rsT_size]
  apply ext_ba
  unfold rsT
  have hl : s.data.toList.length = s.size := by simp
  simp only [ByteArray.data_extract, Array.toList_extract, List.extract_eq_take_drop]
  apply List.ext_getElem?
  intro i
  simp only [List.getElem?_take, List.getElem?_drop]
  by_cases h : 45 * (k + 1) + i < s.size
  · rw [if_pos (by omega), if_pos (by omega), if_pos (by omega)]
    congr 1; omega
  · by_cases h2 : i < s.size - 45 * k - min (s.size - 45 * k) 45
    · omega
    · rw [if_neg h2, if_neg (by omega)]
theorem bodyN_size {r : ByteArray} : (bodyN r).size = 3 + min r.size 45 := by
  unfold bodyN
  rw [ba_size, ba_size, numS2_size (by omega), ByteArray.size_extract]
  split <;> simp only [dotS, plusS] <;> (show 1 + 2 + _ = _; omega)
theorem bK_size (p : Int) (s : ByteArray) (k : Nat) : (bK p s k).size = 19 + min (s.size - 45 * k) 45 := by
  unfold bK
  rw [ba_size, hxS_size, bodyN_size, rsT_size]; omega
end Go.Proofs.YtdlpmmdbdjlojaaDoor

/- The builder of strings: its row of bytes, by the kit's own walk. -/
namespace Go.Proofs.YtdlpmmdbdjlojaaDoor
open Go.RowKit Go.Sy Go.Proofs
set_option linter.unusedVariables false
set_option linter.unusedSimpArgs false

/-- A row of bytes that a builder holds: nil, or a block of its own. -/
def RowIs (w : World) (e : TypeId) (v : Value) (s : ByteArray) : Prop :=
  (v = .slice none 0 0 ∧ s = ⟨#[]⟩) ∨ ∃ g cap cur, v = .slice (some ⟨g, 0, none⟩) s.size cap ∧ w.heap[g]? = some (.cells cur e (0, 0)) ∧ cur.size = cap ∧ s.size ≤ cap ∧ cap ≤ maxLen ∧ cur.toList.take s.size = Lib.strCells s
/-- A row behind an append. -/
def RowNew (w w' : World) (e : TypeId) (v v' : Value) (s : ByteArray) : Prop :=
  ∃ g cap cur, v' = .slice (some ⟨g, 0, none⟩) s.size cap ∧ w'.heap[g]? = some (.cells cur e (0, 0)) ∧ cur.size = cap ∧ s.size ≤ cap ∧ cap ≤ maxLen ∧ cur.toList.take s.size = Lib.strCells s ∧ (w.heap.size ≤ g ∨ v.ownBlock = some g)

theorem strCells_append (a b : ByteArray) : Lib.strCells (a ++ b) = Lib.strCells a ++ Lib.strCells b := by
  rw [Lib.strCells_eq, Lib.strCells_eq, Lib.strCells_eq, ← Lib.byteCells_append]; simp

theorem app_any {P : Program} (w : World) (t u ty e : TypeId) (i : TypeInfo) (ht : P.underlying t = some (.slice e)) (hu : P.underlying u = some .string) (hi : P.info? e = some i) (hz : i.zero = some (.int .u8 0)) (hsize : i.size = 1) (hby : i.bytes = 1)
    (v : Value) (s0 s : ByteArray) (hv : RowIs w e v s0) (h0 : 0 < s.size) (hb : s0.size + s.size ≤ 1000000000) :
    ∃ v' w', (Builtin.append_ #[t, u] ty #[v, .string s]).run P w = .ok v' w' ∧ RowNew w w' e v v' (s0 ++ s) ∧ w.grownBy w' v.ownBlock := by
  have hsz : (s0 ++ s).size = s0.size + s.size := by simp
  have hcl : ∀ x : ByteArray, (Lib.strCells x).length = x.size := Lib.strCells_length
  have mx : maxLen = maxLen := rfl
  have grown : ∀ (W : World) (xs : List Value) (n old : Nat), W.heap.size = w.heap.size → xs = Lib.strCells (s0 ++ s) → n = s0.size + s.size → ∀ cur : Array Value, cur = xs.toArray ++ Builtin.zeroCells (Value.int .u8 0).cells (grownCap w n old e - n) →
      cur.size = grownCap w n old e ∧ (s0 ++ s).size ≤ grownCap w n old e ∧ grownCap w n old e ≤ maxLen ∧ cur.toList.take (s0 ++ s).size = Lib.strCells (s0 ++ s) := by
    intro W xs n old _ hxs hn cur hcur
    have hge := grownCap_ge w n old e
    have hcm : grownCap w n old e ≤ maxLen := grownCap_le_maxLen w n old e (by unfold maxLen; omega)
    have hz1 : (Value.int IntKind.u8 0).cells.size = 1 := rfl
    refine ⟨?_, by omega, hcm, ?_⟩
    · rw [hcur, hxs]
      simp only [Array.size_append, List.size_toArray, size_zeroCells, hz1, hcl, hsz]
      omega
    · rw [hcur, hxs]
      simp only [Array.toList_append]
      rw [← hcl (s0 ++ s)]
      exact List.take_left
  rcases hv with ⟨rfl, rfl⟩ | ⟨g, cap, cur, rfl, hg, hcs, hnc, hcm, htake⟩
  · have hr := run_append_nil_string (P := P) w t u ty e i (.int .u8 0) ht hu hi hz s (by omega) (by omega) (by rw [hby]; omega)
    have e1 : (s.data.map fun b => Value.int .u8 b.toNat) = (Lib.strCells s).toArray := by
      apply Array.ext'
      simp [Lib.strCells]
    rw [e1] at hr
    have hs : (⟨#[]⟩ : ByteArray) ++ s = s := by apply ByteArray.ext; simp
    obtain ⟨k1, k2, k3, k4⟩ := grown w (Lib.strCells s) s.size 0 rfl (by rw [hs]) (by show s.size = 0 + s.size; omega) _ rfl
    rw [hs] at k2 k4
    refine ⟨_, _, hr, ⟨w.heap.size, _, _, by rw [hs], heap_alloc_new w.drew _, k1, by rw [hs]; exact k2, k3, by rw [hs]; exact k4, .inl (Nat.le_refl _)⟩, ⟨rfl, rfl, rfl, by simp, fun k hk _ => heap_alloc_old w.drew _ hk⟩⟩
  · by_cases hroom : s0.size + s.size ≤ cap
    · have hr := Lib.run_append_room_string (P := P) w t u ty e i ht hu hi hsize g s0.size cap cur hg s hroom (by omega)
      refine ⟨_, _, hr, ⟨g, cap, _, by rw [hsz], setRow_heap w g cur _ e _ hg, ?_, by rw [hsz]; exact hroom, hcm, ?_, .inr rfl⟩, ⟨rfl, rfl, rfl, by simp, fun k _ hk => setRow_other w g k _ (fun e => hk (by simp [Value.ownBlock, e]))⟩⟩
      · simp only [List.size_toArray, List.length_append, List.length_take, List.length_drop, Array.length_toList, hcl]
        omega
      · rw [htake, ← strCells_append, ← hcl (s0 ++ s)]
        exact List.take_left
    · have holds : ∀ j u, (Lib.strCells s0)[j]? = some u → w.cell? ((⟨g, 0, none⟩ : Addr).add j) = some u := by
        intro j u hj
        rw [← htake, List.getElem?_take] at hj
        split at hj
        · have ea : ((⟨g, 0, none⟩ : Addr).add j) = ⟨g, j, none⟩ := by
            unfold Addr.add
            split
            · rename_i e; subst e; rfl
            · simp
          rw [ea, Lib.cell_of_heap hg]
          simpa using hj
        · cases hj
      have hr := Lib.run_append_grow_string (P := P) w t u ty e i (.int .u8 0) ht hu hi hz ⟨g, 0, none⟩ s0.size cap (Lib.strCells s0) (by rw [hsize, hcl]; simp) holds s (by omega) (by omega) (by rw [hby]; exact growslice_fits (by omega) (by omega))
      obtain ⟨k1, k2, k3, k4⟩ := grown w (Lib.strCells (s0 ++ s)) (s0.size + s.size) cap rfl rfl rfl _ rfl
      have e2 : (Lib.strCells s0).toArray ++ (Lib.strCells s).toArray = (Lib.strCells (s0 ++ s)).toArray := by rw [strCells_append]; simp
      rw [e2] at hr
      exact ⟨_, _, hr, ⟨w.heap.size, _, _, by rw [hsz], heap_alloc_new w.drew _, k1, k2, k3, k4, .inl (Nat.le_refl _)⟩, ⟨rfl, rfl, rfl, by simp, fun k hk _ => heap_alloc_old w.drew _ hk⟩⟩
theorem wpList_bld {P : Program} {ops : Array Oper} {rest : List Oper} {o : Oper} {a : Act} {Q : Exit → Act → World → Prop} {w : World} (hgd : o.guard = none) (sl x : Operand) (t u : TypeId)
    (ho : o.op = .call { callee := .builtin .append, args := #[sl, x], argTypes := #[t, u] })
    (e : TypeId) (i : TypeInfo) (ht : P.underlying t = some (.slice e)) (hu : P.underlying u = some .string) (hi : P.info? e = some i) (hz : i.zero = some (.int .u8 0))
    (hsize : i.size = 1) (hby : i.bytes = 1)
    (v : Value) (s0 s : ByteArray) (hs : a.eval sl = v) (hv : RowIs w e v s0) (hx : a.eval x = .string s) (h0 : 0 < s.size) (hb : s0.size + s.size ≤ 1000000000)
    (h : ∀ v' w', RowNew w w' e v v' (s0 ++ s) → w.grownBy w' v.ownBlock → wpList P ops Q rest (a.put o.dst v') w') : wpList P ops Q (o :: rest) a w := by
  refine wpList_plain hgd fun K hK => ?_
  obtain ⟨v', w', hr, h2, h3⟩ := app_any (P := P) w t u o.type e i ht hu hi hz hsize hby v s0 s hv h0 hb
  unfold Oper.wp execOp
  simp only [ho, resolve, invoke, builtin, Sem.run_bind, Sem.run_pure, Result.andThen_ok, List.map_toArray, List.map_cons, List.map_nil, hs, hx, hr]
  exact hK _ _ (h v' w' h2 h3)

set_option maxRecDepth 100000
/-- What is asked of the program's types. -/
theorem b_info : (Tryd.prog.info? 65).map (·.size) = some 2 := by kernel_rfl
theorem b_lies : liesAt Tryd.prog Tryd.prog.depth 65 (2 / Tryd.prog.cellsOf 65) 0 65 1 = true := by kernel_rfl
theorem b_ptr : Tryd.prog.underlying 63 = some (.pointer 65) := by kernel_rfl
theorem b_uns : Tryd.prog.underlying 94 = some .unsafePointer := by kernel_rfl
theorem b_sl : Tryd.prog.underlying 47 = some (.slice 5) := by kernel_rfl
theorem b_str : Tryd.prog.underlying 9 = some .string := by kernel_rfl
theorem b_u8 : (Tryd.prog.info? 5).map (fun i => (i.zero, i.size, i.bytes)) = some (some (.int .u8 0), 1, 1) := by kernel_rfl

set_option maxHeartbeats 1000000 in
theorem k_copyCheck_used (b : Nat) (w : World) (h0 : w.cell? ⟨b, 0, none⟩ = some (.pointer (some ⟨b, 0, none⟩))) :
    Calls Tryd.prog 50 #[.pointer (some ⟨b, 0, none⟩)] w fun e w' => e = .returned (.tuple #[]) ∧ w' = w := by
  obtain ⟨j, hj, _⟩ := Option.map_eq_some_iff.1 b_info
  go_enter Tryd.func50, Tryd.ntmps50
  go_wp2
  rw [Lib.run_neq_ptr_same w _ b_ptr hj]
  go_wp2
  go_end0
  exact ⟨rfl, rfl⟩
set_option maxHeartbeats 1000000 in
theorem k_copyCheck_fresh (b : Nat) (w : World) (h0 : w.cell? ⟨b, 0, none⟩ = some (.pointer none)) (hsh : w.shape? b = some (65, 2)) (hfz : w.frozen? ⟨b, 0, none⟩ = false) :
    Calls Tryd.prog 50 #[.pointer (some ⟨b, 0, none⟩)] w fun e w' => e = .returned (.tuple #[]) ∧ w' = w.setCell ⟨b, 0, none⟩ (.pointer (some ⟨b, 0, none⟩)) := by
  obtain ⟨j, hj, hjs⟩ := Option.map_eq_some_iff.1 b_info
  go_enter Tryd.func50, Tryd.ntmps50
  go_wp2
  rw [Lib.run_to_unsafe w ⟨b, 0, none⟩ b_ptr b_uns hj (by rw [hjs]; decide) hsh (Nat.zero_lt_succ 1)]
  simp only [Result.andThen]
  rw [Oper.upon_value]
  go_wp2
  rw [run_callFunc_extern Tryd.func62 (by kernel_rfl) (by kernel_rfl) (by kernel_rfl) (e := Extern.AbiNoEscape.same) (by kernel_rfl)]
  rw [Lib.run_noEscape]
  simp only [Result.andThen]
  rw [Oper.upon_value]
  go_wp2
  rw [Lib.run_from_unsafe w ⟨b, 0, none⟩ b_uns b_ptr hj hsh b_lies]
  simp only [Result.andThen]
  rw [Oper.upon_value]
  go_wp2
  go_end0
  exact ⟨rfl, rfl⟩
/-- The blocks that a world has kept. -/
def KeepB (B : Nat → Prop) (w w' : World) : Prop := w'.os = w.os ∧ w'.tape = w.tape ∧ w'.output = w.output ∧ w.heap.size ≤ w'.heap.size ∧ ∀ k, k < w.heap.size → ¬ B k → w'.heap[k]? = w.heap[k]?

set_option maxHeartbeats 2000000 in
theorem k_WriteString (b : Nat) (p v : Value) (s0 s : ByteArray) (w : World) (hb : w.heap[b]? = some (.cells #[p, v] 65 (0, 0))) (hp : p = .pointer none ∨ p = .pointer (some ⟨b, 0, none⟩)) (hv : RowIs w 5 v s0) (hne : v.ownBlock ≠ some b) (h0 : 0 < s.size) (hsz : s0.size + s.size ≤ 1000000000) :
    Calls Tryd.prog 39 #[.pointer (some ⟨b, 0, none⟩), .string s] w fun e w' => e = .returned (.tuple #[.int .i64 s.size, .nilIface]) ∧ ∃ v', w'.heap[b]? = some (.cells #[.pointer (some ⟨b, 0, none⟩), v'] 65 (0, 0)) ∧ RowNew w w' 5 v v' (s0 ++ s) ∧ KeepB (fun k => k = b ∨ v.ownBlock = some k) w w' := by
  obtain ⟨i0, hi, hi3⟩ := Option.map_eq_some_iff.1 b_u8
  simp only [Prod.mk.injEq] at hi3
  obtain ⟨hz0, hz1, hz2⟩ := hi3
  have hlt : b < w.heap.size := by
    rcases Nat.lt_or_ge b w.heap.size with h' | h'
    · exact h'
    · simp [Array.getElem?_eq_none h'] at hb
  have cc : Calls Tryd.prog 50 #[.pointer (some ⟨b, 0, none⟩)] w fun e w' => e = .returned (.tuple #[]) ∧ w'.heap[b]? = some (.cells #[.pointer (some ⟨b, 0, none⟩), v] 65 (0, 0)) ∧ w'.heap.size = w.heap.size ∧ w'.os = w.os ∧ w'.tape = w.tape ∧ w'.output = w.output ∧ ∀ k, k ≠ b → w'.heap[k]? = w.heap[k]? := by
    rcases hp with rfl | rfl
    · refine (k_copyCheck_fresh b w (by rw [Lib.cell_of_heap hb]; rfl) (by simp [World.shape?, hb]) (Lib.frozen_of_heap hb 0)).mono ?_
      rintro e w' ⟨rfl, rfl⟩
      refine ⟨rfl, ?_, by simp [World.setCell], rfl, rfl, rfl, fun k hk => ?_⟩
      · simp [World.setCell, Array.getElem?_modify, hb]
      · simp [World.setCell, Array.getElem?_modify, Ne.symm hk]
    · refine (k_copyCheck_used b w (by rw [Lib.cell_of_heap hb]; rfl)).mono ?_
      rintro e w' ⟨rfl, rfl⟩
      exact ⟨rfl, hb, rfl, rfl, rfl, rfl, fun _ _ => rfl⟩
  go_enter Tryd.func39, Tryd.ntmps39
  go_wp2_with (go_at_call 50; refine cc.mono ?_)
  rintro e w1 ⟨rfl, hb1, hs1, ho1, ht1, hu1, hk1⟩
  have c0 : w1.cell? ⟨b, 0, none⟩ = some (.pointer (some ⟨b, 0, none⟩)) := by rw [Lib.cell_of_heap hb1]; rfl
  have c1 : w1.cell? ⟨b, 1, none⟩ = some v := by rw [Lib.cell_of_heap hb1]; rfl
  have hv1 : RowIs w1 5 v s0 := by
    rcases hv with h | ⟨g, cap, cur, rfl, hg, h⟩
    · exact .inl h
    · refine .inr ⟨g, cap, cur, rfl, ?_, h⟩
      rw [hk1 g (fun e => hne (by rw [e]; rfl))]
      exact hg
  go_wp2_with (at_builtin; refine wpList_bld rfl _ _ 47 9 rfl 5 i0 b_sl b_str hi hz0 hz1 hz2 v s0 s rfl hv1 rfl h0 hsz ?_)
  intro v' w2 hrow hgrow
  have hb2 : w2.heap[b]? = some (.cells #[.pointer (some ⟨b, 0, none⟩), v] 65 (0, 0)) := by
    rw [hgrow.block b (by omega) (fun e => hne e.symm)]
    exact hb1
  have d0 : w2.cell? ⟨b, 0, none⟩ = some (.pointer (some ⟨b, 0, none⟩)) := by rw [Lib.cell_of_heap hb2]; rfl
  have d1 : w2.cell? ⟨b, 1, none⟩ = some v := by rw [Lib.cell_of_heap hb2]; rfl
  have f1 : w2.frozen? ⟨b, 1, none⟩ = false := Lib.frozen_of_heap hb2 1
  obtain ⟨g, cap, cur, rfl, r2, r3, r4, r5, r6, r7⟩ := hrow
  have hgb : g ≠ b := by
    rcases r7 with r7 | r7
    · omega
    · exact fun e => hne (by rw [r7, e])
  go_wp2
  go_ret2
  refine ⟨rfl, _, ?_, ⟨g, cap, cur, rfl, ?_, r3, r4, r5, r6, by rw [← hs1]; exact r7⟩, ?_⟩
  · simp [World.setCell, Array.getElem?_modify, hb2]
  · simp [World.setCell, Array.getElem?_modify, Ne.symm hgb, r2]
  · refine ⟨?_, ?_, ?_, ?_, fun k hk hn => ?_⟩
    · show w2.os = w.os; rw [hgrow.os, ho1]
    · show w2.tape = w.tape; rw [hgrow.tape, ht1]
    · show w2.output = w.output; rw [hgrow.output, hu1]
    · have := hgrow.size; simp [World.setCell]; omega
    · have k1 : k ≠ b := fun e => hn (.inl e)
      have k2 : some k ≠ v.ownBlock := fun e => hn (.inr e.symm)
      have : ∀ x, (w2.setCell ⟨b, 1, none⟩ x).heap[k]? = w2.heap[k]? := fun x => by simp [World.setCell, Array.getElem?_modify, Ne.symm k1]
      rw [this, hgrow.block k (by omega) k2, hk1 k k1]
theorem b_p8 : Tryd.prog.underlying 83 = some (.pointer 5) := by kernel_rfl
theorem b_c8 : Tryd.prog.cellsOf 5 = 1 := by kernel_rfl
set_option maxHeartbeats 2000000 in
theorem k_String (b g cap : Nat) (p : Value) (cur : Array Value) (s : ByteArray) (w : World) (hb : w.heap[b]? = some (.cells #[p, .slice (some ⟨g, 0, none⟩) s.size cap] 65 (0, 0))) (hg : w.heap[g]? = some (.cells cur 5 (0, 0))) (hcs : cur.size = cap) (hnc : s.size ≤ cap) (hcm : cap ≤ maxLen) (htake : cur.toList.take s.size = Lib.strCells s) (h0 : 0 < s.size) :
    Calls Tryd.prog 40 #[.pointer (some ⟨b, 0, none⟩)] w fun e w' => e = .returned (.string s) ∧ KeepB (fun k => k = g) w w' := by
  have hl0 : s.data.toList ≠ [] := by
    intro e
    have h1 : s.data.toList.length = s.size := by simp
    rw [e] at h1
    simp at h1
    omega
  have hll : s.data.toList.length = s.size := by simp
  have c1 : w.drew.cell? ⟨b, 1, none⟩ = some (.slice (some ⟨g, 0, none⟩) s.size cap) := by
    have : w.drew.heap[b]? = some (.cells #[p, .slice (some ⟨g, 0, none⟩) s.size cap] 65 (0, 0)) := hb
    rw [Lib.cell_of_heap this]; rfl
  have hg' : w.drew.heap[g]? = some (.cells cur 5 (0, 0)) := hg
  have hSD : (Builtin.unsafeSliceData_ #[47] 83 #[.slice (some ⟨g, 0, none⟩) s.size cap]).run Tryd.prog w.drew = .ok (.pointer (some ⟨g, 0, none⟩)) w.drew :=
    Lib.run_unsafeSliceData_row _ _ _ _ _ _ (by omega)
  have hUS : (Builtin.unsafeString_ #[83, 3] 9 #[.pointer (some ⟨g, 0, none⟩), .int .i64 s.size]).run Tryd.prog w.drew = .ok (.string s) (w.drew.freeze ⟨g, 0, none⟩ s.size) := by
    have := Lib.run_unsafeString_row (P := Tryd.prog) w.drew 83 3 9 5 b_p8 b_c8 g cur.size (by simp [World.shape?, hg']) s.data.toList hl0 (by omega) (by unfold maxLen at hcm; omega) (by
      intro j x hx
      have ea : ((⟨g, 0, none⟩ : Addr).add j) = ⟨g, j, none⟩ := by
        unfold Addr.add
        split
        · rename_i e; subst e; rfl
        · simp
      rw [ea, Lib.cell_of_heap hg']
      have h1 : (Lib.strCells s)[j]? = some (.int .u8 x.toNat) := by rw [Lib.strCells_eq]; simp only [Lib.byteCells, List.getElem?_map, hx]; rfl
      rw [← htake, List.getElem?_take] at h1
      split at h1
      · simpa using h1
      · cases h1)
    rw [hll] at this
    exact this
  have hkeep : KeepB (fun k => k = g) w (w.drew.freeze ⟨g, 0, none⟩ s.size) := by
    unfold World.freeze
    split
    · exact ⟨rfl, rfl, rfl, Nat.le_refl _, fun _ _ _ => rfl⟩
    · refine ⟨rfl, rfl, rfl, by simp, fun k hk hn => ?_⟩
      simp only [Array.getElem?_modify]
      rw [if_neg (fun e => hn e.symm)]
      rfl
  have mixed : Tryd.prog.follows .mixedOrders = true := by kernel_rfl
  go_enter Tryd.func40, Tryd.ntmps40
  go_wp2
  go_region_o
  all_goals (go_wp2; go_ret; exact ⟨rfl, hkeep⟩)
end Go.Proofs.YtdlpmmdbdjlojaaDoor

/- The builder of strings: contracts of the layer. -/
namespace Go.Proofs.YtdlpmmdbdjlojaaDoor
open Go.RowKit Go.Sy Go.Proofs
set_option linter.unusedVariables false
set_option linter.unusedSimpArgs false

def bldB (h n : Nat) : Option HB := some (.one false (.obj (.bld 65 h 0 n)))
def bld0B : Option HB := some (.one false (.obj (.bld0 65)))
def browB (s : ByteArray) : Option HB := some (.one false (.obj (.brow 5 s)))

theorem two_ent {h1 h2 h q : Nat} {ro : Bool} {b1 b2 b : Blk} (he : Ent [(h1, some (.one false b1)), (h2, some (.one false b2))] h q ro b) : (h = h1 ∧ q = 0 ∧ ro = false ∧ b = b1) ∨ (h ≠ h1 ∧ h = h2 ∧ q = 0 ∧ ro = false ∧ b = b2) := by
  rcases ent_cons.1 he with ⟨e, hb, k1, k2, k3⟩ | ⟨e, he⟩
  · cases k1
    exact .inl ⟨e.symm, k2.1, k3.symm, k2.2⟩
  · rcases ent_cons.1 he with ⟨e', hb, k1, k2, k3⟩ | ⟨_, he⟩
    · cases k1
      exact .inr ⟨fun x => e x.symm, e'.symm, k2.1, k3.symm, k2.2⟩
    · obtain ⟨hb, k, _⟩ := he; simp [hget] at k
theorem holds_two {g : G} {w : World} {h1 h2 : Nat} {b1 b2 : Blk} {β1 β2 : Base} (e1 : g h1 0 = some β1) (B1 : BlkAt g β1 false b1 w) (e2 : g h2 0 = some β2) (B2 : BlkAt g β2 false b2 w) (hd : β1.blk ≠ β2.blk) : Holds g [(h1, some (.one false b1)), (h2, some (.one false b2))] w := by
  refine ⟨?_, ?_⟩
  · intro h q ro b he
    rcases two_ent he with ⟨rfl, rfl, rfl, rfl⟩ | ⟨_, rfl, rfl, rfl, rfl⟩
    · exact ⟨_, e1, B1⟩
    · exact ⟨_, e2, B2⟩
  · intro h q h' q' b ro' b' β β' hne he he' hg hg' hc hc'
    rcases two_ent he with ⟨rfl, rfl, _, rfl⟩ | ⟨hx, rfl, rfl, _, rfl⟩
    · rcases two_ent he' with ⟨rfl, rfl, _, rfl⟩ | ⟨_, rfl, rfl, _, rfl⟩
      · exact absurd ⟨rfl, rfl⟩ hne
      · rw [e1] at hg; cases hg
        rw [e2] at hg'; cases hg'
        exact hd
    · rcases two_ent he' with ⟨rfl, rfl, _, rfl⟩ | ⟨_, rfl, rfl, _, rfl⟩
      · rw [e2] at hg; cases hg
        rw [e1] at hg'; cases hg'
        exact hd.symm
      · exact absurd ⟨rfl, rfl⟩ hne

theorem bld_out {g : G} {w w' : World} {n r cap m : Nat} {H : Heap} {β : Base} {cur : Array Value} {s : ByteArray} {Bk : Nat → Prop} (hg1 : g 1 0 = some β) (hcap : 0 < β.cap) (hoff : β.off = 0) (hes : β.es = 0) (h1n : 1 < n) (hu : g.upto n)
    (hb : w'.heap[β.blk]? = some (.cells #[.pointer (some ⟨β.blk, 0, none⟩), .slice (some ⟨r, 0, none⟩) s.size cap] 65 (0, 0))) (hr : w'.heap[r]? = some (.cells cur 5 (0, 0))) (hcs : cur.size = cap) (hnc : s.size ≤ cap) (hcm : cap ≤ maxLen) (htake : cur.toList.take s.size = Lib.strCells s) (h0 : 0 < s.size)
    (hne : r ≠ β.blk) (hk : KeepB Bk w w') (hBk : ∀ k, Bk k → Wset g H k) (hW : Wset g H β.blk) (hWr : Wset g H r ∨ w.heap.size ≤ r) :
    Out g w n H (isOut (.tup [.int .i64 m, .nif]) [(1, bldB n s.size), (n, browB s)] (n + 1)) (.tuple #[.int .i64 m, .nilIface]) w' := by
  obtain ⟨k1, k2, k3, k4, k5⟩ := hk
  have lt : ∀ {k : Nat} {o : Obj}, w'.heap[k]? = some o → k < w'.heap.size := by
    intro k o h
    rcases Nat.lt_or_ge k w'.heap.size with h' | h'
    · exact h'
    · simp [Array.getElem?_eq_none h'] at h
  have g1 : (g.add n ⟨r, 0, 0, cap⟩) 1 0 = some β := by simp only [G.add]; rw [if_neg (by omega)]; exact hg1
  have gn : (g.add n ⟨r, 0, 0, cap⟩) n 0 = some ⟨r, 0, 0, cap⟩ := by simp [G.add]
  refine ⟨_, _, n + 1, g.add n ⟨r, 0, 0, cap⟩, ⟨rfl, rfl, rfl⟩, Nat.le_succ _, ?_, ?_, ?_, ?_, allRw_cons (allRw_cons allRw_nil), ⟨k1, k2, k3, k4, fun k hk hn => k5 k hk (fun hb => hn (hBk k hb))⟩, ?_⟩
  · intro h q hh
    simp only [G.add]
    rw [if_neg (by omega)]
    exact hu h q (by omega)
  · intro h q hh
    simp only [G.add]
    rw [if_neg (by omega)]
  · simp only [Rv, Rvs]
    exact ⟨_, rfl, _, _, rfl, rfl, _, _, rfl, rfl, rfl⟩
  · refine holds_two g1 (objAt hes hcap hoff (lt hb) ?_) gn (objAt rfl (by show 0 < cap; omega) rfl (lt hr) ?_) hne.symm
    · exact ⟨_, gn, hb⟩
    · exact ⟨cur, hr, hcs, hnc, hcm, by rw [htake, Lib.strCells_eq]; rfl⟩
  · intro h q b β' he hg hc
    rcases two_ent he with ⟨rfl, rfl, _, rfl⟩ | ⟨_, rfl, rfl, _, rfl⟩
    · rw [g1] at hg; cases hg; exact .inl hW
    · rw [gn] at hg; cases hg; exact hWr

theorem bld_WS0 (s : ByteArray) (h0 : 0 < s.size) (hs : s.size ≤ 1000000000) : FC Tryd.prog 2 39 [.ptr 1 0 0 0, .str s] [(1, bld0B)] (isOut (.tup [.int .i64 s.size, .nif]) [(1, bldB 2 s.size), (2, browB s)] 3) := by
  refine .inl ⟨bodied_of' Tryd.func39 (by kernel_rfl) (by kernel_rfl), fun g w vs hg hu hH hvs => ?_⟩
  obtain ⟨β, hβ, hB⟩ := hH.blk 1 0 false (.obj (.bld0 65)) ⟨_, rfl, ⟨rfl, rfl⟩, rfl⟩
  obtain ⟨hcap, hoff, hheap⟩ := hB.obj
  have hW : Wset g [(1, bld0B)] β.blk := ⟨1, 0, _, β, ⟨_, rfl, ⟨rfl, rfl⟩, rfl⟩, hβ, hcap, rfl⟩
  have haddr : β.addr 0 0 = ⟨β.blk, 0, none⟩ := by simp [Base.addr, hoff]
  simp only [Rvs, Rv] at hvs
  obtain ⟨v, r1, rfl, ⟨β', e', rfl⟩, v2, r2, rfl, rfl, rfl⟩ := hvs
  rw [hβ] at e'; cases e'
  rw [haddr]
  have hz : (⟨#[]⟩ : ByteArray).size = 0 := rfl
  have hs0 : (⟨#[]⟩ : ByteArray) ++ s = s := by apply ByteArray.ext; simp
  have hlt := hB.lt hcap
  refine (k_WriteString β.blk (.pointer none) (.slice none 0 0) ⟨#[]⟩ s w hheap (.inl rfl) (.inl ⟨rfl, rfl⟩) (by simp [Value.ownBlock]) h0 (by rw [hz]; omega)).mono ?_
  rw [hs0]
  rintro e w' ⟨rfl, v', hb', ⟨r, cap, cur, rfl, hr, hcs, hnc, hcm, htake, hr2⟩, hk⟩
  have hr3 : w.heap.size ≤ r := by
    rcases hr2 with h | h
    · exact h
    · cases h
  refine ⟨_, rfl, bld_out hβ hcap hoff hB.es (by omega) hu hb' hr hcs hnc hcm htake h0 (by omega) hk ?_ hW (.inr hr3)⟩
  rintro k (rfl | h)
  · exact hW
  · cases h
theorem bld_WS (s0 s : ByteArray) (h0 : 0 < s.size) (hs : s0.size + s.size ≤ 1000000000) : FC Tryd.prog 3 39 [.ptr 1 0 0 0, .str s] [(1, bldB 2 s0.size), (2, browB s0)] (isOut (.tup [.int .i64 s.size, .nif]) [(1, bldB 3 (s0 ++ s).size), (3, browB (s0 ++ s))] 4) := by
  refine .inl ⟨bodied_of' Tryd.func39 (by kernel_rfl) (by kernel_rfl), fun g w vs hg hu hH hvs => ?_⟩
  have en1 : Ent [(1, bldB 2 s0.size), (2, browB s0)] 1 0 false (.obj (.bld 65 2 0 s0.size)) := ⟨_, rfl, ⟨rfl, rfl⟩, rfl⟩
  have en2 : Ent [(1, bldB 2 s0.size), (2, browB s0)] 2 0 false (.obj (.brow 5 s0)) := ⟨_, rfl, ⟨rfl, rfl⟩, rfl⟩
  obtain ⟨β, hβ, hB⟩ := hH.blk _ _ _ _ en1
  obtain ⟨β2, hβ2, hB2⟩ := hH.blk _ _ _ _ en2
  obtain ⟨hcap, hoff, β2', e2, hheap⟩ := hB.obj
  rw [hβ2] at e2; cases e2
  obtain ⟨hcap2, hoff2, cur0, hheap2, j1, j2, j3, j4⟩ := hB2.obj
  have hW : Wset g [(1, bldB 2 s0.size), (2, browB s0)] β.blk := ⟨1, 0, _, β, en1, hβ, hcap, rfl⟩
  have hW2 : Wset g [(1, bldB 2 s0.size), (2, browB s0)] β2.blk := ⟨2, 0, _, β2, en2, hβ2, hcap2, rfl⟩
  have hd : β.blk ≠ β2.blk := hH.sep 1 0 2 0 _ _ _ β β2 (by omega) en1 en2 hβ hβ2 hcap hcap2
  have haddr : β.addr 0 0 = ⟨β.blk, 0, none⟩ := by simp [Base.addr, hoff]
  simp only [Rvs, Rv] at hvs
  obtain ⟨v, r1, rfl, ⟨β', e', rfl⟩, v2, r2, rfl, rfl, rfl⟩ := hvs
  rw [hβ] at e'; cases e'
  rw [haddr]
  have hlt := hB.lt hcap
  refine (k_WriteString β.blk _ _ s0 s w hheap (.inr rfl) (.inr ⟨β2.blk, β2.cap, cur0, rfl, hheap2, j1, j2, j3, by rw [j4, Lib.strCells_eq]; rfl⟩) (by simp [Value.ownBlock]; exact fun e => hd e.symm) h0 hs).mono ?_
  rintro e w' ⟨rfl, v', hb', ⟨r, cap, cur, rfl, hr, hcs, hnc, hcm, htake, hr2⟩, hk⟩
  have hr3 : Wset g [(1, bldB 2 s0.size), (2, browB s0)] r ∨ w.heap.size ≤ r := by
    rcases hr2 with h | h
    · exact .inr h
    · simp only [Value.ownBlock, Option.some.injEq] at h
      subst h; exact .inl hW2
  refine ⟨_, rfl, bld_out hβ hcap hoff hB.es (by omega) hu hb' hr hcs hnc hcm htake (by simp; omega) ?_ hk ?_ hW hr3⟩
  · rcases hr2 with h | h
    · omega
    · simp only [Value.ownBlock, Option.some.injEq] at h
      subst h; exact hd.symm
  · rintro k (rfl | h)
    · exact hW
    · simp only [Value.ownBlock, Option.some.injEq] at h
      subst h; exact hW2
theorem bld_String (s : ByteArray) (h0 : 0 < s.size) : FC Tryd.prog 3 40 [.ptr 1 0 0 0] [(1, bldB 2 s.size), (2, browB s)] (isOut (.str s) [] 3) := by
  refine .inl ⟨bodied_of' Tryd.func40 (by kernel_rfl) (by kernel_rfl), fun g w vs hg hu hH hvs => ?_⟩
  have en1 : Ent [(1, bldB 2 s.size), (2, browB s)] 1 0 false (.obj (.bld 65 2 0 s.size)) := ⟨_, rfl, ⟨rfl, rfl⟩, rfl⟩
  have en2 : Ent [(1, bldB 2 s.size), (2, browB s)] 2 0 false (.obj (.brow 5 s)) := ⟨_, rfl, ⟨rfl, rfl⟩, rfl⟩
  obtain ⟨β, hβ, hB⟩ := hH.blk _ _ _ _ en1
  obtain ⟨β2, hβ2, hB2⟩ := hH.blk _ _ _ _ en2
  obtain ⟨hcap, hoff, β2', e2, hheap⟩ := hB.obj
  rw [hβ2] at e2; cases e2
  obtain ⟨hcap2, hoff2, cur0, hheap2, j1, j2, j3, j4⟩ := hB2.obj
  have hW2 : Wset g [(1, bldB 2 s.size), (2, browB s)] β2.blk := ⟨2, 0, _, β2, en2, hβ2, hcap2, rfl⟩
  have haddr : β.addr 0 0 = ⟨β.blk, 0, none⟩ := by simp [Base.addr, hoff]
  simp only [Rvs, Rv] at hvs
  obtain ⟨v, r1, rfl, ⟨β', e', rfl⟩, rfl⟩ := hvs
  rw [hβ] at e'; cases e'
  rw [haddr]
  refine (k_String β.blk β2.blk β2.cap _ cur0 s w hheap hheap2 j1 j2 j3 (by rw [j4, Lib.strCells_eq]; rfl) h0).mono ?_
  rintro e w' ⟨rfl, k1, k2, k3, k4, k5⟩
  refine ⟨_, rfl, .str s, [], 3, g, ⟨rfl, rfl, rfl⟩, Nat.le_refl _, hu, fun _ _ _ => rfl, by simp only [Rv], ⟨?_, ?_⟩, allRw_nil, ⟨k1, k2, k3, k4, fun k hk hn => k5 k hk (fun e => hn (e ▸ hW2))⟩, ?_⟩
  · intro h q ro b he; obtain ⟨hb, e, _⟩ := he; simp [hget] at e
  · intro h q h' q' b ro' b' β β' _ he; obtain ⟨hb, e, _⟩ := he; simp [hget] at e
  · intro h q b β he; obtain ⟨hb, e, _⟩ := he; simp [hget] at e
end Go.Proofs.YtdlpmmdbdjlojaaDoor

/- Contracts of package checksum, and of the journal's hash text. -/
namespace Go.Proofs.YtdlpmmdbdjlojaaDoor
open Go.RowKit Go.Sy
attribute [local irreducible] vcall vloop vcallD retP
set_option maxRecDepth 100000
set_option linter.unusedVariables false
set_option linter.unusedSimpArgs false

theorem chk_extend (p : Int) (s : ByteArray) (hs : s.size ≤ 9223372036854775000) : Pure Tryd.prog 51 [.int .u64 p, .str s] (.int .u64 (fnvK p s s.size)) := by
  refine fc_of mixed T_ok Tryd.func51 rfl (by kernel_rfl) (by kernel_rfl) (by kernel_rfl) ?_
  (conv => whnf)
  refine vloop_of (fun k : Nat => ⟨[(0, .int .u64 (fnvK p s k)), (1, .str s), (7, .int .i64 s.size), (8, .int .i64 k)], [], 1⟩) (fun k => k ≤ s.size) (fun k => s.size - k) 0 [0] [] ⟨rfl, ⟨rfl, rfl, rfl, rfl, trivial⟩, trivial⟩ (by omega) ?_
  intro k hk
  have bb := byte_bd s (k : Int)
  repeat' ((conv => whnf); first | ((first | apply br_dec | apply br_ndec) <;> intro h <;> try (exfalso; (try dsimp only at h); omega)) | ((first | apply br_seq | apply br_nseq | apply br_not | apply br_intro) <;> intro h) | refine cond_a ?_)
  all_goals (conv => whnf)
  · refine ⟨k + 1, [0], [], by omega, by omega, ⟨rfl, ⟨?_, rfl, rfl, congrArg (fun z => some (SV.int .i64 z)) (i64_succ (by omega)), trivial⟩, trivial⟩⟩
    refine congrArg (fun z => some (SV.int .u64 z)) ?_
    show IntKind.u64.wrap (ixor .u64 (fnvK p s k) (IntKind.u64.wrap (byteAt s (k : Int))) * 1099511628211) = fnvK p s (k + 1)
    have e1 : IntKind.u64.wrap (byteAt s (k : Int)) = byteAt s (k : Int) := u64_in' (by omega) (by omega)
    rw [e1]
    rfl
  · have e : k = s.size := by omega
    subst e
    exact ret_pure rfl
theorem chk_Hash (s : ByteArray) (hs : s.size ≤ 9223372036854775000) : Pure Tryd.prog 52 [.str s] (.int .u64 (fnvK 14695981039346656037 s s.size)) := by
  have c := chk_extend 14695981039346656037 s hs
  refine fc_of mixed T_ok Tryd.func52 rfl (by kernel_rfl) (by kernel_rfl) (by kernel_rfl) ?_
  repeat' ((conv => whnf); first | (refine vcall_pure (c) rfl rfl rfl ?_) | (refine vcallD_pure (c) rfl rfl rfl ?_) | ((first | apply br_dec | apply br_ndec) <;> intro h <;> try (exfalso; (try dsimp only at h); omega)) | ((first | apply br_seq | apply br_nseq | apply br_not | apply br_intro) <;> intro h) | refine cond_a ?_)
  all_goals (conv => whnf)
  exact ret_pure rfl
theorem shift_ok {k : Nat} (h : k < 8) : IntKind.i64.wrap (56 - IntKind.i64.wrap (8 * (k : Int))) = ((56 - 8 * k : Nat) : Int) := by
  rw [w64_in (n := 8 * (k : Int)) (by omega) (by omega), w64_in (by omega) (by omega)]; omega
theorem chk_Chain (p : Int) (s : ByteArray) (hs : s.size ≤ 9223372036854775000) : Pure Tryd.prog 41 [.int .u64 p, .str s] (.int .u64 (chI p s)) := by
  have c1 := chk_Hash (be8S p) (by rw [be8S_size]; omega)
  have c2 := chk_extend (fnvK 14695981039346656037 (be8S p) (be8S p).size) s hs
  rw [be8S_size] at c1 c2
  unfold chI
  refine fc_of mixed T_ok Tryd.func41 rfl (by kernel_rfl) (by kernel_rfl) (by kernel_rfl) ?_
  repeat' ((conv => whnf); first | ((first | apply br_dec | apply br_ndec) <;> intro h <;> try (exfalso; (try dsimp only at h); omega)) | ((first | apply br_seq | apply br_nseq | apply br_not | apply br_intro) <;> intro h) | refine cond_a ?_)
  all_goals (conv => whnf)
  refine vloop_of (fun k : Nat => ⟨[(0, .int .u64 p), (1, .str s), (5, .sl 1 0 0 8), (9, .int .i64 8), (10, .int .i64 k)], [(1, some (.one false (.cols 8 [.sc (.ints .u8 (beZ p k))])))], 2⟩) (fun k => k ≤ 8) (fun k => 8 - k) 0 [0, 1] [] ⟨rfl, ⟨rfl, rfl, rfl, rfl, rfl, trivial⟩, ⟨rfl, trivial⟩⟩ (by omega) ?_
  intro k hk
  by_cases hlt : k < 8
  · have e := shift_ok hlt
    repeat' ((conv => whnf); first | (refine cond_intro (show 0 ≤ IntKind.i64.wrap (56 - IntKind.i64.wrap (8 * (k : Int))) from ?_) ?_; (rw [e]; omega)) | ((first | apply br_dec | apply br_ndec) <;> intro h <;> try (exfalso; (try dsimp only at h); omega)) | ((first | apply br_seq | apply br_nseq | apply br_not | apply br_intro) <;> intro h) | refine cond_a ?_)
    all_goals (conv => whnf)
    · refine ⟨k + 1, [0, 1], [], by omega, by omega, ⟨rfl, ⟨rfl, rfl, rfl, rfl, congrArg (fun z => some (SV.int .i64 z)) (i64_succ (by omega)), trivial⟩, ⟨?_, trivial⟩⟩⟩
      refine congrArg (fun z => some (HB.one false (.cols 8 [.sc (.ints .u8 z)]))) ?_
      show (beZ p k).set k (IntKind.u8.wrap (ishr .u64 p (IntKind.i64.wrap (56 - IntKind.i64.wrap (8 * (k : Int)))))) = _
      rw [e]
      exact beZ_set p k hlt
  · have e : k = 8 := by omega
    subst e
    rw [show beZ p 8 = beL p 8 from beZ_all p]
    have e8 : bytesOf (seg 0 8 (beL p 8)) = be8S p := by
      unfold seg be8S; rw [List.drop_zero, List.take_of_length_le (by rw [beL_length]; exact Nat.le_refl _)]
    rw [← e8] at c1 c2
    repeat' ((conv => whnf); first | (refine vcall_pure (c1) rfl rfl rfl ?_) | (refine vcall_pure (c2) rfl rfl rfl ?_) | (refine vcallD_pure (c1) rfl rfl rfl ?_) | (refine vcallD_pure (c2) rfl rfl rfl ?_) | ((first | apply br_dec | apply br_ndec) <;> intro h <;> try (exfalso; (try dsimp only at h); omega)) | ((first | apply br_seq | apply br_nseq | apply br_not | apply br_intro) <;> intro h) | refine cond_a ?_)
    all_goals (conv => whnf)
    exact ret_pure (by rw [e8]; rfl)
theorem jr_hashText (p : Int) : Pure Tryd.prog 42 [.int .u64 p] (.str (hxS p)) := by
  have c1 := wire_Hex (be8S p) (by rw [be8S_size]; omega)
  rw [be8S_size] at c1
  unfold hxS
  refine fc_of mixed T_ok Tryd.func42 rfl (by kernel_rfl) (by kernel_rfl) (by kernel_rfl) ?_
  repeat' ((conv => whnf); first | ((first | apply br_dec | apply br_ndec) <;> intro h <;> try (exfalso; (try dsimp only at h); omega)) | ((first | apply br_seq | apply br_nseq | apply br_not | apply br_intro) <;> intro h) | refine cond_a ?_)
  all_goals (conv => whnf)
  refine vloop_of (fun k : Nat => ⟨[(0, .int .u64 p), (3, .ptr 1 0 0 0), (5, .int .i64 k)], [(1, some (.one false (.cols 8 [.sc (.ints .u8 (beZ p k))])))], 2⟩) (fun k => k ≤ 8) (fun k => 8 - k) 0 [0, 1] [] ⟨rfl, ⟨rfl, rfl, rfl, trivial⟩, ⟨rfl, trivial⟩⟩ (by omega) ?_
  intro k hk
  by_cases hlt : k < 8
  · have e := shift_ok hlt
    repeat' ((conv => whnf); first | (refine cond_intro (show 0 ≤ IntKind.i64.wrap (56 - IntKind.i64.wrap (8 * (k : Int))) from ?_) ?_; (rw [e]; omega)) | ((first | apply br_dec | apply br_ndec) <;> intro h <;> try (exfalso; (try dsimp only at h); omega)) | ((first | apply br_seq | apply br_nseq | apply br_not | apply br_intro) <;> intro h) | refine cond_a ?_)
    all_goals (conv => whnf)
    · refine ⟨k + 1, [0, 1], [], by omega, by omega, ⟨rfl, ⟨rfl, rfl, congrArg (fun z => some (SV.int .i64 z)) (i64_succ (by omega)), trivial⟩, ⟨?_, trivial⟩⟩⟩
      refine congrArg (fun z => some (HB.one false (.cols 8 [.sc (.ints .u8 z)]))) ?_
      show (beZ p k).set k (IntKind.u8.wrap (ishr .u64 p (IntKind.i64.wrap (56 - IntKind.i64.wrap (8 * (k : Int)))))) = _
      rw [e]
      exact beZ_set p k hlt
  · have e : k = 8 := by omega
    subst e
    rw [show beZ p 8 = beL p 8 from beZ_all p]
    have e8 : bytesOf (seg 0 8 (beL p 8)) = be8S p := by
      unfold seg be8S; rw [List.drop_zero, List.take_of_length_le (by rw [beL_length]; exact Nat.le_refl _)]
    rw [← e8] at c1
    repeat' ((conv => whnf); first | (refine vcall_pure (c1) rfl rfl rfl ?_) | (refine vcallD_pure (c1) rfl rfl rfl ?_) | ((first | apply br_dec | apply br_ndec) <;> intro h <;> try (exfalso; (try dsimp only at h); omega)) | ((first | apply br_seq | apply br_nseq | apply br_not | apply br_intro) <;> intro h) | refine cond_a ?_)
    all_goals (conv => whnf)
    exact ret_pure (by rw [e8]; rfl)
end Go.Proofs.YtdlpmmdbdjlojaaDoor

/- Contracts of package journal: the blocks of a group. -/
namespace Go.Proofs.YtdlpmmdbdjlojaaDoor
open Go.RowKit Go.Sy
attribute [local irreducible] vcall vloop vcallD retP
set_option maxRecDepth 100000
set_option linter.unusedVariables false
set_option linter.unusedSimpArgs false

def grB (n : Nat) (g : List ByteArray) : Option HB := some (.one true (.cols n [.sc (.strs g)]))
def grW (n : Nat) (g : List ByteArray) : Option HB := some (.one false (.cols n [.sc (.strs g)]))
/-- The first record that is too long. -/
def longK (g : List ByteArray) : Nat → Bool
  | 0 => false
  | k + 1 => longK g k || decide (4000 < (g.getD k ⟨#[]⟩).size)
def cutE (g : List ByteArray) : Int := if g.length = 0 then 8 else if 256 < g.length then 12 else if longK g g.length = true then 3 else 0
theorem longK_true {g : List ByteArray} {k n : Nat} (h : k < n) (hc : 4000 < (g.getD k ⟨#[]⟩).size) : longK g n = true := by
  induction n with
  | zero => omega
  | succ n ih =>
    simp only [longK]
    by_cases e : k = n
    · subst e; rw [decide_eq_true hc, Bool.or_true]
    · rw [ih (by omega)]; rfl
theorem longK_false {g : List ByteArray} {n : Nat} (h : longK g n = false) : ∀ k, k < n → (g.getD k ⟨#[]⟩).size ≤ 4000 := by
  intro k hk
  rcases Nat.lt_or_ge 4000 (g.getD k ⟨#[]⟩).size with h' | h'
  · rw [longK_true hk h'] at h; cases h
  · exact h'
theorem longK_ok {g : List ByteArray} (h : longK g g.length = false) : okR g := by
  intro r hr
  obtain ⟨i, hi, rfl⟩ := List.getElem_of_mem hr
  have := longK_false h i hi
  rwa [List.getD, List.getElem?_eq_getElem hi] at this
theorem longK_of {g : List ByteArray} (h : okR g) : ∀ k, longK g k = false
  | 0 => rfl
  | k + 1 => by
    simp only [longK, longK_of h k, Bool.false_or, decide_eq_false_iff_not]
    have := okR_at h k
    omega

theorem rec_size {r : ByteArray} (h : r.size ≤ 4000) : (numS r.size 4 ++ r).size = 4 + r.size := by rw [ba_size, numS4_size (by omega)]

theorem stK_le {g : List ByteArray} : ∀ {k : Nat}, (∀ i, i < k → (g.getD i ⟨#[]⟩).size ≤ 4000) → (stK g k).size ≤ 4004 * k
  | 0, _ => Nat.le_refl _
  | k + 1, h => by
    have h1 := h k (Nat.lt_succ_self k)
    have h2 := stK_le (k := k) (fun i hi => h i (by omega))
    simp only [stK]
    rw [ba_size, rec_size h1]
    omega
/-- The first loop: where it stands behind k records. -/
def cutS (p : Int) (n : Nat) (g : List ByteArray) : Nat → VS
  | 0 => ⟨[(0, .int .u64 p), (7, .ptr 2 0 0 0), (25, .sl 1 0 0 n), (26, .int .i64 n), (27, .int .i64 0)], [(0, some (GB glT)), (1, grB n g), (2, bld0B)], 3⟩
  | k + 1 => ⟨[(0, .int .u64 p), (7, .ptr 2 0 0 0), (25, .sl 1 0 0 n), (26, .int .i64 n), (27, .int .i64 (k + 1 : Nat))], [(0, some (GB glT)), (1, grB n g), (2, bldB 3 (stK g (k + 1)).size), (3, browB (stK g (k + 1)))], 4⟩

theorem jr_cut_no (p : Int) (g : List ByteArray) (n : Nat) (hn : g.length = n) (he : cutE g ≠ 0) (hm : n ≤ maxLen) : FC Tryd.prog 2 25 [.int .u64 p, .sl 1 0 0 n] [(0, some (GB glT)), (1, grB n g)] (isOut (.tup [.nsl, .int .u64 0, .int .i64 (cutE g)]) [] 2) := by
  unfold maxLen at hm
  by_cases h0 : n = 0
  · rw [show cutE g = 8 by unfold cutE; rw [if_pos (by omega)]]
    refine fc_of mixed T_ok Tryd.func25 rfl (by kernel_rfl) (by kernel_rfl) (by kernel_rfl) ?_
    repeat' ((conv => whnf); first | ((first | apply br_dec | apply br_ndec) <;> intro h <;> try (exfalso; (try dsimp only at h); omega)) | ((first | apply br_seq | apply br_nseq | apply br_not | apply br_intro) <;> intro h) | refine cond_a ?_)
    all_goals (conv => whnf)
    all_goals exact ret_out (l := [0, 1]) rfl rfl trivial allRw_nil
  · by_cases h1 : 256 < n
    · rw [show cutE g = 12 by unfold cutE; rw [if_neg (by omega), if_pos (by omega)]]
      refine fc_of mixed T_ok Tryd.func25 rfl (by kernel_rfl) (by kernel_rfl) (by kernel_rfl) ?_
      repeat' ((conv => whnf); first | ((first | apply br_dec | apply br_ndec) <;> intro h <;> try (exfalso; (try dsimp only at h); omega)) | ((first | apply br_seq | apply br_nseq | apply br_not | apply br_intro) <;> intro h) | refine cond_a ?_)
      all_goals (conv => whnf)
      all_goals exact ret_out (l := [0, 1]) rfl rfl trivial allRw_nil
    · have hl : longK g g.length = true := by
        cases h : longK g g.length with
        | true => rfl
        | false => exact absurd (show cutE g = 0 by unfold cutE; rw [if_neg (by omega), if_neg (by omega), h]; rfl) he
      rw [show cutE g = 3 by unfold cutE; rw [if_neg (by omega), if_neg (by omega), if_pos hl]]
      refine fc_of mixed T_ok Tryd.func25 rfl (by kernel_rfl) (by kernel_rfl) (by kernel_rfl) ?_
      repeat' ((conv => whnf); first | ((first | apply br_dec | apply br_ndec) <;> intro h <;> try (exfalso; (try dsimp only at h); omega)) | ((first | apply br_seq | apply br_nseq | apply br_not | apply br_intro) <;> intro h) | refine cond_a ?_)
      all_goals (conv => whnf)
      refine vloop_of (cutS p n g) (fun k => k ≤ n ∧ longK g k = false) (fun k => n - k) 0 [0, 1, 2] [] ⟨rfl, ⟨rfl, rfl, rfl, rfl, rfl, trivial⟩, ⟨gwk rfl, rfl, rfl, trivial⟩⟩ ⟨by omega, rfl⟩ ?_
      rintro k ⟨hk, hf⟩
      have hlk : k = n → False := fun e => by rw [e, ← hn, hl] at hf; cases hf
      have hlt : k < n := by
        rcases Nat.lt_or_ge k n with h | h
        · exact h
        · exact (hlk (by omega)).elim
      cases k with
      | zero =>
        by_cases hbig : 4000 < (g.getD 0 ⟨#[]⟩).size
        · repeat' ((conv => whnf); first | ((first | apply br_dec | apply br_ndec) <;> intro h <;> try (exfalso; (try dsimp only at h); omega)) | ((first | apply br_seq | apply br_nseq | apply br_not | apply br_intro) <;> intro h) | refine cond_a ?_)
          all_goals (conv => whnf)
          all_goals first
            | exact ret_out (l := [0, 1]) rfl rfl trivial allRw_nil
            | (exfalso; rename_i h; have h' : ¬ ((4000 : Int) < ((g.getD 0 ⟨#[]⟩).size : Int)) := h; omega)
        · have rs := rec_size (r := g.getD 0 ⟨#[]⟩) (by omega)
          have ns := numS4_size (n := (g.getD 0 ⟨#[]⟩).size) (by omega)
          have c1 := wire_Num (g.getD 0 ⟨#[]⟩).size 4 (by omega)
          have c2 := bld_WS0 (numS (g.getD 0 ⟨#[]⟩).size 4 ++ g.getD 0 ⟨#[]⟩) (by omega) (by omega)
          have fs : longK g 1 = false := by simp only [longK, Bool.false_or, decide_eq_false_iff_not]; exact hbig
          have e1 : stK g (0 + 1) = numS (g.getD 0 ⟨#[]⟩).size 4 ++ g.getD 0 ⟨#[]⟩ := ba_nil _
          repeat' ((conv => whnf); first | (refine vcall_glob (c1) rfl rfl rfl rfl ?_) | refine vcall_o (l := [0, 2]) (c2) ?_ | (refine cond_intro (show (numS (g.getD 0 ⟨#[]⟩).size 4).size + (g.getD 0 ⟨#[]⟩).size ≤ 9223372036854775807 from by omega) ?_) | ((first | apply br_dec | apply br_ndec) <;> intro h <;> try (exfalso; (try dsimp only at h); omega)) | ((first | apply br_seq | apply br_nseq | apply br_not | apply br_intro) <;> intro h) | refine cond_a ?_)
          all_goals (conv => whnf)
          all_goals first
            | (exfalso; rename_i h; have h' : (4000 : Int) < ((g.getD 0 ⟨#[]⟩).size : Int) := h; omega)
            | (refine ⟨1, [0, 1, 2, 3], [], ⟨by omega, fs⟩, by omega, ⟨rfl, ⟨rfl, rfl, rfl, rfl, rfl, trivial⟩, ⟨gwk rfl, rfl, ?_, ?_, trivial⟩⟩⟩ <;> (rw [e1]; rfl))
      | succ k =>
        by_cases hbig : 4000 < (g.getD (k + 1) ⟨#[]⟩).size
        · repeat' ((conv => whnf); first | ((first | apply br_dec | apply br_ndec) <;> intro h <;> try (exfalso; (try dsimp only at h); omega)) | ((first | apply br_seq | apply br_nseq | apply br_not | apply br_intro) <;> intro h) | refine cond_a ?_)
          all_goals (conv => whnf)
          all_goals first
            | exact ret_out (l := [0, 1]) rfl rfl trivial allRw_nil
            | (exfalso; rename_i h; have h' : ¬ ((4000 : Int) < ((g.getD (k + 1) ⟨#[]⟩).size : Int)) := h; omega)
            | (exfalso; omega)
        · have rs := rec_size (r := g.getD (k + 1) ⟨#[]⟩) (by omega)
          have ok : ∀ i, i < k + 1 → (g.getD i ⟨#[]⟩).size ≤ 4000 := longK_false hf
          have sz := stK_le ok
          have ns := numS4_size (n := (g.getD (k + 1) ⟨#[]⟩).size) (by omega)
          have c1 := wire_Num (g.getD (k + 1) ⟨#[]⟩).size 4 (by omega)
          have c2 := bld_WS (stK g (k + 1)) (numS (g.getD (k + 1) ⟨#[]⟩).size 4 ++ g.getD (k + 1) ⟨#[]⟩) (by omega) (by omega)
          have fs : longK g (k + 1 + 1) = false := by simp only [longK]; rw [show (longK g k || decide (4000 < (g.getD k ⟨#[]⟩).size)) = false from hf, Bool.false_or, decide_eq_false_iff_not]; exact hbig
          repeat' ((conv => whnf); first | (refine vcall_glob (c1) rfl rfl rfl rfl ?_) | refine vcall_o (l := [0, 2, 3]) (c2) ?_ | (refine cond_intro (show (numS (g.getD (k + 1) ⟨#[]⟩).size 4).size + (g.getD (k + 1) ⟨#[]⟩).size ≤ 9223372036854775807 from by omega) ?_) | ((first | apply br_dec | apply br_ndec) <;> intro h <;> try (exfalso; (try dsimp only at h); omega)) | ((first | apply br_seq | apply br_nseq | apply br_not | apply br_intro) <;> intro h) | refine cond_a ?_)
          all_goals (conv => whnf)
          all_goals first
            | (exfalso; rename_i h; have h' : (4000 : Int) < ((g.getD (k + 1) ⟨#[]⟩).size : Int) := h; omega)
            | exact ⟨k + 1 + 1, [0, 1, 2, 4], [], ⟨by omega, fs⟩, by omega, ⟨rfl, ⟨rfl, rfl, rfl, rfl, congrArg (fun z => some (SV.int .i64 z)) (i64_succ (by omega)), trivial⟩, ⟨gwk rfl, rfl, rfl, rfl, trivial⟩⟩⟩
attribute [local irreducible] rsT
/-- The second loop: behind k blocks. -/
theorem jr_cut (p : Int) (g : List ByteArray) (n : Nat) (hn : g.length = n) (he : cutE g = 0) : FC Tryd.prog 2 25 [.int .u64 p, .sl 1 0 0 n] [(0, some (GB glT)), (1, grB n g)] (isOut (.tup [.sl 2 0 0 (nblk (strm g)), .int .u64 (hK p (strm g) (nblk (strm g))), .int .i64 0]) [(2, grW (nblk (strm g)) (bkL p (strm g) (nblk (strm g))))] 3) := by
  have hc : n ≠ 0 ∧ ¬ 256 < n ∧ longK g g.length = false := by
    unfold cutE at he
    by_cases h0 : g.length = 0
    · rw [if_pos h0] at he; omega
    · rw [if_neg h0] at he
      by_cases h1 : 256 < g.length
      · rw [if_pos h1] at he; omega
      · rw [if_neg h1] at he
        refine ⟨by omega, by omega, ?_⟩
        cases h : longK g g.length with
        | false => rfl
        | true => rw [if_pos h] at he; omega
  obtain ⟨h0, h1, hlf⟩ := hc
  have hok := longK_ok hlf
  have ok : ∀ i, (g.getD i ⟨#[]⟩).size ≤ 4000 := okR_at hok
  refine fc_of mixed T_ok Tryd.func25 rfl (by kernel_rfl) (by kernel_rfl) (by kernel_rfl) ?_
  repeat' ((conv => whnf); first | ((first | apply br_dec | apply br_ndec) <;> intro h <;> try (exfalso; (try dsimp only at h); omega)) | ((first | apply br_seq | apply br_nseq | apply br_not | apply br_intro) <;> intro h) | refine cond_a ?_)
  all_goals (conv => whnf)
  refine vloop_of (cutS p n g) (fun k => k ≤ n) (fun k => n - k) 0 [0, 1, 2] [] ⟨rfl, ⟨rfl, rfl, rfl, rfl, rfl, trivial⟩, ⟨gwk rfl, rfl, rfl, trivial⟩⟩ (by omega) ?_
  intro k hk
  by_cases hlt : k < n
  · cases k with
    | zero =>
      have hbig := ok 0
      have rs := rec_size (r := g.getD 0 ⟨#[]⟩) (by omega)
      have ns := numS4_size (n := (g.getD 0 ⟨#[]⟩).size) (by omega)
      have c1 := wire_Num (g.getD 0 ⟨#[]⟩).size 4 (by omega)
      have c2 := bld_WS0 (numS (g.getD 0 ⟨#[]⟩).size 4 ++ g.getD 0 ⟨#[]⟩) (by omega) (by omega)
      have e1 : stK g (0 + 1) = numS (g.getD 0 ⟨#[]⟩).size 4 ++ g.getD 0 ⟨#[]⟩ := ba_nil _
      repeat' ((conv => whnf); first | (refine vcall_glob (c1) rfl rfl rfl rfl ?_) | refine vcall_o (l := [0, 2]) (c2) ?_ | (refine cond_intro (show (numS (g.getD 0 ⟨#[]⟩).size 4).size + (g.getD 0 ⟨#[]⟩).size ≤ 9223372036854775807 from by omega) ?_) | ((first | apply br_dec | apply br_ndec) <;> intro h <;> try (exfalso; (try dsimp only at h); omega)) | ((first | apply br_seq | apply br_nseq | apply br_not | apply br_intro) <;> intro h) | refine cond_a ?_)
      all_goals (conv => whnf)
      all_goals first
        | (exfalso; rename_i h; have h' : (4000 : Int) < ((g.getD 0 ⟨#[]⟩).size : Int) := h; omega)
        | (refine ⟨1, [0, 1, 2, 3], [], by omega, by omega, ⟨rfl, ⟨rfl, rfl, rfl, rfl, rfl, trivial⟩, ⟨gwk rfl, rfl, ?_, ?_, trivial⟩⟩⟩ <;> (rw [e1]; rfl))
    | succ k =>
      have hbig := ok (k + 1)
      have rs := rec_size (r := g.getD (k + 1) ⟨#[]⟩) (by omega)
      have ns := numS4_size (n := (g.getD (k + 1) ⟨#[]⟩).size) (by omega)
      have sz := stK_le (g := g) (k := k + 1) (fun i _ => ok i)
      have c1 := wire_Num (g.getD (k + 1) ⟨#[]⟩).size 4 (by omega)
      have c2 := bld_WS (stK g (k + 1)) (numS (g.getD (k + 1) ⟨#[]⟩).size 4 ++ g.getD (k + 1) ⟨#[]⟩) (by omega) (by omega)
      repeat' ((conv => whnf); first | (refine vcall_glob (c1) rfl rfl rfl rfl ?_) | refine vcall_o (l := [0, 2, 3]) (c2) ?_ | (refine cond_intro (show (numS (g.getD (k + 1) ⟨#[]⟩).size 4).size + (g.getD (k + 1) ⟨#[]⟩).size ≤ 9223372036854775807 from by omega) ?_) | ((first | apply br_dec | apply br_ndec) <;> intro h <;> try (exfalso; (try dsimp only at h); omega)) | ((first | apply br_seq | apply br_nseq | apply br_not | apply br_intro) <;> intro h) | refine cond_a ?_)
      all_goals (conv => whnf)
      all_goals first
        | (exfalso; rename_i h; have h' : (4000 : Int) < ((g.getD (k + 1) ⟨#[]⟩).size : Int) := h; omega)
        | exact ⟨k + 1 + 1, [0, 1, 2, 4], [], by omega, by omega, ⟨rfl, ⟨rfl, rfl, rfl, rfl, congrArg (fun z => some (SV.int .i64 z)) (i64_succ (by omega)), trivial⟩, ⟨gwk rfl, rfl, rfl, rfl, trivial⟩⟩⟩
  · obtain ⟨m, rfl⟩ : ∃ m, k = m + 1 := ⟨k - 1, by omega⟩
    have e : m + 1 = n := by omega
    have es : stK g (m + 1) = strm g := by rw [← stK_strm g, hn, e]
    have sz := stK_le (g := g) (k := m + 1) (fun i _ => ok i)
    have s0 : 0 < (strm g).size := by rw [← es]; have := szK_lt (g := g) (m + 1); rw [stK_size hok]; omega
    rw [es] at sz
    have c3 := bld_String (strm g) s0
    rw [show cutS p n g (m + 1) = ⟨[(0, .int .u64 p), (7, .ptr 2 0 0 0), (25, .sl 1 0 0 n), (26, .int .i64 n), (27, .int .i64 (m + 1 : Nat))], [(0, some (GB glT)), (1, grB n g), (2, bldB 3 (strm g).size), (3, browB (strm g))], 4⟩ from by rw [← es]; rfl]
    repeat' ((conv => whnf); first | refine vcall_o (l := [0, 2, 3]) (c3) ?_ | ((first | apply br_dec | apply br_ndec) <;> intro h <;> try (exfalso; (try dsimp only at h); omega)) | ((first | apply br_seq | apply br_nseq | apply br_not | apply br_intro) <;> intro h) | refine cond_a ?_)
    all_goals (conv => whnf)
    all_goals first
      | (exfalso; omega)
      | skip
    have hsz : (strm g).size ≤ 1100000 := by omega
    refine vloop_of (fun k : Nat => ⟨[(0, .int .u64 (hK p (strm g) k)), (12, .sl 2 0 0 k), (13, .str (rsT (strm g) k))], [(0, some (GB glT)), (1, grB n g), (2, grW k (bkL p (strm g) k))], 3⟩) (fun k => k ≤ nblk (strm g)) (fun k => nblk (strm g) - k) 0 [0, 1, 4] [.slot 12 [.sc (.strs [])]] ⟨rfl, ⟨rfl, rfl, ?_, trivial⟩, ⟨gwk rfl, rfl, rfl, trivial⟩⟩ (Nat.zero_le _) ?_
    · rw [rsT_zero]; rfl
    intro k hk
    have hrz := rsT_size (strm g) k
    by_cases hlt : k < nblk (strm g)
    · have hpos : 0 < (rsT (strm g) k).size := by unfold nblk at hlt; omega
      by_cases h45 : (rsT (strm g) k).size ≤ 45
      · have emn : min (rsT (strm g) k).size 45 = (rsT (strm g) k).size := by omega
        have eb : ((⟨#[46]⟩ : ByteArray) ++ numS (((rsT (strm g) k).size : Nat)) 2) ++ (rsT (strm g) k).extract 0 ((rsT (strm g) k).size) = bodyN (rsT (strm g) k) := by
          unfold bodyN; rw [emn, if_pos h45]; rfl
        have n2 : (numS (((rsT (strm g) k).size : Nat)) 2).size = 2 := numS2_size (n := (rsT (strm g) k).size) (by omega)
        have bz := bodyN_size (r := rsT (strm g) k)
        have xz : ((rsT (strm g) k).extract 0 ((rsT (strm g) k).size)).size = (rsT (strm g) k).size := ext_size (by omega)
        have e2 : chI (hK p (strm g) k) (((⟨#[46]⟩ : ByteArray) ++ numS (((rsT (strm g) k).size : Nat)) 2) ++ (rsT (strm g) k).extract 0 ((rsT (strm g) k).size)) = hK p (strm g) (k + 1) := by rw [eb]; rfl
        have c1 := wire_Num (((rsT (strm g) k).size : Nat)) 2 (by omega)
        have c2 := chk_Chain (hK p (strm g) k) (((⟨#[46]⟩ : ByteArray) ++ numS (((rsT (strm g) k).size : Nat)) 2) ++ (rsT (strm g) k).extract 0 ((rsT (strm g) k).size)) (by rw [eb]; omega)
        rw [e2] at c2
        have c4 := jr_hashText (hK p (strm g) (k + 1))
        have m1 : (⟨#[46]⟩ : ByteArray).size = 1 := rfl
        have k1 : (⟨#[46]⟩ : ByteArray).size + (numS (((rsT (strm g) k).size : Nat)) 2).size ≤ 9223372036854775807 := by omega
        have k2 : ((⟨#[46]⟩ : ByteArray) ++ numS (((rsT (strm g) k).size : Nat)) 2).size + ((rsT (strm g) k).extract 0 ((rsT (strm g) k).size)).size ≤ 9223372036854775807 := by rw [ba_size]; omega
        have k3 : (hxS (hK p (strm g) (k + 1))).size + (((⟨#[46]⟩ : ByteArray) ++ numS (((rsT (strm g) k).size : Nat)) 2) ++ (rsT (strm g) k).extract 0 ((rsT (strm g) k).size)).size ≤ 9223372036854775807 := by rw [eb, hxS_size]; omega
        repeat' ((conv => whnf); first | (refine vcall_glob (c1) rfl rfl rfl rfl ?_) | (refine vcallD_glob (c1) rfl rfl rfl rfl ?_) | (refine vcall_pure (c2) rfl rfl rfl ?_) | (refine vcallD_pure (c2) rfl rfl rfl ?_) | (refine vcall_pure (c4) rfl rfl rfl ?_) | (refine vcallD_pure (c4) rfl rfl rfl ?_) | refine cond_intro k1 ?_ | refine cond_intro k2 ?_ | refine cond_intro k3 ?_ | ((first | apply br_dec | apply br_ndec) <;> intro h <;> try (exfalso; (try dsimp only at h); omega)) | ((first | apply br_seq | apply br_nseq | apply br_not | apply br_intro) <;> intro h) | refine cond_a ?_)
        all_goals (conv => whnf)
        all_goals first
          | (exfalso; rename_i h; rw [h] at hpos; exact absurd hpos (by decide))
          | skip
        have er : some (SV.str ((rsT (strm g) k).extract (rsT (strm g) k).size (rsT (strm g) k).size)) = some (SV.str (rsT (strm g) (k + 1))) := by
          have := rsT_succ (strm g) k; rw [emn] at this; rw [this]
        refine ⟨k + 1, [0, 1, 4], [], by omega, by omega, ⟨rfl, ⟨rfl, rfl, er, trivial⟩, ⟨gwk rfl, rfl, ?_, trivial⟩⟩⟩
        rw [bkL_succ]
        unfold bK
        rw [← eb]
        rfl
      · have emn : min (rsT (strm g) k).size 45 = 45 := by omega
        have eb : ((⟨#[43]⟩ : ByteArray) ++ numS (45) 2) ++ (rsT (strm g) k).extract 0 (45) = bodyN (rsT (strm g) k) := by
          unfold bodyN; rw [emn, if_neg h45]; rfl
        have n2 : (numS (45) 2).size = 2 := numS2_size (n := 45) (by omega)
        have bz := bodyN_size (r := rsT (strm g) k)
        have xz : ((rsT (strm g) k).extract 0 (45)).size = 45 := ext_size (by omega)
        have e2 : chI (hK p (strm g) k) (((⟨#[43]⟩ : ByteArray) ++ numS (45) 2) ++ (rsT (strm g) k).extract 0 (45)) = hK p (strm g) (k + 1) := by rw [eb]; rfl
        have c1 := wire_Num (45) 2 (by omega)
        have c2 := chk_Chain (hK p (strm g) k) (((⟨#[43]⟩ : ByteArray) ++ numS (45) 2) ++ (rsT (strm g) k).extract 0 (45)) (by rw [eb]; omega)
        rw [e2] at c2
        have c4 := jr_hashText (hK p (strm g) (k + 1))
        have m1 : (⟨#[43]⟩ : ByteArray).size = 1 := rfl
        have k1 : (⟨#[43]⟩ : ByteArray).size + (numS (45) 2).size ≤ 9223372036854775807 := by omega
        have k2 : ((⟨#[43]⟩ : ByteArray) ++ numS (45) 2).size + ((rsT (strm g) k).extract 0 (45)).size ≤ 9223372036854775807 := by rw [ba_size]; omega
        have k3 : (hxS (hK p (strm g) (k + 1))).size + (((⟨#[43]⟩ : ByteArray) ++ numS (45) 2) ++ (rsT (strm g) k).extract 0 (45)).size ≤ 9223372036854775807 := by rw [eb, hxS_size]; omega
        repeat' ((conv => whnf); first | (refine vcall_glob (c1) rfl rfl rfl rfl ?_) | (refine vcallD_glob (c1) rfl rfl rfl rfl ?_) | (refine vcall_pure (c2) rfl rfl rfl ?_) | (refine vcallD_pure (c2) rfl rfl rfl ?_) | (refine vcall_pure (c4) rfl rfl rfl ?_) | (refine vcallD_pure (c4) rfl rfl rfl ?_) | refine cond_intro k1 ?_ | refine cond_intro k2 ?_ | refine cond_intro k3 ?_ | ((first | apply br_dec | apply br_ndec) <;> intro h <;> try (exfalso; (try dsimp only at h); omega)) | ((first | apply br_seq | apply br_nseq | apply br_not | apply br_intro) <;> intro h) | refine cond_a ?_)
        all_goals (conv => whnf)
        all_goals first
          | (exfalso; rename_i h; rw [h] at hpos; exact absurd hpos (by decide))
          | skip
        have er : some (SV.str ((rsT (strm g) k).extract 45 (rsT (strm g) k).size)) = some (SV.str (rsT (strm g) (k + 1))) := by
          have := rsT_succ (strm g) k; rw [emn] at this; rw [this]
        refine ⟨k + 1, [0, 1, 4], [], by omega, by omega, ⟨rfl, ⟨rfl, rfl, er, trivial⟩, ⟨gwk rfl, rfl, ?_, trivial⟩⟩⟩
        rw [bkL_succ]
        unfold bK
        rw [← eb]
        rfl
    · have ek : k = nblk (strm g) := by omega
      have hz : (rsT (strm g) k).size = 0 := by rw [hrz]; unfold nblk at ek; omega
      have he0 : rsT (strm g) k = ⟨#[]⟩ := by
        apply ext_ba
        have : (rsT (strm g) k).data.toList.length = 0 := by simpa using hz
        rw [List.eq_nil_of_length_eq_zero this]
      rw [he0]
      subst ek
      repeat' ((conv => whnf); first | ((first | apply br_dec | apply br_ndec) <;> intro h <;> try (exfalso; (try dsimp only at h); omega)) | ((first | apply br_seq | apply br_nseq | apply br_not | apply br_intro) <;> intro h) | refine cond_a ?_)
      all_goals (conv => whnf)
      all_goals exact ret_out (l := [0, 1, 2]) rfl rfl ⟨rfl, trivial⟩ (allRw_cons allRw_nil)
end Go.Proofs.YtdlpmmdbdjlojaaDoor

/- Contracts of package journal: blocks and streams are read. -/
namespace Go.Proofs.YtdlpmmdbdjlojaaDoor
open Go.RowKit Go.Sy
attribute [local irreducible] vcall vloop vcallD retP
set_option maxRecDepth 100000
set_option linter.unusedVariables false
set_option linter.unusedSimpArgs false

def unP (b : ByteArray) : ByteArray := b.extract 19 b.size
def unR (b : ByteArray) : ByteArray := b.extract 16 b.size
def unM (b : ByteArray) : ByteArray := (unR b).extract 0 1
def unD (b : ByteArray) : ByteArray := (unR b).extract 1 (unR b).size
/-- A block after a hash. -/
def unOk (p : Int) (b : ByteArray) : Prop := 19 < b.size ∧ b.extract 0 16 = hxS (chI p (unR b)) ∧ nuE (unD b) 2 = 0 ∧ nuV (unD b) 2 = ((unP b).size : Int) ∧ (unP b).size ≤ 45 ∧ (unM b = dotS ∨ (unM b = plusS ∧ (unP b).size = 45))
attribute [local irreducible] seq ByteArray.extract
instance (p : Int) (b : ByteArray) : Decidable (unOk p b) := by unfold unOk; infer_instance
def lastB (b : ByteArray) : Bool := seq (unM b) dotS
theorem unR_size {b : ByteArray} (h : 19 < b.size) : (unR b).size = b.size - 16 := by unfold unR; rw [ByteArray.size_extract]; omega
theorem unP_size {b : ByteArray} (h : 19 < b.size) : (unP b).size = b.size - 19 := by unfold unP; rw [ByteArray.size_extract]; omega
theorem seq_no {a b : ByteArray} (h : a ≠ b) : seq a b = false := by
  cases e : seq a b with
  | false => rfl
  | true => exact absurd (seq_ok e) h
theorem seq_self (a : ByteArray) : seq a a = true := by simp [seq]

def unV (p : Int) (b : ByteArray) : SV := .tup [.str (unP b), .bool (lastB b), .int .u64 (chI p (unR b)), .bool true]
def unN : SV := .tup [.str ⟨#[]⟩, .bool false, .int .u64 0, .bool false]
theorem jr_unblock (p : Int) (b : ByteArray) (hs : b.size ≤ 9223372036854775000) (h : unOk p b) : Pure Tryd.prog 45 [.int .u64 p, .str b] (unV p b) := by
  obtain ⟨h1, h2, h3, h4, h5, h6⟩ := h
  have zr := unR_size h1
  have zp := unP_size h1
  have c1 := chk_Chain p (unR b) (by omega)
  have c2 := jr_hashText (chI p (unR b))
  have c3 := rd_New (unR b)
  have c4 := rd_Take (unR b) 0 1 (by omega)
  have t0 : tkE (unR b) 1 = 0 := by rcases tk_cases (unR b) 1 with ⟨_, h⟩ | ⟨_, ⟨_, h⟩ | ⟨h, _⟩⟩ <;> omega
  have t1 : tV 0 (tkS (unR b) 1) = unM b := by rw [tkS_ok t0]; rfl
  have t2 : tS (unR b) 0 (tkE (unR b) 1) 1 = unD b := by unfold tS; rw [if_pos rfl, t0]; rfl
  have t3 : tE 0 (tkE (unR b) 1) = 0 := by rw [t0]; rfl
  rw [t1, t2, t3] at c4
  have c5 := rd_Num (unD b) 0 2 (by unfold unD; rw [ByteArray.size_extract]; omega)
  have n1 : nV (unD b) 0 2 = ((unP b).size : Int) := by unfold nV; rw [if_pos rfl, h4]
  have n2 : nE (unD b) 0 2 = 0 := by unfold nE; rw [if_pos rfl, h3]
  rw [n1, n2] at c5
  have c6 := rd_Err (nS (unD b) 0 2) 0
  rw [← h2] at c2
  obtain ⟨V, hV⟩ : ∃ V, ((unP b).size : Int) = V := ⟨_, rfl⟩
  have hp5 : ¬ ((45 : Int) < V) := by omega
  rw [hV] at c5
  unfold unV lastB
  have hD : unM b ≠ dotS → unM b = plusS ∧ V = 45 := fun hn => by
    rcases h6 with h6 | ⟨h6, h7⟩
    · exact absurd h6 hn
    · exact ⟨h6, by omega⟩
  refine fc_of mixed T_ok Tryd.func45 rfl (by kernel_rfl) (by kernel_rfl) (by kernel_rfl) ?_
  repeat' ((conv => whnf); first | (refine vcall_pure (c1) rfl rfl rfl ?_) | (refine vcallD_pure (c1) rfl rfl rfl ?_) | (refine vcall_pure (c2) rfl rfl rfl ?_) | (refine vcallD_pure (c2) rfl rfl rfl ?_) | refine vcall_o (l := [0]) (c3) ?_ | refine vcallD_o (l := [0]) (c3) ?_ | refine vcall_o (l := [0, 1]) (c4) ?_ | refine vcall_o (l := [0, 1]) (c5) ?_ | refine vcall_o (l := [0, 1]) (c6) ?_ | ((first | apply br_seq | apply br_nseq) <;> intro h <;> (try first | (exfalso; exact h rfl) | (exfalso; exact absurd h (by decide)))) | ((first | apply br_dec | apply br_ndec) <;> intro h <;> try (exfalso; (try dsimp only at h); omega)) | ((first | apply br_seq | apply br_nseq | apply br_not | apply br_intro) <;> intro h) | refine cond_a ?_)
  all_goals (conv => whnf)
  all_goals first
    | exact ret_pure rfl
    | (exfalso; rename_i h; exact h rfl)
    | (exfalso; rename_i h; exact hp5 h)
    | (exfalso; rename_i h; exact h hV.symm)
    | (exfalso; rename_i h1; exact h (hD h1).1)
    | (exfalso; rename_i h1 _; exact h (hD h1).2)
theorem jr_unblock_no (p : Int) (b : ByteArray) (hs : b.size ≤ 9223372036854775000) (h : ¬ unOk p b) : Pure Tryd.prog 45 [.int .u64 p, .str b] unN := by
  unfold unN
  by_cases h1 : 19 < b.size
  · have zr := unR_size h1
    have zp := unP_size h1
    have c1 := chk_Chain p (unR b) (by omega)
    have c2 := jr_hashText (chI p (unR b))
    by_cases h2 : b.extract 0 16 = hxS (chI p (unR b))
    · rw [← h2] at c2
      have c3 := rd_New (unR b)
      have c4 := rd_Take (unR b) 0 1 (by omega)
      have t0 : tkE (unR b) 1 = 0 := by rcases tk_cases (unR b) 1 with ⟨_, h⟩ | ⟨_, ⟨_, h⟩ | ⟨h, _⟩⟩ <;> omega
      have t1 : tV 0 (tkS (unR b) 1) = unM b := by rw [tkS_ok t0]; rfl
      have t2 : tS (unR b) 0 (tkE (unR b) 1) 1 = unD b := by unfold tS; rw [if_pos rfl, t0]; rfl
      have t3 : tE 0 (tkE (unR b) 1) = 0 := by rw [t0]; rfl
      rw [t1, t2, t3] at c4
      have c5 := rd_Num (unD b) 0 2 (by unfold unD; rw [ByteArray.size_extract]; omega)
      have c6 := rd_Err (nS (unD b) 0 2) (nE (unD b) 0 2)
      by_cases h3 : nE (unD b) 0 2 = 0 ∧ nV (unD b) 0 2 = ((unP b).size : Int) ∧ (unP b).size ≤ 45
      · obtain ⟨h3, h4, h5⟩ := h3
        have h6 : ¬ (unM b = dotS ∨ (unM b = plusS ∧ (unP b).size = 45)) := fun h6 => h ⟨h1, h2, by have := h3; unfold nE at this; rwa [if_pos rfl] at this, by have := h4; unfold nV at this; rwa [if_pos rfl] at this, h5, h6⟩
        rw [h4, h3] at c5
        rw [h3] at c6
        obtain ⟨V, hV⟩ : ∃ V, ((unP b).size : Int) = V := ⟨_, rfl⟩
        have hp5 : ¬ ((45 : Int) < V) := by omega
        rw [hV] at c5
        refine fc_of mixed T_ok Tryd.func45 rfl (by kernel_rfl) (by kernel_rfl) (by kernel_rfl) ?_
        repeat' ((conv => whnf); first | (refine vcall_pure (c1) rfl rfl rfl ?_) | (refine vcallD_pure (c1) rfl rfl rfl ?_) | (refine vcall_pure (c2) rfl rfl rfl ?_) | (refine vcallD_pure (c2) rfl rfl rfl ?_) | refine vcall_o (l := [0]) (c3) ?_ | refine vcallD_o (l := [0]) (c3) ?_ | refine vcall_o (l := [0, 1]) (c4) ?_ | refine vcall_o (l := [0, 1]) (c5) ?_ | refine vcall_o (l := [0, 1]) (c6) ?_ | ((first | apply br_seq | apply br_nseq) <;> intro h <;> (try first | (exfalso; exact h rfl) | (exfalso; exact absurd h (by decide)))) | ((first | apply br_dec | apply br_ndec) <;> intro h <;> try (exfalso; (try dsimp only at h); omega)) | ((first | apply br_seq | apply br_nseq | apply br_not | apply br_intro) <;> intro h) | refine cond_a ?_)
        all_goals (conv => whnf)
        all_goals first
          | exact ret_pure rfl
          | (exfalso; rename_i h; exact h rfl)
          | (exfalso; rename_i h; exact hp5 h)
          | (exfalso; rename_i h; exact h6 (.inl h))
          | (exfalso; rename_i h; exact h hV.symm)
          | (exfalso; rename_i hp hn; exact h6 (.inr ⟨hp, by omega⟩))
          | (exfalso; rename_i hp hn _; exact h6 (.inr ⟨hp, by omega⟩))
          | (exfalso; rename_i hn hp; exact h6 (.inr ⟨hp, by omega⟩))
      · obtain ⟨E, hE⟩ : ∃ E, nE (unD b) 0 2 = E := ⟨_, rfl⟩
        obtain ⟨V, hV⟩ : ∃ V, nV (unD b) 0 2 = V := ⟨_, rfl⟩
        rw [hE, hV] at c5 h3
        rw [hE] at c6
        have h3' : E = 0 → V = ((b.extract 19 b.size).size : Int) → V ≤ 45 → False := fun e1 e2 e3 => h3 ⟨e1, e2, by have : V = ((unP b).size : Int) := e2; omega⟩
        refine fc_of mixed T_ok Tryd.func45 rfl (by kernel_rfl) (by kernel_rfl) (by kernel_rfl) ?_
        repeat' ((conv => whnf); first | (refine vcall_pure (c1) rfl rfl rfl ?_) | (refine vcallD_pure (c1) rfl rfl rfl ?_) | (refine vcall_pure (c2) rfl rfl rfl ?_) | (refine vcallD_pure (c2) rfl rfl rfl ?_) | refine vcall_o (l := [0]) (c3) ?_ | refine vcallD_o (l := [0]) (c3) ?_ | refine vcall_o (l := [0, 1]) (c4) ?_ | refine vcall_o (l := [0, 1]) (c5) ?_ | refine vcall_o (l := [0, 1]) (c6) ?_ | ((first | apply br_seq | apply br_nseq) <;> intro h <;> (try first | (exfalso; exact h rfl) | (exfalso; exact absurd h (by decide)))) | ((first | apply br_dec | apply br_ndec) <;> intro h <;> try (exfalso; (try dsimp only at h); omega)) | ((first | apply br_seq | apply br_nseq | apply br_not | apply br_intro) <;> intro h) | refine cond_a ?_)
        all_goals (conv => whnf)
        all_goals first
          | exact ret_pure rfl
          | (exfalso; rename_i h; exact h rfl)
          | (exfalso; omega)
          | (exfalso; rename_i a1 a2 a3 a4 a5; exact h3' a1 a2 (by omega))
          | (exfalso; rename_i a1 a2 a3; exact h3' a1 a2 (by omega))
    · refine fc_of mixed T_ok Tryd.func45 rfl (by kernel_rfl) (by kernel_rfl) (by kernel_rfl) ?_
      repeat' ((conv => whnf); first | (refine vcall_pure (c1) rfl rfl rfl ?_) | (refine vcallD_pure (c1) rfl rfl rfl ?_) | (refine vcall_pure (c2) rfl rfl rfl ?_) | (refine vcallD_pure (c2) rfl rfl rfl ?_) | ((first | apply br_seq | apply br_nseq) <;> intro h <;> (try first | (exfalso; exact h rfl) | (exfalso; exact absurd h (by decide)))) | ((first | apply br_dec | apply br_ndec) <;> intro h <;> try (exfalso; (try dsimp only at h); omega)) | ((first | apply br_seq | apply br_nseq | apply br_not | apply br_intro) <;> intro h) | refine cond_a ?_)
      all_goals (conv => whnf)
      all_goals first
        | exact ret_pure rfl
        | (exfalso; rename_i h; exact h2 h)
  · refine fc_of mixed T_ok Tryd.func45 rfl (by kernel_rfl) (by kernel_rfl) (by kernel_rfl) ?_
    repeat' ((conv => whnf); first | ((first | apply br_dec | apply br_ndec) <;> intro h <;> try (exfalso; (try dsimp only at h); omega)) | ((first | apply br_seq | apply br_nseq | apply br_not | apply br_intro) <;> intro h) | refine cond_a ?_)
    all_goals (conv => whnf)
    all_goals first
      | exact ret_pure rfl
      | (exfalso; omega)
end Go.Proofs.YtdlpmmdbdjlojaaDoor

/- Contracts of package journal: the records of a stream. -/
namespace Go.Proofs.YtdlpmmdbdjlojaaDoor
open Go.RowKit Go.Sy
attribute [local irreducible] vcall vloop vcallD retP
set_option maxRecDepth 100000
set_option linter.unusedVariables false
set_option linter.unusedSimpArgs false
attribute [local irreducible] seq ByteArray.extract
def ucN (s : ByteArray) : ByteArray := s.extract 4 s.size
def ucA (s : ByteArray) : Prop := nuE s 4 = 0 ∧ nuV s 4 ≤ 4000
def ucB (s : ByteArray) (k : Nat) : Prop := nuV s 4 ≤ ((ucN s).size : Int) ∧ k < 256
instance (s : ByteArray) : Decidable (ucA s) := by unfold ucA; infer_instance
instance (s : ByteArray) (k : Nat) : Decidable (ucB s k) := by unfold ucB; infer_instance
def ucRec (s : ByteArray) : ByteArray := (ucN s).extract 0 (nuV s 4).toNat
def ucT (s : ByteArray) : ByteArray := (ucN s).extract (nuV s 4).toNat (ucN s).size
/-- The records of a stream. -/
def ucR : Nat → ByteArray → List ByteArray → Option (List ByteArray)
  | 0, _, _ => none
  | f + 1, s, acc => if s.size = 0 then (if acc.length = 0 then none else some acc) else if ucA s then (if ucB s acc.length then ucR f (ucT s) (acc ++ [ucRec s]) else none) else none
def ucG (s : ByteArray) : Option (List ByteArray) := ucR (s.size + 1) s []

theorem uc_num {s : ByteArray} (h : nuE s 4 = 0) : nuC s 4 = 4 ∧ 4 ≤ s.size ∧ 0 ≤ nuV s 4 := by
  rcases nu_cases s 4 with ⟨_, h2, h3, _, _, h4, h5⟩ | ⟨h1, _⟩
  · exact ⟨h3, by omega, by rw [h2]; exact (numTo_bd _ h5).1⟩
  · exact absurd h h1
theorem ucN_size (s : ByteArray) : (ucN s).size = s.size - 4 := by unfold ucN; rw [ByteArray.size_extract]; omega
theorem ucT_size {s : ByteArray} : (ucT s).size = (s.size - 4) - (nuV s 4).toNat := by unfold ucT; rw [ByteArray.size_extract, ucN_size]; omega

def ucS (s : ByteArray) (acc : List ByteArray) : VS := ⟨[(4, .sl 2 0 0 acc.length), (5, .ptr 1 0 0 0)], [(1, rdB s 0), (2, grW acc.length acc)], 3⟩
def ucI (R : Option (List ByteArray)) (x : Nat × ByteArray × List ByteArray) : Prop := x.2.1.size < x.1 ∧ ucR x.1 x.2.1 x.2.2 = R ∧ x.2.2.length ≤ 256 ∧ x.2.1.size ≤ 1000000000 ∧ (0 < x.2.1.size ∨ 0 < x.2.2.length)

/-- A record is taken, and one is left over. -/
theorem uc_step {f : Nat} {s : ByteArray} {acc : List ByteArray} (h0 : s.size ≠ 0) (ha : ucA s) (hb : ucB s acc.length) : ucR (f + 1) s acc = ucR f (ucT s) (acc ++ [ucRec s]) := by
  simp only [ucR]; rw [if_neg h0, if_pos ha, if_pos hb]
theorem uc_noA {f : Nat} {s : ByteArray} {acc : List ByteArray} (h0 : s.size ≠ 0) (ha : ¬ ucA s) : ucR (f + 1) s acc = none := by
  simp only [ucR]; rw [if_neg h0, if_neg ha]
theorem uc_noB {f : Nat} {s : ByteArray} {acc : List ByteArray} (h0 : s.size ≠ 0) (hb : ¬ ucB s acc.length) : ucR (f + 1) s acc = none := by
  unfold ucR; rw [if_neg h0]
  by_cases ha : ucA s
  · rw [if_pos ha, if_neg hb]
  · rw [if_neg ha]
theorem uc_end {f : Nat} {s : ByteArray} {acc : List ByteArray} (h0 : s.size = 0) (hl : 0 < acc.length) : ucR (f + 1) s acc = some acc := by
  simp only [ucR]; rw [if_pos h0, if_neg (by omega)]
def ucOut (R : Option (List ByteArray)) : SV → Heap → Nat → Prop := match R with
  | none => isOut (.tup [.nsl, .bool false]) [] 1
  | some g => isOut (.tup [.sl 1 0 0 g.length, .bool true]) [(1, grW g.length g)] 2

theorem jr_uncut (s : ByteArray) (h0 : 0 < s.size) (hs : s.size ≤ 1000000000) : FC Tryd.prog 1 46 [.str s] [] (ucOut (ucG s)) := by
  have c0 := rd_New s
  obtain ⟨R, hR⟩ : ∃ R, ucG s = R := ⟨_, rfl⟩
  rw [hR]
  refine fc_of mixed T_ok Tryd.func46 rfl (by kernel_rfl) (by kernel_rfl) (by kernel_rfl) ?_
  repeat' ((conv => whnf); first | refine vcall_o (l := [0]) (c0) ?_ | ((first | apply br_dec | apply br_ndec) <;> intro h <;> try (exfalso; (try dsimp only at h); omega)) | ((first | apply br_seq | apply br_nseq | apply br_not | apply br_intro) <;> intro h) | refine cond_a ?_)
  all_goals (conv => whnf)
  refine vloop_of (fun x : Nat × ByteArray × List ByteArray => ucS x.2.1 x.2.2) (ucI R) (fun x => x.2.1.size) (s.size + 1, s, []) [0, 1, 2] [.slot 4 [.sc (.strs [])]] ⟨rfl, ⟨rfl, rfl, trivial⟩, ⟨rfl, rfl, trivial⟩⟩ ⟨Nat.lt_succ_self _, hR, Nat.zero_le _, hs, .inl h0⟩ ?_
  rintro ⟨f, t, acc⟩ ⟨hf, hr, hl, hz, hp⟩
  dsimp only at hf hr hl hz hp ⊢
  obtain ⟨f, rfl⟩ : ∃ f', f = f' + 1 := ⟨f - 1, by omega⟩
  have c1 := rd_Left t 0
  by_cases hz0 : t.size = 0
  · rw [uc_end hz0 (by omega)] at hr
    subst hr
    rw [hz0] at c1
    repeat' ((conv => whnf); first | refine vcall_o (l := [0, 1]) (c1) ?_ | ((first | apply br_dec | apply br_ndec) <;> intro h <;> try (exfalso; (try dsimp only at h); omega)) | ((first | apply br_seq | apply br_nseq | apply br_not | apply br_intro) <;> intro h) | refine cond_a ?_)
    all_goals (conv => whnf)
    all_goals first
      | exact ret_out (l := [0, 2]) rfl (congrArg (fun b => SV.tup [.sl 2 0 0 acc.length, .bool b]) (decide_eq_true (by omega))) ⟨rfl, trivial⟩ (allRw_cons allRw_nil)
      | (exfalso; omega)
  · have c2 := rd_Num t 0 4 (by omega)
    by_cases ha : ucA t
    · obtain ⟨n1, n2, n3⟩ := uc_num ha.1
      have hv4 := ha.2
      have e1 : nV t 0 4 = nuV t 4 := by unfold nV; rw [if_pos rfl]
      have e2 : nE t 0 4 = 0 := by unfold nE; rw [if_pos rfl, ha.1]
      have e3 : nS t 0 4 = ucN t := by unfold nS; rw [if_pos rfl, n1]; rfl
      rw [e1, e2, e3] at c2
      have c3 := rd_Err (ucN t) 0
      have zn := ucN_size t
      have c4 := rd_Take (ucN t) 0 (nuV t 4) (by omega)
      by_cases hb : ucB t acc.length
      · have hb1 := hb.1
        have hb2 := hb.2
        have zt := ucT_size (s := t)
        have t0 : tkE (ucN t) (nuV t 4) = 0 := by rcases tk_cases (ucN t) (nuV t 4) with ⟨_, h⟩ | ⟨_, ⟨_, h⟩ | ⟨h, _⟩⟩ <;> omega
        have t1 : tV 0 (tkS (ucN t) (nuV t 4)) = ucRec t := by rw [tkS_ok t0]; rfl
        have t2 : tS (ucN t) 0 (tkE (ucN t) (nuV t 4)) (nuV t 4) = ucT t := by unfold tS; rw [if_pos rfl, t0]; rfl
        have t3 : tE 0 (tkE (ucN t) (nuV t 4)) = 0 := by rw [t0]; rfl
        rw [t1, t2, t3] at c4
        have c5 := rd_Err (ucT t) 0
        rw [uc_step hz0 ha hb] at hr
        obtain ⟨V, hV⟩ : ∃ V, nuV t 4 = V := ⟨_, rfl⟩
        rw [hV] at c2 c4 hv4
        repeat' ((conv => whnf); first | refine vcall_o (l := [0, 1]) (c1) ?_ | refine vcall_o (l := [0, 1]) (c2) ?_ | refine vcall_o (l := [0, 1]) (c3) ?_ | refine vcall_o (l := [0, 1]) (c4) ?_ | refine vcall_o (l := [0, 1]) (c5) ?_ | ((first | apply br_dec | apply br_ndec) <;> intro h <;> try (exfalso; (try dsimp only at h); omega)) | ((first | apply br_seq | apply br_nseq | apply br_not | apply br_intro) <;> intro h) | refine cond_a ?_)
        all_goals (conv => whnf)
        all_goals first
          | (exfalso; omega)
          | (exfalso; exact h rfl)
          | skip
        refine ⟨(f, ucT t, acc ++ [ucRec t]), [0, 1, 4], [], ⟨by dsimp only; omega, hr, by rw [List.length_append]; show acc.length + 1 ≤ 256; omega, by dsimp only; omega, .inr (by rw [List.length_append]; show 0 < acc.length + 1; omega)⟩, by dsimp only; omega, ⟨rfl, ⟨?_, rfl, trivial⟩, ⟨rfl, ?_, trivial⟩⟩⟩
        · dsimp only; rw [List.length_append]; rfl
        · dsimp only; rw [List.length_append]; rfl
      · rw [uc_noB hz0 hb] at hr
        subst hr
        obtain ⟨E, hE⟩ : ∃ E, tkE (ucN t) (nuV t 4) = E := ⟨_, rfl⟩
        have hE0 : E = 0 → 256 ≤ acc.length := fun e => by
          by_cases h : 256 ≤ acc.length
          · exact h
          · exfalso
            refine hb ⟨?_, by omega⟩
            rcases tk_cases (ucN t) (nuV t 4) with ⟨_, h⟩ | ⟨_, ⟨_, h⟩ | ⟨h, _⟩⟩ <;> omega
        have t3 : tE 0 E = E := rfl
        obtain ⟨S2, hS2⟩ : ∃ S2, tS (ucN t) 0 (tkE (ucN t) (nuV t 4)) (nuV t 4) = S2 := ⟨_, rfl⟩
        rw [hS2, hE, t3] at c4
        have c5 := rd_Err S2 E
        obtain ⟨V, hV⟩ : ∃ V, nuV t 4 = V := ⟨_, rfl⟩
        rw [hV] at c2 c4 hv4
        repeat' ((conv => whnf); first | refine vcall_o (l := [0, 1]) (c1) ?_ | refine vcall_o (l := [0, 1]) (c2) ?_ | refine vcall_o (l := [0, 1]) (c3) ?_ | refine vcall_o (l := [0, 1]) (c4) ?_ | refine vcall_o (l := [0, 1]) (c5) ?_ | ((first | apply br_dec | apply br_ndec) <;> intro h <;> try (exfalso; (try dsimp only at h); omega)) | ((first | apply br_seq | apply br_nseq | apply br_not | apply br_intro) <;> intro h) | refine cond_a ?_)
        all_goals (conv => whnf)
        all_goals first
          | exact ret_out (l := [0]) rfl rfl trivial allRw_nil
          | (exfalso; omega)
          | (exfalso; exact h rfl)
    · rw [uc_noA hz0 ha] at hr
      subst hr
      have e1 : nV t 0 4 = nuV t 4 := by unfold nV; rw [if_pos rfl]
      have e2 : nE t 0 4 = nuE t 4 := by unfold nE; rw [if_pos rfl]
      obtain ⟨V, hV⟩ : ∃ V, nuV t 4 = V := ⟨_, rfl⟩
      obtain ⟨E, hE⟩ : ∃ E, nuE t 4 = E := ⟨_, rfl⟩
      unfold ucA at ha
      rw [hV, hE] at ha
      rw [e1, e2, hV, hE] at c2
      have c3 := rd_Err (nS t 0 4) E
      repeat' ((conv => whnf); first | refine vcall_o (l := [0, 1]) (c1) ?_ | refine vcall_o (l := [0, 1]) (c2) ?_ | refine vcall_o (l := [0, 1]) (c3) ?_ | ((first | apply br_dec | apply br_ndec) <;> intro h <;> try (exfalso; (try dsimp only at h); omega)) | ((first | apply br_seq | apply br_nseq | apply br_not | apply br_intro) <;> intro h) | refine cond_a ?_)
      all_goals (conv => whnf)
      all_goals first
        | exact ret_out (l := [0]) rfl rfl trivial allRw_nil
        | (exfalso; omega)
end Go.Proofs.YtdlpmmdbdjlojaaDoor

/- Contracts of package disk. -/
namespace Go.Proofs.YtdlpmmdbdjlojaaDoor
open Go.RowKit Go.Sy
attribute [local irreducible] vcall vloop vcallD retP
set_option maxRecDepth 100000
set_option linter.unusedVariables false

/-- The first k of n Bools. -/
def bpre (p : Nat → Bool) (n k : Nat) : List Bool := (List.range n).map (fun i => decide (i < k) && p i)
theorem bpre_set (p : Nat → Bool) (n k : Nat) (h : k < n) : (bpre p n k).set k (p k) = bpre p n (k + 1) := by
  apply List.ext_getElem?
  intro i
  simp only [bpre, List.getElem?_set, List.getElem?_map, List.length_map, List.length_range]
  by_cases e : k = i
  · subst e; simp [h]
  · rw [if_neg e]
    rcases Nat.lt_or_ge i n with h1 | h1
    · rw [List.getElem?_range h1]
      simp only [Option.map_some, Option.some.injEq]
      by_cases h2 : i < k
      · simp [h2, show i < k + 1 by omega]
      · simp [h2, show ¬ i < k + 1 by omega]
    · rw [List.getElem?_eq_none (by simpa using h1)]; rfl
def bitB (b : Int) (i : Nat) : Bool := decide (iand .u8 (ishr .u8 b (i : Int)) 1 = 1)
attribute [irreducible] bitB
theorem bitB_eq (b : Int) (i : Nat) : bitB b i = decide (iand .u8 (ishr .u8 b (i : Int)) 1 = 1) := by unfold bitB; rfl

theorem disk_bitsOfByte (b : Int) : Pure Tryd.prog 67 [.int .u8 b] (.arr 8 [.bools (bpre (bitB b) 8 8)]) := by
  refine fc_of mixed T_ok Tryd.func67 rfl (by kernel_rfl) (by kernel_rfl) (by kernel_rfl) ?_
  (conv => whnf)
  refine vloop_of (fun k : Nat => ⟨[(0, .int .u8 b), (2, .ptr 1 0 0 0), (3, .ptr 2 0 0 0), (5, .int .i64 k)], [(1, some (.one false (.cols 8 [.sc (.bools (List.replicate 8 false))]))), (2, some (.one false (.cols 8 [.sc (.bools (bpre (bitB b) 8 k))])))], 3⟩) (fun k => k ≤ 8) (fun k => 8 - k) 0 [0, 1, 2] [] ⟨rfl, ⟨rfl, rfl, rfl, rfl, trivial⟩, ⟨rfl, rfl, trivial⟩⟩ (by omega) ?_
  intro k hk
  repeat' ((conv => whnf); first | ((first | apply br_dec | apply br_ndec) <;> intro h <;> try (exfalso; (try dsimp only at h); omega)) | ((first | apply br_seq | apply br_nseq | apply br_not | apply br_intro) <;> intro h) | refine cond_a ?_)
  all_goals (conv => whnf)
  · skip
    refine ⟨k + 1, [0, 1, 2], [], by omega, by omega, ⟨rfl, ⟨rfl, rfl, rfl, ?_, trivial⟩, ⟨rfl, ?_, trivial⟩⟩⟩
    · exact congrArg (fun z => some (SV.int .i64 z)) (i64_succ (by omega))
    · have e := bpre_set (bitB b) 8 k (by omega)
      rw [bitB_eq] at e
      exact congrArg (fun z => some (HB.one false (.cols 8 [.sc (.bools z)]))) e
  · have e : k = 8 := by omega
    subst e
    exact ret_pure rfl

def bitM (m : Int) (k : Nat) : Bool := bitB (IntKind.u8.wrap (ishr .u64 m ((8 * (k / 8) : Nat) : Int))) (k % 8)
theorem bpre_get (p : Nat → Bool) (n k i : Nat) (h : i < n) : (bpre p n k)[i]? = some (decide (i < k) && p i) := by
  simp only [bpre, List.getElem?_map, List.getElem?_range h, Option.map_some]
theorem bpre_len (p : Nat → Bool) (n k : Nat) : (bpre p n k).length = n := by simp [bpre]

theorem copy_bits (m : Int) (j : Nat) (h : j < 8) (x : Nat) (hx : x = 8) : splice (8 * j) x (bpre (bitM m) 64 (8 * j)) (seg 0 8 (bpre (bitB (IntKind.u8.wrap (ishr .u64 m ((8 * j : Nat) : Int)))) 8 8)) = bpre (bitM m) 64 (8 * (j + 1)) := by
  subst hx
  apply List.ext_getElem?
  intro i
  have e1 : (List.take (8 * j) (bpre (bitM m) 64 (8 * j))).length = 8 * j := by simp [bpre_len]; omega
  have e2 : (List.take 8 (seg 0 8 (bpre (bitB (IntKind.u8.wrap (ishr .u64 m ((8 * j : Nat) : Int)))) 8 8))).length = 8 := by simp [seg, bpre_len]
  simp only [splice]
  rcases Nat.lt_or_ge i (8 * j) with h1 | h1
  · rw [List.append_assoc, List.getElem?_append_left (by omega), List.getElem?_take, if_pos h1, bpre_get _ _ _ _ (by omega), bpre_get _ _ _ _ (by omega)]
    simp [h1, show i < 8 * (j + 1) by omega]
  · rcases Nat.lt_or_ge i (8 * j + 8) with h2 | h2
    · rw [List.append_assoc, List.getElem?_append_right (by omega), e1, List.getElem?_append_left (by omega), List.getElem?_take, if_pos (by omega)]
      simp only [seg, List.drop_zero]
      rw [List.getElem?_take, if_pos (by omega), bpre_get _ _ _ _ (by omega), bpre_get _ _ _ _ (by omega)]
      have h3 : i / 8 = j := by omega
      have h4 : i % 8 = i - 8 * j := by omega
      simp only [bitM, h3, h4, show i - 8 * j < 8 by omega, show i < 8 * (j + 1) by omega]
    · rw [List.getElem?_append_right (by rw [List.length_append]; omega), List.length_append, e1, e2, List.getElem?_drop]
      rw [show 8 * j + 8 + (i - (8 * j + 8)) = i from by omega]
      rcases Nat.lt_or_ge i 64 with h5 | h5
      · rw [bpre_get _ _ _ _ h5, bpre_get _ _ _ _ h5]
        simp [show ¬ i < 8 * j by omega, show ¬ i < 8 * (j + 1) by omega]
      · rw [List.getElem?_eq_none (by rw [bpre_len]; exact h5), List.getElem?_eq_none (by rw [bpre_len]; exact h5)]

theorem disk_bitsOf (m : Int) : Pure Tryd.prog 59 [.int .u64 m] (.arr 64 [.bools (bpre (bitM m) 64 64)]) := by
  refine fc_of mixed T_ok Tryd.func59 rfl (by kernel_rfl) (by kernel_rfl) (by kernel_rfl) ?_
  (conv => whnf)
  refine vloop_of (fun j : Nat => ⟨[(0, .int .u64 m), (2, .ptr 1 0 0 0), (3, .ptr 2 0 0 0), (4, .int .i64 (8 * j : Nat))], [(1, some (.one false (.cols 64 [.sc (.bools (List.replicate 64 false))]))), (2, some (.one false (.cols 64 [.sc (.bools (bpre (bitM m) 64 (8 * j)))])))], 3⟩) (fun j => j ≤ 8) (fun j => 8 - j) 0 [0, 1, 2] [] ⟨rfl, ⟨rfl, rfl, rfl, rfl, trivial⟩, ⟨rfl, rfl, trivial⟩⟩ (by omega) ?_
  intro j hj
  repeat' ((conv => whnf); first | (refine vcall_pure (disk_bitsOfByte _) rfl rfl rfl ?_) | ((first | apply br_dec | apply br_ndec) <;> intro h <;> try (exfalso; (try dsimp only at h); omega)) | ((first | apply br_seq | apply br_nseq | apply br_not | apply br_intro) <;> intro h) | refine cond_a ?_)
  all_goals (conv => whnf)
  · refine ⟨j + 1, [0, 1, 2], [], by omega, by omega, ⟨rfl, ⟨rfl, rfl, rfl, ?_, trivial⟩, ⟨rfl, ?_, trivial⟩⟩⟩
    · refine congrArg (fun z => some (SV.int .i64 z)) ?_
      rw [w64_in (by omega) (by omega)]; omega
    · refine congrArg (fun z => some (HB.one false (.cols 64 [.sc (.bools z)]))) ?_
      refine copy_bits m j (by omega) _ ?_
      dsimp only; omega
  · have e : j = 8 := by omega
    subst e
    exact ret_pure rfl
end Go.Proofs.YtdlpmmdbdjlojaaDoor

/- Contracts of package disk: its methods. -/
namespace Go.Proofs.YtdlpmmdbdjlojaaDoor
open Go.RowKit Go.Sy
attribute [local irreducible] vcall vloop vcallD retP
set_option maxRecDepth 100000
set_option linter.unusedVariables false

/-- A disk: flushed blocks, blocks, their number; pending writes, their number. -/
structure Dk where
  kept : List ByteArray
  now : List ByteArray
  nn : Nat
  pn : List Int
  ps : List ByteArray
  np : Nat
  down : Bool
  steps : Int
  mask : Int

/-- What every disk is like. -/
structure Dk.ok (d : Dk) : Prop where
  kl : d.kept.length = d.nn
  nl : d.now.length = d.nn
  pl : d.pn.length = d.np
  sl : d.ps.length = d.np
  pb : ∀ x ∈ d.pn, 0 ≤ x ∧ x < (d.nn : Int)
  pm : d.np ≤ 4096
  nm : d.nn ≤ 4096
  sb : 0 ≤ d.steps ∧ d.steps ≤ 1000000

def dkC (p : Nat) (d : Dk) : List SV := [.sl 2 0 0 d.nn, .sl 3 0 0 d.nn, .sl p 0 0 d.np, .bool d.down, .int .i64 d.steps, .int .u64 d.mask]

/-- A disk in memory: handles 1, 2, 3, and p for the pending writes. -/
def dkH (p : Nat) (d : Dk) : Heap :=
  [(1, some (.one false (.cells (dkC p d)))), (2, some (.one false (.cols d.nn [.sc (.strs d.kept)]))), (3, some (.one false (.cols d.nn [.sc (.strs d.now)]))),
   (p, some (.one false (.cols d.np [.sc (.ints .i64 d.pn), .sc (.strs d.ps)])))]

theorem dkH_rw (p : Nat) (d : Dk) : allRw (dkH p d) := allRw_cons (allRw_cons (allRw_cons (allRw_cons allRw_nil)))

def runE (d : Dk) : Int := if d.down = true then 13 else 0

theorem disk_running (d : Dk) : FC Tryd.prog 5 37 [.ptr 1 0 0 0] [(1, some (.one true (.cells (dkC 4 d))))] (isOut (.int .i64 (runE d)) [] 5) := by
  refine fc_of mixed T_ok Tryd.func37 rfl (by kernel_rfl) (by kernel_rfl) (by kernel_rfl) ?_
  repeat' ((conv => whnf); first | ((first | apply br_dec | apply br_ndec) <;> intro h <;> try (exfalso; (try dsimp only at h); omega)) | ((first | apply br_seq | apply br_nseq | apply br_not | apply br_intro) <;> intro h) | refine cond_a ?_)
  all_goals (conv => whnf)
  all_goals exact ret_out (l := [0, 1, 2, 3, 4]) rfl (by simp [oneOr, cv, SV.ren, runE, *]) trivial allRw_nil

def countZ (n : Int) : Int := if 0 < n then n - 1 else n
def countD (d : Dk) : Dk := { d with steps := countZ d.steps }
theorem disk_count (d : Dk) (hs : 0 ≤ d.steps ∧ d.steps ≤ 1000000) : FC Tryd.prog 5 48 [.ptr 1 0 0 0] [(1, some (.one false (.cells (dkC 4 d))))]
    (isOut (.tup []) [(1, some (.one false (.cells (dkC 4 (countD d)))))] 5) := by
  refine fc_of mixed T_ok Tryd.func48 rfl (by kernel_rfl) (by kernel_rfl) (by kernel_rfl) ?_
  repeat' ((conv => whnf); first | ((first | apply br_dec | apply br_ndec) <;> intro h <;> try (exfalso; (try dsimp only at h); omega)) | ((first | apply br_seq | apply br_nseq | apply br_not | apply br_intro) <;> intro h) | refine cond_a ?_)
  all_goals (conv => whnf)
  · refine ret_out (l := [0, 1, 2, 3, 4]) rfl rfl ⟨?_, trivial⟩ (allRw_cons allRw_nil)
    have e : countZ d.steps = IntKind.i64.wrap (d.steps - 1) := by rw [w64_in (by omega) (by omega)]; unfold countZ; rw [if_pos (by assumption)]
    unfold countD; rw [e]; rfl
  · refine ret_out (l := [0, 1, 2, 3, 4]) rfl rfl ⟨?_, trivial⟩ (allRw_cons allRw_nil)
    have e : countZ d.steps = d.steps := by unfold countZ; rw [if_neg (by assumption)]
    unfold countD; rw [e]; rfl

/-- The first n pending writes are kept whose bits are set. -/
def crashTo (bits : Nat → Bool) (pn : List Int) (ps : List ByteArray) : Nat → List ByteArray → List ByteArray
  | 0, l => l
  | k + 1, l => bif bits k then (crashTo bits pn ps k l).set (pn.getD k 0).toNat (ps.getD k ⟨#[]⟩) else crashTo bits pn ps k l
theorem crashTo_length (bits : Nat → Bool) (pn : List Int) (ps l : List ByteArray) : ∀ k, (crashTo bits pn ps k l).length = l.length
  | 0 => rfl
  | k + 1 => by
    simp only [crashTo]
    cases bits k <;> simp [crashTo_length bits pn ps l k]

def crashB (m : Int) (k : Nat) : Bool := (bpre (bitM m) 64 64).getD (k % 64) false
def crashL (m : Int) (d : Dk) : List ByteArray := crashTo (crashB m) d.pn d.ps d.np d.kept
def crashD (m : Int) (d : Dk) : Dk := ⟨crashL m d, crashL m d, d.nn, [], [], 0, true, 0, 0⟩

theorem getD_mem {α : Type} (l : List α) (i : Nat) (d : α) (h : i < l.length) : l.getD i d ∈ l := by
  rw [List.getD, List.getElem?_eq_getElem h]; exact List.getElem_mem h

theorem splice_all {α : Type} (n : Nat) (l s : List α) (h1 : l.length = n) (h2 : s.length = n) : splice 0 (min n n) l (seg 0 n s) = s := by
  simp [splice, seg, ← h2, h1]

theorem disk_crash (d : Dk) (h0 : d.ok) (m : Int) : FC Tryd.prog 5 47 [.ptr 1 0 0 0, .int .u64 m] (dkH 4 d) (isOut (.tup []) (dkH 5 (crashD m d)) 6) := by
  have hpm := h0.pm
  have hpl := h0.pl
  refine fc_of mixed T_ok Tryd.func47 rfl (by kernel_rfl) (by kernel_rfl) (by kernel_rfl) ?_
  repeat' ((conv => whnf); first | (refine vcall_pure (disk_bitsOf _) rfl rfl rfl ?_) | ((first | apply br_dec | apply br_ndec) <;> intro h <;> try (exfalso; (try dsimp only at h); omega)) | ((first | apply br_seq | apply br_nseq | apply br_not | apply br_intro) <;> intro h) | refine cond_a ?_)
  (conv => whnf)
  refine vloop_of (fun k : Nat => ⟨[(0, .ptr 1 0 0 0), (4, .ptr 5 0 0 0), (12, .sl 4 0 0 d.np), (13, .int .i64 d.np), (14, .int .i64 k)],
    [(1, some (.one false (.cells (dkC 4 d)))), (2, some (.one false (.cols d.nn [.sc (.strs (crashTo (crashB m) d.pn d.ps k d.kept))]))),
     (3, some (.one false (.cols d.nn [.sc (.strs d.now)]))),
     (4, some (.one false (.cols d.np [.sc (.ints .i64 d.pn), .sc (.strs d.ps)]))), (5, some (.one false (.cols 64 [.sc (.bools (bpre (bitM m) 64 64))])))], 6⟩) (fun k => k ≤ d.np) (fun k => d.np - k) 0 [0, 1, 2, 3, 4, 5] [] ⟨rfl, ⟨rfl, rfl, rfl, rfl, rfl, trivial⟩, ⟨rfl, rfl, rfl, rfl, rfl, trivial⟩⟩ (by omega) ?_
  intro k hk
  by_cases hlt : k < d.np
  · have hm : (k : Int).tmod 64 = ((k % 64 : Nat) : Int) := by rw [Int.tmod_eq_emod_of_nonneg (by omega)]; omega
    have hb := h0.pb _ (getD_mem d.pn k 0 (by omega))
    have hc : crashB m k = (bpre (bitM m) 64 64).getD ((k : Int).tmod 64).toNat false := by unfold crashB; rw [hm]; rfl
    repeat' ((conv => whnf); first | (refine cond_intro hb ?_) | (refine cond_intro (by rw [hm]; dsimp only; omega) ?_) | ((first | apply br_dec | apply br_ndec) <;> intro h <;> try (exfalso; (try dsimp only at h); omega)) | ((first | apply br_seq | apply br_nseq | apply br_not | apply br_intro) <;> intro h) | refine cond_a ?_)
    all_goals (conv => whnf)
    all_goals rw [h] at hc
    all_goals refine ⟨k + 1, [0, 1, 2, 3, 4, 5], [], by omega, by omega, ⟨rfl, ⟨rfl, rfl, rfl, rfl, congrArg (fun z => some (SV.int .i64 z)) (i64_succ (by omega)), trivial⟩, ⟨rfl, ?_, rfl, rfl, rfl, trivial⟩⟩⟩
    all_goals refine congrArg (fun z => some (HB.one false (.cols d.nn [.sc (.strs z)]))) ?_
    all_goals (simp only [crashTo, hc]; rfl)
  · have e : k = d.np := by omega
    subst e
    repeat' ((conv => whnf); first | ((first | apply br_dec | apply br_ndec) <;> intro h <;> try (exfalso; (try dsimp only at h); omega)) | ((first | apply br_seq | apply br_nseq | apply br_not | apply br_intro) <;> intro h) | refine cond_a ?_)
    all_goals (conv => whnf)
    refine ret_up (l := [0, 1, 2, 3, 4, 6]) [.cell 1 2 [.sc (.ints .i64 []), .sc (.strs [])]] ⟨rfl, rfl, rfl, rfl, ?_, rfl, trivial⟩ (dkH_rw _ _)
    refine congrArg (fun z => some (HB.one false (.cols d.nn [.sc (.strs z)]))) ?_
    exact splice_all _ _ _ h0.nl (by rw [crashTo_length]; exact h0.kl)

/-- A method that begins by asking whether the disk runs. -/
theorem run_cases (d : Dk) : (runE d = 13 ∧ d.down = true) ∨ (runE d = 0 ∧ d.down = false) := by
  unfold runE
  cases d.down <;> simp

def readD (d : Dk) (n : Int) : ByteArray × Int := if d.down = true then (⟨#[]⟩, 13) else if n < 0 ∨ d.nn ≤ n then (⟨#[]⟩, 4) else (d.now.getD n.toNat ⟨#[]⟩, 0)
theorem disk_Read (d : Dk) (n : Int) : FC Tryd.prog 5 44 [.ptr 1 0 0 0, .int .i64 n] [(1, some (.one true (.cells (dkC 4 d)))), (3, some (.one true (.cols d.nn [.sc (.strs d.now)])))] (isOut (.tup [.str (readD d n).1, .int .i64 (readD d n).2]) [] 5) := by
  have hrun := disk_running d
  rcases run_cases d with ⟨hr, hd⟩ | ⟨hr, hd⟩
  · rw [show readD d n = (⟨#[]⟩, 13) from by simp [readD, hd]]
    rw [hr] at hrun
    refine fc_of mixed T_ok Tryd.func44 rfl (by kernel_rfl) (by kernel_rfl) (by kernel_rfl) ?_
    repeat' ((conv => whnf); first | refine vcall_o (l := [0, 1, 2, 3, 4]) (hrun) ?_ | ((first | apply br_dec | apply br_ndec) <;> intro h <;> try (exfalso; (try dsimp only at h); omega)) | ((first | apply br_seq | apply br_nseq | apply br_not | apply br_intro) <;> intro h) | refine cond_a ?_)
    all_goals (conv => whnf)
    exact ret_out (l := [0, 1, 2, 3, 4]) rfl rfl trivial allRw_nil
  · rw [hr] at hrun
    by_cases hn : n < 0 ∨ d.nn ≤ n
    · rw [show readD d n = (⟨#[]⟩, 4) from by simp [readD, hd, hn]]
      refine fc_of mixed T_ok Tryd.func44 rfl (by kernel_rfl) (by kernel_rfl) (by kernel_rfl) ?_
      repeat' ((conv => whnf); first | refine vcall_o (l := [0, 1, 2, 3, 4]) (hrun) ?_ | ((first | apply br_dec | apply br_ndec) <;> intro h <;> try (exfalso; (try dsimp only at h); omega)) | ((first | apply br_seq | apply br_nseq | apply br_not | apply br_intro) <;> intro h) | refine cond_a ?_)
      all_goals (conv => whnf)
      all_goals exact ret_out (l := [0, 1, 2, 3, 4]) rfl rfl trivial allRw_nil
    · rw [show readD d n = (d.now.getD n.toNat ⟨#[]⟩, 0) from by simp [readD, hd, hn]]
      refine fc_of mixed T_ok Tryd.func44 rfl (by kernel_rfl) (by kernel_rfl) (by kernel_rfl) ?_
      repeat' ((conv => whnf); first | refine vcall_o (l := [0, 1, 2, 3, 4]) (hrun) ?_ | ((first | apply br_dec | apply br_ndec) <;> intro h <;> try (exfalso; (try dsimp only at h); omega)) | ((first | apply br_seq | apply br_nseq | apply br_not | apply br_intro) <;> intro h) | refine cond_a ?_)
      all_goals (conv => whnf)
      all_goals exact ret_out (l := [0, 1, 2, 3, 4]) rfl rfl trivial allRw_nil

theorem disk_Blocks (d : Dk) : FC Tryd.prog 5 36 [.ptr 1 0 0 0] [(1, some (.one true (.cells (dkC 4 d))))] (isOut (.int .i64 d.nn) [] 5) := by
  refine fc_of mixed T_ok Tryd.func36 rfl (by kernel_rfl) (by kernel_rfl) (by kernel_rfl) ?_
  repeat' ((conv => whnf); first | ((first | apply br_dec | apply br_ndec) <;> intro h <;> try (exfalso; (try dsimp only at h); omega)) | ((first | apply br_seq | apply br_nseq | apply br_not | apply br_intro) <;> intro h) | refine cond_a ?_)
  all_goals (conv => whnf)
  exact ret_out (l := [0, 1, 2, 3, 4]) rfl rfl trivial allRw_nil
theorem disk_Down (d : Dk) : FC Tryd.prog 5 22 [.ptr 1 0 0 0] [(1, some (.one true (.cells (dkC 4 d))))] (isOut (.bool d.down) [] 5) := by
  refine fc_of mixed T_ok Tryd.func22 rfl (by kernel_rfl) (by kernel_rfl) (by kernel_rfl) ?_
  repeat' ((conv => whnf); first | ((first | apply br_dec | apply br_ndec) <;> intro h <;> try (exfalso; (try dsimp only at h); omega)) | ((first | apply br_seq | apply br_nseq | apply br_not | apply br_intro) <;> intro h) | refine cond_a ?_)
  all_goals (conv => whnf)
  exact ret_out (l := [0, 1, 2, 3, 4]) rfl rfl trivial allRw_nil
end Go.Proofs.YtdlpmmdbdjlojaaDoor

/- Contracts of package disk: Write, Flush, New. -/
namespace Go.Proofs.YtdlpmmdbdjlojaaDoor
open Go.RowKit Go.Sy
attribute [local irreducible] vcall vloop vcallD retP
set_option maxRecDepth 100000
set_option linter.unusedVariables false

def putD (d : Dk) (n : Int) (s : ByteArray) : Dk := { d with now := d.now.set n.toNat s, pn := d.pn ++ [n], ps := d.ps ++ [s], np := d.np + 1 }

theorem putD_ok {d : Dk} (h : d.ok) {n : Int} {s : ByteArray} (hn : 0 ≤ n ∧ n < (d.nn : Int)) (hp : d.np < 4096) : (putD d n s).ok := by
  refine ⟨h.kl, by simp [putD, h.nl], by simp [putD, h.pl], by simp [putD, h.sl], ?_, by simp only [putD]; omega, h.nm, h.sb⟩
  intro x hx
  simp only [putD, List.mem_append, List.mem_singleton] at hx
  rcases hx with hx | rfl
  · exact h.pb x hx
  · exact hn

def writeD (d : Dk) (n : Int) (s : ByteArray) : Dk × Int :=
  if d.down = true then (d, 13) else if n < 0 ∨ d.nn ≤ n then (d, 4) else if 64 < s.size then (d, 3) else if 4096 ≤ d.np then (d, 12)
  else if d.steps = 1 then (crashD d.mask (putD d n s), 13) else (countD (putD d n s), 0)

theorem disk_Write (d : Dk) (h0 : d.ok) (n : Int) (s : ByteArray) : FC Tryd.prog 5 32 [.ptr 1 0 0 0, .int .i64 n, .str s] (dkH 4 d) (isOut (.int .i64 (writeD d n s).2) (dkH 5 (writeD d n s).1) 6) := by
  have hrun := disk_running d
  rcases run_cases d with ⟨hr, hd⟩ | ⟨hr, hd⟩
  · rw [show writeD d n s = (d, 13) from by simp [writeD, hd]]
    rw [hr] at hrun
    refine fc_of mixed T_ok Tryd.func32 rfl (by kernel_rfl) (by kernel_rfl) (by kernel_rfl) ?_
    repeat' ((conv => whnf); first | refine vcall_o (l := [0, 1, 2, 3, 4]) (hrun) ?_ | ((first | apply br_dec | apply br_ndec) <;> intro h <;> try (exfalso; (try dsimp only at h); omega)) | ((first | apply br_seq | apply br_nseq | apply br_not | apply br_intro) <;> intro h) | refine cond_a ?_)
    all_goals (conv => whnf)
    exact ret_out (l := [0, 1, 2, 3, 4, 4]) rfl rfl ⟨rfl, rfl, rfl, rfl, trivial⟩ (dkH_rw _ _)
  · rw [hr] at hrun
    by_cases hn : n < 0 ∨ d.nn ≤ n
    · rw [show writeD d n s = (d, 4) from by simp [writeD, hd, hn]]
      refine fc_of mixed T_ok Tryd.func32 rfl (by kernel_rfl) (by kernel_rfl) (by kernel_rfl) ?_
      repeat' ((conv => whnf); first | refine vcall_o (l := [0, 1, 2, 3, 4]) (hrun) ?_ | ((first | apply br_dec | apply br_ndec) <;> intro h <;> try (exfalso; (try dsimp only at h); omega)) | ((first | apply br_seq | apply br_nseq | apply br_not | apply br_intro) <;> intro h) | refine cond_a ?_)
      all_goals (conv => whnf)
      all_goals exact ret_out (l := [0, 1, 2, 3, 4, 4]) rfl rfl ⟨rfl, rfl, rfl, rfl, trivial⟩ (dkH_rw _ _)
    by_cases hs : 64 < s.size
    · rw [show writeD d n s = (d, 3) from by simp [writeD, hd, hn, hs]]
      refine fc_of mixed T_ok Tryd.func32 rfl (by kernel_rfl) (by kernel_rfl) (by kernel_rfl) ?_
      repeat' ((conv => whnf); first | refine vcall_o (l := [0, 1, 2, 3, 4]) (hrun) ?_ | ((first | apply br_dec | apply br_ndec) <;> intro h <;> try (exfalso; (try dsimp only at h); omega)) | ((first | apply br_seq | apply br_nseq | apply br_not | apply br_intro) <;> intro h) | refine cond_a ?_)
      all_goals (conv => whnf)
      all_goals exact ret_out (l := [0, 1, 2, 3, 4, 4]) rfl rfl ⟨rfl, rfl, rfl, rfl, trivial⟩ (dkH_rw _ _)
    by_cases hp : 4096 ≤ d.np
    · rw [show writeD d n s = (d, 12) from by simp [writeD, hd, hn, hs, hp]]
      refine fc_of mixed T_ok Tryd.func32 rfl (by kernel_rfl) (by kernel_rfl) (by kernel_rfl) ?_
      repeat' ((conv => whnf); first | refine vcall_o (l := [0, 1, 2, 3, 4]) (hrun) ?_ | ((first | apply br_dec | apply br_ndec) <;> intro h <;> try (exfalso; (try dsimp only at h); omega)) | ((first | apply br_seq | apply br_nseq | apply br_not | apply br_intro) <;> intro h) | refine cond_a ?_)
      all_goals (conv => whnf)
      all_goals exact ret_out (l := [0, 1, 2, 3, 4, 4]) rfl rfl ⟨rfl, rfl, rfl, rfl, trivial⟩ (dkH_rw _ _)
    have hok := putD_ok (s := s) h0 (n := n) (by omega) (by omega)
    by_cases ht : d.steps = 1
    · rw [show writeD d n s = (crashD d.mask (putD d n s), 13) from by simp [writeD, hd, hn, hs, hp, ht]]
      have hcr := disk_crash (putD d n s) hok d.mask
      refine fc_of mixed T_ok Tryd.func32 rfl (by kernel_rfl) (by kernel_rfl) (by kernel_rfl) ?_
      repeat' ((conv => whnf); first | refine vcall_o (l := [0, 1, 2, 3, 4]) (hrun) ?_ | refine vcall_o (l := [0, 1, 2, 3, 6]) (hcr) ?_ | ((first | apply br_dec | apply br_ndec) <;> intro h <;> try (exfalso; (try dsimp only at h); omega)) | ((first | apply br_seq | apply br_nseq | apply br_not | apply br_intro) <;> intro h) | refine cond_a ?_)
      all_goals (conv => whnf)
      all_goals exact ret_out (l := [0, 1, 2, 3, 4, 7]) rfl rfl ⟨rfl, rfl, rfl, rfl, trivial⟩ (dkH_rw _ _)
    · rw [show writeD d n s = (countD (putD d n s), 0) from by simp [writeD, hd, hn, hs, hp, ht]]
      have hct := disk_count (putD d n s) h0.sb
      refine fc_of mixed T_ok Tryd.func32 rfl (by kernel_rfl) (by kernel_rfl) (by kernel_rfl) ?_
      repeat' ((conv => whnf); first | refine vcall_o (l := [0, 1, 2, 3, 4]) (hrun) ?_ | refine vcall_o (l := [0, 1, 2, 3, 6]) (hct) ?_ | ((first | apply br_dec | apply br_ndec) <;> intro h <;> try (exfalso; (try dsimp only at h); omega)) | ((first | apply br_seq | apply br_nseq | apply br_not | apply br_intro) <;> intro h) | refine cond_a ?_)
      all_goals (conv => whnf)
      all_goals exact ret_out (l := [0, 1, 2, 3, 4, 6]) rfl rfl ⟨rfl, rfl, rfl, rfl, trivial⟩ (dkH_rw _ _)

def dkN (d : Dk) : List SV := [.sl 2 0 0 d.nn, .sl 3 0 0 d.nn, .nsl, .bool d.down, .int .i64 d.steps, .int .u64 d.mask]
theorem disk_countN (d : Dk) (hs : 0 ≤ d.steps ∧ d.steps ≤ 1000000) : FC Tryd.prog 4 48 [.ptr 1 0 0 0] [(1, some (.one false (.cells (dkN d))))]
    (isOut (.tup []) [(1, some (.one false (.cells (dkN (countD d)))))] 4) := by
  refine fc_of mixed T_ok Tryd.func48 rfl (by kernel_rfl) (by kernel_rfl) (by kernel_rfl) ?_
  repeat' ((conv => whnf); first | ((first | apply br_dec | apply br_ndec) <;> intro h <;> try (exfalso; (try dsimp only at h); omega)) | ((first | apply br_seq | apply br_nseq | apply br_not | apply br_intro) <;> intro h) | refine cond_a ?_)
  all_goals (conv => whnf)
  · refine ret_out (l := [0, 1, 2, 3]) rfl rfl ⟨?_, trivial⟩ (allRw_cons allRw_nil)
    have e : countZ d.steps = IntKind.i64.wrap (d.steps - 1) := by rw [w64_in (by omega) (by omega)]; unfold countZ; rw [if_pos (by assumption)]
    unfold countD; rw [e]; rfl
  · refine ret_out (l := [0, 1, 2, 3]) rfl rfl ⟨?_, trivial⟩ (allRw_cons allRw_nil)
    have e : countZ d.steps = d.steps := by unfold countZ; rw [if_neg (by assumption)]
    unfold countD; rw [e]; rfl

def allB (_ : Nat) : Bool := true
def keepD (d : Dk) : Dk := { d with kept := crashTo allB d.pn d.ps d.np d.kept, pn := [], ps := [], np := 0 }
def flushD (d : Dk) : Dk × Int := if d.down = true then (d, 13) else if d.steps = 1 then (crashD d.mask d, 13) else (countD (keepD d), 0)

theorem disk_Flush (d : Dk) (h0 : d.ok) : FC Tryd.prog 5 33 [.ptr 1 0 0 0] (dkH 4 d) (isOut (.int .i64 (flushD d).2) (dkH 5 (flushD d).1) 6) := by
  have hrun := disk_running d
  have hpm := h0.pm
  have hpl := h0.pl
  rcases run_cases d with ⟨hr, hd⟩ | ⟨hr, hd⟩
  · rw [show flushD d = (d, 13) from by simp [flushD, hd]]
    rw [hr] at hrun
    refine fc_of mixed T_ok Tryd.func33 rfl (by kernel_rfl) (by kernel_rfl) (by kernel_rfl) ?_
    repeat' ((conv => whnf); first | refine vcall_o (l := [0, 1, 2, 3, 4]) (hrun) ?_ | ((first | apply br_dec | apply br_ndec) <;> intro h <;> try (exfalso; (try dsimp only at h); omega)) | ((first | apply br_seq | apply br_nseq | apply br_not | apply br_intro) <;> intro h) | refine cond_a ?_)
    all_goals (conv => whnf)
    exact ret_out (l := [0, 1, 2, 3, 4, 4]) rfl rfl ⟨rfl, rfl, rfl, rfl, trivial⟩ (dkH_rw _ _)
  · rw [hr] at hrun
    by_cases ht : d.steps = 1
    · rw [show flushD d = (crashD d.mask d, 13) from by simp [flushD, hd, ht]]
      have hcr := disk_crash d h0 d.mask
      refine fc_of mixed T_ok Tryd.func33 rfl (by kernel_rfl) (by kernel_rfl) (by kernel_rfl) ?_
      repeat' ((conv => whnf); first | refine vcall_o (l := [0, 1, 2, 3, 4]) (hrun) ?_ | refine vcall_o (l := [0, 1, 2, 3, 4]) (hcr) ?_ | ((first | apply br_dec | apply br_ndec) <;> intro h <;> try (exfalso; (try dsimp only at h); omega)) | ((first | apply br_seq | apply br_nseq | apply br_not | apply br_intro) <;> intro h) | refine cond_a ?_)
      all_goals (conv => whnf)
      all_goals exact ret_out (l := [0, 1, 2, 3, 4, 5]) rfl rfl ⟨rfl, rfl, rfl, rfl, trivial⟩ (dkH_rw _ _)
    · rw [show flushD d = (countD (keepD d), 0) from by simp [flushD, hd, ht]]
      have hct := disk_countN (keepD d) h0.sb
      refine fc_of mixed T_ok Tryd.func33 rfl (by kernel_rfl) (by kernel_rfl) (by kernel_rfl) ?_
      repeat' ((conv => whnf); first | refine vcall_o (l := [0, 1, 2, 3, 4]) (hrun) ?_ | ((first | apply br_dec | apply br_ndec) <;> intro h <;> try (exfalso; (try dsimp only at h); omega)) | ((first | apply br_seq | apply br_nseq | apply br_not | apply br_intro) <;> intro h) | refine cond_a ?_)
      (conv => whnf)
      refine vloop_of (fun k : Nat => ⟨[(0, .ptr 1 0 0 0), (25, .sl 4 0 0 d.np), (26, .int .i64 d.np), (27, .int .i64 k)],
        [(1, some (.one false (.cells (dkC 4 d)))), (2, some (.one false (.cols d.nn [.sc (.strs (crashTo allB d.pn d.ps k d.kept))]))),
         (3, some (.one false (.cols d.nn [.sc (.strs d.now)]))),
         (4, some (.one false (.cols d.np [.sc (.ints .i64 d.pn), .sc (.strs d.ps)])))], 5⟩) (fun k => k ≤ d.np) (fun k => d.np - k) 0 [0, 1, 2, 3, 4] [] ⟨rfl, ⟨rfl, rfl, rfl, rfl, trivial⟩, ⟨rfl, rfl, rfl, rfl, trivial⟩⟩ (by omega) ?_
      intro k hk
      by_cases hlt : k < d.np
      · have hb := h0.pb _ (getD_mem d.pn k 0 (by omega))
        repeat' ((conv => whnf); first | (refine cond_intro hb ?_) | ((first | apply br_dec | apply br_ndec) <;> intro h <;> try (exfalso; (try dsimp only at h); omega)) | ((first | apply br_seq | apply br_nseq | apply br_not | apply br_intro) <;> intro h) | refine cond_a ?_)
        all_goals (conv => whnf)
        all_goals refine ⟨k + 1, [0, 1, 2, 3, 4], [], by omega, by omega, ⟨rfl, ⟨rfl, rfl, rfl, congrArg (fun z => some (SV.int .i64 z)) (i64_succ (by omega)), trivial⟩, ⟨rfl, rfl, rfl, rfl, trivial⟩⟩⟩
      · have e : k = d.np := by omega
        subst e
        repeat' ((conv => whnf); first | refine vcall_o (l := [0, 1, 2, 3]) (hct) ?_ | ((first | apply br_dec | apply br_ndec) <;> intro h <;> try (exfalso; (try dsimp only at h); omega)) | ((first | apply br_seq | apply br_nseq | apply br_not | apply br_intro) <;> intro h) | refine cond_a ?_)
        all_goals (conv => whnf)
        exact ret_up (l := [0, 1, 2, 3, 4, 5]) [.cell 1 2 [.sc (.ints .i64 []), .sc (.strs [])]] ⟨rfl, rfl, rfl, rfl, rfl, rfl, trivial⟩ (dkH_rw _ _)

def newD (n : Nat) : Dk := ⟨List.replicate n ⟨#[]⟩, List.replicate n ⟨#[]⟩, n, [], [], 0, false, 0, 0⟩
theorem newD_ok (n : Nat) (h : n ≤ 4096) : (newD n).ok := ⟨by simp [newD], by simp [newD], rfl, rfl, by simp [newD], by simp [newD], h, by simp [newD]⟩

theorem disk_New (n : Nat) (h : 1 ≤ n ∧ n ≤ 4096) : FC Tryd.prog 1 11 [.int .i64 n] [] (isOut (.tup [.ptr 1 0 0 0, .int .i64 0]) (dkH 4 (newD n)) 5) := by
  refine fc_of mixed T_ok Tryd.func11 rfl (by kernel_rfl) (by kernel_rfl) (by kernel_rfl) ?_
  repeat' ((conv => whnf); first | ((first | apply br_dec | apply br_ndec) <;> intro h <;> try (exfalso; (try dsimp only at h); omega)) | ((first | apply br_seq | apply br_nseq | apply br_not | apply br_intro) <;> intro h) | refine cond_a ?_)
  all_goals (conv => whnf)
  exact ret_up (l := [0, 3, 1, 2, 4]) [.cell 3 2 [.sc (.ints .i64 []), .sc (.strs [])]] ⟨rfl, rfl, rfl, rfl, rfl, rfl, trivial⟩ (dkH_rw _ _)
end Go.Proofs.YtdlpmmdbdjlojaaDoor

