/- Plain facts on numbers: decimal digits, lengths in bits, division. No program in sight. -/
import Derived.Test.YtakaafolanojkaaDoorYLib
namespace Go.Sy
open Go.RowKit

theorem u32_in' {n : Int} (h : 0 ≤ n) (h' : n ≤ 4294967295) : IntKind.u32.wrap n = n := IntWalk.u32_in n ⟨h, h'⟩
theorem u64_in' {n : Int} (h : 0 ≤ n) (h' : n ≤ 18446744073709551615) : IntKind.u64.wrap n = n := IntWalk.u64_in n ⟨h, h'⟩
theorem u8_in' {n : Int} (h : 0 ≤ n) (h' : n ≤ 255) : IntKind.u8.wrap n = n := IntWalk.u8_in n ⟨h, h'⟩
theorem ishr_lit {k : IntKind} {x : Int} (n : Nat) (h : n ≤ k.bits) : ishr k x (n : Int) = x / 2 ^ n := by
  unfold ishr
  rw [Int.toNat_natCast, Nat.min_eq_left h, Int.fdiv_eq_ediv_of_nonneg]
  exact Int.pow_nonneg (by omega)
theorem ishr_lit8 {x : Int} : ishr .u64 x 8 = x / 256 := ishr_lit (k := .u64) 8 (by decide)
theorem ishr_lit16 {x : Int} : ishr .u64 x 16 = x / 65536 := ishr_lit (k := .u64) 16 (by decide)
theorem ishr_lit32 {x : Int} : ishr .u64 x 32 = x / 4294967296 := ishr_lit (k := .u64) 32 (by decide)
theorem ishr_lit18 {x : Int} : ishr .i64 x 18 = x / 262144 := ishr_lit (k := .i64) 18 (by decide)
theorem sz_lt {s : ByteArray} {x : Int} {n : Nat} (h : s.size = n) (k : x < (n : Int)) : x < (s.size : Int) := by rw [h]; exact k
theorem sz_le {s : ByteArray} {x : Int} {n : Nat} (h : s.size = n) (k : x ≤ (n : Int)) : x ≤ (s.size : Int) := by rw [h]; exact k

/-- The last n decimal digits of a number, as bytes. -/
def digs : Nat → Nat → List Int
  | 0, _ => []
  | n + 1, u => digs n (u / 10) ++ [((48 + u % 10 : Nat) : Int)]

theorem digs_length : ∀ n u, (digs n u).length = n
  | 0, _ => rfl
  | n + 1, u => by simp [digs, digs_length n]

theorem digs_get : ∀ (n u i : Nat), i < n → (digs n u)[i]? = some ((48 + u / 10 ^ (n - 1 - i) % 10 : Nat) : Int)
  | 0, _, i, h => by omega
  | n + 1, u, i, h => by
    simp only [digs]
    by_cases e : i < n
    · rw [List.getElem?_append_left (by rw [digs_length]; exact e), digs_get n (u / 10) i e, Nat.div_div_eq_div_mul, show 10 * 10 ^ (n - 1 - i) = 10 ^ (n + 1 - 1 - i) from by rw [← Nat.pow_succ']; congr 1; omega]
    · have e' : i = n := by omega
      subst e'
      rw [List.getElem?_append_right (by rw [digs_length]; exact Nat.le_refl _), digs_length]
      simp

/-- The number of decimal digits. -/
def ndig (u : Nat) : Nat := if u < 10 then 1 else ndig (u / 10) + 1
termination_by u
decreasing_by omega

theorem ndig_pos (u : Nat) : 0 < ndig u := by rw [ndig]; split <;> omega

theorem ndig_lt (u : Nat) : u < 10 ^ ndig u := by
  induction u using Nat.strongRecOn with
  | _ u ih =>
    rw [ndig]
    split
    · simpa using ‹u < 10›
    · have := ih (u / 10) (by omega)
      rw [Nat.pow_succ]
      omega

theorem ndig_ge (u : Nat) (h : 1 ≤ u) : 10 ^ (ndig u - 1) ≤ u := by
  induction u using Nat.strongRecOn with
  | _ u ih =>
    rw [ndig]
    split
    · simpa using h
    · have := ih (u / 10) (by omega) (by omega)
      have hp := ndig_pos (u / 10)
      rw [show ndig (u / 10) + 1 - 1 = (ndig (u / 10) - 1) + 1 from by omega, Nat.pow_succ]
      omega

theorem ndig_unique {u k : Nat} (h1 : 10 ^ k ≤ u) (h2 : u < 10 ^ (k + 1)) : ndig u = k + 1 := by
  have hu : 1 ≤ u := Nat.le_trans (Nat.one_le_pow _ _ (by omega)) h1
  have a := ndig_lt u
  have b := ndig_ge u hu
  have hp := ndig_pos u
  rcases Nat.lt_trichotomy (ndig u) (k + 1) with h | h | h
  · have : 10 ^ ndig u ≤ 10 ^ k := Nat.pow_le_pow_right (by omega) (by omega)
    omega
  · exact h
  · have : 10 ^ (k + 1) ≤ 10 ^ (ndig u - 1) := Nat.pow_le_pow_right (by omega) (by omega)
    omega

/-- A number from 0 on in decimal. -/
def dec (u : Nat) : ByteArray := bytesOf (digs (ndig u) u)
/-- An integer in decimal. -/
def decI (n : Int) : ByteArray := if n < 0 then bytesOf (45 :: digs (ndig n.natAbs) n.natAbs) else dec n.toNat

/-- The length of a number in bits. -/
def blen (u : Nat) : Nat := if u = 0 then 0 else u.log2 + 1

theorem blen_lt (u : Nat) : u < 2 ^ blen u := by
  unfold blen
  split
  · omega
  · exact Nat.lt_log2_self
theorem blen_ge (u : Nat) (h : 1 ≤ u) : 2 ^ (blen u - 1) ≤ u := by
  unfold blen
  rw [if_neg (by omega), Nat.add_sub_cancel]
  exact Nat.log2_self_le (by omega)
theorem blen_unique {u k : Nat} (h1 : 2 ^ k ≤ u) (h2 : u < 2 ^ (k + 1)) : blen u = k + 1 := by
  have hu : 1 ≤ u := Nat.le_trans (Nat.one_le_pow _ _ (by omega)) h1
  have a := blen_lt u
  have b := blen_ge u hu
  have hp : 0 < blen u := by unfold blen; rw [if_neg (by omega)]; omega
  rcases Nat.lt_trichotomy (blen u) (k + 1) with h | h | h
  · have : 2 ^ blen u ≤ 2 ^ k := Nat.pow_le_pow_right (by omega) (by omega)
    omega
  · exact h
  · have : 2 ^ (k + 1) ≤ 2 ^ (blen u - 1) := Nat.pow_le_pow_right (by omega) (by omega)
    omega
theorem blen_le64 {u : Nat} (h : u < 2 ^ 64) : blen u ≤ 64 := by
  rcases Nat.lt_or_ge 64 (blen u) with h1 | h1
  · have hu : 1 ≤ u := by
      rcases Nat.eq_zero_or_pos u with e | e
      · subst e; simp [blen] at h1
      · exact e
    have a := blen_ge u hu
    have : 2 ^ 64 ≤ 2 ^ (blen u - 1) := Nat.pow_le_pow_right (by omega) (by omega)
    omega
  · exact h1
theorem blen_shift (u k : Nat) (h : 2 ^ k ≤ u) : blen u = k + blen (u / 2 ^ k) := by
  have h1 : 1 ≤ u / 2 ^ k := (Nat.one_le_div_iff (Nat.two_pow_pos k)).2 h
  have a := blen_lt (u / 2 ^ k)
  have b := blen_ge (u / 2 ^ k) h1
  have hp : 0 < blen (u / 2 ^ k) := by unfold blen; rw [if_neg (by omega)]; omega
  have : blen u = (k + blen (u / 2 ^ k) - 1) + 1 := by
    refine blen_unique ?_ ?_
    · rw [show k + blen (u / 2 ^ k) - 1 = (blen (u / 2 ^ k) - 1) + k from by omega, Nat.pow_add]
      exact (Nat.le_div_iff_mul_le (Nat.two_pow_pos k)).1 b
    · rw [show k + blen (u / 2 ^ k) - 1 + 1 = blen (u / 2 ^ k) + k from by omega, Nat.pow_add]
      exact (Nat.div_lt_iff_lt_mul (Nat.two_pow_pos k)).1 a
  omega

/-- How many digits: as the library reckons it. -/
theorem ndig_by_blen : ∀ L, L ≤ 64 → 1 ≤ L → 10 ^ (L * 78913 / 2 ^ 18) ≤ 2 ^ L ∧ 2 ^ L ≤ 10 ^ (L * 78913 / 2 ^ 18 + 1) ∧ (L * 78913 / 2 ^ 18 = 0 ∨ 10 ^ (L * 78913 / 2 ^ 18 - 1) ≤ 2 ^ (L - 1)) := by
  decide +kernel
theorem ndig_lib {u : Nat} (h1 : 1 ≤ u) (h2 : u < 2 ^ 64) : ndig u = blen u * 78913 / 2 ^ 18 + (if 10 ^ (blen u * 78913 / 2 ^ 18) ≤ u then 1 else 0) := by
  have hp : 1 ≤ blen u := by unfold blen; rw [if_neg (by omega)]; omega
  obtain ⟨a, b, c⟩ := ndig_by_blen (blen u) (blen_le64 h2) hp
  have d := blen_lt u
  have e := blen_ge u h1
  generalize blen u * 78913 / 2 ^ 18 = k at *
  split
  · exact ndig_unique ‹_› (Nat.lt_of_lt_of_le d b)
  · rcases c with c | c
    · subst c; rename_i h; simp at h; omega
    · have hk : k ≠ 0 := by intro h; subst h; rename_i h; simp at h; omega
      have := ndig_unique (u := u) (k := k - 1) (Nat.le_trans c e) (by rw [show k - 1 + 1 = k from by omega]; omega)
      omega

/-- A table of bytes. -/
def tabB (s : ByteArray) (n : Nat) (f : Nat → Nat) : Bool := decide (s.size = n) && (List.range n).all (fun i => Nat.beq (s.data.toList.getD i 0).toNat (f i))
theorem tabB_at {s : ByteArray} {n : Nat} {f : Nat → Nat} (h : tabB s n f = true) {i : Nat} (hi : i < n) : byteAt s (i : Int) = (f i : Int) := by
  unfold tabB at h
  simp only [Bool.and_eq_true, List.all_eq_true, List.mem_range] at h
  unfold byteAt
  rw [Int.toNat_natCast, Nat.eq_of_beq_eq_true (h.2 i hi)]
def smF (i : Nat) : Nat := if i % 2 = 0 then 48 + i / 20 else 48 + i / 2 % 10
theorem sm_odd {s : ByteArray} (h : tabB s 200 smF = true) {y : Int} (h0 : 0 ≤ y) (h1 : y < 100) : byteAt s (y * 2 + 1) = 48 + y % 10 := by
  have e : y * 2 + 1 = ((y.toNat * 2 + 1 : Nat) : Int) := by omega
  rw [e, tabB_at h (by omega)]
  unfold smF
  rw [if_neg (by omega)]
  omega
theorem sm_even {s : ByteArray} (h : tabB s 200 smF = true) {y : Int} (h0 : 0 ≤ y) (h1 : y < 100) : byteAt s (y * 2) = 48 + y / 10 := by
  have e : y * 2 = ((y.toNat * 2 : Nat) : Int) := by omega
  rw [e, tabB_at h (by omega)]
  unfold smF
  rw [if_pos (by omega)]
  omega

/-- Digits that are written from behind: m of n digits of U, from place o on. -/
def dtab (l : List Int) (N o n U m : Nat) : List Int := (List.range N).map (fun x => if o + n - m ≤ x ∧ x < o + n then ((48 + U / 10 ^ (o + n - 1 - x) % 10 : Nat) : Int) else l.getD x 0)
theorem dtab_length (l : List Int) (N o n U m : Nat) : (dtab l N o n U m).length = N := by simp [dtab]
theorem dtab_zero {l : List Int} {N o n U : Nat} (h : l.length = N) : dtab l N o n U 0 = l := by
  apply List.ext_getElem?
  intro i
  simp only [dtab, List.getElem?_map]
  by_cases hi : i < N
  · rw [List.getElem?_range hi]
    simp only [Option.map_some]
    rw [if_neg (by omega), List.getD, List.getElem?_eq_getElem (by omega)]
    rfl
  · rw [List.getElem?_eq_none (by simp; omega), List.getElem?_eq_none (by omega)]; rfl
theorem dtab_set {l : List Int} {N o n U m i : Nat} {v : Int} (hm : m < n) (hN : o + n ≤ N) (hi : i = o + n - m - 1) (hv : v = ((48 + U / 10 ^ m % 10 : Nat) : Int)) : (dtab l N o n U m).set i v = dtab l N o n U (m + 1) := by
  subst hi
  apply List.ext_getElem?
  intro x
  rw [List.getElem?_set, dtab_length]
  by_cases e : o + n - m - 1 = x
  · subst e
    rw [if_pos rfl, if_pos (by omega)]
    simp only [dtab, List.getElem?_map]
    rw [List.getElem?_range (by omega)]
    simp only [Option.map_some]
    rw [if_pos (by omega), hv, show o + n - 1 - (o + n - m - 1) = m from by omega]
  · rw [if_neg e]
    simp only [dtab, List.getElem?_map]
    by_cases hx : x < N
    · rw [List.getElem?_range hx]
      simp only [Option.map_some]
      by_cases h2 : o + n - m ≤ x ∧ x < o + n
      · rw [if_pos h2, if_pos (by omega)]
      · rw [if_neg h2, if_neg (by omega)]
    · rw [List.getElem?_eq_none (by simp; omega)]; rfl
theorem dtab_seg {l : List Int} {N o n U : Nat} (hN : o + n ≤ N) : seg o n (dtab l N o n U n) = digs n U := by
  apply List.ext_getElem?
  intro i
  unfold seg
  by_cases hi : i < n
  · rw [List.getElem?_take, if_pos hi, List.getElem?_drop, digs_get _ _ _ hi]
    simp only [dtab, List.getElem?_map]
    rw [List.getElem?_range (by omega)]
    simp only [Option.map_some]
    rw [if_pos (by omega), show o + n - 1 - (o + i) = n - 1 - i from by omega]
  · rw [List.getElem?_take, if_neg hi, List.getElem?_eq_none (by rw [digs_length]; omega)]
theorem pow_step (U m j : Nat) : U / 10 ^ (m + j) = U / 10 ^ m / 10 ^ j := by rw [Nat.pow_add, Nat.div_div_eq_div_mul]
attribute [irreducible] dtab dec decI
theorem seg_head {L : List Int} {n : Nat} {v : Int} (h : 0 < L.length) : seg 0 (1 + n) (L.set 0 v) = v :: seg 1 n L := by
  cases L with
  | nil => simp at h
  | cons x l => simp [seg, Nat.add_comm 1 n]
end Go.Sy
