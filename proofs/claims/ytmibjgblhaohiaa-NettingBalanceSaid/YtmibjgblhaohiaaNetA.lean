/- Several texts in one: XSortP, XNum, XMoneyC, XSidx, XNetP, XNetC, XNetK, XNetD, XNetE, XNetF, XNetG, XNetH, XNetI, XNetJ, XNetL, XNetM, XNetM2. -/
import Derived.Test.YtmibjgblhaohiaaYSort
import Derived.Sort.Walk0
import Derived.Test.YtmibjgblhaohiaaYLib
import Derived.Test.YtmibjgblhaohiaaTab
import Derived.Test.YtmibjgblhaohiaaYSortK
import Derived.Test.YtmibjgblhaohiaaLay
import Derived.WalkKit
import Derived.StillTailTactics
import Derived.Test.YtmibjgblhaohiaaYPlain
/- Plain facts on texts in ascending order. No program in sight. -/
namespace Go.Sy
open Go.RowKit

theorem ofB_toList (s : ByteArray) : s.toList = ofB s := by
  exact (by simpa using ByteArray.toList_eq s : s.toList = s.data.toList)
theorem strLt_eq (a b : ByteArray) : strLt a b = decide (ofB a < ofB b) := by
  unfold strLt
  rw [ofB_toList, ofB_toList, Go.Proofs.bytesLess_eq]
theorem ofB_inj {a b : ByteArray} (h : ofB a = ofB b) : a = b := by rw [← toB_ofB a, ← toB_ofB b, h]
theorem strLt_irrefl (a : ByteArray) : strLt a a = false := by rw [strLt_eq]; exact decide_eq_false (List.lt_irrefl _)
theorem strLt_asymm {a b : ByteArray} (h : strLt a b = true) : strLt b a = false := by
  rw [strLt_eq] at h ⊢
  exact decide_eq_false (List.lt_asymm (of_decide_eq_true h))
theorem strLt_trans {a b c : ByteArray} (h : strLt a b = true) (k : strLt b c = true) : strLt a c = true := by
  rw [strLt_eq] at *
  exact decide_eq_true (List.lt_trans (of_decide_eq_true h) (of_decide_eq_true k))
theorem strLt_total {a b : ByteArray} (h : strLt a b = false) (hne : a ≠ b) : strLt b a = true := by
  rw [strLt_eq] at *
  have h1 := of_decide_eq_false h
  have h2 : ofB b ≤ ofB a := List.not_lt.1 h1
  rcases List.le_iff_lt_or_eq.1 h2 with h3 | h3
  · exact decide_eq_true h3
  · exact absurd (ofB_inj h3.symm) hne
theorem sortS_congr {l m : List ByteArray} (h : l.Perm m) : sortS l = sortS m := by
  unfold sortS
  rw [mergeSort_of_perm (h.map ofB)]
theorem sortS_pairwise {l : List ByteArray} (hd : l.Nodup) : (sortS l).Pairwise (fun a b => strLt a b = true) := by
  have tr : ∀ a b c : List UInt8, leB a b = true → leB b c = true → leB a c = true := fun a b c h1 h2 => by simp only [leB, decide_eq_true_eq] at *; exact List.le_trans h1 h2
  have to : ∀ a b : List UInt8, (leB a b || leB b a) = true := fun a b => by simp only [leB, Bool.or_eq_true, decide_eq_true_eq]; exact List.le_total a b
  have h1 := List.pairwise_mergeSort tr to (l.map ofB)
  have hd2 : (sortS l).Nodup := (sortS_perm l).symm.nodup hd
  have h2 : (sortS l).Pairwise (fun a b => leB (ofB a) (ofB b) = true) := by
    unfold sortS
    rw [List.pairwise_map]
    exact h1
  refine (List.Pairwise.and h2 hd2).imp ?_
  rintro a b ⟨h3, h4⟩
  rw [strLt_eq]
  simp only [leB, decide_eq_true_eq] at h3
  rcases List.le_iff_lt_or_eq.1 h3 with h5 | h5
  · exact decide_eq_true h5
  · exact absurd (ofB_inj h5) h4
theorem sortS_lt {l : List ByteArray} (hd : l.Nodup) {i j : Nat} (hij : i < j) (hj : j < l.length) : strLt ((sortS l).getD i ⟨#[]⟩) ((sortS l).getD j ⟨#[]⟩) = true := by
  have hj' : j < (sortS l).length := by rw [sortS_length]; exact hj
  have := List.pairwise_iff_getElem.1 (sortS_pairwise hd) i j (by omega) hj' hij
  simpa [List.getD, hj', show i < (sortS l).length by omega] using this
/-- Texts in strictly ascending order are their own order. -/
theorem sortS_of {l m : List ByteArray} (hp : m.Perm l) (hm : m.Pairwise (fun a b => strLt a b = true)) : sortS l = m := by
  have hdm : m.Nodup := hm.imp (fun {a b} h e => by subst e; rw [strLt_irrefl] at h; cases h)
  refine List.Perm.eq_of_pairwise (le := fun a b => strLt a b = true) (fun a b _ _ h1 h2 => ?_) (sortS_pairwise (hp.nodup hdm)) hm ((sortS_perm l).trans hp.symm)
  rw [strLt_asymm h1] at h2; cases h2
end Go.Sy

/- Plain facts on numbers: decimal digits, lengths in bits, division. No program in sight. -/
namespace Go.Sy
open Go.RowKit

theorem u32_in' {n : Int} (h : 0 ≤ n) (h' : n ≤ 4294967295) : IntKind.u32.wrap n = n := IntWalk.u32_in n ⟨h, h'⟩
theorem u64_in' {n : Int} (h : 0 ≤ n) (h' : n ≤ 18446744073709551615) : IntKind.u64.wrap n = n := IntWalk.u64_in n ⟨h, h'⟩
theorem u8_in' {n : Int} (h : 0 ≤ n) (h' : n ≤ 255) : IntKind.u8.wrap n = n := IntWalk.u8_in n ⟨h, h'⟩
theorem ishr_lit {k : IntKind} {x : Int} (n : Nat) (h : n ≤ k.bits) : ishr k x (n : Int) = x / 2 ^ n := by
  unfold ishr
  rw [Int.toNat_natCast, Nat.min_eq_left h, Int.fdiv_eq_ediv_of_nonneg]
  exact Int.pow_nonneg (by omega)
theorem ishr_lit8 {x : Int} : ishr .u64 x 8 = x / 256 := ishr_lit (k := .u64) 8 (by decide)
theorem ishr_lit16 {x : Int} : ishr .u64 x 16 = x / 65536 := ishr_lit (k := .u64) 16 (by decide)
theorem ishr_lit32 {x : Int} : ishr .u64 x 32 = x / 4294967296 := ishr_lit (k := .u64) 32 (by decide)
theorem ishr_lit18 {x : Int} : ishr .i64 x 18 = x / 262144 := ishr_lit (k := .i64) 18 (by decide)
theorem sz_lt {s : ByteArray} {x : Int} {n : Nat} (h : s.size = n) (k : x < (n : Int)) : x < (s.size : Int) := by rw [h]; exact k
theorem sz_le {s : ByteArray} {x : Int} {n : Nat} (h : s.size = n) (k : x ≤ (n : Int)) : x ≤ (s.size : Int) := by rw [h]; exact k

/-- The last n decimal digits of a number, as bytes. -/
def digs : Nat → Nat → List Int
  | 0, _ => []
  | n + 1, u => digs n (u / 10) ++ [((48 + u % 10 : Nat) : Int)]

theorem digs_length : ∀ n u, (digs n u).length = n
  | 0, _ => rfl
  | n + 1, u => by simp [digs, digs_length n]

theorem digs_get : ∀ (n u i : Nat), i < n → (digs n u)[i]? = some ((48 + u / 10 ^ (n - 1 - i) % 10 : Nat) : Int)
  | 0, _, i, h => by omega
  | n + 1, u, i, h => by
    simp only [digs]
    by_cases e : i < n
    · rw [List.getElem?_append_left (by rw [digs_length]; exact e), digs_get n (u / 10) i e, Nat.div_div_eq_div_mul, show 10 * 10 ^ (n - 1 - i) = 10 ^ (n + 1 - 1 - i) from by rw [← Nat.pow_succ']; congr 1; omega]
    · have e' : i = n := by omega
      subst e'
      rw [List.getElem?_append_right (by rw [digs_length]; exact Nat.le_refl _), digs_length]
      simp

/-- The number of decimal digits. -/
def ndig (u : Nat) : Nat := if u < 10 then 1 else ndig (u / 10) + 1
termination_by u
decreasing_by omega

theorem ndig_pos (u : Nat) : 0 < ndig u := by rw [ndig]; split <;> omega

theorem ndig_lt (u : Nat) : u < 10 ^ ndig u := by
  induction u using Nat.strongRecOn with
  | _ u ih =>
    rw [ndig]
    split
    · simpa using ‹u < 10›
    · have := ih (u / 10) (by omega)
      rw [Nat.pow_succ]
      omega

theorem ndig_ge (u : Nat) (h : 1 ≤ u) : 10 ^ (ndig u - 1) ≤ u := by
  induction u using Nat.strongRecOn with
  | _ u ih =>
    rw [ndig]
    split
    · simpa using h
    · have := ih (u / 10) (by omega) (by omega)
      have hp := ndig_pos (u / 10)
      rw [show ndig (u / 10) + 1 - 1 = (ndig (u / 10) - 1) + 1 from by omega, Nat.pow_succ]
      omega

theorem ndig_unique {u k : Nat} (h1 : 10 ^ k ≤ u) (h2 : u < 10 ^ (k + 1)) : ndig u = k + 1 := by
  have hu : 1 ≤ u := Nat.le_trans (Nat.one_le_pow _ _ (by omega)) h1
  have a := ndig_lt u
  have b := ndig_ge u hu
  have hp := ndig_pos u
  rcases Nat.lt_trichotomy (ndig u) (k + 1) with h | h | h
  · have : 10 ^ ndig u ≤ 10 ^ k := Nat.pow_le_pow_right (by omega) (by omega)
    omega
  · exact h
  · have : 10 ^ (k + 1) ≤ 10 ^ (ndig u - 1) := Nat.pow_le_pow_right (by omega) (by omega)
    omega

/-- A number from 0 on in decimal. -/
def dec (u : Nat) : ByteArray := bytesOf (digs (ndig u) u)
/-- An integer in decimal. -/
def decI (n : Int) : ByteArray := if n < 0 then bytesOf (45 :: digs (ndig n.natAbs) n.natAbs) else dec n.toNat

/-- The length of a number in bits. -/
def blen (u : Nat) : Nat := if u = 0 then 0 else u.log2 + 1

theorem blen_lt (u : Nat) : u < 2 ^ blen u := by
  unfold blen
  split
  · omega
  · exact Nat.lt_log2_self
theorem blen_ge (u : Nat) (h : 1 ≤ u) : 2 ^ (blen u - 1) ≤ u := by
  unfold blen
  rw [if_neg (by omega), Nat.add_sub_cancel]
  exact Nat.log2_self_le (by omega)
theorem blen_unique {u k : Nat} (h1 : 2 ^ k ≤ u) (h2 : u < 2 ^ (k + 1)) : blen u = k + 1 := by
  have hu : 1 ≤ u := Nat.le_trans (Nat.one_le_pow _ _ (by omega)) h1
  have a := blen_lt u
  have b := blen_ge u hu
  have hp : 0 < blen u := by unfold blen; rw [if_neg (by omega)]; omega
  rcases Nat.lt_trichotomy (blen u) (k + 1) with h | h | h
  · have : 2 ^ blen u ≤ 2 ^ k := Nat.pow_le_pow_right (by omega) (by omega)
    omega
  · exact h
  · have : 2 ^ (k + 1) ≤ 2 ^ (blen u - 1) := Nat.pow_le_pow_right (by omega) (by omega)
    omega
theorem blen_le64 {u : Nat} (h : u < 2 ^ 64) : blen u ≤ 64 := by
  rcases Nat.lt_or_ge 64 (blen u) with h1 | h1
  · have hu : 1 ≤ u := by
      rcases Nat.eq_zero_or_pos u with e | e
      · subst e; simp [blen] at h1
      · exact e
    have a := blen_ge u hu
    have : 2 ^ 64 ≤ 2 ^ (blen u - 1) := Nat.pow_le_pow_right (by omega) (by omega)
    omega
  · exact h1
theorem blen_shift (u k : Nat) (h : 2 ^ k ≤ u) : blen u = k + blen (u / 2 ^ k) := by
  have h1 : 1 ≤ u / 2 ^ k := (Nat.one_le_div_iff (Nat.two_pow_pos k)).2 h
  have a := blen_lt (u / 2 ^ k)
  have b := blen_ge (u / 2 ^ k) h1
  have hp : 0 < blen (u / 2 ^ k) := by unfold blen; rw [if_neg (by omega)]; omega
  have : blen u = (k + blen (u / 2 ^ k) - 1) + 1 := by
    refine blen_unique ?_ ?_
    · rw [show k + blen (u / 2 ^ k) - 1 = (blen (u / 2 ^ k) - 1) + k from by omega, Nat.pow_add]
      exact (Nat.le_div_iff_mul_le (Nat.two_pow_pos k)).1 b
    · rw [show k + blen (u / 2 ^ k) - 1 + 1 = blen (u / 2 ^ k) + k from by omega, Nat.pow_add]
      exact (Nat.div_lt_iff_lt_mul (Nat.two_pow_pos k)).1 a
  omega

/-- How many digits: as the library reckons it. -/
theorem ndig_by_blen : ∀ L, L ≤ 64 → 1 ≤ L → 10 ^ (L * 78913 / 2 ^ 18) ≤ 2 ^ L ∧ 2 ^ L ≤ 10 ^ (L * 78913 / 2 ^ 18 + 1) ∧ (L * 78913 / 2 ^ 18 = 0 ∨ 10 ^ (L * 78913 / 2 ^ 18 - 1) ≤ 2 ^ (L - 1)) := by
  decide +kernel
theorem ndig_lib {u : Nat} (h1 : 1 ≤ u) (h2 : u < 2 ^ 64) : ndig u = blen u * 78913 / 2 ^ 18 + (if 10 ^ (blen u * 78913 / 2 ^ 18) ≤ u then 1 else 0) := by
  have hp : 1 ≤ blen u := by unfold blen; rw [if_neg (by omega)]; omega
  obtain ⟨a, b, c⟩ := ndig_by_blen (blen u) (blen_le64 h2) hp
  have d := blen_lt u
  have e := blen_ge u h1
  generalize blen u * 78913 / 2 ^ 18 = k at *
  split
  · exact ndig_unique ‹_› (Nat.lt_of_lt_of_le d b)
  · rcases c with c | c
    · subst c; rename_i h; simp at h; omega
    · have hk : k ≠ 0 := by intro h; subst h; rename_i h; simp at h; omega
      have := ndig_unique (u := u) (k := k - 1) (Nat.le_trans c e) (by rw [show k - 1 + 1 = k from by omega]; omega)
      omega

/-- A table of bytes. -/
def tabB (s : ByteArray) (n : Nat) (f : Nat → Nat) : Bool := decide (s.size = n) && (List.range n).all (fun i => Nat.beq (s.data.toList.getD i 0).toNat (f i))
theorem tabB_at {s : ByteArray} {n : Nat} {f : Nat → Nat} (h : tabB s n f = true) {i : Nat} (hi : i < n) : byteAt s (i : Int) = (f i : Int) := by
  unfold tabB at h
  simp only [Bool.and_eq_true, List.all_eq_true, List.mem_range] at h
  unfold byteAt
  rw [Int.toNat_natCast, Nat.eq_of_beq_eq_true (h.2 i hi)]
def smF (i : Nat) : Nat := if i % 2 = 0 then 48 + i / 20 else 48 + i / 2 % 10
theorem sm_odd {s : ByteArray} (h : tabB s 200 smF = true) {y : Int} (h0 : 0 ≤ y) (h1 : y < 100) : byteAt s (y * 2 + 1) = 48 + y % 10 := by
  have e : y * 2 + 1 = ((y.toNat * 2 + 1 : Nat) : Int) := by omega
  rw [e, tabB_at h (by omega)]
  unfold smF
  rw [if_neg (by omega)]
  omega
theorem sm_even {s : ByteArray} (h : tabB s 200 smF = true) {y : Int} (h0 : 0 ≤ y) (h1 : y < 100) : byteAt s (y * 2) = 48 + y / 10 := by
  have e : y * 2 = ((y.toNat * 2 : Nat) : Int) := by omega
  rw [e, tabB_at h (by omega)]
  unfold smF
  rw [if_pos (by omega)]
  omega

/-- Digits that are written from behind: m of n digits of U, from place o on. -/
def dtab (l : List Int) (N o n U m : Nat) : List Int := (List.range N).map (fun x => if o + n - m ≤ x ∧ x < o + n then ((48 + U / 10 ^ (o + n - 1 - x) % 10 : Nat) : Int) else l.getD x 0)
theorem dtab_length (l : List Int) (N o n U m : Nat) : (dtab l N o n U m).length = N := by simp [dtab]
theorem dtab_zero {l : List Int} {N o n U : Nat} (h : l.length = N) : dtab l N o n U 0 = l := by
  apply List.ext_getElem?
  intro i
  simp only [dtab, List.getElem?_map]
  by_cases hi : i < N
  · rw [List.getElem?_range hi]
    simp only [Option.map_some]
    rw [if_neg (by omega), List.getD, List.getElem?_eq_getElem (by omega)]
    rfl
  · rw [List.getElem?_eq_none (by simp; omega), List.getElem?_eq_none (by omega)]; rfl
theorem dtab_set {l : List Int} {N o n U m i : Nat} {v : Int} (hm : m < n) (hN : o + n ≤ N) (hi : i = o + n - m - 1) (hv : v = ((48 + U / 10 ^ m % 10 : Nat) : Int)) : (dtab l N o n U m).set i v = dtab l N o n U (m + 1) := by
  subst hi
  apply List.ext_getElem?
  intro x
  rw [List.getElem?_set, dtab_length]
  by_cases e : o + n - m - 1 = x
  · subst e
    rw [if_pos rfl, if_pos (by omega)]
    simp only [dtab, List.getElem?_map]
    rw [List.getElem?_range (by omega)]
    simp only [Option.map_some]
    rw [if_pos (by omega), hv, show o + n - 1 - (o + n - m - 1) = m from by omega]
  · rw [if_neg e]
    simp only [dtab, List.getElem?_map]
    by_cases hx : x < N
    · rw [List.getElem?_range hx]
      simp only [Option.map_some]
      by_cases h2 : o + n - m ≤ x ∧ x < o + n
      · rw [if_pos h2, if_pos (by omega)]
      · rw [if_neg h2, if_neg (by omega)]
    · rw [List.getElem?_eq_none (by simp; omega)]; rfl
theorem dtab_seg {l : List Int} {N o n U : Nat} (hN : o + n ≤ N) : seg o n (dtab l N o n U n) = digs n U := by
  apply List.ext_getElem?
  intro i
  unfold seg
  by_cases hi : i < n
  · rw [List.getElem?_take, if_pos hi, List.getElem?_drop, digs_get _ _ _ hi]
    simp only [dtab, List.getElem?_map]
    rw [List.getElem?_range (by omega)]
    simp only [Option.map_some]
    rw [if_pos (by omega), show o + n - 1 - (o + i) = n - 1 - i from by omega]
  · rw [List.getElem?_take, if_neg hi, List.getElem?_eq_none (by rw [digs_length]; omega)]
theorem pow_step (U m j : Nat) : U / 10 ^ (m + j) = U / 10 ^ m / 10 ^ j := by rw [Nat.pow_add, Nat.div_div_eq_div_mul]
attribute [irreducible] dtab dec decI
theorem seg_head {L : List Int} {n : Nat} {v : Int} (h : 0 < L.length) : seg 0 (1 + n) (L.set 0 v) = v :: seg 1 n L := by
  cases L with
  | nil => simp at h
  | cons x l => simp [seg, Nat.add_comm 1 n]
end Go.Sy

/- Contracts of package money, and of the reference's: currencies. -/
namespace Go.Proofs.Ytmibjgblhaohiaa
open Go.RowKit Go.Sy
attribute [local irreducible] vcall vloop vcallD retP
set_option maxRecDepth 100000
set_option linter.unusedVariables false

theorem i64_succ {k : Nat} (h : k < 9223372036854775806) : IntKind.i64.wrap ((k : Int) + 1) = ((k + 1 : Nat) : Int) := by rw [w64_in (by omega) (by omega)]; rfl

def capAt (s : ByteArray) (i : Nat) : Bool := decide (65 ≤ byteAt s (i : Int)) && decide (byteAt s (i : Int) ≤ 90)
def capsTo (s : ByteArray) : Nat → Bool
  | 0 => true
  | k + 1 => capsTo s k && capAt s k
/-- Three capital letters. -/
def curB (s : ByteArray) : Bool := decide (s.size = 3) && capsTo s s.size
theorem capsTo_false {s : ByteArray} {k n : Nat} (h : k < n) (hc : capAt s k = false) : capsTo s n = false := by
  induction n with
  | zero => omega
  | succ n ih =>
    simp only [capsTo]
    by_cases e : k = n
    · subst e; simp [hc]
    · rw [ih (by omega)]; rfl
theorem curB_false {s : ByteArray} {k : Nat} (h : k < s.size) (hc : byteAt s (k : Int) < 65 ∨ 90 < byteAt s (k : Int)) : curB s = false := by
  have : capAt s k = false := by unfold capAt; simp; omega
  unfold curB
  rw [capsTo_false h this]; simp
theorem curB_size {s : ByteArray} (h : s.size ≠ 3) : curB s = false := by unfold curB; simp [h]
theorem capsTo_step {s : ByteArray} {k : Nat} (h : capsTo s k = true) (h1 : ¬ byteAt s (k : Int) < 65) (h2 : ¬ 90 < byteAt s (k : Int)) : capsTo s (k + 1) = true := by
  simp only [capsTo, h, capAt]; simp; omega
attribute [irreducible] curB

theorem money_isCurrency (s : ByteArray) : Pure Try.prog 41 [.str s] (.bool (curB s)) := by
  refine fc_of mixed T_ok Try.func41 rfl (by kernel_rfl) (by kernel_rfl) (by kernel_rfl) ?_
  repeat' ((conv => whnf); first | (refine br_dec (fun h => ?_) (fun h => ?_) <;> try (exfalso; (try dsimp only at h); omega)) | (refine br_ndec (fun h => ?_) (fun h => ?_) <;> try (exfalso; (try dsimp only at h); omega)) | refine br_seq (fun h => ?_) (fun h => ?_) | refine br_nseq (fun h => ?_) (fun h => ?_) | refine br_not (fun h => ?_) (fun h => ?_) | refine br_intro (fun h => ?_) (fun h => ?_) | refine cond_intro rfl ?_ | (refine cond_intro ⟨rfl, ?_⟩ ?_; (first | omega | (dsimp only; omega) | decide)) | (refine cond_intro ?_ ?_; (first | omega | (dsimp only; omega) | decide | (simp only [Nat.add_zero, Int.toNat_natCast, *]; omega))))
  all_goals (conv => whnf)
  · exact ret_pure (by rw [curB_size (by omega)]; rfl)
  · refine vloop_of (fun k : Nat => ⟨[(0, .str s), (8, .int .i64 s.size), (9, .int .i64 k)], [], 1⟩) (fun k => k ≤ s.size ∧ capsTo s k = true) (fun k => s.size - k) 0 [0] [] ⟨rfl, ⟨rfl, rfl, rfl, trivial⟩, trivial⟩ ⟨by omega, rfl⟩ ?_
    rintro k ⟨hk, hc⟩
    repeat' ((conv => whnf); first | (refine br_dec (fun h => ?_) (fun h => ?_) <;> try (exfalso; (try dsimp only at h); omega)) | (refine br_ndec (fun h => ?_) (fun h => ?_) <;> try (exfalso; (try dsimp only at h); omega)) | refine br_seq (fun h => ?_) (fun h => ?_) | refine br_nseq (fun h => ?_) (fun h => ?_) | refine br_not (fun h => ?_) (fun h => ?_) | refine br_intro (fun h => ?_) (fun h => ?_) | refine cond_intro rfl ?_ | (refine cond_intro ⟨rfl, ?_⟩ ?_; (first | omega | (dsimp only; omega) | decide)) | (refine cond_intro ?_ ?_; (first | omega | (dsimp only; omega) | decide | (simp only [Nat.add_zero, Int.toNat_natCast, *]; omega))))
    all_goals (conv => whnf)
    · exact ret_pure (by rw [curB_false (k := k) (by omega) (by omega)]; rfl)
    · exact ret_pure (by rw [curB_false (k := k) (by omega) (by omega)]; rfl)
    · exact ⟨k + 1, [0], [], ⟨by omega, capsTo_step hc (by omega) (by omega)⟩, by omega, ⟨rfl, ⟨rfl, rfl, congrArg (fun z => some (SV.int .i64 z)) (i64_succ (by omega)), trivial⟩, trivial⟩⟩
    · have e : k = s.size := by omega
      subst e
      refine ret_pure ?_
      have : curB s = true := by unfold curB; rw [hc]; simp; omega
      rw [this]; rfl

theorem ref01_IsCurrency (s : ByteArray) : Pure Try.prog 50 [.str s] (.bool (curB s)) := by
  refine fc_of mixed T_ok Try.func50 rfl (by kernel_rfl) (by kernel_rfl) (by kernel_rfl) ?_
  (conv => whnf)
  refine vloop_of (fun k : Nat => ⟨[(0, .str s), (3, .int .i64 k)], [], 1⟩) (fun k => k ≤ s.size ∧ k ≤ 3 ∧ capsTo s k = true) (fun k => 3 - k) 0 [0] [] ⟨rfl, ⟨rfl, rfl, trivial⟩, trivial⟩ ⟨by omega, by omega, rfl⟩ ?_
  rintro k ⟨hk, h3, hc⟩
  repeat' ((conv => whnf); first | (refine br_dec (fun h => ?_) (fun h => ?_) <;> try (exfalso; (try dsimp only at h); omega)) | (refine br_ndec (fun h => ?_) (fun h => ?_) <;> try (exfalso; (try dsimp only at h); omega)) | refine br_seq (fun h => ?_) (fun h => ?_) | refine br_nseq (fun h => ?_) (fun h => ?_) | refine br_not (fun h => ?_) (fun h => ?_) | refine br_intro (fun h => ?_) (fun h => ?_) | refine cond_intro rfl ?_ | (refine cond_intro ⟨rfl, ?_⟩ ?_; (first | omega | (dsimp only; omega) | decide)) | (refine cond_intro ?_ ?_; (first | omega | (dsimp only; omega) | decide | (simp only [Nat.add_zero, Int.toNat_natCast, *]; omega))))
  all_goals (conv => whnf)
  · exact ret_pure (by rw [curB_false (k := k) (by omega) (by omega)]; rfl)
  · exact ret_pure (by rw [curB_false (k := k) (by omega) (by omega)]; rfl)
  · exact ⟨k + 1, [0], [], ⟨by omega, by omega, capsTo_step hc (by omega) (by omega)⟩, by omega, ⟨rfl, ⟨rfl, congrArg (fun z => some (SV.int .i64 z)) (i64_succ (by omega)), trivial⟩, trivial⟩⟩
  all_goals refine ret_pure ?_
  all_goals by_cases e : s.size = 3
  all_goals first
    | (have e' : k = s.size := by omega
       subst e'
       have : curB s = true := by unfold curB; rw [hc]; simp; omega
       rw [this]; simp [e, oneOr]; done)
    | (rw [curB_size e]; simp [oneOr]; omega)
end Go.Proofs.Ytmibjgblhaohiaa

/- Plain facts on the first place of a text in a list. No program in sight. -/
namespace Go.Sy
open Go.RowKit

theorem sidx_le (l : List ByteArray) (s : ByteArray) : sidx l s ≤ l.length := by
  induction l with
  | nil => simp [sidx]
  | cons x l ih =>
    simp only [sidx, seq]
    by_cases h : x = s
    · rw [decide_eq_true h]; simp
    · rw [decide_eq_false h]; simp; exact ih
theorem sidx_lt {l : List ByteArray} {s : ByteArray} : sidx l s < l.length ↔ s ∈ l := by
  induction l with
  | nil => simp [sidx]
  | cons x l ih =>
    simp only [sidx, seq]
    by_cases h : x = s
    · rw [decide_eq_true h]; simp [h]
    · rw [decide_eq_false h]
      have : ¬ s = x := fun e => h e.symm
      simp [this, ih]
theorem sidx_get {l : List ByteArray} {s : ByteArray} (h : sidx l s < l.length) : l[sidx l s]? = some s := by
  induction l with
  | nil => simp [sidx] at h
  | cons x l ih =>
    simp only [sidx, seq] at h ⊢
    by_cases e : x = s
    · rw [decide_eq_true e]; simp [e]
    · rw [decide_eq_false e] at h ⊢
      simp only [cond_false, List.length_cons, List.getElem?_cons_succ] at h ⊢
      exact ih (by omega)
theorem sidx_of_get {l : List ByteArray} (hd : l.Nodup) {i : Nat} {s : ByteArray} (h : l[i]? = some s) : sidx l s = i := by
  have hi : i < l.length := (List.getElem?_eq_some_iff.1 h).1
  have hm : s ∈ l := List.mem_iff_getElem?.2 ⟨i, h⟩
  have h2 := sidx_get (sidx_lt.2 hm)
  have h3 := sidx_lt.2 hm
  obtain ⟨_, e1⟩ := List.getElem?_eq_some_iff.1 h
  obtain ⟨_, e2⟩ := List.getElem?_eq_some_iff.1 h2
  exact (List.getElem_inj hd).1 (e2.trans e1.symm)
theorem put_key {l : List ByteArray} {s : ByteArray} : putL (sidx l s) s l = if sidx l s < l.length then l else l ++ [s] := by
  unfold putL
  split
  · rename_i h
    have := sidx_get h
    refine List.ext_getElem? fun i => ?_
    rw [List.getElem?_set]
    by_cases e : sidx l s = i
    · subst e; rw [if_pos rfl, if_pos h, this]
    · rw [if_neg e]
  · rfl

end Go.Sy

/- Plain facts on positions: columns, their order, sorting. No program in sight. -/
namespace Go.Proofs.Ytmibjgblhaohiaa
open Go.RowKit Go.Sy
set_option linter.unusedVariables false
set_option linter.unusedSimpArgs false

/-- A position. -/
structure Ps where
  p : ByteArray
  a : Int
  c : ByteArray
/-- Positions as columns. -/
structure Pc where
  p : List ByteArray
  a : List Int
  c : List ByteArray
def pcOf (l : List Ps) : Pc := ⟨l.map Ps.p, l.map Ps.a, l.map Ps.c⟩
abbrev pc0 : Pc := ⟨[], [], []⟩
abbrev ps0 : Ps := ⟨⟨#[]⟩, 0, ⟨#[]⟩⟩
instance : Inhabited Ps := ⟨ps0⟩
def psB (n : Nat) (r : Pc) : Blk := .cols n [.sc (.strs r.p), .sc (.ints .i64 r.a), .sc (.strs r.c)]
/-- A position is before another one. -/
def plt (x y : Ps) : Bool := strLt x.c y.c || (seq x.c y.c && strLt x.p y.p)
theorem seq_true {a b : ByteArray} : seq a b = true ↔ a = b := by unfold seq; exact decide_eq_true_iff
theorem plt_iff {x y : Ps} : plt x y = true ↔ strLt x.c y.c = true ∨ (x.c = y.c ∧ strLt x.p y.p = true) := by
  unfold plt
  rw [Bool.or_eq_true, Bool.and_eq_true, seq_true]
theorem plt_irrefl (x : Ps) : plt x x = false := by
  cases h : plt x x with
  | false => rfl
  | true =>
    rcases plt_iff.1 h with h | ⟨_, h⟩
    · rw [strLt_irrefl] at h; cases h
    · rw [strLt_irrefl] at h; cases h
theorem plt_trans {x y z : Ps} (h : plt x y = true) (k : plt y z = true) : plt x z = true := by
  rw [plt_iff] at *
  rcases h with h | ⟨h1, h2⟩
  · rcases k with k | ⟨k1, k2⟩
    · exact .inl (strLt_trans h k)
    · exact .inl (k1 ▸ h)
  · rcases k with k | ⟨k1, k2⟩
    · exact .inl (h1 ▸ k)
    · exact .inr ⟨h1.trans k1, strLt_trans h2 k2⟩
theorem plt_asymm {x y : Ps} (h : plt x y = true) : plt y x = false := by
  cases k : plt y x with
  | false => rfl
  | true =>
    have := plt_trans h k
    rw [plt_irrefl] at this; cases this
/-- Two positions of one place. -/
def same2 (x y : Ps) : Prop := x.p = y.p ∧ x.c = y.c
theorem plt_total {x y : Ps} (h : plt x y = false) (hne : ¬ same2 x y) : plt y x = true := by
  rw [plt_iff]
  by_cases hc : x.c = y.c
  · by_cases hp : x.p = y.p
    · exact absurd ⟨hp, hc⟩ hne
    · right
      refine ⟨hc.symm, ?_⟩
      cases k : strLt x.p y.p with
      | true => rw [plt_iff.2 (.inr ⟨hc, k⟩)] at h; cases h
      | false => exact strLt_total k hp
  · left
    cases k : strLt x.c y.c with
    | true => rw [plt_iff.2 (.inl k)] at h; cases h
    | false => exact strLt_total k hc
/-- Positions in strictly ascending order are told by their elements. -/
theorem asc_unique {l m : List Ps} (hp : l.Perm m) (hl : l.Pairwise (fun a b => plt a b = true)) (hm : m.Pairwise (fun a b => plt a b = true)) : l = m :=
  List.Perm.eq_of_pairwise (le := fun a b => plt a b = true) (fun a b _ _ h1 h2 => by rw [plt_asymm h1] at h2; cases h2) hl hm hp
/-- All places are different. -/
def Dist (l : List Ps) : Prop := l.Pairwise (fun a b => ¬ same2 a b)
theorem same2_symm {a b : Ps} (h : same2 a b) : same2 b a := ⟨h.1.symm, h.2.symm⟩
theorem dist_perm {l m : List Ps} (h : l.Perm m) (hl : Dist l) : Dist m := List.Perm.pairwise h hl (fun {a b} h k => h (same2_symm k))
theorem dist_asc {l : List Ps} (h : l.Pairwise (fun a b => plt a b = true)) : Dist l := by
  refine h.imp fun {a b} hab e => ?_
  rcases plt_iff.1 hab with k | ⟨_, k⟩
  · rw [e.2, strLt_irrefl] at k; cases k
  · rw [e.1, strLt_irrefl] at k; cases k
/-- The positions in their order. -/
def srt (l : List Ps) : List Ps := l.mergeSort (fun x y => !plt y x)
theorem srt_perm (l : List Ps) : (srt l).Perm l := List.mergeSort_perm l _
theorem nplt_trans {x y z : Ps} (h : plt y x = false) (k : plt z y = false) : plt z x = false := by
  cases e : plt z x with
  | false => rfl
  | true =>
    by_cases hs : same2 x y
    · have : plt z y = true := by
        rw [plt_iff] at e ⊢
        rw [← hs.1, ← hs.2]; exact e
      rw [this] at k; cases k
    · have := plt_trans e (plt_total h (fun q => hs (same2_symm q)))
      rw [this] at k; cases k
theorem srt_asc {l : List Ps} (hd : Dist l) : (srt l).Pairwise (fun a b => plt a b = true) := by
  have h1 := List.pairwise_mergeSort (le := fun x y : Ps => !plt y x) (fun a b c h k => by
    simp only [Bool.not_eq_true'] at *
    exact nplt_trans h k) (fun a b => by
    cases h : plt b a with
    | false => rfl
    | true => simp [plt_asymm h]) l
  have h2 : Dist (srt l) := dist_perm (srt_perm l).symm hd
  refine (h1.and h2).imp ?_
  rintro a b ⟨k1, k2⟩
  simp only [Bool.not_eq_true'] at k1
  exact plt_total k1 (fun q => k2 (same2_symm q))
theorem srt_of {l m : List Ps} (hp : m.Perm l) (hm : m.Pairwise (fun a b => plt a b = true)) : srt l = m :=
  asc_unique ((srt_perm l).trans hp.symm) (srt_asc (dist_perm hp (dist_asc hm))) hm
theorem srt_congr {l m : List Ps} (hp : l.Perm m) (hd : Dist l) : srt l = srt m := (srt_of ((srt_perm m).trans hp.symm) (srt_asc (dist_perm hp hd)))
end Go.Proofs.Ytmibjgblhaohiaa

/- Contracts of package netting and of its reference: names, amounts, places. -/
namespace Go.Proofs.Ytmibjgblhaohiaa
open Go.RowKit Go.Sy
attribute [local irreducible] vcall vloop vcallD retP
set_option maxRecDepth 100000
set_option linter.unusedVariables false
set_option linter.unusedSimpArgs false

theorem money_inTotal (n : Int) : Pure Try.prog 42 [.int .i64 n] (.bool (decide (-4503599627370496 ≤ n ∧ n ≤ 4503599627370496))) := by
  refine fc_of mixed T_ok Try.func42 rfl (by kernel_rfl) (by kernel_rfl) (by kernel_rfl) ?_
  repeat' ((conv => whnf); first | (refine br_dec (fun h => ?_) (fun h => ?_) <;> try (exfalso; (try dsimp only at h); omega)) | (refine br_ndec (fun h => ?_) (fun h => ?_) <;> try (exfalso; (try dsimp only at h); omega)) | refine br_seq (fun h => ?_) (fun h => ?_) | refine br_nseq (fun h => ?_) (fun h => ?_) | refine br_not (fun h => ?_) (fun h => ?_) | refine br_intro (fun h => ?_) (fun h => ?_) | refine cond_intro rfl ?_ | (refine cond_intro ⟨rfl, ?_⟩ ?_; (first | omega | (dsimp only; omega) | decide)) | (refine cond_intro ?_ ?_; (first | omega | (dsimp only; omega) | decide | (simp only [Nat.add_zero, Int.toNat_natCast, *]; omega))))
  all_goals (conv => whnf)
  · exact ret_pure (congrArg SV.bool (by rw [decide_eq_decide]; omega))
  · exact ret_pure (congrArg SV.bool (by rw [eq_comm, decide_eq_false_iff_not]; omega))
theorem ref01_within (n : Int) : Pure Try.prog 51 [.int .i64 n] (.bool (decide (-4503599627370496 ≤ n ∧ n ≤ 4503599627370496))) := by
  refine fc_of mixed T_ok Try.func51 rfl (by kernel_rfl) (by kernel_rfl) (by kernel_rfl) ?_
  repeat' ((conv => whnf); first | (refine br_dec (fun h => ?_) (fun h => ?_) <;> try (exfalso; (try dsimp only at h); omega)) | (refine br_ndec (fun h => ?_) (fun h => ?_) <;> try (exfalso; (try dsimp only at h); omega)) | refine br_seq (fun h => ?_) (fun h => ?_) | refine br_nseq (fun h => ?_) (fun h => ?_) | refine br_not (fun h => ?_) (fun h => ?_) | refine br_intro (fun h => ?_) (fun h => ?_) | refine cond_intro rfl ?_ | (refine cond_intro ⟨rfl, ?_⟩ ?_; (first | omega | (dsimp only; omega) | decide)) | (refine cond_intro ?_ ?_; (first | omega | (dsimp only; omega) | decide | (simp only [Nat.add_zero, Int.toNat_natCast, *]; omega))))
  all_goals (conv => whnf)
  · exact ret_pure (congrArg SV.bool (by rw [decide_eq_decide]; omega))
  · exact ret_pure (congrArg SV.bool (by rw [eq_comm, decide_eq_false_iff_not]; omega))
theorem net_within (n : Int) : Pure Try.prog 28 [.int .i64 n] (.bool (decide (-4503599627370496 ≤ n ∧ n ≤ 4503599627370496))) := by
  refine fc_of mixed T_ok Try.func28 rfl (by kernel_rfl) (by kernel_rfl) (by kernel_rfl) ?_
  repeat' ((conv => whnf); first | (refine br_dec (fun h => ?_) (fun h => ?_) <;> try (exfalso; (try dsimp only at h); omega)) | (refine br_ndec (fun h => ?_) (fun h => ?_) <;> try (exfalso; (try dsimp only at h); omega)) | refine br_seq (fun h => ?_) (fun h => ?_) | refine br_nseq (fun h => ?_) (fun h => ?_) | refine br_not (fun h => ?_) (fun h => ?_) | refine br_intro (fun h => ?_) (fun h => ?_) | refine cond_intro rfl ?_ | (refine cond_intro ⟨rfl, ?_⟩ ?_; (first | omega | (dsimp only; omega) | decide)) | (refine cond_intro ?_ ?_; (first | omega | (dsimp only; omega) | decide | (simp only [Nat.add_zero, Int.toNat_natCast, *]; omega))))
  all_goals (conv => whnf)
  · exact ret_pure (congrArg SV.bool (by rw [decide_eq_decide]; omega))
  · exact ret_pure (congrArg SV.bool (by rw [eq_comm, decide_eq_false_iff_not]; omega))
/-- The error of an amount. -/
def mchk (a : Int) (c : ByteArray) : Int := if curB c = false then 11 else if -4503599627370496 ≤ a ∧ a ≤ 4503599627370496 then 0 else 4
theorem mchk_or (a : Int) (c : ByteArray) : (mchk a c = 11 ∨ mchk a c = 4) ∨ (mchk a c = 0 ∧ curB c = true ∧ -4503599627370496 ≤ a ∧ a ≤ 4503599627370496) := by
  unfold mchk
  split
  · exact .inl (.inl rfl)
  · split
    · rename_i h1 h2
      exact .inr ⟨rfl, by cases h : curB c <;> simp_all, h2⟩
    · exact .inl (.inr rfl)
attribute [irreducible] mchk
theorem money_Check (a : Int) (c : ByteArray) : Pure Try.prog 27 [.agg [.int .i64 a, .str c]] (.int .i64 (mchk a c)) := by
  refine fc_of mixed T_ok Try.func27 rfl (by kernel_rfl) (by kernel_rfl) (by kernel_rfl) ?_
  repeat' ((conv => whnf); first | (refine vcall_pure (money_isCurrency _) rfl rfl rfl ?_) | (refine vcall_pure (money_inTotal _) rfl rfl rfl ?_) | (refine br_dec (fun h => ?_) (fun h => ?_) <;> try (exfalso; (try dsimp only at h); omega)) | (refine br_ndec (fun h => ?_) (fun h => ?_) <;> try (exfalso; (try dsimp only at h); omega)) | refine br_seq (fun h => ?_) (fun h => ?_) | refine br_nseq (fun h => ?_) (fun h => ?_) | refine br_not (fun h => ?_) (fun h => ?_) | refine br_intro (fun h => ?_) (fun h => ?_) | refine cond_intro rfl ?_ | (refine cond_intro ⟨rfl, ?_⟩ ?_; (first | omega | (dsimp only; omega) | decide)) | (refine cond_intro ?_ ?_; (first | omega | (dsimp only; omega) | decide | (simp only [Nat.add_zero, Int.toNat_natCast, *]; omega))))
  all_goals (conv => whnf)
  all_goals refine ret_pure (congrArg (SV.int .i64) ?_)
  all_goals unfold mchk
  all_goals simp_all
theorem ref01_Check (a : Int) (c : ByteArray) : Pure Try.prog 33 [.agg [.int .i64 a, .str c]] (.int .i64 (mchk a c)) := by
  refine fc_of mixed T_ok Try.func33 rfl (by kernel_rfl) (by kernel_rfl) (by kernel_rfl) ?_
  repeat' ((conv => whnf); first | (refine vcall_pure (ref01_IsCurrency _) rfl rfl rfl ?_) | (refine vcall_pure (ref01_within _) rfl rfl rfl ?_) | (refine br_dec (fun h => ?_) (fun h => ?_) <;> try (exfalso; (try dsimp only at h); omega)) | (refine br_ndec (fun h => ?_) (fun h => ?_) <;> try (exfalso; (try dsimp only at h); omega)) | refine br_seq (fun h => ?_) (fun h => ?_) | refine br_nseq (fun h => ?_) (fun h => ?_) | refine br_not (fun h => ?_) (fun h => ?_) | refine br_intro (fun h => ?_) (fun h => ?_) | refine cond_intro rfl ?_ | (refine cond_intro ⟨rfl, ?_⟩ ?_; (first | omega | (dsimp only; omega) | decide)) | (refine cond_intro ?_ ?_; (first | omega | (dsimp only; omega) | decide | (simp only [Nat.add_zero, Int.toNat_natCast, *]; omega))))
  all_goals (conv => whnf)
  all_goals refine ret_pure (congrArg (SV.int .i64) ?_)
  all_goals unfold mchk
  all_goals simp_all
/-- A byte that may stand in a name. -/
def nmOk (first : Bool) (b : Int) : Bool := decide (97 ≤ b ∧ b ≤ 122 ∨ 65 ≤ b ∧ b ≤ 90) || (!first && decide (b = 95 ∨ 48 ≤ b ∧ b ≤ 57))
def nmTo (s : ByteArray) : Nat → Bool
  | 0 => true
  | k + 1 => nmTo s k && nmOk (decide (k = 0)) (byteAt s (k : Int))
/-- A name. -/
def nmB (s : ByteArray) : Bool := decide (1 ≤ s.size ∧ s.size ≤ 16) && nmTo s s.size
theorem nmTo_false {s : ByteArray} {k : Nat} (h : nmOk (decide (k = 0)) (byteAt s (k : Int)) = false) : ∀ n, k < n → nmTo s n = false
  | 0, hh => by omega
  | n + 1, hh => by
    simp only [nmTo]
    by_cases e : k = n
    · subst e; rw [h, Bool.and_false]
    · rw [nmTo_false h n (by omega), Bool.false_and]
theorem nmTo_of {s : ByteArray} : ∀ {n : Nat}, nmTo s n = true → ∀ k, k < n → nmOk (decide (k = 0)) (byteAt s (k : Int)) = true
  | 0, _, k, hk => by omega
  | n + 1, h, k, hk => by
    simp only [nmTo, Bool.and_eq_true] at h
    by_cases e : k = n
    · subst e; exact h.2
    · exact nmTo_of h.1 k (by omega)
theorem nmB_no {s : ByteArray} {k : Nat} (hk : k < s.size) (h : nmOk (decide (k = 0)) (byteAt s (k : Int)) = false) : nmB s = false := by
  unfold nmB; rw [nmTo_false h _ hk, Bool.and_false]
theorem nmOk_iff {f : Bool} {b : Int} : nmOk f b = true ↔ (97 ≤ b ∧ b ≤ 122 ∨ 65 ≤ b ∧ b ≤ 90) ∨ (f = false ∧ (b = 95 ∨ 48 ≤ b ∧ b ≤ 57)) := by
  unfold nmOk
  rw [Bool.or_eq_true, Bool.and_eq_true, decide_eq_true_eq, decide_eq_true_eq, Bool.not_eq_true']
theorem nmOk_no {f : Bool} {b : Int} (h1 : ¬ (97 ≤ b ∧ b ≤ 122 ∨ 65 ≤ b ∧ b ≤ 90)) (h2 : f = true ∨ ¬ (b = 95 ∨ 48 ≤ b ∧ b ≤ 57)) : nmOk f b = false := by
  cases h : nmOk f b with
  | false => rfl
  | true =>
    rcases nmOk_iff.1 h with h | ⟨h3, h4⟩
    · exact absurd h h1
    · rcases h2 with h2 | h2
      · rw [h2] at h3; cases h3
      · exact absurd h4 h2
attribute [irreducible] nmB nmOk

theorem net_isName (s : ByteArray) : Pure Try.prog 26 [.str s] (.bool (nmB s)) := by
  refine fc_of mixed T_ok Try.func26 rfl (by kernel_rfl) (by kernel_rfl) (by kernel_rfl) ?_
  repeat' ((conv => whnf); first | (refine br_dec (fun h => ?_) (fun h => ?_) <;> try (exfalso; (try dsimp only at h); omega)) | (refine br_ndec (fun h => ?_) (fun h => ?_) <;> try (exfalso; (try dsimp only at h); omega)) | refine br_seq (fun h => ?_) (fun h => ?_) | refine br_nseq (fun h => ?_) (fun h => ?_) | refine br_not (fun h => ?_) (fun h => ?_) | refine br_intro (fun h => ?_) (fun h => ?_) | refine cond_intro rfl ?_ | (refine cond_intro ⟨rfl, ?_⟩ ?_; (first | omega | (dsimp only; omega) | decide)) | (refine cond_intro ?_ ?_; (first | omega | (dsimp only; omega) | decide | (simp only [Nat.add_zero, Int.toNat_natCast, *]; omega))))
  all_goals (conv => whnf)
  · exact ret_pure (congrArg SV.bool (by unfold nmB; rw [decide_eq_false (by omega), Bool.false_and]))
  · exact ret_pure (congrArg SV.bool (by unfold nmB; rw [decide_eq_false (by omega), Bool.false_and]))
  refine vloop_of (fun k : Nat => ⟨[(0, .str s), (15, .int .i64 s.size), (16, .int .i64 k)], [], 1⟩) (fun k => k ≤ s.size ∧ nmTo s k = true) (fun k => s.size - k) 0 [0] [] ⟨rfl, ⟨rfl, rfl, rfl, trivial⟩, trivial⟩ ⟨by omega, rfl⟩ ?_
  rintro k ⟨hk, hc⟩
  have hb := byteAt_bd s (k : Int)
  by_cases hk2 : k < s.size
  · cases ho : nmOk (decide (k = 0)) (byteAt s (k : Int)) with
    | true =>
      have hst : nmTo s (k + 1) = true := by simp only [nmTo, hc, ho]; rfl
      have hoi := nmOk_iff.1 ho
      rw [decide_eq_false_iff_not] at hoi
      repeat' ((conv => whnf); first | (refine br_dec (fun h => ?_) (fun h => ?_) <;> try (exfalso; (try dsimp only at h); omega)) | (refine br_ndec (fun h => ?_) (fun h => ?_) <;> try (exfalso; (try dsimp only at h); omega)) | refine br_seq (fun h => ?_) (fun h => ?_) | refine br_nseq (fun h => ?_) (fun h => ?_) | refine br_not (fun h => ?_) (fun h => ?_) | refine br_intro (fun h => ?_) (fun h => ?_) | refine cond_intro rfl ?_ | (refine cond_intro ⟨rfl, ?_⟩ ?_; (first | omega | (dsimp only; omega) | decide)) | (refine cond_intro ?_ ?_; (first | omega | (dsimp only; omega) | decide | (simp only [Nat.add_zero, Int.toNat_natCast, *]; omega))))
      all_goals (conv => whnf)
      all_goals first
        | exact ⟨k + 1, [0], [], ⟨by omega, hst⟩, by omega, ⟨rfl, ⟨rfl, rfl, congrArg (fun z => some (SV.int .i64 z)) (i64_succ (by omega)), trivial⟩, trivial⟩⟩
        | (exfalso; omega)
        | trace_state
    | false =>
      rw [nmB_no hk2 ho]
      have hoi : ¬ ((97 ≤ byteAt s (k : Int) ∧ byteAt s (k : Int) ≤ 122 ∨ 65 ≤ byteAt s (k : Int) ∧ byteAt s (k : Int) ≤ 90) ∨ (decide (k = 0) = false ∧ (byteAt s (k : Int) = 95 ∨ 48 ≤ byteAt s (k : Int) ∧ byteAt s (k : Int) ≤ 57))) := fun h => by rw [nmOk_iff.2 h] at ho; cases ho
      rw [decide_eq_false_iff_not] at hoi
      repeat' ((conv => whnf); first | (refine br_dec (fun h => ?_) (fun h => ?_) <;> try (exfalso; (try dsimp only at h); omega)) | (refine br_ndec (fun h => ?_) (fun h => ?_) <;> try (exfalso; (try dsimp only at h); omega)) | refine br_seq (fun h => ?_) (fun h => ?_) | refine br_nseq (fun h => ?_) (fun h => ?_) | refine br_not (fun h => ?_) (fun h => ?_) | refine br_intro (fun h => ?_) (fun h => ?_) | refine cond_intro rfl ?_ | (refine cond_intro ⟨rfl, ?_⟩ ?_; (first | omega | (dsimp only; omega) | decide)) | (refine cond_intro ?_ ?_; (first | omega | (dsimp only; omega) | decide | (simp only [Nat.add_zero, Int.toNat_natCast, *]; omega))))
      all_goals (conv => whnf)
      all_goals first
        | exact ret_pure rfl
        | (exfalso; omega)
        | trace_state
  · have e : k = s.size := by omega
    subst e
    have : nmB s = true := by unfold nmB; rw [hc, decide_eq_true (by omega)]; rfl
    rw [this]
    repeat' ((conv => whnf); first | (refine br_dec (fun h => ?_) (fun h => ?_) <;> try (exfalso; (try dsimp only at h); omega)) | (refine br_ndec (fun h => ?_) (fun h => ?_) <;> try (exfalso; (try dsimp only at h); omega)) | refine br_seq (fun h => ?_) (fun h => ?_) | refine br_nseq (fun h => ?_) (fun h => ?_) | refine br_not (fun h => ?_) (fun h => ?_) | refine br_intro (fun h => ?_) (fun h => ?_) | refine cond_intro rfl ?_ | (refine cond_intro ⟨rfl, ?_⟩ ?_; (first | omega | (dsimp only; omega) | decide)) | (refine cond_intro ?_ ?_; (first | omega | (dsimp only; omega) | decide | (simp only [Nat.add_zero, Int.toNat_natCast, *]; omega))))
    all_goals (conv => whnf)
    all_goals first
      | exact ret_pure rfl
      | (exfalso; omega)
theorem r08_letter (b : Int) : Pure Try.prog 48 [.int .u8 b] (.bool (decide (97 ≤ b ∧ b ≤ 122 ∨ 65 ≤ b ∧ b ≤ 90))) := by
  refine fc_of mixed T_ok Try.func48 rfl (by kernel_rfl) (by kernel_rfl) (by kernel_rfl) ?_
  repeat' ((conv => whnf); first | (refine br_dec (fun h => ?_) (fun h => ?_) <;> try (exfalso; (try dsimp only at h); omega)) | (refine br_ndec (fun h => ?_) (fun h => ?_) <;> try (exfalso; (try dsimp only at h); omega)) | refine br_seq (fun h => ?_) (fun h => ?_) | refine br_nseq (fun h => ?_) (fun h => ?_) | refine br_not (fun h => ?_) (fun h => ?_) | refine br_intro (fun h => ?_) (fun h => ?_) | refine cond_intro rfl ?_ | (refine cond_intro ⟨rfl, ?_⟩ ?_; (first | omega | (dsimp only; omega) | decide)) | (refine cond_intro ?_ ?_; (first | omega | (dsimp only; omega) | decide | (simp only [Nat.add_zero, Int.toNat_natCast, *]; omega))))
  all_goals (conv => whnf)
  all_goals first
    | exact ret_pure (congrArg SV.bool (by rw [decide_eq_decide]; omega))
    | exact ret_pure (congrArg SV.bool (by rw [decide_eq_true (by omega)]))
    | exact ret_pure (congrArg SV.bool (by rw [decide_eq_false (by omega)]))
theorem r08_digit (b : Int) : Pure Try.prog 65 [.int .u8 b] (.bool (decide (48 ≤ b ∧ b ≤ 57))) := by
  refine fc_of mixed T_ok Try.func65 rfl (by kernel_rfl) (by kernel_rfl) (by kernel_rfl) ?_
  repeat' ((conv => whnf); first | (refine br_dec (fun h => ?_) (fun h => ?_) <;> try (exfalso; (try dsimp only at h); omega)) | (refine br_ndec (fun h => ?_) (fun h => ?_) <;> try (exfalso; (try dsimp only at h); omega)) | refine br_seq (fun h => ?_) (fun h => ?_) | refine br_nseq (fun h => ?_) (fun h => ?_) | refine br_not (fun h => ?_) (fun h => ?_) | refine br_intro (fun h => ?_) (fun h => ?_) | refine cond_intro rfl ?_ | (refine cond_intro ⟨rfl, ?_⟩ ?_; (first | omega | (dsimp only; omega) | decide)) | (refine cond_intro ?_ ?_; (first | omega | (dsimp only; omega) | decide | (simp only [Nat.add_zero, Int.toNat_natCast, *]; omega))))
  all_goals (conv => whnf)
  all_goals first
    | exact ret_pure (congrArg SV.bool (by rw [decide_eq_decide]; omega))
    | exact ret_pure (congrArg SV.bool (by rw [decide_eq_true (by omega)]))
    | exact ret_pure (congrArg SV.bool (by rw [decide_eq_false (by omega)]))
/-- The end of the word that begins a text: n bytes are looked at. -/
def wdE (s : ByteArray) : Nat → Nat
  | 0 => 0
  | k + 1 => if wdE s k = k ∧ nmOk false (byteAt s (k : Int)) = true then k + 1 else wdE s k
theorem wdE_le (s : ByteArray) : ∀ n, wdE s n ≤ n
  | 0 => Nat.le_refl _
  | n + 1 => by
    have := wdE_le s n
    simp only [wdE]; split <;> omega
theorem wdE_stop {s : ByteArray} {k : Nat} (h : wdE s k = k) (ho : nmOk false (byteAt s (k : Int)) = false) : ∀ n, k ≤ n → wdE s n = k
  | 0, hh => by have : k = 0 := by omega
                subst this; rfl
  | n + 1, hh => by
    by_cases e : k = n + 1
    · rw [← e]; exact h
    · have ih := wdE_stop h ho n (by omega)
      simp only [wdE, ih]
      by_cases e2 : k = n
      · subst e2; rw [if_neg (by rw [ho]; simp)]
      · rw [if_neg (by omega)]
theorem r08_word (s : ByteArray) (hs : s.size ≤ 100000) : Pure Try.prog 49 [.str s, .int .i64 0] (.int .i64 (wdE s s.size : Nat)) := by
  refine fc_of mixed T_ok Try.func49 rfl (by kernel_rfl) (by kernel_rfl) (by kernel_rfl) ?_
  repeat' ((conv => whnf); first | (refine br_dec (fun h => ?_) (fun h => ?_) <;> try (exfalso; (try dsimp only at h); omega)) | (refine br_ndec (fun h => ?_) (fun h => ?_) <;> try (exfalso; (try dsimp only at h); omega)) | refine br_seq (fun h => ?_) (fun h => ?_) | refine br_nseq (fun h => ?_) (fun h => ?_) | refine br_not (fun h => ?_) (fun h => ?_) | refine br_intro (fun h => ?_) (fun h => ?_) | refine cond_intro rfl ?_ | (refine cond_intro ⟨rfl, ?_⟩ ?_; (first | omega | (dsimp only; omega) | decide)) | (refine cond_intro ?_ ?_; (first | omega | (dsimp only; omega) | decide | (simp only [Nat.add_zero, Int.toNat_natCast, *]; omega))))
  all_goals (conv => whnf)
  refine vloop_of (fun k : Nat => ⟨[(0, .str s), (1, .int .i64 k)], [], 1⟩) (fun k => k ≤ s.size ∧ wdE s k = k) (fun k => s.size - k) 0 [0] [] ⟨rfl, ⟨rfl, rfl, trivial⟩, trivial⟩ ⟨by omega, rfl⟩ ?_
  rintro k ⟨hk, hc⟩
  have hb := byteAt_bd s (k : Int)
  have c1 := r08_letter (byteAt s (k : Int))
  have c2 := r08_digit (byteAt s (k : Int))
  by_cases hk2 : k < s.size
  · cases ho : nmOk false (byteAt s (k : Int)) with
    | true =>
      have hst : wdE s (k + 1) = k + 1 := by simp only [wdE]; rw [if_pos ⟨hc, ho⟩]
      have hoi := nmOk_iff.1 ho
      repeat' ((conv => whnf); first | (refine vcall_pure (c1) rfl rfl rfl ?_) | (refine vcallD_pure (c1) rfl rfl rfl ?_) | (refine vcall_pure (c2) rfl rfl rfl ?_) | (refine vcallD_pure (c2) rfl rfl rfl ?_) | (refine br_dec (fun h => ?_) (fun h => ?_) <;> try (exfalso; (try dsimp only at h); omega)) | (refine br_ndec (fun h => ?_) (fun h => ?_) <;> try (exfalso; (try dsimp only at h); omega)) | refine br_seq (fun h => ?_) (fun h => ?_) | refine br_nseq (fun h => ?_) (fun h => ?_) | refine br_not (fun h => ?_) (fun h => ?_) | refine br_intro (fun h => ?_) (fun h => ?_) | refine cond_intro rfl ?_ | (refine cond_intro ⟨rfl, ?_⟩ ?_; (first | omega | (dsimp only; omega) | decide)) | (refine cond_intro ?_ ?_; (first | omega | (dsimp only; omega) | decide | (simp only [Nat.add_zero, Int.toNat_natCast, *]; omega))))
      all_goals (conv => whnf)
      all_goals first
        | exact ⟨k + 1, [0], [], ⟨by omega, hst⟩, by omega, ⟨rfl, ⟨rfl, congrArg (fun z => some (SV.int .i64 z)) (i64_succ (by omega)), trivial⟩, trivial⟩⟩
        | (exfalso; omega)
        | trace_state
    | false =>
      rw [wdE_stop hc ho s.size hk]
      have hoi : ¬ ((97 ≤ byteAt s (k : Int) ∧ byteAt s (k : Int) ≤ 122 ∨ 65 ≤ byteAt s (k : Int) ∧ byteAt s (k : Int) ≤ 90) ∨ (byteAt s (k : Int) = 95 ∨ 48 ≤ byteAt s (k : Int) ∧ byteAt s (k : Int) ≤ 57)) := fun h => by rw [nmOk_iff.2 (h.elim .inl (fun x => .inr ⟨rfl, x⟩))] at ho; cases ho
      repeat' ((conv => whnf); first | (refine vcall_pure (c1) rfl rfl rfl ?_) | (refine vcallD_pure (c1) rfl rfl rfl ?_) | (refine vcall_pure (c2) rfl rfl rfl ?_) | (refine vcallD_pure (c2) rfl rfl rfl ?_) | (refine br_dec (fun h => ?_) (fun h => ?_) <;> try (exfalso; (try dsimp only at h); omega)) | (refine br_ndec (fun h => ?_) (fun h => ?_) <;> try (exfalso; (try dsimp only at h); omega)) | refine br_seq (fun h => ?_) (fun h => ?_) | refine br_nseq (fun h => ?_) (fun h => ?_) | refine br_not (fun h => ?_) (fun h => ?_) | refine br_intro (fun h => ?_) (fun h => ?_) | refine cond_intro rfl ?_ | (refine cond_intro ⟨rfl, ?_⟩ ?_; (first | omega | (dsimp only; omega) | decide)) | (refine cond_intro ?_ ?_; (first | omega | (dsimp only; omega) | decide | (simp only [Nat.add_zero, Int.toNat_natCast, *]; omega))))
      all_goals (conv => whnf)
      all_goals first
        | exact ret_pure rfl
        | (exfalso; omega)
        | trace_state
  · have e : k = s.size := by omega
    subst e
    rw [hc]
    repeat' ((conv => whnf); first | (refine vcall_pure (c1) rfl rfl rfl ?_) | (refine vcallD_pure (c1) rfl rfl rfl ?_) | (refine vcall_pure (c2) rfl rfl rfl ?_) | (refine vcallD_pure (c2) rfl rfl rfl ?_) | (refine br_dec (fun h => ?_) (fun h => ?_) <;> try (exfalso; (try dsimp only at h); omega)) | (refine br_ndec (fun h => ?_) (fun h => ?_) <;> try (exfalso; (try dsimp only at h); omega)) | refine br_seq (fun h => ?_) (fun h => ?_) | refine br_nseq (fun h => ?_) (fun h => ?_) | refine br_not (fun h => ?_) (fun h => ?_) | refine br_intro (fun h => ?_) (fun h => ?_) | refine cond_intro rfl ?_ | (refine cond_intro ⟨rfl, ?_⟩ ?_; (first | omega | (dsimp only; omega) | decide)) | (refine cond_intro ?_ ?_; (first | omega | (dsimp only; omega) | decide | (simp only [Nat.add_zero, Int.toNat_natCast, *]; omega))))
    all_goals (conv => whnf)
    all_goals first
      | exact ret_pure rfl
      | (exfalso; omega)
theorem nmB_word (s : ByteArray) (h1 : 1 ≤ s.size) (h16 : s.size ≤ 16) : nmB s = (decide (97 ≤ byteAt s 0 ∧ byteAt s 0 ≤ 122 ∨ 65 ≤ byteAt s 0 ∧ byteAt s 0 ≤ 90) && decide (wdE s s.size = s.size)) := by
  have key : ∀ n, 1 ≤ n → nmTo s n = (decide (97 ≤ byteAt s 0 ∧ byteAt s 0 ≤ 122 ∨ 65 ≤ byteAt s 0 ∧ byteAt s 0 ≤ 90) && decide (wdE s n = n)) := by
    intro n hn
    induction n with
    | zero => omega
    | succ n ih =>
      by_cases h0 : n = 0
      · subst h0
        simp only [nmTo, wdE, Bool.true_and, true_and]
        rw [Bool.eq_iff_iff, nmOk_iff, Bool.and_eq_true, decide_eq_true_eq, decide_eq_true_eq]
        simp only [decide_true, Bool.true_eq_false, false_and, or_false]
        constructor
        · intro h
          refine ⟨h, ?_⟩
          rw [if_pos (nmOk_iff.2 (.inl h))]
        · exact fun h => h.1
      · have e := ih (by omega)
        have hle := wdE_le s n
        have hw1 : wdE s (n + 1) = if wdE s n = n ∧ nmOk false (byteAt s (n : Int)) = true then n + 1 else wdE s n := rfl
        have hn1 : nmTo s (n + 1) = (nmTo s n && nmOk (decide (n = 0)) (byteAt s (n : Int))) := rfl
        rw [Bool.eq_iff_iff, hn1, e, decide_eq_false h0]
        simp only [Bool.and_eq_true, decide_eq_true_eq]
        rw [hw1]
        constructor
        · rintro ⟨⟨a1, a2⟩, a3⟩
          exact ⟨a1, by rw [if_pos ⟨a2, a3⟩]⟩
        · rintro ⟨a1, a2⟩
          split at a2
          · rename_i h; exact ⟨⟨a1, h.1⟩, h.2⟩
          · omega
  unfold nmB
  rw [decide_eq_true ⟨h1, h16⟩, Bool.true_and]
  exact key _ h1
theorem r08_IsName (s : ByteArray) (hs : s.size ≤ 100000) : Pure Try.prog 32 [.str s] (.bool (nmB s)) := by
  have c1 := r08_letter (byteAt s 0)
  have c2 := r08_word s hs
  have hz : s = ⟨#[]⟩ ↔ s.size = 0 := ⟨fun h => by rw [h]; rfl, fun h => by
    have : s.data = #[] := Array.eq_empty_of_size_eq_zero h
    cases s; simp_all⟩
  by_cases h0 : s.size = 0
  · have e : nmB s = false := by unfold nmB; rw [decide_eq_false (by omega), Bool.false_and]
    rw [e]
    have hz' := hz.2 h0
    refine fc_of mixed T_ok Try.func32 rfl (by kernel_rfl) (by kernel_rfl) (by kernel_rfl) ?_
    repeat' ((conv => whnf); first | (refine vcall_pure (c1) rfl rfl rfl ?_) | (refine vcallD_pure (c1) rfl rfl rfl ?_) | (refine vcall_pure (c2) rfl rfl rfl ?_) | (refine vcallD_pure (c2) rfl rfl rfl ?_) | (refine br_dec (fun h => ?_) (fun h => ?_) <;> try (exfalso; (try dsimp only at h); omega)) | (refine br_ndec (fun h => ?_) (fun h => ?_) <;> try (exfalso; (try dsimp only at h); omega)) | refine br_seq (fun h => ?_) (fun h => ?_) | refine br_nseq (fun h => ?_) (fun h => ?_) | refine br_not (fun h => ?_) (fun h => ?_) | refine br_intro (fun h => ?_) (fun h => ?_) | refine cond_intro rfl ?_ | (refine cond_intro ⟨rfl, ?_⟩ ?_; (first | omega | (dsimp only; omega) | decide)) | (refine cond_intro ?_ ?_; (first | omega | (dsimp only; omega) | decide | (simp only [Nat.add_zero, Int.toNat_natCast, *]; omega))))
    all_goals (conv => whnf)
    all_goals first
      | exact ret_pure rfl
      | (exfalso; first | omega | contradiction)
      | trace_state
  · have hz' : ¬ s = ⟨#[]⟩ := fun h => h0 (hz.1 h)
    by_cases h16 : s.size ≤ 16
    · rw [nmB_word s (by omega) h16]
      generalize wdE s s.size = wd at *
      generalize hl : decide (97 ≤ byteAt s 0 ∧ byteAt s 0 ≤ 122 ∨ 65 ≤ byteAt s 0 ∧ byteAt s 0 ≤ 90) = lb at *
      cases lb with
      | true =>
        refine fc_of mixed T_ok Try.func32 rfl (by kernel_rfl) (by kernel_rfl) (by kernel_rfl) ?_
        repeat' ((conv => whnf); first | (refine vcall_pure (c1) rfl rfl rfl ?_) | (refine vcallD_pure (c1) rfl rfl rfl ?_) | (refine vcall_pure (c2) rfl rfl rfl ?_) | (refine vcallD_pure (c2) rfl rfl rfl ?_) | (refine br_dec (fun h => ?_) (fun h => ?_) <;> try (exfalso; (try dsimp only at h); omega)) | (refine br_ndec (fun h => ?_) (fun h => ?_) <;> try (exfalso; (try dsimp only at h); omega)) | refine br_seq (fun h => ?_) (fun h => ?_) | refine br_nseq (fun h => ?_) (fun h => ?_) | refine br_not (fun h => ?_) (fun h => ?_) | refine br_intro (fun h => ?_) (fun h => ?_) | refine cond_intro rfl ?_ | (refine cond_intro ⟨rfl, ?_⟩ ?_; (first | omega | (dsimp only; omega) | decide)) | (refine cond_intro ?_ ?_; (first | omega | (dsimp only; omega) | decide | (simp only [Nat.add_zero, Int.toNat_natCast, *]; omega))))
        all_goals (conv => whnf)
        all_goals first
          | (exfalso; first | omega | contradiction)
          | exact ret_pure (congrArg SV.bool (by rw [Bool.true_and, decide_eq_true (by omega)]))
          | exact ret_pure (congrArg SV.bool (by rw [Bool.true_and, decide_eq_false (by omega)]))
          | exact ret_pure (congrArg SV.bool (by rw [Bool.true_and]; exact decide_eq_decide.2 (by omega)))
          | trace_state
      | false =>
        refine fc_of mixed T_ok Try.func32 rfl (by kernel_rfl) (by kernel_rfl) (by kernel_rfl) ?_
        repeat' ((conv => whnf); first | (refine vcall_pure (c1) rfl rfl rfl ?_) | (refine vcallD_pure (c1) rfl rfl rfl ?_) | (refine vcall_pure (c2) rfl rfl rfl ?_) | (refine vcallD_pure (c2) rfl rfl rfl ?_) | (refine br_dec (fun h => ?_) (fun h => ?_) <;> try (exfalso; (try dsimp only at h); omega)) | (refine br_ndec (fun h => ?_) (fun h => ?_) <;> try (exfalso; (try dsimp only at h); omega)) | refine br_seq (fun h => ?_) (fun h => ?_) | refine br_nseq (fun h => ?_) (fun h => ?_) | refine br_not (fun h => ?_) (fun h => ?_) | refine br_intro (fun h => ?_) (fun h => ?_) | refine cond_intro rfl ?_ | (refine cond_intro ⟨rfl, ?_⟩ ?_; (first | omega | (dsimp only; omega) | decide)) | (refine cond_intro ?_ ?_; (first | omega | (dsimp only; omega) | decide | (simp only [Nat.add_zero, Int.toNat_natCast, *]; omega))))
        all_goals (conv => whnf)
        all_goals first
          | (exfalso; first | omega | contradiction)
          | exact ret_pure rfl
          | trace_state
    · have e : nmB s = false := by unfold nmB; rw [decide_eq_false (by omega), Bool.false_and]
      rw [e]
      refine fc_of mixed T_ok Try.func32 rfl (by kernel_rfl) (by kernel_rfl) (by kernel_rfl) ?_
      repeat' ((conv => whnf); first | (refine vcall_pure (c1) rfl rfl rfl ?_) | (refine vcallD_pure (c1) rfl rfl rfl ?_) | (refine vcall_pure (c2) rfl rfl rfl ?_) | (refine vcallD_pure (c2) rfl rfl rfl ?_) | (refine br_dec (fun h => ?_) (fun h => ?_) <;> try (exfalso; (try dsimp only at h); omega)) | (refine br_ndec (fun h => ?_) (fun h => ?_) <;> try (exfalso; (try dsimp only at h); omega)) | refine br_seq (fun h => ?_) (fun h => ?_) | refine br_nseq (fun h => ?_) (fun h => ?_) | refine br_not (fun h => ?_) (fun h => ?_) | refine br_intro (fun h => ?_) (fun h => ?_) | refine cond_intro rfl ?_ | (refine cond_intro ⟨rfl, ?_⟩ ?_; (first | omega | (dsimp only; omega) | decide)) | (refine cond_intro ?_ ?_; (first | omega | (dsimp only; omega) | decide | (simp only [Nat.add_zero, Int.toNat_natCast, *]; omega))))
      all_goals (conv => whnf)
      all_goals first
        | exact ret_pure rfl
        | (exfalso; first | omega | contradiction)
        | trace_state
theorem net_placeOf (p : ByteArray) (a : Int) (c : ByteArray) : Pure Try.prog 25 [.agg [.str p, .int .i64 a, .str c]] (.agg [.str c, .str p]) := by
  refine fc_of mixed T_ok Try.func25 rfl (by kernel_rfl) (by kernel_rfl) (by kernel_rfl) ?_
  repeat' ((conv => whnf); first | (refine br_dec (fun h => ?_) (fun h => ?_) <;> try (exfalso; (try dsimp only at h); omega)) | (refine br_ndec (fun h => ?_) (fun h => ?_) <;> try (exfalso; (try dsimp only at h); omega)) | refine br_seq (fun h => ?_) (fun h => ?_) | refine br_nseq (fun h => ?_) (fun h => ?_) | refine br_not (fun h => ?_) (fun h => ?_) | refine br_intro (fun h => ?_) (fun h => ?_) | refine cond_intro rfl ?_ | (refine cond_intro ⟨rfl, ?_⟩ ?_; (first | omega | (dsimp only; omega) | decide)) | (refine cond_intro ?_ ?_; (first | omega | (dsimp only; omega) | decide | (simp only [Nat.add_zero, Int.toNat_natCast, *]; omega))))
  all_goals (conv => whnf)
  all_goals exact ret_pure rfl
theorem r41_less (x y : Ps) : Pure Try.prog 52 [.agg [.str x.p, .int .i64 x.a, .str x.c], .agg [.str y.p, .int .i64 y.a, .str y.c]] (.bool (plt x y)) := by
  refine fc_of mixed T_ok Try.func52 rfl (by kernel_rfl) (by kernel_rfl) (by kernel_rfl) ?_
  repeat' ((conv => whnf); first | (refine br_dec (fun h => ?_) (fun h => ?_) <;> try (exfalso; (try dsimp only at h); omega)) | (refine br_ndec (fun h => ?_) (fun h => ?_) <;> try (exfalso; (try dsimp only at h); omega)) | refine br_seq (fun h => ?_) (fun h => ?_) | refine br_nseq (fun h => ?_) (fun h => ?_) | refine br_not (fun h => ?_) (fun h => ?_) | refine br_intro (fun h => ?_) (fun h => ?_) | refine cond_intro rfl ?_ | (refine cond_intro ⟨rfl, ?_⟩ ?_; (first | omega | (dsimp only; omega) | decide)) | (refine cond_intro ?_ ?_; (first | omega | (dsimp only; omega) | decide | (simp only [Nat.add_zero, Int.toNat_natCast, *]; omega))))
  all_goals (conv => whnf)
  all_goals first
    | exact ret_pure (congrArg SV.bool (by unfold plt; rw [show seq x.c y.c = false from decide_eq_false h]; simp))
    | exact ret_pure (congrArg SV.bool (by unfold plt; rw [h, strLt_irrefl, show seq y.c y.c = true from decide_eq_true rfl]; simp))
    | trace_state
end Go.Proofs.Ytmibjgblhaohiaa

/- How places are compared: the kit's own walk (the contract of its sort asks what a call leaves behind to the last draw). -/
namespace Go.Proofs.Ytmibjgblhaohiaa
open Go.RowKit Go.Sy Go.Lib Go.Sort Go.Proofs
set_option linter.unusedVariables false
set_option linter.unusedSimpArgs false

/-- How two texts are ordered. -/
def cmpB (x y : ByteArray) : Int := if strLt x y = true then -1 else if strLt y x = true then 1 else 0
theorem k_isNaN (x : ByteArray) (w : World) : Calls Try.prog 64 #[.string x] w fun e w' => e = .returned (.bool false) ∧ w' = w := by
  go_enter Try.func64, Try.ntmps64
  go_wp2
  go_ret
  exact ⟨by simp, rfl⟩
theorem k_Compare (x y : ByteArray) (w : World) : Calls Try.prog 46 #[.string x, .string y] w fun e w' => e = .returned (.int .i64 (cmpB x y)) ∧ w' = w := by
  have hcm : (!Op.bytesLess x.toList y.toList && !x.toList == y.toList) = (!strLt x y && strLt y x) := by
    rw [beq_toList_eq]
    change (!strLt x y && !seq x y) = _
    cases h : strLt x y with
    | true => rfl
    | false =>
      by_cases e : x = y
      · subst e; rw [show seq x x = true from decide_eq_true rfl, strLt_irrefl]; rfl
      · rw [show seq x y = false from decide_eq_false e, strLt_total h e]; rfl
  have hg : ∀ w, (binOp .gtr 9 (.string x) (.string y)).run Try.prog w = .ok (.bool (!strLt x y && strLt y x)) w := fun w => by rw [← hcm]; simp [binOp, Op.stringOp]
  have hl : Op.bytesLess x.toList y.toList = strLt x y := rfl
  go_enter Try.func46, Try.ntmps46
  go_wp2_with (go_at_call 64; refine (k_isNaN _ _).mono ?_; rintro e w' ⟨rfl, hw⟩; rw [hw])
  all_goals first
    | (go_ret; refine ⟨?_, rfl⟩; unfold cmpB; simp_all; done)
    | trace_state
theorem k_Or (b : Nat) (c : Nat) (x y : Int) (w : World) (h0 : w.cell? ⟨b, 0, none⟩ = some (.int .i64 x)) (h1 : w.cell? ⟨b, 1, none⟩ = some (.int .i64 y)) : Calls Try.prog 45 #[.slice (some ⟨b, 0, none⟩) 2 c] w fun e w' => e = .returned (.int .i64 (if x = 0 then y else x)) ∧ w' = w := by
  go_enter Try.func45, Try.ntmps45
  go_wp2
  go_loop [8] (fun i => ∃ k : Nat, k ≤ 2 ∧ i = .int .i64 k ∧ (0 < k → x = 0) ∧ (1 < k → y = 0)) (fun i => 2 - (intOf i).toNat)
  case atStart => exact ⟨0, by omega, rfl, by omega, by omega⟩
  case round =>
    obtain ⟨k, hk, rfl, k1, k2⟩ := hrel
    have hk3 : k = 0 ∨ k = 1 ∨ k = 2 := by omega
    rcases hk3 with rfl | rfl | rfl
    all_goals
      go_wp2
      all_goals first
        | (go_ret; refine ⟨?_, rfl⟩; simp_all; done)
        | (refine ⟨⟨1, by omega, rfl, fun _ => by simp_all, by omega⟩, by simp [intOf]⟩; done)
        | (refine ⟨⟨2, by omega, rfl, fun _ => k1 (by omega), fun _ => by simp_all⟩, by simp [intOf]⟩; done)
        | trace_state
theorem two_at (w : World) (o1 o2 : Obj) : ((w.alloc o1).alloc o2).drew.heap[w.heap.size]? = some o1 ∧ ((w.alloc o1).alloc o2).drew.heap[w.heap.size + 1]? = some o2 := by
  show ((w.heap.push o1).push o2)[w.heap.size]? = some o1 ∧ ((w.heap.push o1).push o2)[w.heap.size + 1]? = some o2
  refine ⟨?_, ?_⟩
  · rw [Array.getElem?_push, if_neg (by simp), Array.getElem?_push, if_pos rfl]
  · rw [Array.getElem?_push, if_pos (by simp)]
set_option maxRecDepth 100000 in
set_option maxHeartbeats 4000000 in
theorem k_compare (c1 p1 c2 p2 : ByteArray) (w : World) : Calls Try.prog 30 #[.agg #[.string c1, .string p1], .agg #[.string c2, .string p2]] w fun e w' => e = .returned (.int .i64 (if cmpB c1 c2 = 0 then cmpB p1 p2 else cmpB c1 c2)) ∧ ∃ q os, w' = grow (w.drewN q) os := by
  have key : ∀ (W : World) (b1 b2 : Nat), W.cell? ⟨b1, 0, none⟩ = some (.string c1) → W.cell? ⟨b1, 1, none⟩ = some (.string p1) → W.cell? ⟨b2, 0, none⟩ = some (.string c2) → W.cell? ⟨b2, 1, none⟩ = some (.string p2) → True := fun _ _ _ _ _ _ _ => trivial
  go_enter Try.func30, Try.ntmps30
  go_wp2_with fail
  refine wp_region_still_tail 10 (by kernel_rfl) (by kernel_rfl) ?_
  simp only [List.take_succ_cons, List.take_zero, List.drop_succ_cons, List.drop_zero, World.drew_eq]
  obtain ⟨W, hW⟩ : ∃ W, W = ((w.alloc (Obj.cells #[Value.string c1, Value.string p1] 48)).alloc (Obj.cells #[Value.string c2, Value.string p2] 48)).drew := ⟨_, rfl⟩
  have h1 : W.cell? ⟨w.heap.size, 0, none⟩ = some (.string c1) := by rw [hW]; unfold World.cell?; rw [(two_at w _ _).1]; rfl
  have h2 : W.cell? ⟨w.heap.size, 1, none⟩ = some (.string p1) := by rw [hW]; unfold World.cell?; rw [(two_at w _ _).1]; rfl
  have h3 : W.cell? ⟨w.heap.size + 1, 0, none⟩ = some (.string c2) := by rw [hW]; unfold World.cell?; rw [(two_at w _ _).2]; rfl
  have h4 : W.cell? ⟨w.heap.size + 1, 1, none⟩ = some (.string p2) := by rw [hW]; unfold World.cell?; rw [(two_at w _ _).2]; rfl
  rw [← hW]
  have hu : ∃ os, W = grow (w.drewN 1) os := ⟨_, by rw [hW]; exact (by rw [alloc_eq_grow, alloc_eq_grow, grow_grow]; rfl)⟩
  clear hW
  iterate 4 still_step
  still_call (k_Compare c1 c2 _)
  iterate 4 still_step
  still_call (k_Compare p1 p2 _)
  refine wpStill_nil ?_
  go_wp2_with fail
  refine (k_Or W.heap.size 2 (cmpB c1 c2) (cmpB p1 p2) (W.alloc (Obj.cells #[Value.int .i64 (cmpB c1 c2), Value.int .i64 (cmpB p1 p2)] 3)) ?_ ?_).mono ?_
  · unfold World.cell? World.alloc; simp
  · unfold World.cell? World.alloc; simp
  rintro e w' ⟨rfl, rfl⟩
  go_wp2_with fail
  all_goals
    obtain ⟨os, rfl⟩ := hu
    go_ret
    exact ⟨rfl, 1, _, by rw [alloc_eq_grow, grow_grow]⟩
theorem k_placeOf (p : ByteArray) (a : Int) (c : ByteArray) (w : World) : Calls Try.prog 25 #[.agg #[.string p, .int .i64 a, .string c]] w fun e w' => e = .returned (.agg #[.string c, .string p]) ∧ ∃ os, w' = grow w os := by
  go_enter Try.func25, Try.ntmps25
  go_wp2
  refine bodyPost_ret (results_cell_row (ty := 48) rfl _ _ (w.heap.size + 1) 48 #[.string c, .string p] (0, 0) _ rfl ?_ Try.underlying48 rfl (by kernel_rfl)) rfl ⟨rfl, _, by rw [alloc_eq_grow, alloc_eq_grow, grow_grow]⟩
  show ((w.heap.push _).push _)[w.heap.size + 1]? = _
  rw [Array.getElem?_push, if_pos (by simp)]
theorem cells3 (w : World) (a b c : Value) (t : TypeId) (o2 : Obj) (n : Nat) (os : Array Obj) : ∀ j v, (#[a, b, c])[j]? = some v → (grow (((w.alloc (.cells #[a, b, c] t)).alloc o2).drewN n) os).cell? ⟨w.heap.size, j, none⟩ = some v := by
  intro j v hv
  refine cell_grown (by show w.heap.size < ((w.heap.push _).push _).size; simp; omega) ?_ n os
  unfold World.cell?
  rw [show ((w.alloc (.cells #[a, b, c] t)).alloc o2).heap[w.heap.size]? = some (.cells #[a, b, c] t (0, 0)) from (by
    show ((w.heap.push _).push _)[w.heap.size]? = _
    rw [Array.getElem?_push, if_neg (by simp), Array.getElem?_push, if_pos rfl])]
  exact hv
theorem cells3' (w : World) (a b c : Value) (t : TypeId) (o1 : Obj) (n : Nat) (os : Array Obj) : ∀ j v, (#[a, b, c])[j]? = some v → (grow (((w.alloc o1).alloc (.cells #[a, b, c] t)).drewN n) os).cell? ⟨w.heap.size + 1, j, none⟩ = some v := by
  intro j v hv
  refine cell_grown (by show w.heap.size + 1 < ((w.heap.push _).push _).size; simp) ?_ n os
  unfold World.cell?
  rw [show ((w.alloc o1).alloc (.cells #[a, b, c] t)).heap[w.heap.size + 1]? = some (.cells #[a, b, c] t (0, 0)) from (by
    show ((w.heap.push _).push _)[w.heap.size + 1]? = _
    rw [Array.getElem?_push, if_pos (by simp)])]
  exact hv
set_option maxRecDepth 100000 in
set_option maxHeartbeats 4000000 in
theorem k_closure (x y : Ps) (w : World) : Calls Try.prog 38 #[.agg #[.string x.p, .int .i64 x.a, .string x.c], .agg #[.string y.p, .int .i64 y.a, .string y.c]] w fun e w' => e = .returned (.int .i64 (if cmpB x.c y.c = 0 then cmpB x.p y.p else cmpB x.c y.c)) ∧ ∃ q os, w' = grow (w.drewN q) os := by
  have mixed : Try.prog.follows .mixedOrders = true := Try.sortF37.mixed
  go_enter Try.func38, Try.ntmps38
  go_wp2_with fail
  have h1 := cells3 w (.string x.p) (.int .i64 x.a) (.string x.c) 40 (.cells #[.string y.p, .int .i64 y.a, .string y.c] 40)
  have h2 := cells3' w (.string y.p) (.int .i64 y.a) (.string y.c) 40 (.cells #[.string x.p, .int .i64 x.a, .string x.c] 40)
  obtain ⟨W, hW⟩ : ∃ W, W = (w.alloc (Obj.cells #[Value.string x.p, Value.int .i64 x.a, Value.string x.c] 40)).alloc (Obj.cells #[Value.string y.p, Value.int .i64 y.a, Value.string y.c] 40) := ⟨_, rfl⟩
  have hu : ∃ os, W = grow w os := ⟨_, by rw [hW, alloc_eq_grow, alloc_eq_grow, grow_grow]⟩
  rw [← hW] at h1 h2 ⊢
  clear hW
  have a0 : ∀ n os, (grow (W.drewN n) os).cell? ⟨w.heap.size, 0, none⟩ = some (.string x.p) := fun n os => h1 n os 0 _ rfl
  have a1 : ∀ n os, (grow (W.drewN n) os).cell? ⟨w.heap.size, 1, none⟩ = some (.int .i64 x.a) := fun n os => h1 n os 1 _ rfl
  have a2 : ∀ n os, (grow (W.drewN n) os).cell? ⟨w.heap.size, 2, none⟩ = some (.string x.c) := fun n os => h1 n os 2 _ rfl
  have b0 : ∀ n os, (grow (W.drewN n) os).cell? ⟨w.heap.size + 1, 0, none⟩ = some (.string y.p) := fun n os => h2 n os 0 _ rfl
  have b1 : ∀ n os, (grow (W.drewN n) os).cell? ⟨w.heap.size + 1, 1, none⟩ = some (.int .i64 y.a) := fun n os => h2 n os 1 _ rfl
  have b2 : ∀ n os, (grow (W.drewN n) os).cell? ⟨w.heap.size + 1, 2, none⟩ = some (.string y.c) := fun n os => h2 n os 2 _ rfl
  clear h1 h2
  refine wp_region_quiet_grown (by assumption) (by kernel_rfl) ?_
  refine wpQuiet_step (fun K hK => ?_)
  go_simp
  refine hK _ ?_
  clear hK K
  refine wpQuiet_step (fun K hK => ?_)
  go_simp
  refine ⟨_, fun g => Calls.grown_of ((k_placeOf x.p x.a x.c _).mono (R' := fun e w' => e = .returned (.agg #[.string x.c, .string x.p]) ∧ ∃ q os', w' = grow ((grow (W.drewN g.n) g.os).drewN q) os') (fun e w' h => ⟨h.1, 0, h.2⟩)), hK _ ?_⟩
  clear hK K
  refine wpQuiet_step (fun K hK => ?_)
  go_simp
  refine hK _ ?_
  clear hK K
  refine wpQuiet_step (fun K hK => ?_)
  go_simp
  refine ⟨_, fun g => Calls.grown_of ((k_placeOf y.p y.a y.c _).mono (R' := fun e w' => e = .returned (.agg #[.string y.c, .string y.p]) ∧ ∃ q os', w' = grow ((grow (W.drewN g.n) g.os).drewN q) os') (fun e w' h => ⟨h.1, 0, h.2⟩)), hK _ ?_⟩
  clear hK K
  refine wpQuiet_step (fun K hK => ?_)
  go_simp
  refine ⟨_, fun g => Calls.grown_of (k_compare x.c x.p y.c y.p _), hK _ ?_⟩
  clear hK K
  refine wpQuiet_step (fun K hK => ?_)
  go_simp
  refine hK _ ?_
  clear hK K
  refine wpQuiet_nil ?_
  intro _ hw'
  obtain ⟨⟨nq, osq⟩, hw''⟩ := hw'
  subst hw''
  go_wp2_with fail
  all_goals
    obtain ⟨os, rfl⟩ := hu
    go_ret
    exact ⟨rfl, nq, _, by show grow (grow (w.drewN nq) os) osq = _; rw [grow_grow]⟩
/-- How positions are ordered, as a number. -/
def cfP (x y : Ps) : Int := if cmpB x.c y.c = 0 then cmpB x.p y.p else cmpB x.c y.c
theorem cmpB_neg {x y : ByteArray} : cmpB x y < 0 ↔ strLt x y = true := by
  unfold cmpB
  split
  · rename_i h; simp [h]
  · rename_i h
    split <;> simp [h]
theorem cmpB_zero {x y : ByteArray} : cmpB x y = 0 ↔ x = y := by
  unfold cmpB
  constructor
  · intro h
    split at h
    · omega
    · rename_i h1
      split at h
      · omega
      · rename_i h2
        refine Classical.byContradiction fun e => ?_
        exact h2 (strLt_total (by simpa using h1) e)
  · rintro rfl
    rw [if_neg (by rw [strLt_irrefl]; decide), if_neg (by rw [strLt_irrefl]; decide)]
theorem lt_cfP (x y : Ps) : ltOf cfP x y = plt x y := by
  unfold ltOf cfP
  rw [Bool.eq_iff_iff, decide_eq_true_eq, plt_iff]
  by_cases h : x.c = y.c
  · rw [if_pos (cmpB_zero.2 h), cmpB_neg, h, strLt_irrefl]; simp
  · rw [if_neg (fun e => h (cmpB_zero.1 e)), cmpB_neg]; simp [h]
theorem swo_cfP : SWO (ltOf cfP) := by
  refine ⟨fun x => ?_, fun x y z h k => ?_, fun x y z h k => ?_⟩
  · rw [lt_cfP]; exact plt_irrefl x
  · rw [lt_cfP] at *; exact plt_trans h k
  · rw [lt_cfP] at *; exact nplt_trans k h
/-- What the library's sort makes of positions. -/
def pdqL (l : List Ps) : List Ps := (pdq (ltOf cfP) l.toArray 0 l.length (Lib.bitLen l.length) true true).toList
theorem pdqL_facts (l : List Ps) : (pdqL l).Perm l ∧ (pdqL l).Pairwise (fun a b => plt b a = false) := by
  obtain ⟨⟨h1, h2, h3⟩, h4⟩ := pdq_sorts (ltOf cfP) swo_cfP l.toArray 0 l.length (Lib.bitLen l.length) true true (Nat.zero_le _) (by simp) (Or.inl rfl)
  unfold pdqL
  generalize pdq (ltOf cfP) l.toArray 0 l.length (Lib.bitLen l.length) true true = d at *
  have hs : d.size = l.length := by rw [h1]; simp
  refine ⟨?_, ?_⟩
  · rw [Array.extract_eq_self_of_le (by omega), Array.extract_eq_self_of_le (by simp)] at h3
    exact h3
  · rw [List.pairwise_iff_getElem]
    intro i j hi hj hij
    simp only [Array.length_toList] at hi hj
    have := h4 i j (Nat.zero_le _) hij (by omega)
    rw [lt_cfP, getElem!_pos d i hi, getElem!_pos d j hj] at this
    simpa using this
theorem pdqL_srt {l : List Ps} (hd : Dist l) : pdqL l = srt l := by
  obtain ⟨h1, h2⟩ := pdqL_facts l
  refine (srt_of h1 ?_).symm
  refine (h2.and (dist_perm h1.symm hd)).imp ?_
  rintro a b ⟨h3, h4⟩
  exact plt_total h3 (fun e => h4 (same2_symm e))
/-- The sort of positions, and that of places. -/
theorem sorts_pos : SortsF Try.prog 37 38 (fun x : Ps => [.string x.p, .int .i64 x.a, .string x.c]) 3 pdqL := by
  intro blk off cap ss W hH hblk hn
  have eg : ∀ args w, (callFunc 38 args).run Try.prog w = .ok (.enter 38 args) w := enters_of Try.func38 (by kernel_rfl) rfl
  have h := AnyQ.slices_SortFunc_eq Try.sortF37 3 Try.isAgg40 Try.sizeOf40 (fun x : Ps => [.string x.p, .int .i64 x.a, .string x.c]) (fun _ => rfl) (fun x v hv => by simp at hv; rcases hv with rfl | rfl | rfl <;> rfl) cfP swo_cfP 38 #[] blk off cap ss.toArray W eg (fun m os dk _ x y => k_closure x y _) hH hblk (by simpa using hn)
  simp only [List.size_toArray] at h
  exact h.mono fun e w' ⟨he, m, os, hw⟩ => ⟨he, m, os, by rw [hw]; simp [pdqL]⟩
theorem sorts_place : SortsF Try.prog 29 30 (fun x : Ps => [.string x.c, .string x.p]) 2 pdqL := by
  intro blk off cap ss W hH hblk hn
  have eg : ∀ args w, (callFunc 30 args).run Try.prog w = .ok (.enter 30 args) w := enters_of Try.func30 (by kernel_rfl) rfl
  have h := AnyQ.slices_SortFunc_eq Try.sortF29 2 Try.isAgg48 Try.sizeOf48 (fun x : Ps => [.string x.c, .string x.p]) (fun _ => rfl) (fun x v hv => by simp at hv; rcases hv with rfl | rfl <;> rfl) cfP swo_cfP 30 #[] blk off cap ss.toArray W eg (fun m os dk _ x y => k_compare x.c x.p y.c y.p _) hH hblk (by simpa using hn)
  simp only [List.size_toArray] at h
  exact h.mono fun e w' ⟨he, m, os, hw⟩ => ⟨he, m, os, by rw [hw]; simp [pdqL]⟩
end Go.Proofs.Ytmibjgblhaohiaa

/- Contracts: sorting of positions and of places. -/
namespace Go.Proofs.Ytmibjgblhaohiaa
open Go.RowKit Go.Sy
attribute [local irreducible] vcall vloop vcallD retP
set_option maxRecDepth 100000
set_option linter.unusedVariables false
set_option linter.unusedSimpArgs false

theorem bits_Len64_0 : Pure Try.prog 63 [.int .u64 0] (.int .i64 0) := by
  refine fc_of mixed T_ok Try.func63 rfl (by kernel_rfl) (by kernel_rfl) (by kernel_rfl) ?_
  repeat' ((conv => whnf); first | (refine br_dec (fun h => ?_) (fun h => ?_) <;> try (exfalso; (try dsimp only at h); omega)) | (refine br_ndec (fun h => ?_) (fun h => ?_) <;> try (exfalso; (try dsimp only at h); omega)) | refine br_seq (fun h => ?_) (fun h => ?_) | refine br_nseq (fun h => ?_) (fun h => ?_) | refine br_not (fun h => ?_) (fun h => ?_) | refine br_intro (fun h => ?_) (fun h => ?_) | refine cond_intro rfl ?_ | (refine cond_intro ⟨rfl, ?_⟩ ?_; (first | omega | (dsimp only; omega) | decide)) | (refine cond_intro ?_ ?_; (first | omega | (dsimp only; omega) | decide | (simp only [Nat.add_zero, Int.toNat_natCast, *]; omega))))
  all_goals (conv => whnf)
  all_goals first
    | exact ret_pure rfl
    | (exfalso; omega)
    | trace_state
theorem bits_Len_0 : Pure Try.prog 44 [.int .u64 0] (.int .i64 0) := by
  have c := bits_Len64_0
  refine fc_of mixed T_ok Try.func44 rfl (by kernel_rfl) (by kernel_rfl) (by kernel_rfl) ?_
  repeat' ((conv => whnf); first | (refine vcall_pure (c) rfl rfl rfl ?_) | (refine vcallD_pure (c) rfl rfl rfl ?_) | (refine br_dec (fun h => ?_) (fun h => ?_) <;> try (exfalso; (try dsimp only at h); omega)) | (refine br_ndec (fun h => ?_) (fun h => ?_) <;> try (exfalso; (try dsimp only at h); omega)) | refine br_seq (fun h => ?_) (fun h => ?_) | refine br_nseq (fun h => ?_) (fun h => ?_) | refine br_not (fun h => ?_) (fun h => ?_) | refine br_intro (fun h => ?_) (fun h => ?_) | refine cond_intro rfl ?_ | (refine cond_intro ⟨rfl, ?_⟩ ?_; (first | omega | (dsimp only; omega) | decide)) | (refine cond_intro ?_ ?_; (first | omega | (dsimp only; omega) | decide | (simp only [Nat.add_zero, Int.toNat_natCast, *]; omega))))
  all_goals (conv => whnf)
  all_goals first
    | exact ret_pure rfl
    | (exfalso; omega)
    | trace_state
theorem ins_pos0 : FC Try.prog 2 66 [.sl 1 0 0 0, .int .i64 0, .int .i64 0, .fn 38 []] [] (isOut (.tup []) [] 2) := by
  refine fc_of mixed T_ok Try.func66 rfl (by kernel_rfl) (by kernel_rfl) (by kernel_rfl) ?_
  repeat' ((conv => whnf); first | (refine br_dec (fun h => ?_) (fun h => ?_) <;> try (exfalso; (try dsimp only at h); omega)) | (refine br_ndec (fun h => ?_) (fun h => ?_) <;> try (exfalso; (try dsimp only at h); omega)) | refine br_seq (fun h => ?_) (fun h => ?_) | refine br_nseq (fun h => ?_) (fun h => ?_) | refine br_not (fun h => ?_) (fun h => ?_) | refine br_intro (fun h => ?_) (fun h => ?_) | refine cond_intro rfl ?_ | (refine cond_intro ⟨rfl, ?_⟩ ?_; (first | omega | (dsimp only; omega) | decide)) | (refine cond_intro ?_ ?_; (first | omega | (dsimp only; omega) | decide | (simp only [Nat.add_zero, Int.toNat_natCast, *]; omega))))
  all_goals (conv => whnf)
  refine vloop_of (fun _ : Unit => ⟨[(2, .int .i64 0), (8, .int .i64 1)], [], 2⟩) (fun _ => True) (fun _ => 0) () [0, 1] [] ⟨rfl, ⟨rfl, rfl, trivial⟩, trivial⟩ trivial ?_
  intro _ _
  repeat' ((conv => whnf); first | (refine br_dec (fun h => ?_) (fun h => ?_) <;> try (exfalso; (try dsimp only at h); omega)) | (refine br_ndec (fun h => ?_) (fun h => ?_) <;> try (exfalso; (try dsimp only at h); omega)) | refine br_seq (fun h => ?_) (fun h => ?_) | refine br_nseq (fun h => ?_) (fun h => ?_) | refine br_not (fun h => ?_) (fun h => ?_) | refine br_intro (fun h => ?_) (fun h => ?_) | refine cond_intro rfl ?_ | (refine cond_intro ⟨rfl, ?_⟩ ?_; (first | omega | (dsimp only; omega) | decide)) | (refine cond_intro ?_ ?_; (first | omega | (dsimp only; omega) | decide | (simp only [Nat.add_zero, Int.toNat_natCast, *]; omega))))
  all_goals (conv => whnf)
  all_goals first
    | exact ret_out (l := [0, 1]) rfl rfl trivial allRw_nil
    | (exfalso; omega)
    | trace_state
theorem pdq_pos0 : FC Try.prog 2 53 [.sl 1 0 0 0, .int .i64 0, .int .i64 0, .int .i64 0, .fn 38 []] [] (isOut (.tup []) [] 2) := by
  have c := ins_pos0
  refine fc_of mixed T_ok Try.func53 rfl (by kernel_rfl) (by kernel_rfl) (by kernel_rfl) ?_
  repeat' ((conv => whnf); first | (refine br_dec (fun h => ?_) (fun h => ?_) <;> try (exfalso; (try dsimp only at h); omega)) | (refine br_ndec (fun h => ?_) (fun h => ?_) <;> try (exfalso; (try dsimp only at h); omega)) | refine br_seq (fun h => ?_) (fun h => ?_) | refine br_nseq (fun h => ?_) (fun h => ?_) | refine br_not (fun h => ?_) (fun h => ?_) | refine br_intro (fun h => ?_) (fun h => ?_) | refine cond_intro rfl ?_ | (refine cond_intro ⟨rfl, ?_⟩ ?_; (first | omega | (dsimp only; omega) | decide)) | (refine cond_intro ?_ ?_; (first | omega | (dsimp only; omega) | decide | (simp only [Nat.add_zero, Int.toNat_natCast, *]; omega))))
  all_goals (conv => whnf)
  refine vloop_of (fun _ : Unit => ⟨[(0, .sl 1 0 0 0), (1, .int .i64 0), (2, .int .i64 0), (4, .fn 38 [])], [], 2⟩) (fun _ => True) (fun _ => 0) () [0, 1] [] ⟨rfl, ⟨rfl, rfl, rfl, rfl, trivial⟩, trivial⟩ trivial ?_
  intro _ _
  repeat' ((conv => whnf); first | (refine vcall_out (l :=  [0, 1]) (c ) ⟨rfl, rfl, rfl, rfl, (by (repeat' (first | exact trivial | exact GB_wf | exact fun _ _ => rfl | constructor)); first | done | fail), (by (repeat' (first | exact trivial | exact GB_fits rfl | constructor)); first | done | fail)⟩ ?_) | (refine vcallD_out (l :=  [0, 1]) (c ) ⟨rfl, rfl, rfl, rfl, (by (repeat' (first | exact trivial | exact GB_wf | exact fun _ _ => rfl | constructor)); first | done | fail), (by (repeat' (first | exact trivial | exact GB_fits rfl | constructor)); first | done | fail)⟩ ?_) | (refine br_dec (fun h => ?_) (fun h => ?_) <;> try (exfalso; (try dsimp only at h); omega)) | (refine br_ndec (fun h => ?_) (fun h => ?_) <;> try (exfalso; (try dsimp only at h); omega)) | refine br_seq (fun h => ?_) (fun h => ?_) | refine br_nseq (fun h => ?_) (fun h => ?_) | refine br_not (fun h => ?_) (fun h => ?_) | refine br_intro (fun h => ?_) (fun h => ?_) | refine cond_intro rfl ?_ | (refine cond_intro ⟨rfl, ?_⟩ ?_; (first | omega | (dsimp only; omega) | decide)) | (refine cond_intro ?_ ?_; (first | omega | (dsimp only; omega) | decide | (simp only [Nat.add_zero, Int.toNat_natCast, *]; omega))))
  all_goals (conv => whnf)
  all_goals first
    | exact ret_out (l := [0, 1]) rfl rfl trivial allRw_nil
    | (exfalso; omega)
    | trace_state
theorem ins_pl0 : FC Try.prog 2 54 [.sl 1 0 0 0, .int .i64 0, .int .i64 0, .fn 30 []] [] (isOut (.tup []) [] 2) := by
  refine fc_of mixed T_ok Try.func54 rfl (by kernel_rfl) (by kernel_rfl) (by kernel_rfl) ?_
  repeat' ((conv => whnf); first | (refine br_dec (fun h => ?_) (fun h => ?_) <;> try (exfalso; (try dsimp only at h); omega)) | (refine br_ndec (fun h => ?_) (fun h => ?_) <;> try (exfalso; (try dsimp only at h); omega)) | refine br_seq (fun h => ?_) (fun h => ?_) | refine br_nseq (fun h => ?_) (fun h => ?_) | refine br_not (fun h => ?_) (fun h => ?_) | refine br_intro (fun h => ?_) (fun h => ?_) | refine cond_intro rfl ?_ | (refine cond_intro ⟨rfl, ?_⟩ ?_; (first | omega | (dsimp only; omega) | decide)) | (refine cond_intro ?_ ?_; (first | omega | (dsimp only; omega) | decide | (simp only [Nat.add_zero, Int.toNat_natCast, *]; omega))))
  all_goals (conv => whnf)
  refine vloop_of (fun _ : Unit => ⟨[(2, .int .i64 0), (8, .int .i64 1)], [], 2⟩) (fun _ => True) (fun _ => 0) () [0, 1] [] ⟨rfl, ⟨rfl, rfl, trivial⟩, trivial⟩ trivial ?_
  intro _ _
  repeat' ((conv => whnf); first | (refine br_dec (fun h => ?_) (fun h => ?_) <;> try (exfalso; (try dsimp only at h); omega)) | (refine br_ndec (fun h => ?_) (fun h => ?_) <;> try (exfalso; (try dsimp only at h); omega)) | refine br_seq (fun h => ?_) (fun h => ?_) | refine br_nseq (fun h => ?_) (fun h => ?_) | refine br_not (fun h => ?_) (fun h => ?_) | refine br_intro (fun h => ?_) (fun h => ?_) | refine cond_intro rfl ?_ | (refine cond_intro ⟨rfl, ?_⟩ ?_; (first | omega | (dsimp only; omega) | decide)) | (refine cond_intro ?_ ?_; (first | omega | (dsimp only; omega) | decide | (simp only [Nat.add_zero, Int.toNat_natCast, *]; omega))))
  all_goals (conv => whnf)
  all_goals first
    | exact ret_out (l := [0, 1]) rfl rfl trivial allRw_nil
    | (exfalso; omega)
    | trace_state
theorem pdq_pl0 : FC Try.prog 2 43 [.sl 1 0 0 0, .int .i64 0, .int .i64 0, .int .i64 0, .fn 30 []] [] (isOut (.tup []) [] 2) := by
  have c := ins_pl0
  refine fc_of mixed T_ok Try.func43 rfl (by kernel_rfl) (by kernel_rfl) (by kernel_rfl) ?_
  repeat' ((conv => whnf); first | (refine br_dec (fun h => ?_) (fun h => ?_) <;> try (exfalso; (try dsimp only at h); omega)) | (refine br_ndec (fun h => ?_) (fun h => ?_) <;> try (exfalso; (try dsimp only at h); omega)) | refine br_seq (fun h => ?_) (fun h => ?_) | refine br_nseq (fun h => ?_) (fun h => ?_) | refine br_not (fun h => ?_) (fun h => ?_) | refine br_intro (fun h => ?_) (fun h => ?_) | refine cond_intro rfl ?_ | (refine cond_intro ⟨rfl, ?_⟩ ?_; (first | omega | (dsimp only; omega) | decide)) | (refine cond_intro ?_ ?_; (first | omega | (dsimp only; omega) | decide | (simp only [Nat.add_zero, Int.toNat_natCast, *]; omega))))
  all_goals (conv => whnf)
  refine vloop_of (fun _ : Unit => ⟨[(0, .sl 1 0 0 0), (1, .int .i64 0), (2, .int .i64 0), (4, .fn 30 [])], [], 2⟩) (fun _ => True) (fun _ => 0) () [0, 1] [] ⟨rfl, ⟨rfl, rfl, rfl, rfl, trivial⟩, trivial⟩ trivial ?_
  intro _ _
  repeat' ((conv => whnf); first | (refine vcall_out (l :=  [0, 1]) (c ) ⟨rfl, rfl, rfl, rfl, (by (repeat' (first | exact trivial | exact GB_wf | exact fun _ _ => rfl | constructor)); first | done | fail), (by (repeat' (first | exact trivial | exact GB_fits rfl | constructor)); first | done | fail)⟩ ?_) | (refine vcallD_out (l :=  [0, 1]) (c ) ⟨rfl, rfl, rfl, rfl, (by (repeat' (first | exact trivial | exact GB_wf | exact fun _ _ => rfl | constructor)); first | done | fail), (by (repeat' (first | exact trivial | exact GB_fits rfl | constructor)); first | done | fail)⟩ ?_) | (refine br_dec (fun h => ?_) (fun h => ?_) <;> try (exfalso; (try dsimp only at h); omega)) | (refine br_ndec (fun h => ?_) (fun h => ?_) <;> try (exfalso; (try dsimp only at h); omega)) | refine br_seq (fun h => ?_) (fun h => ?_) | refine br_nseq (fun h => ?_) (fun h => ?_) | refine br_not (fun h => ?_) (fun h => ?_) | refine br_intro (fun h => ?_) (fun h => ?_) | refine cond_intro rfl ?_ | (refine cond_intro ⟨rfl, ?_⟩ ?_; (first | omega | (dsimp only; omega) | decide)) | (refine cond_intro ?_ ?_; (first | omega | (dsimp only; omega) | decide | (simp only [Nat.add_zero, Int.toNat_natCast, *]; omega))))
  all_goals (conv => whnf)
  all_goals first
    | exact ret_out (l := [0, 1]) rfl rfl trivial allRw_nil
    | (exfalso; omega)
    | trace_state
abbrev colPs (l : List Ps) : List Col := [.strs (l.map Ps.p), .ints .i64 (l.map Ps.a), .strs (l.map Ps.c)]
abbrev colPl (l : List Ps) : List Col := [.strs (l.map Ps.c), .strs (l.map Ps.p)]
theorem getPs {α : Type} (f : Ps → α) (d : α) {l : List Ps} {i : Nat} (hi : i < l.length) : (l.map f).getD i d = f (l.toArray[i]!) := by
  rw [getElem!_pos l.toArray i (by simpa using hi)]
  simp [List.getD, hi]
theorem sort_pos (n : Nat) (l : List Ps) (hn : n ≤ 1000000) (hl : l.length = n) (hd : Dist l) : FC Try.prog 2 37 [.sl 1 0 0 n, .fn 38 []] [(1, some (.one false (psB n (pcOf l))))] (isOut (.tup []) [(1, some (.one false (psB n (pcOf (srt l)))))] 2) := by
  rw [← pdqL_srt hd]
  refine fc_sortK (α := Ps) colPs sorts_pos (bodied_of Try.func37 rfl rfl) (by decide) (fun _ => rfl) (fun _ => rfl) ?_ ?_ (fun x v hv => by simp at hv; rcases hv with rfl | rfl | rfl <;> rfl) (fun l => (pdqL_facts l).1.length_eq) n l (by omega) hl ?_
  · intro l j c hj
    rcases j with _ | _ | _ | j
    · cases hj; simp [Col.len]
    · cases hj; simp [Col.len]
    · cases hj; simp [Col.len]
    · simp [nth] at hj
  · intro l i j c hi hj
    rcases j with _ | _ | _ | j
    · cases hj; exact congrArg Value.string (getPs Ps.p _ hi)
    · cases hj; exact congrArg (Value.int .i64) (getPs Ps.a _ hi)
    · cases hj; exact congrArg Value.string (getPs Ps.c _ hi)
    · simp [nth] at hj
  · intro h0
    subst h0
    have c1 := bits_Len_0
    have c2 := pdq_pos0
    refine fc_of mixed T_ok Try.func37 rfl (by kernel_rfl) (by kernel_rfl) (by kernel_rfl) ?_
    repeat' ((conv => whnf); first | (refine vcall_pure (c1) rfl rfl rfl ?_) | (refine vcallD_pure (c1) rfl rfl rfl ?_) | (refine vcall_out (l :=  [0, 1]) (c2 ) ⟨rfl, rfl, rfl, rfl, (by (repeat' (first | exact trivial | exact GB_wf | exact fun _ _ => rfl | constructor)); first | done | fail), (by (repeat' (first | exact trivial | exact GB_fits rfl | constructor)); first | done | fail)⟩ ?_) | (refine vcallD_out (l :=  [0, 1]) (c2 ) ⟨rfl, rfl, rfl, rfl, (by (repeat' (first | exact trivial | exact GB_wf | exact fun _ _ => rfl | constructor)); first | done | fail), (by (repeat' (first | exact trivial | exact GB_fits rfl | constructor)); first | done | fail)⟩ ?_) | (refine br_dec (fun h => ?_) (fun h => ?_) <;> try (exfalso; (try dsimp only at h); omega)) | (refine br_ndec (fun h => ?_) (fun h => ?_) <;> try (exfalso; (try dsimp only at h); omega)) | refine br_seq (fun h => ?_) (fun h => ?_) | refine br_nseq (fun h => ?_) (fun h => ?_) | refine br_not (fun h => ?_) (fun h => ?_) | refine br_intro (fun h => ?_) (fun h => ?_) | refine cond_intro rfl ?_ | (refine cond_intro ⟨rfl, ?_⟩ ?_; (first | omega | (dsimp only; omega) | decide)) | (refine cond_intro ?_ ?_; (first | omega | (dsimp only; omega) | decide | (simp only [Nat.add_zero, Int.toNat_natCast, *]; omega))))
    all_goals (conv => whnf)
    all_goals first
      | exact ret_out (l := [0, 1]) rfl rfl ⟨rfl, trivial⟩ (allRw_cons allRw_nil)
      | trace_state
theorem sort_pl (n : Nat) (l : List Ps) (hn : n ≤ 1000000) (hl : l.length = n) (hd : Dist l) : FC Try.prog 2 29 [.sl 1 0 0 n, .fn 30 []] [(1, some (.one false (.cols n [.sc (.strs (l.map Ps.c)), .sc (.strs (l.map Ps.p))])))] (isOut (.tup []) [(1, some (.one false (.cols n [.sc (.strs ((srt l).map Ps.c)), .sc (.strs ((srt l).map Ps.p))])))] 2) := by
  rw [← pdqL_srt hd]
  refine fc_sortK (α := Ps) colPl sorts_place (bodied_of Try.func29 rfl rfl) (by decide) (fun _ => rfl) (fun _ => rfl) ?_ ?_ (fun x v hv => by simp at hv; rcases hv with rfl | rfl <;> rfl) (fun l => (pdqL_facts l).1.length_eq) n l (by omega) hl ?_
  · intro l j c hj
    rcases j with _ | _ | j
    · cases hj; simp [Col.len]
    · cases hj; simp [Col.len]
    · simp [nth] at hj
  · intro l i j c hi hj
    rcases j with _ | _ | j
    · cases hj; exact congrArg Value.string (getPs Ps.c _ hi)
    · cases hj; exact congrArg Value.string (getPs Ps.p _ hi)
    · simp [nth] at hj
  · intro h0
    subst h0
    have c1 := bits_Len_0
    have c2 := pdq_pl0
    refine fc_of mixed T_ok Try.func29 rfl (by kernel_rfl) (by kernel_rfl) (by kernel_rfl) ?_
    repeat' ((conv => whnf); first | (refine vcall_pure (c1) rfl rfl rfl ?_) | (refine vcallD_pure (c1) rfl rfl rfl ?_) | (refine vcall_out (l :=  [0, 1]) (c2 ) ⟨rfl, rfl, rfl, rfl, (by (repeat' (first | exact trivial | exact GB_wf | exact fun _ _ => rfl | constructor)); first | done | fail), (by (repeat' (first | exact trivial | exact GB_fits rfl | constructor)); first | done | fail)⟩ ?_) | (refine vcallD_out (l :=  [0, 1]) (c2 ) ⟨rfl, rfl, rfl, rfl, (by (repeat' (first | exact trivial | exact GB_wf | exact fun _ _ => rfl | constructor)); first | done | fail), (by (repeat' (first | exact trivial | exact GB_fits rfl | constructor)); first | done | fail)⟩ ?_) | (refine br_dec (fun h => ?_) (fun h => ?_) <;> try (exfalso; (try dsimp only at h); omega)) | (refine br_ndec (fun h => ?_) (fun h => ?_) <;> try (exfalso; (try dsimp only at h); omega)) | refine br_seq (fun h => ?_) (fun h => ?_) | refine br_nseq (fun h => ?_) (fun h => ?_) | refine br_not (fun h => ?_) (fun h => ?_) | refine br_intro (fun h => ?_) (fun h => ?_) | refine cond_intro rfl ?_ | (refine cond_intro ⟨rfl, ?_⟩ ?_; (first | omega | (dsimp only; omega) | decide)) | (refine cond_intro ?_ ?_; (first | omega | (dsimp only; omega) | decide | (simp only [Nat.add_zero, Int.toNat_natCast, *]; omega))))
    all_goals (conv => whnf)
    all_goals first
      | exact ret_out (l := [0, 1]) rfl rfl ⟨rfl, trivial⟩ (allRw_cons allRw_nil)
      | trace_state
end Go.Proofs.Ytmibjgblhaohiaa

/- Contracts: the first error of positions, one by one. -/
namespace Go.Proofs.Ytmibjgblhaohiaa
open Go.RowKit Go.Sy
attribute [local irreducible] vcall vloop vcallD retP
set_option maxRecDepth 100000
set_option linter.unusedVariables false
set_option linter.unusedSimpArgs false

/-- The place of the first row of a party in a currency, or the number of rows. -/
abbrev ixL (R : List Ps) (p c : ByteArray) : Nat := sidx2 (R.map Ps.c) (R.map Ps.p) c p
theorem ixL_nil (p c : ByteArray) : ixL [] p c = 0 := rfl
theorem ixL_cons (x : Ps) (R : List Ps) (p c : ByteArray) : ixL (x :: R) p c = if x.c = c ∧ x.p = p then 0 else ixL R p c + 1 := by
  show (bif seq x.c c && seq x.p p then 0 else ixL R p c + 1) = _
  by_cases h : x.c = c ∧ x.p = p
  · rw [if_pos h, show (seq x.c c && seq x.p p) = true from by rw [Bool.and_eq_true, seq_true, seq_true]; exact h]; rfl
  · rw [if_neg h, show (seq x.c c && seq x.p p) = false from by
      cases e : (seq x.c c && seq x.p p) with
      | false => rfl
      | true => rw [Bool.and_eq_true, seq_true, seq_true] at e; exact absurd e h]; rfl
theorem ixL_le (p c : ByteArray) : ∀ R : List Ps, ixL R p c ≤ R.length
  | [] => Nat.le_refl _
  | x :: R => by
    have := ixL_le p c R
    rw [ixL_cons, List.length_cons]
    split <;> omega
theorem ixL_at (p c : ByteArray) : ∀ R : List Ps, ixL R p c < R.length → (R.getD (ixL R p c) ps0).c = c ∧ (R.getD (ixL R p c) ps0).p = p
  | [], h => by simp at h
  | x :: R, h => by
    rw [ixL_cons] at h ⊢
    by_cases hx : x.c = c ∧ x.p = p
    · rw [if_pos hx]; exact hx
    · rw [if_neg hx] at h ⊢
      rw [List.getD_cons_succ]
      exact ixL_at p c R (by simpa using h)
theorem ixL_min (p c : ByteArray) : ∀ (R : List Ps) (j : Nat), j < ixL R p c → ¬ ((R.getD j ps0).c = c ∧ (R.getD j ps0).p = p)
  | [], j, h => by simp [ixL_nil] at h
  | x :: R, j, h => by
    rw [ixL_cons] at h
    by_cases hx : x.c = c ∧ x.p = p
    · rw [if_pos hx] at h; omega
    · rw [if_neg hx] at h
      cases j with
      | zero => exact hx
      | succ j => rw [List.getD_cons_succ]; exact ixL_min p c R j (by omega)
theorem ixL_lt_iff (p c : ByteArray) (R : List Ps) : ixL R p c < R.length ↔ ∃ x, x ∈ R ∧ x.c = c ∧ x.p = p := by
  constructor
  · intro h
    have := ixL_at p c R h
    rw [List.getD, List.getElem?_eq_getElem h] at this
    exact ⟨_, List.getElem_mem h, this⟩
  · rintro ⟨x, hx, h1, h2⟩
    refine Nat.lt_of_not_le fun hle => ?_
    obtain ⟨j, hj, rfl⟩ := List.getElem_of_mem hx
    have := ixL_min p c R j (by omega)
    rw [List.getD, List.getElem?_eq_getElem hj] at this
    exact this ⟨h1, h2⟩
theorem atP (L : List Ps) (j : Nat) : (pcOf L).p.getD j ⟨#[]⟩ = (L.getD j ps0).p ∧ (pcOf L).a.getD j 0 = (L.getD j ps0).a ∧ (pcOf L).c.getD j ⟨#[]⟩ = (L.getD j ps0).c := by
  unfold pcOf
  simp only [List.getD, List.getElem?_map]
  cases L[j]? <;> exact ⟨rfl, rfl, rfl⟩
/-- The index of a party in a currency among the first n. -/
def ixN (L : List Ps) (n : Nat) (p c : ByteArray) : Int := if ixL (L.take n) p c < n then (ixL (L.take n) p c : Int) else -1
theorem r41_index (L : List Ps) (n : Nat) (p c : ByteArray) (hn : n ≤ L.length) (hl : n ≤ 100000) (m : Nat) (hm : L.length = m) : FC Try.prog 2 47 [.sl 1 0 0 n, .str p, .str c] [(1, some (.one true (psB m (pcOf L))))] (isOut (.int .i64 (ixN L n p c)) [] 2) := by
  have hle := ixL_le p c (L.take n)
  have hmin := ixL_min p c (L.take n)
  have hat := ixL_at p c (L.take n)
  rw [List.length_take, Nat.min_eq_left hn] at hle hat
  have htk : ∀ j, j < n → (L.take n).getD j ps0 = L.getD j ps0 := fun j hj => by simp [List.getD, List.getElem?_take, hj]
  unfold ixN
  generalize ixL (L.take n) p c = ix at *
  refine fc_of mixed T_ok Try.func47 rfl (by kernel_rfl) (by kernel_rfl) (by kernel_rfl) ?_
  repeat' ((conv => whnf); first | (refine br_dec (fun h => ?_) (fun h => ?_) <;> try (exfalso; (try dsimp only at h); omega)) | (refine br_ndec (fun h => ?_) (fun h => ?_) <;> try (exfalso; (try dsimp only at h); omega)) | refine br_seq (fun h => ?_) (fun h => ?_) | refine br_nseq (fun h => ?_) (fun h => ?_) | refine br_not (fun h => ?_) (fun h => ?_) | refine br_intro (fun h => ?_) (fun h => ?_) | refine cond_intro rfl ?_ | (refine cond_intro ⟨rfl, ?_⟩ ?_; (first | omega | (dsimp only; omega) | decide)) | (refine cond_intro ?_ ?_; (first | omega | (dsimp only; omega) | decide | (simp only [Nat.add_zero, Int.toNat_natCast, *]; omega))))
  all_goals (conv => whnf)
  refine vloop_of (fun k : Nat => ⟨[(0, .sl 1 0 0 n), (1, .str p), (2, .str c), (7, .int .i64 k)], [(1, some (.one true (psB m (pcOf L))))], 2⟩) (fun k => k ≤ ix) (fun k => n - k) 0 [0, 1] [] ⟨rfl, ⟨rfl, rfl, rfl, rfl, trivial⟩, ⟨rfl, trivial⟩⟩ (Nat.zero_le _) ?_
  intro k hk
  obtain ⟨a1, a2, a3⟩ := atP L k
  by_cases hk2 : k < n
  · have e1 : (pcOf L).p.getD ((k : Int).toNat + 0) ⟨#[]⟩ = (L.getD k ps0).p := a1
    have e3 : (pcOf L).c.getD ((k : Int).toNat + 0) ⟨#[]⟩ = (L.getD k ps0).c := a3
    by_cases hki : k = ix
    · subst hki
      obtain ⟨h1, h2⟩ := hat hk2
      rw [htk k hk2] at h1 h2
      rw [h2] at e1
      rw [h1] at e3
      rw [if_pos hk2]
      generalize pcOf L = pc at *
      repeat' ((conv => whnf); first | (rw [e1]) | (rw [e3]) | (refine br_dec (fun h => ?_) (fun h => ?_) <;> try (exfalso; (try dsimp only at h); omega)) | (refine br_ndec (fun h => ?_) (fun h => ?_) <;> try (exfalso; (try dsimp only at h); omega)) | refine br_seq (fun h => ?_) (fun h => ?_) | refine br_nseq (fun h => ?_) (fun h => ?_) | refine br_not (fun h => ?_) (fun h => ?_) | refine br_intro (fun h => ?_) (fun h => ?_) | refine cond_intro rfl ?_ | (refine cond_intro ⟨rfl, ?_⟩ ?_; (first | omega | (dsimp only; omega) | decide)) | (refine cond_intro ?_ ?_; (first | omega | (dsimp only; omega) | decide | (simp only [Nat.add_zero, Int.toNat_natCast, *]; omega))))
      all_goals (conv => whnf)
      all_goals first
        | exact ret_out (l := [0, 1]) rfl rfl trivial allRw_nil
        | (exfalso; omega)
        | (exfalso; first | contradiction | (revert h; simp [seq]; done))
        | trace_state
    · have hne := hmin k (by omega)
      rw [htk k hk2] at hne
      generalize hpp : (L.getD k ps0).p = xp at *
      generalize hcc : (L.getD k ps0).c = xc at *
      generalize pcOf L = pc at *
      repeat' ((conv => whnf); first | (rw [e1]) | (rw [e3]) | (refine br_dec (fun h => ?_) (fun h => ?_) <;> try (exfalso; (try dsimp only at h); omega)) | (refine br_ndec (fun h => ?_) (fun h => ?_) <;> try (exfalso; (try dsimp only at h); omega)) | refine br_seq (fun h => ?_) (fun h => ?_) | refine br_nseq (fun h => ?_) (fun h => ?_) | refine br_not (fun h => ?_) (fun h => ?_) | refine br_intro (fun h => ?_) (fun h => ?_) | refine cond_intro rfl ?_ | (refine cond_intro ⟨rfl, ?_⟩ ?_; (first | omega | (dsimp only; omega) | decide)) | (refine cond_intro ?_ ?_; (first | omega | (dsimp only; omega) | decide | (simp only [Nat.add_zero, Int.toNat_natCast, *]; omega))))
      all_goals (conv => whnf)
      all_goals first
        | exact ⟨k + 1, [0, 1], [], (show k + 1 ≤ ix by omega), by omega, ⟨rfl, ⟨rfl, rfl, rfl, congrArg (fun z => some (SV.int .i64 z)) (i64_succ (by omega)), trivial⟩, ⟨rfl, trivial⟩⟩⟩
        | (exfalso; omega)
        | (exfalso; refine hne ⟨?_, ?_⟩ <;> first | assumption | (rename_i h1 h2; first | exact h1 | exact h2))
        | trace_state
  · have hix : ¬ ix < n := by omega
    rw [if_neg hix]
    repeat' ((conv => whnf); first | (refine br_dec (fun h => ?_) (fun h => ?_) <;> try (exfalso; (try dsimp only at h); omega)) | (refine br_ndec (fun h => ?_) (fun h => ?_) <;> try (exfalso; (try dsimp only at h); omega)) | refine br_seq (fun h => ?_) (fun h => ?_) | refine br_nseq (fun h => ?_) (fun h => ?_) | refine br_not (fun h => ?_) (fun h => ?_) | refine br_intro (fun h => ?_) (fun h => ?_) | refine cond_intro rfl ?_ | (refine cond_intro ⟨rfl, ?_⟩ ?_; (first | omega | (dsimp only; omega) | decide)) | (refine cond_intro ?_ ?_; (first | omega | (dsimp only; omega) | decide | (simp only [Nat.add_zero, Int.toNat_natCast, *]; omega))))
    all_goals (conv => whnf)
    all_goals first
      | exact ret_out (l := [0, 1]) rfl rfl trivial allRw_nil
      | (exfalso; omega)
      | trace_state
end Go.Proofs.Ytmibjgblhaohiaa

/- Contracts: positions are checked, one by one. -/
namespace Go.Proofs.Ytmibjgblhaohiaa
open Go.RowKit Go.Sy
attribute [local irreducible] vcall vloop vcallD retP
set_option maxRecDepth 100000
set_option linter.unusedVariables false
set_option linter.unusedSimpArgs false

/-- The error of a position, the earlier ones being known. -/
def erP (L : List Ps) (k : Nat) : Int := if nmB (L.getD k ps0).p = false then 5 else if mchk (L.getD k ps0).a (L.getD k ps0).c ≠ 0 then mchk (L.getD k ps0).a (L.getD k ps0).c else if ixL (L.take k) (L.getD k ps0).p (L.getD k ps0).c < k then 7 else 0
def sgE (L : List Ps) : Nat → Int
  | 0 => 0
  | k + 1 => if sgE L k ≠ 0 then sgE L k else erP L k
/-- The first error of positions. -/
def sgP (L : List Ps) : Int := if 512 < L.length then 3 else sgE L L.length
theorem sgE_stop {L : List Ps} {k : Nat} (h0 : sgE L k = 0) (h1 : erP L k ≠ 0) : ∀ n, k < n → sgE L n = erP L k
  | 0, hh => by omega
  | n + 1, hh => by
    simp only [sgE]
    by_cases e : k = n
    · subst e; rw [if_neg (by omega)]
    · rw [sgE_stop h0 h1 n (by omega), if_pos h1]
theorem sgE_zero {L : List Ps} : ∀ {n : Nat}, sgE L n = 0 → ∀ k, k < n → erP L k = 0
  | 0, _, k, hk => by omega
  | n + 1, h, k, hk => by
    simp only [sgE] at h
    split at h
    · rename_i h1; exact absurd h h1
    · rename_i h1
      by_cases e : k = n
      · subst e; exact h
      · exact sgE_zero (Classical.not_not.1 h1) k (by omega)
theorem erP_zero {L : List Ps} {k : Nat} (h : erP L k = 0) : nmB (L.getD k ps0).p = true ∧ mchk (L.getD k ps0).a (L.getD k ps0).c = 0 ∧ ¬ ixL (L.take k) (L.getD k ps0).p (L.getD k ps0).c < k := by
  unfold erP at h
  by_cases h1 : nmB (L.getD k ps0).p = false
  · rw [if_pos h1] at h; omega
  rw [if_neg h1] at h
  by_cases h2 : mchk (L.getD k ps0).a (L.getD k ps0).c ≠ 0
  · rw [if_pos h2] at h; exact absurd h h2
  rw [if_neg h2] at h
  by_cases h3 : ixL (L.take k) (L.getD k ps0).p (L.getD k ps0).c < k
  · rw [if_pos h3] at h; omega
  exact ⟨by simpa using h1, Classical.not_not.1 h2, h3⟩
/-- Names that are not too long for any machine. -/
def SmP (L : List Ps) : Prop := ∀ k, (L.getD k ps0).p.size ≤ 100000
abbrev siS (m : Nat) (L : List Ps) (k : Nat) : VS := ⟨[(0, .sl 1 0 0 m), (3, .int .i64 k)], [(1, some (.one true (psB m (pcOf L))))], 2⟩
theorem r41_Single (L : List Ps) (m : Nat) (hm : L.length = m) (hl : m ≤ 100000) (hs : SmP L) : FC Try.prog 2 31 [.sl 1 0 0 m] [(1, some (.one true (psB m (pcOf L))))] (isOut (.int .i64 (sgP L)) [] 2) := by
  unfold sgP
  by_cases h512 : 512 < L.length
  · rw [if_pos h512]
    refine fc_of mixed T_ok Try.func31 rfl (by kernel_rfl) (by kernel_rfl) (by kernel_rfl) ?_
    repeat' ((conv => whnf); first | (refine br_dec (fun h => ?_) (fun h => ?_) <;> try (exfalso; (try dsimp only at h); omega)) | (refine br_ndec (fun h => ?_) (fun h => ?_) <;> try (exfalso; (try dsimp only at h); omega)) | refine br_seq (fun h => ?_) (fun h => ?_) | refine br_nseq (fun h => ?_) (fun h => ?_) | refine br_not (fun h => ?_) (fun h => ?_) | refine br_intro (fun h => ?_) (fun h => ?_) | refine cond_intro rfl ?_ | (refine cond_intro ⟨rfl, ?_⟩ ?_; (first | omega | (dsimp only; omega) | decide)) | (refine cond_intro ?_ ?_; (first | omega | (dsimp only; omega) | decide | (simp only [Nat.add_zero, Int.toNat_natCast, *]; omega))))
    all_goals (conv => whnf)
    all_goals first
      | exact ret_out (l := [0, 1]) rfl rfl trivial allRw_nil
      | (exfalso; omega)
  rw [if_neg h512]
  refine fc_of mixed T_ok Try.func31 rfl (by kernel_rfl) (by kernel_rfl) (by kernel_rfl) ?_
  repeat' ((conv => whnf); first | (refine br_dec (fun h => ?_) (fun h => ?_) <;> try (exfalso; (try dsimp only at h); omega)) | (refine br_ndec (fun h => ?_) (fun h => ?_) <;> try (exfalso; (try dsimp only at h); omega)) | refine br_seq (fun h => ?_) (fun h => ?_) | refine br_nseq (fun h => ?_) (fun h => ?_) | refine br_not (fun h => ?_) (fun h => ?_) | refine br_intro (fun h => ?_) (fun h => ?_) | refine cond_intro rfl ?_ | (refine cond_intro ⟨rfl, ?_⟩ ?_; (first | omega | (dsimp only; omega) | decide)) | (refine cond_intro ?_ ?_; (first | omega | (dsimp only; omega) | decide | (simp only [Nat.add_zero, Int.toNat_natCast, *]; omega))))
  all_goals (conv => whnf)
  all_goals first
    | (exfalso; omega)
    | skip
  refine vloop_lp (siS m L) (fun k => k ≤ m ∧ sgE L k = 0) (fun k => m - k) 0 [0, 1] [] ⟨rfl, ⟨rfl, rfl, trivial⟩, ⟨rfl, trivial⟩⟩ ⟨Nat.zero_le _, rfl⟩ ?_
  rintro k ⟨hk, h0⟩
  by_cases hk2 : k < m
  · obtain ⟨a1, a2, a3⟩ := atP L k
    have c1 := r08_IsName ((pcOf L).p.getD k ⟨#[]⟩) (by rw [a1]; exact hs k)
    have c2 := ref01_Check ((pcOf L).a.getD k 0) ((pcOf L).c.getD k ⟨#[]⟩)
    have c3 := r41_index L k ((pcOf L).p.getD k ⟨#[]⟩) ((pcOf L).c.getD k ⟨#[]⟩) (by omega) (by omega) m hm
    have hx1 : erP L k = if nmB ((pcOf L).p.getD k ⟨#[]⟩) = false then 5 else if mchk ((pcOf L).a.getD k 0) ((pcOf L).c.getD k ⟨#[]⟩) ≠ 0 then mchk ((pcOf L).a.getD k 0) ((pcOf L).c.getD k ⟨#[]⟩) else if ixL (L.take k) ((pcOf L).p.getD k ⟨#[]⟩) ((pcOf L).c.getD k ⟨#[]⟩) < k then 7 else 0 := by rw [a1, a2, a3]; rfl
    have hst : sgE L (k + 1) = erP L k := by simp only [sgE]; rw [if_neg (by omega)]
    have hsp : erP L k ≠ 0 → sgE L m = erP L k := fun h => sgE_stop h0 h m hk2
    unfold ixN at c3
    rw [hm]
    unfold siS
    generalize nmB ((pcOf L).p.getD k ⟨#[]⟩) = nb at *
    generalize mchk ((pcOf L).a.getD k 0) ((pcOf L).c.getD k ⟨#[]⟩) = mc at *
    generalize ixL (L.take k) ((pcOf L).p.getD k ⟨#[]⟩) ((pcOf L).c.getD k ⟨#[]⟩) = ix at *
    generalize erP L k = er at *
    cases nb with
    | false =>
      rw [if_pos rfl] at hx1
      rw [hsp (by omega), hx1]
      repeat' ((conv => whnf); first | (refine vcall_pure (c1) rfl rfl rfl ?_) | (refine vcallD_pure (c1) rfl rfl rfl ?_) | (refine vcall_pure (c2) rfl rfl rfl ?_) | (refine vcallD_pure (c2) rfl rfl rfl ?_) | (refine vcall_out (l :=  [0, 1]) (c3 ) ⟨rfl, rfl, rfl, rfl, (by (repeat' (first | exact trivial | exact GB_wf | exact fun _ _ => rfl | constructor)); first | done | fail), (by (repeat' (first | exact trivial | exact GB_fits rfl | constructor)); first | done | fail)⟩ ?_) | (refine vcallD_out (l :=  [0, 1]) (c3 ) ⟨rfl, rfl, rfl, rfl, (by (repeat' (first | exact trivial | exact GB_wf | exact fun _ _ => rfl | constructor)); first | done | fail), (by (repeat' (first | exact trivial | exact GB_fits rfl | constructor)); first | done | fail)⟩ ?_) | (refine br_dec (fun h => ?_) (fun h => ?_) <;> try (exfalso; (try dsimp only at h); omega)) | (refine br_ndec (fun h => ?_) (fun h => ?_) <;> try (exfalso; (try dsimp only at h); omega)) | refine br_seq (fun h => ?_) (fun h => ?_) | refine br_nseq (fun h => ?_) (fun h => ?_) | refine br_not (fun h => ?_) (fun h => ?_) | refine br_intro (fun h => ?_) (fun h => ?_) | refine cond_intro rfl ?_ | (refine cond_intro ⟨rfl, ?_⟩ ?_; (first | omega | (dsimp only; omega) | decide)) | (refine cond_intro ?_ ?_; (first | omega | (dsimp only; omega) | decide | (simp only [Nat.add_zero, Int.toNat_natCast, *]; omega))))
      all_goals (conv => whnf)
      all_goals first
        | exact ret_out (l := [0, 1]) rfl rfl trivial allRw_nil
        | (exfalso; omega)
        | trace_state
    | true =>
      rw [if_neg (by decide)] at hx1
      by_cases hmc : mc = 0
      · rw [if_neg (by simpa using hmc)] at hx1
        by_cases hix : ix < k
        · rw [if_pos hix] at hx1 c3
          rw [hsp (by omega), hx1]
          repeat' ((conv => whnf); first | (refine vcall_pure (c1) rfl rfl rfl ?_) | (refine vcallD_pure (c1) rfl rfl rfl ?_) | (refine vcall_pure (c2) rfl rfl rfl ?_) | (refine vcallD_pure (c2) rfl rfl rfl ?_) | (refine vcall_out (l :=  [0, 1]) (c3 ) ⟨rfl, rfl, rfl, rfl, (by (repeat' (first | exact trivial | exact GB_wf | exact fun _ _ => rfl | constructor)); first | done | fail), (by (repeat' (first | exact trivial | exact GB_fits rfl | constructor)); first | done | fail)⟩ ?_) | (refine vcallD_out (l :=  [0, 1]) (c3 ) ⟨rfl, rfl, rfl, rfl, (by (repeat' (first | exact trivial | exact GB_wf | exact fun _ _ => rfl | constructor)); first | done | fail), (by (repeat' (first | exact trivial | exact GB_fits rfl | constructor)); first | done | fail)⟩ ?_) | (refine br_dec (fun h => ?_) (fun h => ?_) <;> try (exfalso; (try dsimp only at h); omega)) | (refine br_ndec (fun h => ?_) (fun h => ?_) <;> try (exfalso; (try dsimp only at h); omega)) | refine br_seq (fun h => ?_) (fun h => ?_) | refine br_nseq (fun h => ?_) (fun h => ?_) | refine br_not (fun h => ?_) (fun h => ?_) | refine br_intro (fun h => ?_) (fun h => ?_) | refine cond_intro rfl ?_ | (refine cond_intro ⟨rfl, ?_⟩ ?_; (first | omega | (dsimp only; omega) | decide)) | (refine cond_intro ?_ ?_; (first | omega | (dsimp only; omega) | decide | (simp only [Nat.add_zero, Int.toNat_natCast, *]; omega))))
          all_goals (conv => whnf)
          all_goals first
            | exact ret_out (l := [0, 1]) rfl rfl trivial allRw_nil
            | (exfalso; omega)
            | trace_state
        · rw [if_neg hix] at hx1 c3
          repeat' ((conv => whnf); first | (refine vcall_pure (c1) rfl rfl rfl ?_) | (refine vcallD_pure (c1) rfl rfl rfl ?_) | (refine vcall_pure (c2) rfl rfl rfl ?_) | (refine vcallD_pure (c2) rfl rfl rfl ?_) | (refine vcall_out (l :=  [0, 1]) (c3 ) ⟨rfl, rfl, rfl, rfl, (by (repeat' (first | exact trivial | exact GB_wf | exact fun _ _ => rfl | constructor)); first | done | fail), (by (repeat' (first | exact trivial | exact GB_fits rfl | constructor)); first | done | fail)⟩ ?_) | (refine vcallD_out (l :=  [0, 1]) (c3 ) ⟨rfl, rfl, rfl, rfl, (by (repeat' (first | exact trivial | exact GB_wf | exact fun _ _ => rfl | constructor)); first | done | fail), (by (repeat' (first | exact trivial | exact GB_fits rfl | constructor)); first | done | fail)⟩ ?_) | (refine br_dec (fun h => ?_) (fun h => ?_) <;> try (exfalso; (try dsimp only at h); omega)) | (refine br_ndec (fun h => ?_) (fun h => ?_) <;> try (exfalso; (try dsimp only at h); omega)) | refine br_seq (fun h => ?_) (fun h => ?_) | refine br_nseq (fun h => ?_) (fun h => ?_) | refine br_not (fun h => ?_) (fun h => ?_) | refine br_intro (fun h => ?_) (fun h => ?_) | refine cond_intro rfl ?_ | (refine cond_intro ⟨rfl, ?_⟩ ?_; (first | omega | (dsimp only; omega) | decide)) | (refine cond_intro ?_ ?_; (first | omega | (dsimp only; omega) | decide | (simp only [Nat.add_zero, Int.toNat_natCast, *]; omega))))
          all_goals (conv => whnf)
          all_goals first
            | exact ⟨k + 1, [0, 1], [], ⟨hk2, hst.trans hx1⟩, (show m - (k + 1) < m - k by omega), ⟨rfl, ⟨rfl, congrArg (fun z => some (SV.int .i64 z)) (i64_succ (by omega)), trivial⟩, ⟨rfl, trivial⟩⟩⟩
            | (exfalso; omega)
            | trace_state
      · rw [if_pos hmc] at hx1
        rw [hsp (by omega), hx1]
        repeat' ((conv => whnf); first | (refine vcall_pure (c1) rfl rfl rfl ?_) | (refine vcallD_pure (c1) rfl rfl rfl ?_) | (refine vcall_pure (c2) rfl rfl rfl ?_) | (refine vcallD_pure (c2) rfl rfl rfl ?_) | (refine vcall_out (l :=  [0, 1]) (c3 ) ⟨rfl, rfl, rfl, rfl, (by (repeat' (first | exact trivial | exact GB_wf | exact fun _ _ => rfl | constructor)); first | done | fail), (by (repeat' (first | exact trivial | exact GB_fits rfl | constructor)); first | done | fail)⟩ ?_) | (refine vcallD_out (l :=  [0, 1]) (c3 ) ⟨rfl, rfl, rfl, rfl, (by (repeat' (first | exact trivial | exact GB_wf | exact fun _ _ => rfl | constructor)); first | done | fail), (by (repeat' (first | exact trivial | exact GB_fits rfl | constructor)); first | done | fail)⟩ ?_) | (refine br_dec (fun h => ?_) (fun h => ?_) <;> try (exfalso; (try dsimp only at h); omega)) | (refine br_ndec (fun h => ?_) (fun h => ?_) <;> try (exfalso; (try dsimp only at h); omega)) | refine br_seq (fun h => ?_) (fun h => ?_) | refine br_nseq (fun h => ?_) (fun h => ?_) | refine br_not (fun h => ?_) (fun h => ?_) | refine br_intro (fun h => ?_) (fun h => ?_) | refine cond_intro rfl ?_ | (refine cond_intro ⟨rfl, ?_⟩ ?_; (first | omega | (dsimp only; omega) | decide)) | (refine cond_intro ?_ ?_; (first | omega | (dsimp only; omega) | decide | (simp only [Nat.add_zero, Int.toNat_natCast, *]; omega))))
        all_goals (conv => whnf)
        all_goals first
          | exact ret_out (l := [0, 1]) rfl rfl trivial allRw_nil
          | (exfalso; omega)
          | trace_state
  · have e : k = m := by omega
    subst e
    rw [hm, h0]
    unfold siS
    repeat' ((conv => whnf); first | (refine br_dec (fun h => ?_) (fun h => ?_) <;> try (exfalso; (try dsimp only at h); omega)) | (refine br_ndec (fun h => ?_) (fun h => ?_) <;> try (exfalso; (try dsimp only at h); omega)) | refine br_seq (fun h => ?_) (fun h => ?_) | refine br_nseq (fun h => ?_) (fun h => ?_) | refine br_not (fun h => ?_) (fun h => ?_) | refine br_intro (fun h => ?_) (fun h => ?_) | refine cond_intro rfl ?_ | (refine cond_intro ⟨rfl, ?_⟩ ?_; (first | omega | (dsimp only; omega) | decide)) | (refine cond_intro ?_ ?_; (first | omega | (dsimp only; omega) | decide | (simp only [Nat.add_zero, Int.toNat_natCast, *]; omega))))
    all_goals (conv => whnf)
    all_goals first
      | exact ret_out (l := [0, 1]) rfl rfl trivial allRw_nil
      | (exfalso; omega)
      | trace_state
/-- The rows that were seen. -/
abbrev ceS (m : Nat) (L : List Ps) (k : Nat) (V : List Bool) (bs : List Nat) (ck : Nat) : VS := ⟨[(3, .map 2 0), (11, .sl 1 0 0 m), (12, .int .i64 m), (13, .int .i64 k)], [(1, some (.one true (psB m (pcOf L)))), (2, some (.one false (.obj (.map true false k [.strs ((L.take k).map Ps.c), .strs ((L.take k).map Ps.p)] [.sc (.bools V)] bs ck))))], 3⟩
theorem putL_new {α : Type} {l : List α} {n : Nat} (h : l.length = n) (x : α) : putL n x l = l ++ [x] := by
  unfold putL; rw [if_neg (by omega)]
theorem rowNew {k ix : Nat} (h : ix = k) {C P : List ByteArray} {c p : ByteArray} {V bs : _} {ck : Nat} (q1 : putL k c C = C ++ [c]) (q2 : putL k p P = P ++ [p]) (q3 : putL k true V = V ++ [true]) :
    (some (HB.one false (.obj (.map true false (if ix < k then k else k + 1) [.strs (putL ix c C), .strs (putL ix p P)] [.sc (.bools (putL ix true V))] (if ix < k then bs else bs ++ [ck]) (if ix < k then ck else ck + 1)))) : Option HB) = some (.one false (.obj (.map true false (k + 1) [.strs (C ++ [c]), .strs (P ++ [p])] [.sc (.bools (V ++ [true]))] (bs ++ [ck]) (ck + 1)))) := by
  subst h
  rw [if_neg (by omega), if_neg (by omega), if_neg (by omega), q1, q2, q3]
theorem net_checkEach (L : List Ps) (m : Nat) (hm : L.length = m) (hl : m ≤ 100000) : FC Try.prog 2 24 [.sl 1 0 0 m] [(1, some (.one true (psB m (pcOf L))))] (isOut (.int .i64 (sgP L)) [] 2) := by
  unfold sgP
  by_cases h512 : 512 < L.length
  · rw [if_pos h512]
    refine fc_of mixed T_ok Try.func24 rfl (by kernel_rfl) (by kernel_rfl) (by kernel_rfl) ?_
    repeat' ((conv => whnf); first | (refine br_dec (fun h => ?_) (fun h => ?_) <;> try (exfalso; (try dsimp only at h); omega)) | (refine br_ndec (fun h => ?_) (fun h => ?_) <;> try (exfalso; (try dsimp only at h); omega)) | refine br_seq (fun h => ?_) (fun h => ?_) | refine br_nseq (fun h => ?_) (fun h => ?_) | refine br_not (fun h => ?_) (fun h => ?_) | refine br_intro (fun h => ?_) (fun h => ?_) | refine cond_intro rfl ?_ | (refine cond_intro ⟨rfl, ?_⟩ ?_; (first | omega | (dsimp only; omega) | decide)) | (refine cond_intro ?_ ?_; (first | omega | (dsimp only; omega) | decide | (simp only [Nat.add_zero, Int.toNat_natCast, *]; omega))))
    all_goals (conv => whnf)
    all_goals first
      | exact ret_out (l := [0, 1]) rfl rfl trivial allRw_nil
      | (exfalso; omega)
  rw [if_neg h512]
  refine fc_of mixed T_ok Try.func24 rfl (by kernel_rfl) (by kernel_rfl) (by kernel_rfl) ?_
  repeat' ((conv => whnf); first | (refine br_dec (fun h => ?_) (fun h => ?_) <;> try (exfalso; (try dsimp only at h); omega)) | (refine br_ndec (fun h => ?_) (fun h => ?_) <;> try (exfalso; (try dsimp only at h); omega)) | refine br_seq (fun h => ?_) (fun h => ?_) | refine br_nseq (fun h => ?_) (fun h => ?_) | refine br_not (fun h => ?_) (fun h => ?_) | refine br_intro (fun h => ?_) (fun h => ?_) | refine cond_intro rfl ?_ | (refine cond_intro ⟨rfl, ?_⟩ ?_; (first | omega | (dsimp only; omega) | decide)) | (refine cond_intro ?_ ?_; (first | omega | (dsimp only; omega) | decide | (simp only [Nat.add_zero, Int.toNat_natCast, *]; omega))))
  all_goals (conv => whnf)
  all_goals first
    | (exfalso; omega)
    | skip
  refine vloop_lp (fun x : Nat × List Bool × List Nat × Nat => ceS m L x.1 x.2.1 x.2.2.1 x.2.2.2) (fun x => x.1 ≤ m ∧ sgE L x.1 = 0 ∧ x.2.1.length = x.1 ∧ ∀ j, j < x.1 → x.2.1.getD j false = true) (fun x => m - x.1) (0, [], [], 0) [0, 1, 2] [] ⟨rfl, ⟨rfl, rfl, rfl, rfl, trivial⟩, ⟨rfl, rfl, trivial⟩⟩ ⟨Nat.zero_le _, rfl, rfl, fun j hj => by simp at hj⟩ ?_
  rintro ⟨k, V, bs, ck⟩ ⟨hk, h0, hv, hV⟩
  dsimp only at hk h0 hv hV
  by_cases hk2 : k < m
  · obtain ⟨a1, a2, a3⟩ := atP L k
    have c1 := net_isName ((pcOf L).p.getD k ⟨#[]⟩)
    have c2 := money_Check ((pcOf L).a.getD k 0) ((pcOf L).c.getD k ⟨#[]⟩)
    have c3 := net_placeOf ((pcOf L).p.getD k ⟨#[]⟩) ((pcOf L).a.getD k 0) ((pcOf L).c.getD k ⟨#[]⟩)
    have hx1 : erP L k = if nmB ((pcOf L).p.getD k ⟨#[]⟩) = false then 5 else if mchk ((pcOf L).a.getD k 0) ((pcOf L).c.getD k ⟨#[]⟩) ≠ 0 then mchk ((pcOf L).a.getD k 0) ((pcOf L).c.getD k ⟨#[]⟩) else if ixL (L.take k) ((pcOf L).p.getD k ⟨#[]⟩) ((pcOf L).c.getD k ⟨#[]⟩) < k then 7 else 0 := by rw [a1, a2, a3]; rfl
    have hst : sgE L (k + 1) = erP L k := by simp only [sgE]; rw [if_neg (by omega)]
    have hsp : erP L k ≠ 0 → sgE L m = erP L k := fun h => sgE_stop h0 h m hk2
    have hle := ixL_le ((pcOf L).p.getD k ⟨#[]⟩) ((pcOf L).c.getD k ⟨#[]⟩) (L.take k)
    have hkl : (L.take k).length = k := by rw [List.length_take]; omega
    rw [hkl] at hle
    have htk : L.take (k + 1) = L.take k ++ [L.getD k ps0] := by
      rw [List.take_succ_eq_append_getElem (by omega), List.getD, List.getElem?_eq_getElem (by omega)]; rfl
    have hc1 : (L.take (k + 1)).map Ps.c = (L.take k).map Ps.c ++ [((pcOf L).c.getD k ⟨#[]⟩)] := by rw [htk, List.map_append, a3]; rfl
    have hp1 : (L.take (k + 1)).map Ps.p = (L.take k).map Ps.p ++ [((pcOf L).p.getD k ⟨#[]⟩)] := by rw [htk, List.map_append, a1]; rfl
    rw [hm]
    unfold ceS
    dsimp only
    by_cases hnb : nmB ((pcOf L).p.getD k ⟨#[]⟩) = false
    · rw [if_pos hnb] at hx1
      rw [hnb] at c1
      rw [hsp (by omega), hx1]
      repeat' ((conv => whnf); first | (refine vcall_pure (c1) rfl rfl rfl ?_) | (refine vcallD_pure (c1) rfl rfl rfl ?_) | (refine vcall_pure (c2) rfl rfl rfl ?_) | (refine vcallD_pure (c2) rfl rfl rfl ?_) | (refine vcall_pure (c3) rfl rfl rfl ?_) | (refine vcallD_pure (c3) rfl rfl rfl ?_) | (refine br_dec (fun h => ?_) (fun h => ?_) <;> try (exfalso; (try dsimp only at h); omega)) | (refine br_ndec (fun h => ?_) (fun h => ?_) <;> try (exfalso; (try dsimp only at h); omega)) | refine br_seq (fun h => ?_) (fun h => ?_) | refine br_nseq (fun h => ?_) (fun h => ?_) | refine br_not (fun h => ?_) (fun h => ?_) | refine br_intro (fun h => ?_) (fun h => ?_) | refine cond_intro rfl ?_ | (refine cond_intro ⟨rfl, ?_⟩ ?_; (first | omega | (dsimp only; omega) | decide)) | (refine cond_intro ?_ ?_; (first | omega | (dsimp only; omega) | decide | (simp only [Nat.add_zero, Int.toNat_natCast, *]; omega))))
      all_goals (conv => whnf)
      all_goals first
        | exact ret_out (l := [0, 1]) rfl rfl trivial allRw_nil
        | (exfalso; omega)
        | trace_state
    rw [if_neg hnb] at hx1
    rw [show nmB ((pcOf L).p.getD k ⟨#[]⟩) = true by simpa using hnb] at c1
    by_cases hmc : mchk ((pcOf L).a.getD k 0) ((pcOf L).c.getD k ⟨#[]⟩) ≠ 0
    · rw [if_pos hmc] at hx1
      rw [hsp (by omega), hx1]
      generalize mchk ((pcOf L).a.getD k 0) ((pcOf L).c.getD k ⟨#[]⟩) = mc at *
      repeat' ((conv => whnf); first | (refine vcall_pure (c1) rfl rfl rfl ?_) | (refine vcallD_pure (c1) rfl rfl rfl ?_) | (refine vcall_pure (c2) rfl rfl rfl ?_) | (refine vcallD_pure (c2) rfl rfl rfl ?_) | (refine vcall_pure (c3) rfl rfl rfl ?_) | (refine vcallD_pure (c3) rfl rfl rfl ?_) | (refine br_dec (fun h => ?_) (fun h => ?_) <;> try (exfalso; (try dsimp only at h); omega)) | (refine br_ndec (fun h => ?_) (fun h => ?_) <;> try (exfalso; (try dsimp only at h); omega)) | refine br_seq (fun h => ?_) (fun h => ?_) | refine br_nseq (fun h => ?_) (fun h => ?_) | refine br_not (fun h => ?_) (fun h => ?_) | refine br_intro (fun h => ?_) (fun h => ?_) | refine cond_intro rfl ?_ | (refine cond_intro ⟨rfl, ?_⟩ ?_; (first | omega | (dsimp only; omega) | decide)) | (refine cond_intro ?_ ?_; (first | omega | (dsimp only; omega) | decide | (simp only [Nat.add_zero, Int.toNat_natCast, *]; omega))))
      all_goals (conv => whnf)
      all_goals first
        | exact ret_out (l := [0, 1]) rfl rfl trivial allRw_nil
        | (exfalso; omega)
        | trace_state
    rw [if_neg hmc] at hx1
    rw [Classical.not_not.1 hmc] at c2
    by_cases hix : ixL (L.take k) ((pcOf L).p.getD k ⟨#[]⟩) ((pcOf L).c.getD k ⟨#[]⟩) < k
    · rw [if_pos hix] at hx1
      rw [hsp (by omega), hx1]
      have hv1 := hV _ hix
      repeat' ((conv => whnf); first | (refine vcall_pure (c1) rfl rfl rfl ?_) | (refine vcallD_pure (c1) rfl rfl rfl ?_) | (refine vcall_pure (c2) rfl rfl rfl ?_) | (refine vcallD_pure (c2) rfl rfl rfl ?_) | (refine vcall_pure (c3) rfl rfl rfl ?_) | (refine vcallD_pure (c3) rfl rfl rfl ?_) | (refine br_dec (fun h => ?_) (fun h => ?_) <;> try (exfalso; (try dsimp only at h); omega)) | (refine br_ndec (fun h => ?_) (fun h => ?_) <;> try (exfalso; (try dsimp only at h); omega)) | refine br_seq (fun h => ?_) (fun h => ?_) | refine br_nseq (fun h => ?_) (fun h => ?_) | refine br_not (fun h => ?_) (fun h => ?_) | refine br_intro (fun h => ?_) (fun h => ?_) | refine cond_intro rfl ?_ | (refine cond_intro ⟨rfl, ?_⟩ ?_; (first | omega | (dsimp only; omega) | decide)) | (refine cond_intro ?_ ?_; (first | omega | (dsimp only; omega) | decide | (simp only [Nat.add_zero, Int.toNat_natCast, *]; omega))))
      all_goals (conv => whnf)
      all_goals first
        | exact ret_out (l := [0, 1]) rfl rfl trivial allRw_nil
        | (exfalso; first | omega | (rw [hv1] at h; cases h; done) | contradiction)
        | trace_state
    · rw [if_neg hix] at hx1
      have hik : ixL (L.take k) ((pcOf L).p.getD k ⟨#[]⟩) ((pcOf L).c.getD k ⟨#[]⟩) = k := by omega
      have hv1 : V.getD k false = false := by rw [List.getD, List.getElem?_eq_none (by omega)]; rfl
      have hVn : ∀ j, j < k + 1 → (V ++ [true]).getD j false = true := by
        intro j hj
        by_cases e : j = k
        · subst e; rw [List.getD, List.getElem?_append_right (by omega)]; simp [hv]
        · have := hV j (by omega)
          rw [List.getD, List.getElem?_append_left (by omega)]; exact this
      have q1 := putL_new (show ((L.take k).map Ps.c).length = k by simpa using hkl) ((pcOf L).c.getD k ⟨#[]⟩)
      have q2 := putL_new (show ((L.take k).map Ps.p).length = k by simpa using hkl) ((pcOf L).p.getD k ⟨#[]⟩)
      have q3 := putL_new hv true
      repeat' ((conv => whnf); first | (rw [hik]) | (rw [hv1]) | (refine vcall_pure (c1) rfl rfl rfl ?_) | (refine vcallD_pure (c1) rfl rfl rfl ?_) | (refine vcall_pure (c2) rfl rfl rfl ?_) | (refine vcallD_pure (c2) rfl rfl rfl ?_) | (refine vcall_pure (c3) rfl rfl rfl ?_) | (refine vcallD_pure (c3) rfl rfl rfl ?_) | (refine br_dec (fun h => ?_) (fun h => ?_) <;> try (exfalso; (try dsimp only at h); omega)) | (refine br_ndec (fun h => ?_) (fun h => ?_) <;> try (exfalso; (try dsimp only at h); omega)) | refine br_seq (fun h => ?_) (fun h => ?_) | refine br_nseq (fun h => ?_) (fun h => ?_) | refine br_not (fun h => ?_) (fun h => ?_) | refine br_intro (fun h => ?_) (fun h => ?_) | refine cond_intro rfl ?_ | (refine cond_intro ⟨rfl, ?_⟩ ?_; (first | omega | (dsimp only; omega) | decide)) | (refine cond_intro ?_ ?_; (first | omega | (dsimp only; omega) | decide | (simp only [Nat.add_zero, Int.toNat_natCast, *]; omega))))
      all_goals (conv => whnf)
      · exfalso
        rw [show sidx2 (List.map Ps.c (List.take k L)) (List.map Ps.p (List.take k L)) ((pcOf L).c.getD k ⟨#[]⟩) ((pcOf L).p.getD k ⟨#[]⟩) = k from hik, hv1] at h
        cases h
      · rename_i h1 h2
        refine ⟨(k + 1, V ++ [true], bs ++ [ck], ck + 1), [0, 1, 2], [], ⟨hk2, hst.trans hx1, by simp [hv], hVn⟩, (show m - (k + 1) < m - k by omega), ⟨rfl, ⟨rfl, rfl, rfl, congrArg (fun z => some (SV.int .i64 z)) (i64_succ (by omega)), trivial⟩, ⟨rfl, ?_, trivial⟩⟩⟩
        rw [hc1, hp1]
        exact rowNew hik q1 q2 q3
  · have e : k = m := by omega
    subst e
    rw [hm, h0]
    unfold ceS
    repeat' ((conv => whnf); first | (refine br_dec (fun h => ?_) (fun h => ?_) <;> try (exfalso; (try dsimp only at h); omega)) | (refine br_ndec (fun h => ?_) (fun h => ?_) <;> try (exfalso; (try dsimp only at h); omega)) | refine br_seq (fun h => ?_) (fun h => ?_) | refine br_nseq (fun h => ?_) (fun h => ?_) | refine br_not (fun h => ?_) (fun h => ?_) | refine br_intro (fun h => ?_) (fun h => ?_) | refine cond_intro rfl ?_ | (refine cond_intro ⟨rfl, ?_⟩ ?_; (first | omega | (dsimp only; omega) | decide)) | (refine cond_intro ?_ ?_; (first | omega | (dsimp only; omega) | decide | (simp only [Nat.add_zero, Int.toNat_natCast, *]; omega))))
    all_goals (conv => whnf)
    all_goals first
      | exact ret_out (l := [0, 1]) rfl rfl trivial allRw_nil
      | (exfalso; omega)
      | trace_state
end Go.Proofs.Ytmibjgblhaohiaa

/- Contracts: positions and their sums are checked. -/
namespace Go.Proofs.Ytmibjgblhaohiaa
open Go.RowKit Go.Sy
attribute [local irreducible] vcall vloop vcallD retP
set_option maxRecDepth 100000
set_option linter.unusedVariables false
set_option linter.unusedSimpArgs false

/-- The sum of the positions of a currency. -/
def sumC : List Ps → ByteArray → Int
  | [], _ => 0
  | x :: L, c => (if x.c = c then x.a else 0) + sumC L c
theorem sumC_append (A B : List Ps) (c : ByteArray) : sumC (A ++ B) c = sumC A c + sumC B c := by
  induction A with
  | nil => simp [sumC]
  | cons x A ih => simp only [List.cons_append, sumC, ih, Int.add_assoc]
theorem sumC_perm {A B : List Ps} (h : A.Perm B) (c : ByteArray) : sumC A c = sumC B c := by
  induction h with
  | nil => rfl
  | cons x _ ih => simp only [sumC, ih]
  | swap x y l => simp only [sumC]; omega
  | trans _ _ ih1 ih2 => exact ih1.trans ih2
theorem sumC_no {L : List Ps} {c : ByteArray} (h : ∀ x ∈ L, x.c ≠ c) : sumC L c = 0 := by
  induction L with
  | nil => rfl
  | cons x L ih =>
    simp only [sumC]
    rw [if_neg (h x (by simp)), ih (fun y hy => h y (by simp [hy]))]; rfl
theorem take_getD {L : List Ps} {k : Nat} (hk : k < L.length) : L.take (k + 1) = L.take k ++ [L.getD k ps0] := by
  rw [List.take_succ_eq_append_getElem hk, List.getD, List.getElem?_eq_getElem hk]; rfl
theorem sumC_step {L : List Ps} {k : Nat} (hk : k < L.length) (c : ByteArray) : sumC (L.take (k + 1)) c = sumC (L.take k) c + if (L.getD k ps0).c = c then (L.getD k ps0).a else 0 := by
  rw [take_getD hk, sumC_append]; simp [sumC]
theorem sumC_bd {L : List Ps} (h : ∀ k, k < L.length → -4503599627370496 ≤ (L.getD k ps0).a ∧ (L.getD k ps0).a ≤ 4503599627370496) (c : ByteArray) : ∀ k : Nat, k ≤ L.length → -4503599627370496 * (k : Int) ≤ sumC (L.take k) c ∧ sumC (L.take k) c ≤ 4503599627370496 * (k : Int)
  | 0, _ => by simp [sumC]
  | k + 1, hk => by
    have ih := sumC_bd h c k (by omega)
    have := h k (by omega)
    rw [sumC_step (by omega)]
    split <;> omega
/-- All sums are zero. -/
def balB (L : List Ps) : Bool := L.all (fun x => decide (sumC L x.c = 0))
theorem balB_iff {L : List Ps} : balB L = true ↔ ∀ c, sumC L c = 0 := by
  unfold balB
  rw [List.all_eq_true]
  constructor
  · intro h c
    by_cases hc : ∃ x ∈ L, x.c = c
    · obtain ⟨x, hx, rfl⟩ := hc
      exact of_decide_eq_true (h x hx)
    · exact sumC_no fun x hx e => hc ⟨x, hx, e⟩
  · exact fun h x _ => decide_eq_true (h _)
/-- The error of positions. -/
def ckP (L : List Ps) : Int := if sgP L ≠ 0 then sgP L else if balB L = true then 0 else 26
theorem mchk_bd {a : Int} {c : ByteArray} (h : mchk a c = 0) : curB c = true ∧ -4503599627370496 ≤ a ∧ a ≤ 4503599627370496 := by
  rcases mchk_or a c with h1 | h1
  · omega
  · exact h1.2
theorem sgP_zero {L : List Ps} (h : sgP L = 0) : L.length ≤ 512 ∧ ∀ k, k < L.length → erP L k = 0 := by
  unfold sgP at h
  split at h
  · omega
  · exact ⟨by omega, sgE_zero h⟩
theorem sgP_bd {L : List Ps} (h : sgP L = 0) (k : Nat) (hk : k < L.length) : -4503599627370496 ≤ (L.getD k ps0).a ∧ (L.getD k ps0).a ≤ 4503599627370496 := (mchk_bd (erP_zero ((sgP_zero h).2 k hk)).2.1).2
/-- What a map of sums holds. -/
structure SmI (L : List Ps) (k n : Nat) (C : List ByteArray) (W : List Int) : Prop where
  c : C.length = n
  w : W.length = n
  nd : C.Nodup
  all : ∀ c, (if sidx C c < n then W.getD (sidx C c) 0 else 0) = sumC (L.take k) c
theorem smI_zero (L : List Ps) : SmI L 0 0 [] [] := ⟨rfl, rfl, List.nodup_nil, fun c => by simp [sumC]⟩
theorem putL_lt {α : Type} {l : List α} {i : Nat} (h : i < l.length) (x : α) : putL i x l = l.set i x := by unfold putL; rw [if_pos h]
theorem smI_step {L : List Ps} {k n : Nat} {C : List ByteArray} {W : List Int} (hI : SmI L k n C W) (hk : k < L.length) (v : Int) (hv : v = sumC (L.take k) (L.getD k ps0).c + (L.getD k ps0).a) :
    SmI L (k + 1) (if sidx C (L.getD k ps0).c < n then n else n + 1) (putL (sidx C (L.getD k ps0).c) (L.getD k ps0).c C) (putL (sidx C (L.getD k ps0).c) v W) := by
  generalize hx : L.getD k ps0 = x at *
  obtain ⟨hc, hw, hnd, hall⟩ := hI
  have hle := sidx_le C x.c
  by_cases h : sidx C x.c < n
  · have e1 : putL (sidx C x.c) x.c C = C := by rw [put_key, if_pos (by omega)]
    rw [if_pos h, e1, putL_lt (by omega)]
    refine ⟨hc, by simp [hw], hnd, fun c => ?_⟩
    rw [sumC_step hk, hx]
    by_cases ec : x.c = c
    · subst ec
      rw [if_pos h, if_pos rfl, List.getD, List.getElem?_set_self (by omega)]
      exact hv
    · rw [if_neg ec, Int.add_zero, ← hall c]
      by_cases h2 : sidx C c < n
      · rw [if_pos h2, if_pos h2]
        have hne : sidx C x.c ≠ sidx C c := by
          intro e
          have g1 := sidx_get (l := C) (s := x.c) (by omega)
          have g2 := sidx_get (l := C) (s := c) (by omega)
          rw [e, g2] at g1
          exact ec (Option.some.inj g1).symm
        rw [List.getD, List.getD, List.getElem?_set_ne hne]
      · rw [if_neg h2, if_neg h2]
  · have hn : sidx C x.c = n := by omega
    rw [if_neg h, hn]
    have e1 := putL_new hc x.c
    have e2 := putL_new hw v
    rw [e1, e2]
    have hni : x.c ∉ C := fun hm => h (by rw [← hc]; exact sidx_lt.2 hm)
    have hnd' : (C ++ [x.c]).Nodup := List.nodup_append.2 ⟨hnd, by simp, fun a ha b hb e => by simp at hb; subst hb; subst e; exact hni ha⟩
    refine ⟨by simp [hc], by simp [hw], hnd', fun c => ?_⟩
    rw [sumC_step hk, hx, ← hall c]
    by_cases ec : x.c = c
    · subst ec
      have e3 : sidx (C ++ [x.c]) x.c = n := sidx_of_get hnd' (by rw [List.getElem?_append_right (by omega)]; simp [hc])
      rw [e3, if_pos (by omega), if_neg h, if_pos rfl, List.getD, List.getElem?_append_right (by omega)]
      simp only [hw, Nat.sub_self, List.getElem?_cons_zero, Option.getD_some]
      have := hall x.c
      rw [if_neg h] at this
      omega
    · rw [if_neg ec, Int.add_zero]
      by_cases h2 : sidx C c < n
      · have e3 : sidx (C ++ [x.c]) c = sidx C c := sidx_of_get hnd' (by rw [List.getElem?_append_left (by omega)]; exact sidx_get (by omega))
        rw [e3, if_pos (by omega), if_pos h2, List.getD, List.getD, List.getElem?_append_left (by omega)]
      · have hnm : c ∉ C ++ [x.c] := by
          intro hm
          rcases List.mem_append.1 hm with hm | hm
          · exact h2 (by rw [← hc]; exact sidx_lt.2 hm)
          · simp at hm; exact ec hm.symm
        rw [if_neg h2, if_neg]
        intro h3
        exact hnm (sidx_lt.1 (by rw [List.length_append, hc]; simpa using h3))
theorem smI_row {L : List Ps} {k n : Nat} {C : List ByteArray} {W : List Int} (hI : SmI L k n C W) {i : Nat} (hi : i < n) : W.getD i 0 = sumC (L.take k) (C.getD i ⟨#[]⟩) := by
  have e : sidx C (C.getD i ⟨#[]⟩) = i := sidx_of_get hI.nd (by rw [List.getD, List.getElem?_eq_getElem (by have := hI.c; omega)]; rfl)
  have := hI.all (C.getD i ⟨#[]⟩)
  rw [e, if_pos hi] at this
  exact this
theorem smI_nz {L : List Ps} {n : Nat} {C : List ByteArray} {W : List Int} (hI : SmI L L.length n C W) {i : Nat} (hi : i < n) (h : W.getD i 0 ≠ 0) : balB L = false := by
  cases hb : balB L with
  | false => rfl
  | true =>
    have := smI_row hI hi
    rw [List.take_length, balB_iff.1 hb] at this
    exact absurd this h
theorem smI_z {L : List Ps} {n : Nat} {C : List ByteArray} {W : List Int} (hI : SmI L L.length n C W) (h : ∀ i, i < n → W.getD i 0 = 0) : balB L = true := by
  refine balB_iff.2 fun c => ?_
  have := hI.all c
  rw [List.take_length] at this
  rw [← this]
  split
  · rename_i h1; exact h _ h1
  · rfl
abbrev ncS (m : Nat) (L : List Ps) (x : Nat × Nat × List ByteArray × List Int × List Nat × Nat) : VS := ⟨[(4, .map 2 0), (15, .sl 1 0 0 m), (16, .int .i64 m), (17, .int .i64 x.1)], [(1, some (.one true (psB m (pcOf L)))), (2, some (.one false (.obj (.map false false x.2.1 [.strs x.2.2.1] [.sc (.ints .i64 x.2.2.2.1)] x.2.2.2.2.1 x.2.2.2.2.2))))], 3⟩
theorem net_Check (L : List Ps) (m : Nat) (hm : L.length = m) (hl : m ≤ 100000) : FC Try.prog 2 12 [.sl 1 0 0 m] [(1, some (.one true (psB m (pcOf L))))] (isOut (.int .i64 (ckP L)) [] 2) := by
  have c1 := net_checkEach L m hm hl
  unfold ckP
  by_cases hsg : sgP L ≠ 0
  · rw [if_pos hsg]
    generalize sgP L = sg at *
    refine fc_of mixed T_ok Try.func12 rfl (by kernel_rfl) (by kernel_rfl) (by kernel_rfl) ?_
    repeat' ((conv => whnf); first | (refine vcall_out (l :=  [0, 1]) (c1 ) ⟨rfl, rfl, rfl, rfl, (by (repeat' (first | exact trivial | exact GB_wf | exact fun _ _ => rfl | constructor)); first | done | fail), (by (repeat' (first | exact trivial | exact GB_fits rfl | constructor)); first | done | fail)⟩ ?_) | (refine br_dec (fun h => ?_) (fun h => ?_) <;> try (exfalso; (try dsimp only at h); omega)) | (refine br_ndec (fun h => ?_) (fun h => ?_) <;> try (exfalso; (try dsimp only at h); omega)) | refine br_seq (fun h => ?_) (fun h => ?_) | refine br_nseq (fun h => ?_) (fun h => ?_) | refine br_not (fun h => ?_) (fun h => ?_) | refine br_intro (fun h => ?_) (fun h => ?_) | refine cond_intro rfl ?_ | (refine cond_intro ⟨rfl, ?_⟩ ?_; (first | omega | (dsimp only; omega) | decide)) | (refine cond_intro ?_ ?_; (first | omega | (dsimp only; omega) | decide | (simp only [Nat.add_zero, Int.toNat_natCast, *]; omega))))
    all_goals (conv => whnf)
    all_goals first
      | exact ret_out (l := [0, 1]) rfl rfl trivial allRw_nil
      | (exfalso; omega)
      | trace_state
  rw [if_neg hsg]
  have hz := Classical.not_not.1 hsg
  rw [hz] at c1
  have hbd := sgP_bd hz
  have h512 := (sgP_zero hz).1
  have hsum := fun c k hk => sumC_bd hbd c k hk
  refine fc_of mixed T_ok Try.func12 rfl (by kernel_rfl) (by kernel_rfl) (by kernel_rfl) ?_
  repeat' ((conv => whnf); first | (refine vcall_out (l :=  [0, 1]) (c1 ) ⟨rfl, rfl, rfl, rfl, (by (repeat' (first | exact trivial | exact GB_wf | exact fun _ _ => rfl | constructor)); first | done | fail), (by (repeat' (first | exact trivial | exact GB_fits rfl | constructor)); first | done | fail)⟩ ?_) | (refine br_dec (fun h => ?_) (fun h => ?_) <;> try (exfalso; (try dsimp only at h); omega)) | (refine br_ndec (fun h => ?_) (fun h => ?_) <;> try (exfalso; (try dsimp only at h); omega)) | refine br_seq (fun h => ?_) (fun h => ?_) | refine br_nseq (fun h => ?_) (fun h => ?_) | refine br_not (fun h => ?_) (fun h => ?_) | refine br_intro (fun h => ?_) (fun h => ?_) | refine cond_intro rfl ?_ | (refine cond_intro ⟨rfl, ?_⟩ ?_; (first | omega | (dsimp only; omega) | decide)) | (refine cond_intro ?_ ?_; (first | omega | (dsimp only; omega) | decide | (simp only [Nat.add_zero, Int.toNat_natCast, *]; omega))))
  all_goals (conv => whnf)
  refine vloop_lp (ncS m L) (fun x => x.1 ≤ m ∧ SmI L x.1 x.2.1 x.2.2.1 x.2.2.2.1) (fun x => m - x.1) (0, 0, [], [], [], 0) [0, 1, 2] [] ⟨rfl, ⟨rfl, rfl, rfl, rfl, trivial⟩, ⟨rfl, rfl, trivial⟩⟩ ⟨Nat.zero_le _, smI_zero L⟩ ?_
  rintro ⟨k, n, C, W, bs, ck⟩ ⟨hk, hI⟩
  dsimp only at hk hI
  by_cases hk2 : k < m
  · obtain ⟨a1, a2, a3⟩ := atP L k
    have hv := hI.all (L.getD k ps0).c
    have hb1 := hsum (L.getD k ps0).c k (by omega)
    have hb2 := hbd k (by omega)
    have hv2 : W.getD (sidx C (L.getD k ps0).c) 0 = sumC (L.take k) (L.getD k ps0).c := by
      rw [← hv]
      split
      · rfl
      · rw [List.getD, List.getElem?_eq_none (by have := hI.w; omega)]; rfl
    have hst := smI_step hI (by omega) (IntKind.i64.wrap (W.getD (sidx C (L.getD k ps0).c) 0 + (L.getD k ps0).a)) (by rw [hv2]; exact w64_in (by omega) (by omega))
    rw [← a3, ← a2] at hst
    clear hv hb1 hb2 hv2 a1 a2 a3
    unfold ncS
    dsimp only
    repeat' ((conv => whnf); first | (refine br_dec (fun h => ?_) (fun h => ?_) <;> try (exfalso; (try dsimp only at h); omega)) | (refine br_ndec (fun h => ?_) (fun h => ?_) <;> try (exfalso; (try dsimp only at h); omega)) | refine br_seq (fun h => ?_) (fun h => ?_) | refine br_nseq (fun h => ?_) (fun h => ?_) | refine br_not (fun h => ?_) (fun h => ?_) | refine br_intro (fun h => ?_) (fun h => ?_) | refine cond_intro rfl ?_ | (refine cond_intro ⟨rfl, ?_⟩ ?_; (first | omega | (dsimp only; omega) | decide)) | (refine cond_intro ?_ ?_; (first | omega | (dsimp only; omega) | decide | (simp only [Nat.add_zero, Int.toNat_natCast, *]; omega))))
    all_goals (conv => whnf)
    all_goals first
      | exact ⟨(k + 1, (if sidx C ((pcOf L).c.getD k ⟨#[]⟩) < n then n else n + 1), putL (sidx C ((pcOf L).c.getD k ⟨#[]⟩)) ((pcOf L).c.getD k ⟨#[]⟩) C, putL (sidx C ((pcOf L).c.getD k ⟨#[]⟩)) (IntKind.i64.wrap (W.getD (sidx C ((pcOf L).c.getD k ⟨#[]⟩)) 0 + (pcOf L).a.getD k 0)) W, (if sidx C ((pcOf L).c.getD k ⟨#[]⟩) < n then bs else bs ++ [ck]), (if sidx C ((pcOf L).c.getD k ⟨#[]⟩) < n then ck else ck + 1)), [0, 1, 2], [], ⟨hk2, hst⟩, (show m - (k + 1) < m - k by omega), ⟨rfl, ⟨rfl, rfl, rfl, congrArg (fun z => some (SV.int .i64 z)) (i64_succ (by omega)), trivial⟩, ⟨rfl, rfl, trivial⟩⟩⟩
      | (exfalso; omega)
      | trace_state
  · have e : k = m := by omega
    subst e
    have hI' : SmI L L.length n C W := by rw [hm]; exact hI
    have hnz := fun (i : Nat) (hi : i < n) h => smI_nz hI' hi h
    have hzz := smI_z hI'
    unfold ncS
    dsimp only
    repeat' ((conv => whnf); first | (refine br_dec (fun h => ?_) (fun h => ?_) <;> try (exfalso; (try dsimp only at h); omega)) | (refine br_ndec (fun h => ?_) (fun h => ?_) <;> try (exfalso; (try dsimp only at h); omega)) | refine br_seq (fun h => ?_) (fun h => ?_) | refine br_nseq (fun h => ?_) (fun h => ?_) | refine br_not (fun h => ?_) (fun h => ?_) | refine br_intro (fun h => ?_) (fun h => ?_) | refine cond_intro rfl ?_ | (refine cond_intro ⟨rfl, ?_⟩ ?_; (first | omega | (dsimp only; omega) | decide)) | (refine cond_intro ?_ ?_; (first | omega | (dsimp only; omega) | decide | (simp only [Nat.add_zero, Int.toNat_natCast, *]; omega))))
    all_goals (conv => whnf)
    all_goals first
      | (exfalso; omega)
      | skip
    refine vloop_of (fun sn : List Nat => ⟨[(32, .ptr 3 0 0 0)], [(2, some (.one false (.obj (.map false false n [.strs C] [.sc (.ints .i64 W)] bs ck)))), (3, some (.one false (.obj (.iter 2 0 bs ck sn))))], 4⟩) (fun sn => sn.Nodup ∧ (∀ i ∈ sn, i < n) ∧ ∀ i ∈ sn, W.getD i 0 = 0) (fun sn => n - sn.length) [] [0, 1, 2, 3] [] ⟨rfl, ⟨rfl, trivial⟩, ⟨rfl, rfl, trivial⟩⟩ ⟨List.nodup_nil, by simp, by simp⟩ ?_
    rintro sn ⟨hd, hl2, hzr⟩
    repeat' ((conv => whnf); first | (refine ⟨⟨rfl, rfl⟩, fun i hi hni => ?_, fun hall => ?_⟩) | (refine br_dec (fun h => ?_) (fun h => ?_) <;> try (exfalso; (try dsimp only at h); omega)) | (refine br_ndec (fun h => ?_) (fun h => ?_) <;> try (exfalso; (try dsimp only at h); omega)) | refine br_seq (fun h => ?_) (fun h => ?_) | refine br_nseq (fun h => ?_) (fun h => ?_) | refine br_not (fun h => ?_) (fun h => ?_) | refine br_intro (fun h => ?_) (fun h => ?_) | refine cond_intro rfl ?_ | (refine cond_intro ⟨rfl, ?_⟩ ?_; (first | omega | (dsimp only; omega) | decide)) | (refine cond_intro ?_ ?_; (first | omega | (dsimp only; omega) | decide | (simp only [Nat.add_zero, Int.toNat_natCast, *]; omega))))
    all_goals (conv => whnf)
    · rw [hnz _ hi (by assumption), if_neg (by decide)]
      exact ret_out (l := [0, 1]) rfl rfl trivial allRw_nil
    · have := nodup_cons_lt hd hl2 hi hni
      refine ⟨i :: sn, [0, 1, 2, 3], [], ⟨List.nodup_cons.2 ⟨hni, hd⟩, fun x hx => ?_, fun x hx => ?_⟩, by simp only [List.length_cons]; omega, ⟨rfl, ⟨rfl, trivial⟩, ⟨rfl, rfl, trivial⟩⟩⟩
      · rcases List.mem_cons.1 hx with rfl | hx
        · exact hi
        · exact hl2 x hx
      · rcases List.mem_cons.1 hx with rfl | hx
        · assumption
        · exact hzr x hx
    · rw [hzz (fun i hi => hzr i (hall i hi)), if_pos rfl]
      exact ret_out (l := [0, 1]) rfl rfl trivial allRw_nil
theorem balB_no {L : List Ps} {i : Nat} (hi : i < L.length) (h : sumC L (L.getD i ps0).c ≠ 0) : balB L = false := by
  cases hb : balB L with
  | false => rfl
  | true => exact absurd (balB_iff.1 hb _) h
theorem balB_of {L : List Ps} (h : ∀ i, i < L.length → sumC L (L.getD i ps0).c = 0) : balB L = true := by
  unfold balB
  rw [List.all_eq_true]
  intro x hx
  obtain ⟨j, hj, rfl⟩ := List.getElem_of_mem hx
  have := h j hj
  rw [List.getD, List.getElem?_eq_getElem hj] at this
  exact decide_eq_true this
theorem r41_Check (L : List Ps) (m : Nat) (hm : L.length = m) (hl : m ≤ 100000) (hs : SmP L) : FC Try.prog 2 13 [.sl 1 0 0 m] [(1, some (.one true (psB m (pcOf L))))] (isOut (.int .i64 (ckP L)) [] 2) := by
  have c1 := r41_Single L m hm hl hs
  unfold ckP
  by_cases hsg : sgP L ≠ 0
  · rw [if_pos hsg]
    generalize sgP L = sg at *
    refine fc_of mixed T_ok Try.func13 rfl (by kernel_rfl) (by kernel_rfl) (by kernel_rfl) ?_
    repeat' ((conv => whnf); first | (refine vcall_out (l :=  [0, 1]) (c1 ) ⟨rfl, rfl, rfl, rfl, (by (repeat' (first | exact trivial | exact GB_wf | exact fun _ _ => rfl | constructor)); first | done | fail), (by (repeat' (first | exact trivial | exact GB_fits rfl | constructor)); first | done | fail)⟩ ?_) | (refine vcallD_out (l :=  [0, 1]) (c1 ) ⟨rfl, rfl, rfl, rfl, (by (repeat' (first | exact trivial | exact GB_wf | exact fun _ _ => rfl | constructor)); first | done | fail), (by (repeat' (first | exact trivial | exact GB_fits rfl | constructor)); first | done | fail)⟩ ?_) | (refine br_dec (fun h => ?_) (fun h => ?_) <;> try (exfalso; (try dsimp only at h); omega)) | (refine br_ndec (fun h => ?_) (fun h => ?_) <;> try (exfalso; (try dsimp only at h); omega)) | refine br_seq (fun h => ?_) (fun h => ?_) | refine br_nseq (fun h => ?_) (fun h => ?_) | refine br_not (fun h => ?_) (fun h => ?_) | refine br_intro (fun h => ?_) (fun h => ?_) | refine cond_intro rfl ?_ | (refine cond_intro ⟨rfl, ?_⟩ ?_; (first | omega | (dsimp only; omega) | decide)) | (refine cond_intro ?_ ?_; (first | omega | (dsimp only; omega) | decide | (simp only [Nat.add_zero, Int.toNat_natCast, *]; omega))))
    all_goals (conv => whnf)
    all_goals first
      | exact ret_out (l := [0, 1]) rfl rfl trivial allRw_nil
      | (exfalso; omega)
      | trace_state
  rw [if_neg hsg]
  have hz := Classical.not_not.1 hsg
  rw [hz] at c1
  have hbd := sgP_bd hz
  have h512 := (sgP_zero hz).1
  have hsum := fun c k hk => sumC_bd hbd c k hk
  refine fc_of mixed T_ok Try.func13 rfl (by kernel_rfl) (by kernel_rfl) (by kernel_rfl) ?_
  repeat' ((conv => whnf); first | (refine vcall_out (l :=  [0, 1]) (c1 ) ⟨rfl, rfl, rfl, rfl, (by (repeat' (first | exact trivial | exact GB_wf | exact fun _ _ => rfl | constructor)); first | done | fail), (by (repeat' (first | exact trivial | exact GB_fits rfl | constructor)); first | done | fail)⟩ ?_) | (refine vcallD_out (l :=  [0, 1]) (c1 ) ⟨rfl, rfl, rfl, rfl, (by (repeat' (first | exact trivial | exact GB_wf | exact fun _ _ => rfl | constructor)); first | done | fail), (by (repeat' (first | exact trivial | exact GB_fits rfl | constructor)); first | done | fail)⟩ ?_) | (refine br_dec (fun h => ?_) (fun h => ?_) <;> try (exfalso; (try dsimp only at h); omega)) | (refine br_ndec (fun h => ?_) (fun h => ?_) <;> try (exfalso; (try dsimp only at h); omega)) | refine br_seq (fun h => ?_) (fun h => ?_) | refine br_nseq (fun h => ?_) (fun h => ?_) | refine br_not (fun h => ?_) (fun h => ?_) | refine br_intro (fun h => ?_) (fun h => ?_) | refine cond_intro rfl ?_ | (refine cond_intro ⟨rfl, ?_⟩ ?_; (first | omega | (dsimp only; omega) | decide)) | (refine cond_intro ?_ ?_; (first | omega | (dsimp only; omega) | decide | (simp only [Nat.add_zero, Int.toNat_natCast, *]; omega))))
  all_goals (conv => whnf)
  refine vloop_lp (fun i : Nat => ⟨[(0, .sl 1 0 0 m), (4, .int .i64 i)], [(1, some (.one true (psB m (pcOf L))))], 2⟩) (fun i => i ≤ m ∧ ∀ j, j < i → sumC L (L.getD j ps0).c = 0) (fun i => m - i) 0 [0, 1] [] ⟨rfl, ⟨rfl, rfl, trivial⟩, ⟨rfl, trivial⟩⟩ ⟨Nat.zero_le _, fun j hj => by omega⟩ ?_
  rintro i ⟨hi, hz0⟩
  by_cases hi2 : i < m
  · obtain ⟨_, _, b3⟩ := atP L i
    repeat' ((conv => whnf); first | (refine br_dec (fun h => ?_) (fun h => ?_) <;> try (exfalso; (try dsimp only at h); omega)) | (refine br_ndec (fun h => ?_) (fun h => ?_) <;> try (exfalso; (try dsimp only at h); omega)) | refine br_seq (fun h => ?_) (fun h => ?_) | refine br_nseq (fun h => ?_) (fun h => ?_) | refine br_not (fun h => ?_) (fun h => ?_) | refine br_intro (fun h => ?_) (fun h => ?_) | refine cond_intro rfl ?_ | (refine cond_intro ⟨rfl, ?_⟩ ?_; (first | omega | (dsimp only; omega) | decide)) | (refine cond_intro ?_ ?_; (first | omega | (dsimp only; omega) | decide | (simp only [Nat.add_zero, Int.toNat_natCast, *]; omega))))
    all_goals (conv => whnf)
    all_goals first
      | (exfalso; omega)
      | skip
    refine vloop_lp (fun k : Nat => ⟨[(0, .sl 1 0 0 m), (4, .int .i64 i), (5, .int .i64 (sumC (L.take k) ((pcOf L).c.getD i ⟨#[]⟩))), (6, .int .i64 k)], [(1, some (.one true (psB m (pcOf L))))], 2⟩) (fun k => k ≤ m) (fun k => m - k) 0 [0, 1] [] ⟨rfl, ⟨rfl, rfl, rfl, rfl, trivial⟩, ⟨rfl, trivial⟩⟩ (Nat.zero_le _) ?_
    intro k hk
    by_cases hk2 : k < m
    · obtain ⟨a1, a2, a3⟩ := atP L k
      have hst := sumC_step (L := L) (k := k) (by omega) ((pcOf L).c.getD i ⟨#[]⟩)
      have hb1 := hsum ((pcOf L).c.getD i ⟨#[]⟩) (k + 1) (by omega)
      rw [← a3, ← a2] at hst
      clear a1 a2 a3 b3
      by_cases hc : (pcOf L).c.getD k ⟨#[]⟩ = (pcOf L).c.getD i ⟨#[]⟩
      · rw [if_pos hc] at hst
        have hw : IntKind.i64.wrap (sumC (L.take k) ((pcOf L).c.getD i ⟨#[]⟩) + (pcOf L).a.getD k 0) = sumC (L.take (k + 1)) ((pcOf L).c.getD i ⟨#[]⟩) := by rw [← hst]; exact w64_in (by omega) (by omega)
        repeat' ((conv => whnf); first | (refine br_dec (fun h => ?_) (fun h => ?_) <;> try (exfalso; (try dsimp only at h); omega)) | (refine br_ndec (fun h => ?_) (fun h => ?_) <;> try (exfalso; (try dsimp only at h); omega)) | refine br_seq (fun h => ?_) (fun h => ?_) | refine br_nseq (fun h => ?_) (fun h => ?_) | refine br_not (fun h => ?_) (fun h => ?_) | refine br_intro (fun h => ?_) (fun h => ?_) | refine cond_intro rfl ?_ | (refine cond_intro ⟨rfl, ?_⟩ ?_; (first | omega | (dsimp only; omega) | decide)) | (refine cond_intro ?_ ?_; (first | omega | (dsimp only; omega) | decide | (simp only [Nat.add_zero, Int.toNat_natCast, *]; omega))))
        all_goals (conv => whnf)
        all_goals first
          | exact ⟨k + 1, [0, 1], [], (show k + 1 ≤ m by omega), (show m - (k + 1) < m - k by omega), ⟨rfl, ⟨rfl, rfl, congrArg (fun z => some (SV.int .i64 z)) hw, congrArg (fun z => some (SV.int .i64 z)) (i64_succ (by omega)), trivial⟩, ⟨rfl, trivial⟩⟩⟩
          | (exfalso; first | omega | contradiction)
          | trace_state
      · rw [if_neg hc, Int.add_zero] at hst
        repeat' ((conv => whnf); first | (refine br_dec (fun h => ?_) (fun h => ?_) <;> try (exfalso; (try dsimp only at h); omega)) | (refine br_ndec (fun h => ?_) (fun h => ?_) <;> try (exfalso; (try dsimp only at h); omega)) | refine br_seq (fun h => ?_) (fun h => ?_) | refine br_nseq (fun h => ?_) (fun h => ?_) | refine br_not (fun h => ?_) (fun h => ?_) | refine br_intro (fun h => ?_) (fun h => ?_) | refine cond_intro rfl ?_ | (refine cond_intro ⟨rfl, ?_⟩ ?_; (first | omega | (dsimp only; omega) | decide)) | (refine cond_intro ?_ ?_; (first | omega | (dsimp only; omega) | decide | (simp only [Nat.add_zero, Int.toNat_natCast, *]; omega))))
        all_goals (conv => whnf)
        all_goals first
          | exact ⟨k + 1, [0, 1], [], (show k + 1 ≤ m by omega), (show m - (k + 1) < m - k by omega), ⟨rfl, ⟨rfl, rfl, congrArg (fun z => some (SV.int .i64 z)) hst.symm, congrArg (fun z => some (SV.int .i64 z)) (i64_succ (by omega)), trivial⟩, ⟨rfl, trivial⟩⟩⟩
          | (exfalso; first | omega | contradiction)
          | trace_state
    · have e : k = m := by omega
      subst e
      rw [show L.take k = L by rw [← hm, List.take_length], b3]
      have hno := balB_no (L := L) (i := i) (by omega)
      have hyes : ∀ h0 : sumC L (L.getD i ps0).c = 0, ∀ j, j < i + 1 → sumC L (L.getD j ps0).c = 0 := fun h0 j hj => by
        by_cases e : j = i
        · subst e; exact h0
        · exact hz0 j (by omega)
      generalize sumC L (L.getD i ps0).c = sm at *
      repeat' ((conv => whnf); first | (refine br_dec (fun h => ?_) (fun h => ?_) <;> try (exfalso; (try dsimp only at h); omega)) | (refine br_ndec (fun h => ?_) (fun h => ?_) <;> try (exfalso; (try dsimp only at h); omega)) | refine br_seq (fun h => ?_) (fun h => ?_) | refine br_nseq (fun h => ?_) (fun h => ?_) | refine br_not (fun h => ?_) (fun h => ?_) | refine br_intro (fun h => ?_) (fun h => ?_) | refine cond_intro rfl ?_ | (refine cond_intro ⟨rfl, ?_⟩ ?_; (first | omega | (dsimp only; omega) | decide)) | (refine cond_intro ?_ ?_; (first | omega | (dsimp only; omega) | decide | (simp only [Nat.add_zero, Int.toNat_natCast, *]; omega))))
      all_goals (conv => whnf)
      all_goals first
        | (rw [hno (by assumption), if_neg (by decide)]; exact ret_out (l := [0, 1]) rfl rfl trivial allRw_nil)
        | exact ⟨i + 1, [0, 1], [], ⟨by omega, hyes (by assumption)⟩, (show k - (i + 1) < k - i by omega), ⟨rfl, ⟨rfl, congrArg (fun z => some (SV.int .i64 z)) (i64_succ (by omega)), trivial⟩, ⟨rfl, trivial⟩⟩⟩
        | (exfalso; first | omega | contradiction)
        | trace_state
  · have e : i = m := by omega
    subst e
    rw [balB_of (fun j hj => hz0 j (by omega)), if_pos rfl]
    repeat' ((conv => whnf); first | (refine br_dec (fun h => ?_) (fun h => ?_) <;> try (exfalso; (try dsimp only at h); omega)) | (refine br_ndec (fun h => ?_) (fun h => ?_) <;> try (exfalso; (try dsimp only at h); omega)) | refine br_seq (fun h => ?_) (fun h => ?_) | refine br_nseq (fun h => ?_) (fun h => ?_) | refine br_not (fun h => ?_) (fun h => ?_) | refine br_intro (fun h => ?_) (fun h => ?_) | refine cond_intro rfl ?_ | (refine cond_intro ⟨rfl, ?_⟩ ?_; (first | omega | (dsimp only; omega) | decide)) | (refine cond_intro ?_ ?_; (first | omega | (dsimp only; omega) | decide | (simp only [Nat.add_zero, Int.toNat_natCast, *]; omega))))
    all_goals (conv => whnf)
    all_goals first
      | exact ret_out (l := [0, 1]) rfl rfl trivial allRw_nil
      | (exfalso; omega)
      | trace_state
end Go.Proofs.Ytmibjgblhaohiaa

/- Contracts: a position is moved, positions are sorted (the reference). -/
namespace Go.Proofs.Ytmibjgblhaohiaa
open Go.RowKit Go.Sy
attribute [local irreducible] vcall vloop vcallD retP
set_option maxRecDepth 100000
set_option linter.unusedVariables false
set_option linter.unusedSimpArgs false

/-- The amount of a place after a movement. -/
def mvN (R : List Ps) (p c : ByteArray) (d : Int) : Int := (R.getD (ixL R p c) ps0).a + d
/-- The positions after a movement. -/
def mvR (R : List Ps) (p c : ByteArray) (d : Int) : List Ps := putL (ixL R p c) ⟨p, mvN R p c d, c⟩ R
abbrev moR (R : List Ps) (p c : ByteArray) (d : Int) : SV → Heap → Nat → Prop :=
  if -4503599627370496 ≤ mvN R p c d ∧ mvN R p c d ≤ 4503599627370496 then isOut (.tup [.sl 2 0 0 (mvR R p c d).length, .int .i64 0]) [(2, some (.one false (psB (mvR R p c d).length (pcOf (mvR R p c d)))))] 3 else isOut (.tup [.nsl, .int .i64 4]) [] 2
theorem seg_all {α : Type} {l : List α} {n : Nat} (h : l.length = n) : seg 0 n l = l := by
  unfold seg; rw [List.drop_zero, ← h, List.take_length]
theorem set_getD {α : Type} {l : List α} {i : Nat} {d x : α} (hi : i < l.length) (h : l.getD i d = x) : l.set i x = l := by
  subst h
  refine List.ext_getElem? fun j => ?_
  rw [List.getElem?_set]
  split
  · rename_i e
    subst e
    simp [hi, List.getD]
  · rfl
theorem mapP (R : List Ps) (i : Nat) (d : ByteArray) (e : d = ⟨#[]⟩) : (R.map Ps.p).getD i d = (R.getD i ps0).p := by subst e; exact (atP R i).1
/-- A position at which one is put. -/
theorem rowMv {R : List Ps} {n ix : Nat} (hn : R.length = n) (hix : ix < n) {p c : ByteArray} {v : Int} (h1 : (R.getD ix ps0).p = p) (h2 : (R.getD ix ps0).c = c) :
    (some (HB.one false (.cols (0 + n) [.sc (.strs (seg 0 n (pcOf R).p)), .sc (.ints .i64 ((seg 0 n (pcOf R).a).set ix v)), .sc (.strs (seg 0 n (pcOf R).c))])) : Option HB) = some (.one false (psB n (pcOf (R.set ix ⟨p, v, c⟩)))) := by
  obtain ⟨b1, b2, b3⟩ := atP R ix
  have e1 : (R.set ix ⟨p, v, c⟩).map Ps.p = (pcOf R).p := by
    rw [List.map_set]; exact set_getD (d := (⟨#[]⟩ : ByteArray)) (by rw [List.length_map]; omega) (show (R.map Ps.p).getD ix ⟨#[]⟩ = p from b1.trans h1)
  have e2 : (R.set ix ⟨p, v, c⟩).map Ps.a = (pcOf R).a.set ix v := by rw [List.map_set]; rfl
  have e3 : (R.set ix ⟨p, v, c⟩).map Ps.c = (pcOf R).c := by
    rw [List.map_set]; exact set_getD (d := (⟨#[]⟩ : ByteArray)) (by rw [List.length_map]; omega) (show (R.map Ps.c).getD ix ⟨#[]⟩ = c from b3.trans h2)
  unfold psB
  rw [show (pcOf (R.set ix ⟨p, v, c⟩)).p = (pcOf R).p from e1, show (pcOf (R.set ix ⟨p, v, c⟩)).a = (pcOf R).a.set ix v from e2, show (pcOf (R.set ix ⟨p, v, c⟩)).c = (pcOf R).c from e3]
  rw [seg_all (by simp [pcOf, hn]), seg_all (by simp [pcOf, hn]), seg_all (by simp [pcOf, hn]), Nat.zero_add]
theorem rowNw {R : List Ps} {n : Nat} (hn : R.length = n) {p c : ByteArray} {v : Int} :
    (some (HB.one false (.cols (0 + n + 1) [.sc (.strs (seg 0 n (pcOf R).p ++ [p])), .sc (.ints .i64 ((seg 0 n (pcOf R).a ++ [0]).set (0 + n) v)), .sc (.strs (seg 0 n (pcOf R).c ++ [c]))])) : Option HB) = some (.one false (psB (n + 1) (pcOf (R ++ [⟨p, v, c⟩])))) := by
  have e2 : ((pcOf R).a ++ [0]).set n v = (pcOf R).a ++ [v] := by
    rw [List.set_append_right _ _ (by simp [pcOf, hn])]; simp [pcOf, hn]
  rw [seg_all (by simp [pcOf, hn]), seg_all (by simp [pcOf, hn]), seg_all (by simp [pcOf, hn]), Nat.zero_add n, e2]
  unfold psB pcOf
  simp
theorem r41_move (R : List Ps) (p c : ByteArray) (a s : Int) (n : Nat) (hn : R.length = n) (hl : n ≤ 1000) (ha : -4503599627370496 ≤ a ∧ a ≤ 4503599627370496) (hs : s = 1 ∨ s = -1) (hb : ∀ k, -4503599627370496 ≤ (R.getD k ps0).a ∧ (R.getD k ps0).a ≤ 4503599627370496) :
    FC Try.prog 2 34 [.sl 1 0 0 n, .str p, .agg [.int .i64 a, .str c], .int .i64 s] [(1, some (.one true (psB n (pcOf R))))] (moR R p c (s * a)) := by
  have c1 := r41_index R n p c (by omega) (by omega) n hn
  have htk : R.take n = R := by rw [← hn, List.take_length]
  unfold ixN at c1
  rw [htk] at c1
  have hle := ixL_le p c R
  rw [hn] at hle
  have hat := ixL_at p c R
  have hbd := hb (ixL R p c)
  have hw1 : IntKind.i64.wrap (s * a) = s * a := by rcases hs with rfl | rfl <;> exact w64_in (by omega) (by omega)
  have hsa : -4503599627370496 ≤ s * a ∧ s * a ≤ 4503599627370496 := by rcases hs with rfl | rfl <;> omega
  unfold moR mvR mvN
  by_cases hix : ixL R p c < n
  · obtain ⟨h2, h1⟩ := hat (by omega)
    obtain ⟨b1, b2, b3⟩ := atP R (ixL R p c)
    rw [if_pos hix] at c1
    rw [putL_lt (by omega)]
    rw [← b2] at hbd ⊢
    rw [List.length_set, hn]
    generalize ixL R p c = ix at *
    have key : IntKind.i64.wrap ((List.replicate 0 0 ++ seg 0 n (pcOf R).a).getD ((ix : Int).toNat + 0) 0 + IntKind.i64.wrap (s * a)) = (pcOf R).a.getD ix 0 + s * a := by
      show IntKind.i64.wrap ((seg 0 n (pcOf R).a).getD ix 0 + IntKind.i64.wrap (s * a)) = _
      rw [seg_all (by simp [pcOf, hn]), hw1]; exact w64_in (by omega) (by omega)
    have hrow := rowMv hn hix (v := IntKind.i64.wrap ((List.replicate 0 0 ++ seg 0 n (pcOf R).a).getD ((ix : Int).toNat + 0) 0 + IntKind.i64.wrap (s * a))) h1 h2
    rw [← key]
    by_cases hr : -4503599627370496 ≤ IntKind.i64.wrap ((List.replicate 0 0 ++ seg 0 n (pcOf R).a).getD ((ix : Int).toNat + 0) 0 + IntKind.i64.wrap (s * a)) ∧ IntKind.i64.wrap ((List.replicate 0 0 ++ seg 0 n (pcOf R).a).getD ((ix : Int).toNat + 0) 0 + IntKind.i64.wrap (s * a)) ≤ 4503599627370496
    · rw [if_pos hr, show SV.sl 2 0 0 n = SV.sl 2 0 0 (0 + n) by rw [Nat.zero_add]]
      refine fc_of mixed T_ok Try.func34 rfl (by kernel_rfl) (by kernel_rfl) (by kernel_rfl) ?_
      repeat' ((conv => whnf); first | (refine vcall_out (l :=  [0, 1]) (c1 ) ⟨rfl, rfl, rfl, rfl, (by (repeat' (first | exact trivial | exact GB_wf | exact fun _ _ => rfl | constructor)); first | done | fail), (by (repeat' (first | exact trivial | exact GB_fits rfl | constructor)); first | done | fail)⟩ ?_) | (refine vcallD_out (l :=  [0, 1]) (c1 ) ⟨rfl, rfl, rfl, rfl, (by (repeat' (first | exact trivial | exact GB_wf | exact fun _ _ => rfl | constructor)); first | done | fail), (by (repeat' (first | exact trivial | exact GB_fits rfl | constructor)); first | done | fail)⟩ ?_) | (refine br_dec (fun h => ?_) (fun h => ?_) <;> try (exfalso; (try dsimp only at h); omega)) | (refine br_ndec (fun h => ?_) (fun h => ?_) <;> try (exfalso; (try dsimp only at h); omega)) | refine br_seq (fun h => ?_) (fun h => ?_) | refine br_nseq (fun h => ?_) (fun h => ?_) | refine br_not (fun h => ?_) (fun h => ?_) | refine br_intro (fun h => ?_) (fun h => ?_) | refine cond_intro rfl ?_ | (refine cond_intro ⟨rfl, ?_⟩ ?_; (first | omega | (dsimp only; omega) | decide)) | (refine cond_intro ?_ ?_; (first | omega | (dsimp only; omega) | decide | (simp only [Nat.add_zero, Int.toNat_natCast, *]; omega))))
      all_goals (conv => whnf)
      all_goals first
        | (exfalso; omega)
        | exact ret_out (l := [0, 1, 4]) rfl rfl ⟨hrow, trivial⟩ (allRw_cons allRw_nil)
        | trace_state
    · rw [if_neg hr]
      refine fc_of mixed T_ok Try.func34 rfl (by kernel_rfl) (by kernel_rfl) (by kernel_rfl) ?_
      repeat' ((conv => whnf); first | (refine vcall_out (l :=  [0, 1]) (c1 ) ⟨rfl, rfl, rfl, rfl, (by (repeat' (first | exact trivial | exact GB_wf | exact fun _ _ => rfl | constructor)); first | done | fail), (by (repeat' (first | exact trivial | exact GB_fits rfl | constructor)); first | done | fail)⟩ ?_) | (refine vcallD_out (l :=  [0, 1]) (c1 ) ⟨rfl, rfl, rfl, rfl, (by (repeat' (first | exact trivial | exact GB_wf | exact fun _ _ => rfl | constructor)); first | done | fail), (by (repeat' (first | exact trivial | exact GB_fits rfl | constructor)); first | done | fail)⟩ ?_) | (refine br_dec (fun h => ?_) (fun h => ?_) <;> try (exfalso; (try dsimp only at h); omega)) | (refine br_ndec (fun h => ?_) (fun h => ?_) <;> try (exfalso; (try dsimp only at h); omega)) | refine br_seq (fun h => ?_) (fun h => ?_) | refine br_nseq (fun h => ?_) (fun h => ?_) | refine br_not (fun h => ?_) (fun h => ?_) | refine br_intro (fun h => ?_) (fun h => ?_) | refine cond_intro rfl ?_ | (refine cond_intro ⟨rfl, ?_⟩ ?_; (first | omega | (dsimp only; omega) | decide)) | (refine cond_intro ?_ ?_; (first | omega | (dsimp only; omega) | decide | (simp only [Nat.add_zero, Int.toNat_natCast, *]; omega))))
      all_goals (conv => whnf)
      all_goals first
        | (exfalso; omega)
        | exact ret_out (l := [0, 1]) rfl rfl trivial allRw_nil
        | trace_state
  · have e : ixL R p c = n := by omega
    rw [e, if_neg (by omega)] at c1
    rw [e] at hbd ⊢
    have h0 : (R.getD n ps0).a = 0 := by rw [List.getD, List.getElem?_eq_none (by omega)]; rfl
    rw [h0]
    rw [putL_new hn, List.length_append, hn, List.length_singleton]
    have key : IntKind.i64.wrap ((List.replicate 0 0 ++ seg 0 n (pcOf R).a ++ seg 0 1 [0]).getD (((0 + n : Nat) : Int).toNat + 0) 0 + IntKind.i64.wrap (s * a)) = 0 + s * a := by
      show IntKind.i64.wrap ((seg 0 n (pcOf R).a ++ [0]).getD (0 + n) 0 + IntKind.i64.wrap (s * a)) = _
      rw [seg_all (by simp [pcOf, hn]), hw1, Nat.zero_add, List.getD, List.getElem?_append_right (by simp [pcOf, hn])]
      simp only [pcOf, List.length_map, hn, Nat.sub_self, List.getElem?_cons_zero, Option.getD_some]
      exact w64_in (by omega) (by omega)
    have hrow := rowNw (v := IntKind.i64.wrap ((List.replicate 0 0 ++ seg 0 n (pcOf R).a ++ seg 0 1 [0]).getD (((0 + n : Nat) : Int).toNat + 0) 0 + IntKind.i64.wrap (s * a))) hn (p := p) (c := c)
    rw [← key]
    by_cases hr : -4503599627370496 ≤ IntKind.i64.wrap ((List.replicate 0 0 ++ seg 0 n (pcOf R).a ++ seg 0 1 [0]).getD (((0 + n : Nat) : Int).toNat + 0) 0 + IntKind.i64.wrap (s * a)) ∧ IntKind.i64.wrap ((List.replicate 0 0 ++ seg 0 n (pcOf R).a ++ seg 0 1 [0]).getD (((0 + n : Nat) : Int).toNat + 0) 0 + IntKind.i64.wrap (s * a)) ≤ 4503599627370496
    · rw [if_pos hr, show SV.sl 2 0 0 (n + 1) = SV.sl 2 0 0 (0 + n + 1) by rw [Nat.zero_add]]
      refine fc_of mixed T_ok Try.func34 rfl (by kernel_rfl) (by kernel_rfl) (by kernel_rfl) ?_
      repeat' ((conv => whnf); first | (refine vcall_out (l :=  [0, 1]) (c1 ) ⟨rfl, rfl, rfl, rfl, (by (repeat' (first | exact trivial | exact GB_wf | exact fun _ _ => rfl | constructor)); first | done | fail), (by (repeat' (first | exact trivial | exact GB_fits rfl | constructor)); first | done | fail)⟩ ?_) | (refine vcallD_out (l :=  [0, 1]) (c1 ) ⟨rfl, rfl, rfl, rfl, (by (repeat' (first | exact trivial | exact GB_wf | exact fun _ _ => rfl | constructor)); first | done | fail), (by (repeat' (first | exact trivial | exact GB_fits rfl | constructor)); first | done | fail)⟩ ?_) | (refine br_dec (fun h => ?_) (fun h => ?_) <;> try (exfalso; (try dsimp only at h); omega)) | (refine br_ndec (fun h => ?_) (fun h => ?_) <;> try (exfalso; (try dsimp only at h); omega)) | refine br_seq (fun h => ?_) (fun h => ?_) | refine br_nseq (fun h => ?_) (fun h => ?_) | refine br_not (fun h => ?_) (fun h => ?_) | refine br_intro (fun h => ?_) (fun h => ?_) | refine cond_intro rfl ?_ | (refine cond_intro ⟨rfl, ?_⟩ ?_; (first | omega | (dsimp only; omega) | decide)) | (refine cond_intro ?_ ?_; (first | omega | (dsimp only; omega) | decide | (simp only [Nat.add_zero, Int.toNat_natCast, *]; omega))))
      all_goals (conv => whnf)
      all_goals first
        | (exfalso; omega)
        | exact ret_out (l := [0, 1, 6]) rfl rfl ⟨hrow, trivial⟩ (allRw_cons allRw_nil)
        | trace_state
    · rw [if_neg hr]
      refine fc_of mixed T_ok Try.func34 rfl (by kernel_rfl) (by kernel_rfl) (by kernel_rfl) ?_
      repeat' ((conv => whnf); first | (refine vcall_out (l :=  [0, 1]) (c1 ) ⟨rfl, rfl, rfl, rfl, (by (repeat' (first | exact trivial | exact GB_wf | exact fun _ _ => rfl | constructor)); first | done | fail), (by (repeat' (first | exact trivial | exact GB_fits rfl | constructor)); first | done | fail)⟩ ?_) | (refine vcallD_out (l :=  [0, 1]) (c1 ) ⟨rfl, rfl, rfl, rfl, (by (repeat' (first | exact trivial | exact GB_wf | exact fun _ _ => rfl | constructor)); first | done | fail), (by (repeat' (first | exact trivial | exact GB_fits rfl | constructor)); first | done | fail)⟩ ?_) | (refine br_dec (fun h => ?_) (fun h => ?_) <;> try (exfalso; (try dsimp only at h); omega)) | (refine br_ndec (fun h => ?_) (fun h => ?_) <;> try (exfalso; (try dsimp only at h); omega)) | refine br_seq (fun h => ?_) (fun h => ?_) | refine br_nseq (fun h => ?_) (fun h => ?_) | refine br_not (fun h => ?_) (fun h => ?_) | refine br_intro (fun h => ?_) (fun h => ?_) | refine cond_intro rfl ?_ | (refine cond_intro ⟨rfl, ?_⟩ ?_; (first | omega | (dsimp only; omega) | decide)) | (refine cond_intro ?_ ?_; (first | omega | (dsimp only; omega) | decide | (simp only [Nat.add_zero, Int.toNat_natCast, *]; omega))))
      all_goals (conv => whnf)
      all_goals first
        | (exfalso; omega)
        | exact ret_out (l := [0, 1]) rfl rfl trivial allRw_nil
        | trace_state
end Go.Proofs.Ytmibjgblhaohiaa

/- Contracts: the reference sorts positions. -/
namespace Go.Proofs.Ytmibjgblhaohiaa
open Go.RowKit Go.Sy
attribute [local irreducible] vcall vloop vcallD retP
set_option maxRecDepth 100000
set_option linter.unusedVariables false
set_option linter.unusedSimpArgs false

/-- The positions that are not zero. -/
def nz (R : List Ps) : List Ps := R.filter (fun x => decide (x.a ≠ 0))
abbrev Asc (l : List Ps) : Prop := l.Pairwise (fun a b => plt a b = true)
theorem nz_append (A B : List Ps) : nz (A ++ B) = nz A ++ nz B := List.filter_append _ _
theorem asc_ins {O : List Ps} {x : Ps} {k : Nat} (hk : k ≤ O.length) (ha : Asc O) (hlt : ∀ j, j < k → plt (O.getD j ps0) x = true) (hge : k < O.length → plt (O.getD k ps0) x = false) (hx : ∀ y ∈ O, ¬ same2 y x) : Asc (O.take k ++ x :: O.drop k) := by
  have h1 : ∀ y ∈ O.take k, plt y x = true := by
    intro y hy
    obtain ⟨j, hj, rfl⟩ := List.getElem_of_mem hy
    have hj' : j < k := by rw [List.length_take] at hj; omega
    have := hlt j hj'
    rw [List.getD, List.getElem?_eq_getElem (by omega)] at this
    rw [List.getElem_take]; exact this
  have hd : Asc (O.drop k) := ha.sublist (List.drop_sublist k O)
  have h2 : ∀ y ∈ O.drop k, plt x y = true := by
    intro y hy
    have hkl : k < O.length := by
      refine Nat.lt_of_not_le fun h => ?_
      rw [List.drop_of_length_le h] at hy; cases hy
    have hh := hge hkl
    have hxk : plt x (O.getD k ps0) = true := by
      refine plt_total hh fun e => hx (O.getD k ps0) ?_ e
      rw [List.getD, List.getElem?_eq_getElem hkl]; exact List.getElem_mem hkl
    rw [List.drop_eq_getElem_cons hkl] at hy hd
    rcases List.mem_cons.1 hy with rfl | hy
    · rw [List.getD, List.getElem?_eq_getElem hkl] at hxk; exact hxk
    · rw [List.getD, List.getElem?_eq_getElem hkl] at hxk
      exact plt_trans hxk ((List.pairwise_cons.1 hd).1 y hy)
  refine List.pairwise_append.2 ⟨ha.sublist (List.take_sublist k O), List.pairwise_cons.2 ⟨h2, hd⟩, ?_⟩
  intro a ha1 b hb
  rcases List.mem_cons.1 hb with rfl | hb
  · exact h1 a ha1
  · exact plt_trans (h1 a ha1) (h2 b hb)
theorem perm_ins {α : Type} (O : List α) (x : α) (k : Nat) : (O.take k ++ x :: O.drop k).Perm (O ++ [x]) := by
  have h1 : (O.take k ++ x :: O.drop k).Perm (x :: (O.take k ++ O.drop k)) := List.perm_middle
  rw [List.take_append_drop] at h1
  exact h1.trans (List.perm_append_comm (l₁ := [x]))
theorem dist_not {R : List Ps} (hd : Dist R) {i : Nat} (hi : i < R.length) : ∀ y ∈ R.take i, ¬ same2 y (R.getD i ps0) := by
  intro y hy
  obtain ⟨j, hj, rfl⟩ := List.getElem_of_mem hy
  rw [List.length_take] at hj
  rw [List.getElem_take, List.getD, List.getElem?_eq_getElem hi]
  exact List.pairwise_iff_getElem.1 hd j i (by omega) hi (by omega)
theorem colP_eq (L : List Ps) (k : Nat) : (⟨(pcOf L).p.getD k ⟨#[]⟩, (pcOf L).a.getD k 0, (pcOf L).c.getD k ⟨#[]⟩⟩ : Ps) = L.getD k ps0 := by
  obtain ⟨a1, a2, a3⟩ := atP L k
  rw [a1, a2, a3]
/-- What the outer loop of the sorting holds. -/
structure SoI (R : List Ps) (i m : Nat) (O : List Ps) : Prop where
  le : i ≤ R.length
  m : O.length = m
  asc : Asc O
  perm : O.Perm (nz (R.take i))
theorem soI_skip {R : List Ps} {i m : Nat} {O : List Ps} (h : SoI R i m O) (hi : i < R.length) (hz : (R.getD i ps0).a = 0) : SoI R (i + 1) m O := by
  refine ⟨hi, h.m, h.asc, ?_⟩
  rw [take_getD hi, nz_append, show nz [R.getD i ps0] = [] from by unfold nz; rw [List.filter_cons, if_neg (by simpa using hz)]; rfl, List.append_nil]
  exact h.perm
theorem soI_put {R : List Ps} {i m k : Nat} {O : List Ps} (h : SoI R i m O) (hd : Dist R) (hi : i < R.length) (hz : (R.getD i ps0).a ≠ 0) (hk : k ≤ m) (hlt : ∀ j, j < k → plt (O.getD j ps0) (R.getD i ps0) = true) (hge : k < m → plt (O.getD k ps0) (R.getD i ps0) = false) : SoI R (i + 1) (m + 1) (O.take k ++ R.getD i ps0 :: O.drop k) := by
  have hm := h.m
  refine ⟨hi, by simp; omega, asc_ins (by omega) h.asc hlt (fun q => hge (by omega)) ?_, ?_⟩
  · intro y hy
    exact dist_not hd hi y (List.mem_filter.1 (h.perm.subset hy)).1
  · rw [take_getD hi, nz_append, show nz [R.getD i ps0] = [R.getD i ps0] from by unfold nz; rw [List.filter_cons, if_pos (decide_eq_true hz)]; rfl]
    exact (perm_ins O _ k).trans (h.perm.append_right _)
theorem seg_take {α : Type} (l : List α) (k : Nat) : seg 0 k l = l.take k := rfl
theorem seg_drop {α : Type} {l : List α} {k m : Nat} (h : l.length = m) : seg (k + 0) (m - k) l = l.drop k := by
  unfold seg
  rw [Nat.add_zero, List.take_of_length_le (by rw [List.length_drop]; omega)]
theorem rowIns {O : List Ps} {m k : Nat} (hm : O.length = m) (hk : k ≤ m) {p c : ByteArray} {a : Int} {x : Ps} (hx : (⟨p, a, c⟩ : Ps) = x) :
    (some (HB.one false (.cols (0 + k + 1 + (m - k)) [.sc (.strs (seg 0 k (pcOf O).p ++ [p] ++ seg (k + 0) (m - k) (pcOf O).p)), .sc (.ints .i64 (seg 0 k (pcOf O).a ++ [a] ++ seg (k + 0) (m - k) (pcOf O).a)), .sc (.strs (seg 0 k (pcOf O).c ++ [c] ++ seg (k + 0) (m - k) (pcOf O).c))])) : Option HB) = some (.one false (psB (0 + k + 1 + (m - k)) (pcOf (O.take k ++ x :: O.drop k)))) := by
  subst hx
  rw [seg_drop (l := (pcOf O).p) (by simp [pcOf, hm]), seg_drop (l := (pcOf O).a) (by simp [pcOf, hm]), seg_drop (l := (pcOf O).c) (by simp [pcOf, hm])]
  unfold psB pcOf
  simp [seg_take, List.map_take, List.map_drop]
abbrev soS (n : Nat) (R : List Ps) (x : Nat × Nat × List Ps) : VS := ⟨[(0, .sl 1 0 0 n), (3, .sl 2 0 0 x.2.1), (4, .int .i64 x.1)], [(1, some (.one true (psB n (pcOf R)))), (2, some (.one false (psB x.2.1 (pcOf x.2.2))))], 3⟩
theorem r41_Sorted (R : List Ps) (n : Nat) (hn : R.length = n) (hl : n ≤ 1000) (hd : Dist R) : FC Try.prog 2 35 [.sl 1 0 0 n] [(1, some (.one true (psB n (pcOf R))))] (isOut (.sl 2 0 0 (nz R).length) [(2, some (.one false (psB (nz R).length (pcOf (srt (nz R))))))] 3) := by
  have hnz : ∀ {i : Nat}, i ≤ n → (nz (R.take i)).length ≤ n := fun {i} hi => by
    have := List.length_filter_le (fun x : Ps => decide (x.a ≠ 0)) (R.take i)
    rw [List.length_take] at this
    unfold nz; omega
  refine fc_of mixed T_ok Try.func35 rfl (by kernel_rfl) (by kernel_rfl) (by kernel_rfl) ?_
  repeat' ((conv => whnf); first | (refine br_dec (fun h => ?_) (fun h => ?_) <;> try (exfalso; (try dsimp only at h); omega)) | (refine br_ndec (fun h => ?_) (fun h => ?_) <;> try (exfalso; (try dsimp only at h); omega)) | refine br_seq (fun h => ?_) (fun h => ?_) | refine br_nseq (fun h => ?_) (fun h => ?_) | refine br_not (fun h => ?_) (fun h => ?_) | refine br_intro (fun h => ?_) (fun h => ?_) | refine cond_intro rfl ?_ | (refine cond_intro ⟨rfl, ?_⟩ ?_; (first | omega | (dsimp only; omega) | decide)) | (refine cond_intro ?_ ?_; (first | omega | (dsimp only; omega) | decide | (simp only [Nat.add_zero, Int.toNat_natCast, *]; omega))))
  all_goals (conv => whnf)
  refine vloop_lp (soS n R) (fun x => SoI R x.1 x.2.1 x.2.2) (fun x => n - x.1) (0, 0, []) [0, 1, 2] [.slot 3 [.sc (.strs []), .sc (.ints .i64 []), .sc (.strs [])]] ⟨rfl, ⟨rfl, rfl, rfl, trivial⟩, ⟨rfl, rfl, trivial⟩⟩ ⟨Nat.zero_le _, rfl, List.Pairwise.nil, List.Perm.refl _⟩ ?_
  rintro ⟨i, m, O⟩ hI
  dsimp only at hI
  unfold soS
  dsimp only
  have hi := hI.le
  have hmn : m ≤ n := by rw [← hI.m, hI.perm.length_eq]; exact hnz (by omega)
  rw [hn] at hi
  by_cases hi2 : i < n
  · obtain ⟨b1, b2, b3⟩ := atP R i
    by_cases hz : (pcOf R).a.getD i 0 = 0
    · have hs := soI_skip hI (by omega) (by rw [← b2]; exact hz)
      repeat' ((conv => whnf); first | (refine br_dec (fun h => ?_) (fun h => ?_) <;> try (exfalso; (try dsimp only at h); omega)) | (refine br_ndec (fun h => ?_) (fun h => ?_) <;> try (exfalso; (try dsimp only at h); omega)) | refine br_seq (fun h => ?_) (fun h => ?_) | refine br_nseq (fun h => ?_) (fun h => ?_) | refine br_not (fun h => ?_) (fun h => ?_) | refine br_intro (fun h => ?_) (fun h => ?_) | refine cond_intro rfl ?_ | (refine cond_intro ⟨rfl, ?_⟩ ?_; (first | omega | (dsimp only; omega) | decide)) | (refine cond_intro ?_ ?_; (first | omega | (dsimp only; omega) | decide | (simp only [Nat.add_zero, Int.toNat_natCast, *]; omega))))
      all_goals (conv => whnf)
      all_goals first
        | exact ⟨(i + 1, m, O), [0, 1, 2], [], hs, (show n - (i + 1) < n - i by omega), ⟨rfl, ⟨rfl, rfl, congrArg (fun z => some (SV.int .i64 z)) (i64_succ (by omega)), trivial⟩, ⟨rfl, rfl, trivial⟩⟩⟩
        | (exfalso; first | omega | contradiction)
        | trace_state
    · repeat' ((conv => whnf); first | (refine br_dec (fun h => ?_) (fun h => ?_) <;> try (exfalso; (try dsimp only at h); omega)) | (refine br_ndec (fun h => ?_) (fun h => ?_) <;> try (exfalso; (try dsimp only at h); omega)) | refine br_seq (fun h => ?_) (fun h => ?_) | refine br_nseq (fun h => ?_) (fun h => ?_) | refine br_not (fun h => ?_) (fun h => ?_) | refine br_intro (fun h => ?_) (fun h => ?_) | refine cond_intro rfl ?_ | (refine cond_intro ⟨rfl, ?_⟩ ?_; (first | omega | (dsimp only; omega) | decide)) | (refine cond_intro ?_ ?_; (first | omega | (dsimp only; omega) | decide | (simp only [Nat.add_zero, Int.toNat_natCast, *]; omega))))
      all_goals (conv => whnf)
      all_goals first
        | (exfalso; first | omega | contradiction)
        | skip
      refine vloop_lp (fun k : Nat => ⟨[(0, .sl 1 0 0 n), (3, .sl 2 0 0 m), (4, .int .i64 i), (5, .int .i64 k)], [(1, some (.one true (psB n (pcOf R)))), (2, some (.one false (psB m (pcOf O))))], 3⟩) (fun k => k ≤ m ∧ ∀ j, j < k → plt (O.getD j ps0) (R.getD i ps0) = true) (fun k => m - k) 0 [0, 1, 2] [] ⟨rfl, ⟨rfl, rfl, rfl, rfl, trivial⟩, ⟨rfl, rfl, trivial⟩⟩ ⟨Nat.zero_le _, fun j hj => by omega⟩ ?_
      rintro k ⟨hk, hlt⟩
      have c1 : Pure Try.prog 52 [.agg [.str ((pcOf O).p.getD k ⟨#[]⟩), .int .i64 ((pcOf O).a.getD k 0), .str ((pcOf O).c.getD k ⟨#[]⟩)], .agg [.str ((pcOf R).p.getD i ⟨#[]⟩), .int .i64 ((pcOf R).a.getD i 0), .str ((pcOf R).c.getD i ⟨#[]⟩)]] (.bool (plt (O.getD k ps0) (R.getD i ps0))) := by
        obtain ⟨a1, a2, a3⟩ := atP O k
        rw [a1, a2, a3, b1, b2, b3]; exact r41_less _ _
      have hput := fun (hge : k < m → plt (O.getD k ps0) (R.getD i ps0) = false) => (show 0 + k + 1 + (m - k) = m + 1 by omega) ▸ soI_put hI hd (by omega) (by rw [← b2]; exact hz) hk hlt hge
      have hrow := rowIns hI.m hk (colP_eq R i)
      by_cases hk2 : k < m
      · have hn2 : plt (O.getD k ps0) (R.getD i ps0) = true → ∀ j, j < k + 1 → plt (O.getD j ps0) (R.getD i ps0) = true := fun h j hj => by
          by_cases e : j = k
          · subst e; exact h
          · exact hlt j (by omega)
        generalize plt (O.getD k ps0) (R.getD i ps0) = lt at *
        cases lt with
        | true =>
          repeat' ((conv => whnf); first | (refine vcall_pure (c1) rfl rfl rfl ?_) | (refine vcallD_pure (c1) rfl rfl rfl ?_) | (refine br_dec (fun h => ?_) (fun h => ?_) <;> try (exfalso; (try dsimp only at h); omega)) | (refine br_ndec (fun h => ?_) (fun h => ?_) <;> try (exfalso; (try dsimp only at h); omega)) | refine br_seq (fun h => ?_) (fun h => ?_) | refine br_nseq (fun h => ?_) (fun h => ?_) | refine br_not (fun h => ?_) (fun h => ?_) | refine br_intro (fun h => ?_) (fun h => ?_) | refine cond_intro rfl ?_ | (refine cond_intro ⟨rfl, ?_⟩ ?_; (first | omega | (dsimp only; omega) | decide)) | (refine cond_intro ?_ ?_; (first | omega | (dsimp only; omega) | decide | (simp only [Nat.add_zero, Int.toNat_natCast, *]; omega))))
          all_goals (conv => whnf)
          all_goals first
            | exact ⟨k + 1, [0, 1, 2], [], ⟨hk2, hn2 rfl⟩, (show m - (k + 1) < m - k by omega), ⟨rfl, ⟨rfl, rfl, rfl, congrArg (fun z => some (SV.int .i64 z)) (i64_succ (by omega)), trivial⟩, ⟨rfl, rfl, trivial⟩⟩⟩
            | (exfalso; first | omega | contradiction)
            | trace_state
        | false =>
          repeat' ((conv => whnf); first | (refine vcall_pure (c1) rfl rfl rfl ?_) | (refine vcallD_pure (c1) rfl rfl rfl ?_) | (refine br_dec (fun h => ?_) (fun h => ?_) <;> try (exfalso; (try dsimp only at h); omega)) | (refine br_ndec (fun h => ?_) (fun h => ?_) <;> try (exfalso; (try dsimp only at h); omega)) | refine br_seq (fun h => ?_) (fun h => ?_) | refine br_nseq (fun h => ?_) (fun h => ?_) | refine br_not (fun h => ?_) (fun h => ?_) | refine br_intro (fun h => ?_) (fun h => ?_) | refine cond_intro rfl ?_ | (refine cond_intro ⟨rfl, ?_⟩ ?_; (first | omega | (dsimp only; omega) | decide)) | (refine cond_intro ?_ ?_; (first | omega | (dsimp only; omega) | decide | (simp only [Nat.add_zero, Int.toNat_natCast, *]; omega))))
          all_goals (conv => whnf)
          all_goals first
            | (exfalso; first | omega | contradiction)
            | exact ⟨(i + 1, 0 + k + 1 + (m - k), O.take k ++ R.getD i ps0 :: O.drop k), [0, 1, 7], [], hput (fun _ => rfl), (show n - (i + 1) < n - i by omega), ⟨rfl, ⟨rfl, rfl, congrArg (fun z => some (SV.int .i64 z)) (i64_succ (by omega)), trivial⟩, ⟨rfl, hrow, trivial⟩⟩⟩
            | trace_state
      · repeat' ((conv => whnf); first | (refine vcall_pure (c1) rfl rfl rfl ?_) | (refine vcallD_pure (c1) rfl rfl rfl ?_) | (refine br_dec (fun h => ?_) (fun h => ?_) <;> try (exfalso; (try dsimp only at h); omega)) | (refine br_ndec (fun h => ?_) (fun h => ?_) <;> try (exfalso; (try dsimp only at h); omega)) | refine br_seq (fun h => ?_) (fun h => ?_) | refine br_nseq (fun h => ?_) (fun h => ?_) | refine br_not (fun h => ?_) (fun h => ?_) | refine br_intro (fun h => ?_) (fun h => ?_) | refine cond_intro rfl ?_ | (refine cond_intro ⟨rfl, ?_⟩ ?_; (first | omega | (dsimp only; omega) | decide)) | (refine cond_intro ?_ ?_; (first | omega | (dsimp only; omega) | decide | (simp only [Nat.add_zero, Int.toNat_natCast, *]; omega))))
        all_goals (conv => whnf)
        all_goals first
          | (exfalso; first | omega | contradiction)
          | exact ⟨(i + 1, 0 + k + 1 + (m - k), O.take k ++ R.getD i ps0 :: O.drop k), [0, 1, 7], [], hput (fun h => absurd h hk2), (show n - (i + 1) < n - i by omega), ⟨rfl, ⟨rfl, rfl, congrArg (fun z => some (SV.int .i64 z)) (i64_succ (by omega)), trivial⟩, ⟨rfl, hrow, trivial⟩⟩⟩
          | trace_state
  · have e : i = n := by omega
    subst e
    have e1 : srt (nz R) = O := srt_of (by have := hI.perm; rwa [← hn, List.take_length] at this) hI.asc
    have e2 : (nz R).length = m := by have := hI.perm.length_eq; rw [← hn, List.take_length] at this; rw [← this]; exact hI.m
    rw [e1, e2]
    repeat' ((conv => whnf); first | (refine br_dec (fun h => ?_) (fun h => ?_) <;> try (exfalso; (try dsimp only at h); omega)) | (refine br_ndec (fun h => ?_) (fun h => ?_) <;> try (exfalso; (try dsimp only at h); omega)) | refine br_seq (fun h => ?_) (fun h => ?_) | refine br_nseq (fun h => ?_) (fun h => ?_) | refine br_not (fun h => ?_) (fun h => ?_) | refine br_intro (fun h => ?_) (fun h => ?_) | refine cond_intro rfl ?_ | (refine cond_intro ⟨rfl, ?_⟩ ?_; (first | omega | (dsimp only; omega) | decide)) | (refine cond_intro ?_ ?_; (first | omega | (dsimp only; omega) | decide | (simp only [Nat.add_zero, Int.toNat_natCast, *]; omega))))
    all_goals (conv => whnf)
    all_goals first
      | exact ret_out (l := [0, 1, 2]) rfl rfl ⟨rfl, trivial⟩ (allRw_cons allRw_nil)
      | (exfalso; omega)
      | trace_state
end Go.Proofs.Ytmibjgblhaohiaa

/- Plain facts: transfers are applied to positions. -/
namespace Go.Proofs.Ytmibjgblhaohiaa
open Go.RowKit Go.Sy
set_option linter.unusedVariables false
set_option linter.unusedSimpArgs false

/-- A transfer. -/
structure Tx where
  f : ByteArray
  t : ByteArray
  a : Int
  c : ByteArray
structure Tc where
  f : List ByteArray
  t : List ByteArray
  a : List Int
  c : List ByteArray
def tcOf (l : List Tx) : Tc := ⟨l.map Tx.f, l.map Tx.t, l.map Tx.a, l.map Tx.c⟩
abbrev tx0 : Tx := ⟨⟨#[]⟩, ⟨#[]⟩, 0, ⟨#[]⟩⟩
instance : Inhabited Tx := ⟨tx0⟩
def txB (n : Nat) (r : Tc) : Blk := .cols n [.sc (.strs r.f), .sc (.strs r.t), .sc (.ints .i64 r.a), .sc (.strs r.c)]
theorem atT (L : List Tx) (j : Nat) : (tcOf L).f.getD j ⟨#[]⟩ = (L.getD j tx0).f ∧ (tcOf L).t.getD j ⟨#[]⟩ = (L.getD j tx0).t ∧ (tcOf L).a.getD j 0 = (L.getD j tx0).a ∧ (tcOf L).c.getD j ⟨#[]⟩ = (L.getD j tx0).c := by
  unfold tcOf
  simp only [List.getD, List.getElem?_map]
  cases L[j]? <;> exact ⟨rfl, rfl, rfl, rfl⟩
abbrev inT (n : Int) : Prop := -4503599627370496 ≤ n ∧ n ≤ 4503599627370496
/-- The error of a transfer on positions, and what they become. -/
def apE (R : List Ps) (x : Tx) : Int :=
  if nmB x.f = false ∨ nmB x.t = false then 5
  else if mchk x.a x.c ≠ 0 then mchk x.a x.c
  else if ¬ inT (mvN R x.f x.c x.a) then 4
  else if ¬ inT (mvN (mvR R x.f x.c x.a) x.t x.c (-x.a)) then 4 else 0
def apN (R : List Ps) (x : Tx) : List Ps := mvR (mvR R x.f x.c x.a) x.t x.c (-x.a)
/-- The first error of transfers, and the positions up to it. -/
def apK (L : List Ps) (T : List Tx) : Nat → Int × List Ps
  | 0 => (0, L)
  | k + 1 => if (apK L T k).1 ≠ 0 then apK L T k else (apE (apK L T k).2 (T.getD k tx0), apN (apK L T k).2 (T.getD k tx0))
theorem apK_stop {L : List Ps} {T : List Tx} {k : Nat} (h0 : (apK L T k).1 = 0) (h1 : apE (apK L T k).2 (T.getD k tx0) ≠ 0) : ∀ n, k < n → (apK L T n).1 = apE (apK L T k).2 (T.getD k tx0)
  | 0, hh => by omega
  | n + 1, hh => by
    simp only [apK]
    by_cases e : k = n
    · subst e; rw [if_neg (by omega)]
    · have ih := apK_stop h0 h1 n (by omega)
      rw [if_pos (by omega)]; exact ih
theorem apK_step {L : List Ps} {T : List Tx} {k : Nat} (h0 : (apK L T k).1 = 0) : apK L T (k + 1) = (apE (apK L T k).2 (T.getD k tx0), apN (apK L T k).2 (T.getD k tx0)) := by
  simp only [apK]; rw [if_neg (by omega)]
theorem apK_zero {L : List Ps} {T : List Tx} : ∀ {n : Nat}, (apK L T n).1 = 0 → ∀ k, k ≤ n → (apK L T k).1 = 0
  | 0, h, k, hk => by have : k = 0 := by omega
                      subst this; exact h
  | n + 1, h, k, hk => by
    have hn : (apK L T n).1 = 0 := by
      refine Classical.byContradiction fun e => ?_
      simp only [apK] at h
      rw [if_pos e] at h
      exact e h
    by_cases e : k = n + 1
    · subst e; exact h
    · exact apK_zero hn k (by omega)
theorem apE_zero {R : List Ps} {x : Tx} (h : apE R x = 0) : nmB x.f = true ∧ nmB x.t = true ∧ mchk x.a x.c = 0 ∧ inT (mvN R x.f x.c x.a) ∧ inT (mvN (mvR R x.f x.c x.a) x.t x.c (-x.a)) := by
  unfold apE at h
  by_cases h1 : nmB x.f = false ∨ nmB x.t = false
  · rw [if_pos h1] at h; omega
  rw [if_neg h1] at h
  by_cases h2 : mchk x.a x.c ≠ 0
  · rw [if_pos h2] at h; exact absurd h h2
  rw [if_neg h2] at h
  by_cases h3 : inT (mvN R x.f x.c x.a)
  · rw [if_neg (fun q => q h3)] at h
    by_cases h4 : inT (mvN (mvR R x.f x.c x.a) x.t x.c (-x.a))
    · simp only [not_or, Bool.not_eq_false] at h1
      exact ⟨h1.1, h1.2, Classical.not_not.1 h2, h3, h4⟩
    · rw [if_pos h4] at h; omega
  · rw [if_pos h3] at h; omega
/-- Rows of different places, all in range. -/
structure RwOk (R : List Ps) : Prop where
  dist : Dist R
  bd : ∀ k, inT (R.getD k ps0).a
theorem mem_getD {R : List Ps} {x : Ps} : x ∈ R ↔ ∃ j, j < R.length ∧ R.getD j ps0 = x := by
  constructor
  · intro h
    obtain ⟨j, hj, rfl⟩ := List.getElem_of_mem h
    exact ⟨j, hj, by rw [List.getD, List.getElem?_eq_getElem hj]; rfl⟩
  · rintro ⟨j, hj, rfl⟩
    rw [List.getD, List.getElem?_eq_getElem hj]; exact List.getElem_mem hj
theorem bd_iff {R : List Ps} : (∀ k, inT (R.getD k ps0).a) ↔ ∀ x ∈ R, inT x.a := by
  constructor
  · intro h x hx
    obtain ⟨j, _, rfl⟩ := mem_getD.1 hx
    exact h j
  · intro h k
    by_cases hk : k < R.length
    · exact h _ (mem_getD.2 ⟨k, hk, rfl⟩)
    · rw [List.getD, List.getElem?_eq_none (by omega)]; exact ⟨by decide, by decide⟩
theorem dist_getD {R : List Ps} (hd : Dist R) {i j : Nat} (hi : i < R.length) (hj : j < R.length) (h : same2 (R.getD i ps0) (R.getD j ps0)) : i = j := by
  rw [List.getD, List.getElem?_eq_getElem hi, List.getD, List.getElem?_eq_getElem hj] at h
  rcases Nat.lt_trichotomy i j with e | e | e
  · exact absurd h (List.pairwise_iff_getElem.1 hd i j hi hj e)
  · exact e
  · exact absurd (same2_symm h) (List.pairwise_iff_getElem.1 hd j i hj hi e)
theorem dist_of {R : List Ps} (h : ∀ i j, i < R.length → j < i → ¬ same2 (R.getD j ps0) (R.getD i ps0)) : Dist R := by
  refine List.pairwise_iff_getElem.2 fun i j hi hj hij => ?_
  have := h j i hj hij
  rwa [List.getD, List.getElem?_eq_getElem hi, List.getD, List.getElem?_eq_getElem hj] at this
theorem ixL_row {R : List Ps} (hd : Dist R) {i : Nat} (hi : i < R.length) : ixL R (R.getD i ps0).p (R.getD i ps0).c = i := by
  have h1 : ixL R (R.getD i ps0).p (R.getD i ps0).c < R.length := (ixL_lt_iff _ _ _).2 ⟨_, mem_getD.2 ⟨i, hi, rfl⟩, rfl, rfl⟩
  have h2 := ixL_at _ _ _ h1
  exact dist_getD hd h1 hi ⟨h2.2, h2.1⟩
theorem sgP_dist {L : List Ps} (h : sgP L = 0) : Dist L := by
  refine dist_of fun i j hi hj e => ?_
  have h1 := (erP_zero ((sgP_zero h).2 i hi)).2.2
  refine h1 ?_
  have hl : (L.take i).length = i := by rw [List.length_take]; omega
  rw [← e.1, ← e.2]
  have := (ixL_lt_iff (L.getD j ps0).p (L.getD j ps0).c (L.take i)).2 ⟨L.getD j ps0, mem_getD.2 ⟨j, by omega, by simp [List.getD, List.getElem?_take, hj]⟩, rfl, rfl⟩
  omega
theorem sgP_rw {L : List Ps} (h : sgP L = 0) : RwOk L := ⟨sgP_dist h, fun k => by
  by_cases hk : k < L.length
  · exact sgP_bd h k hk
  · rw [List.getD, List.getElem?_eq_none (by omega)]; exact ⟨by decide, by decide⟩⟩
theorem putL_length {α : Type} (i : Nat) (x : α) (l : List α) : (putL i x l).length = if i < l.length then l.length else l.length + 1 := by
  unfold putL; split <;> simp
theorem putL_map {α β : Type} (f : α → β) (i : Nat) (x : α) (l : List α) : (putL i x l).map f = putL i (f x) (l.map f) := by
  unfold putL
  rw [List.length_map]
  split
  · exact List.map_set
  · simp
theorem mvR_ok {R : List Ps} (h : RwOk R) (p c : ByteArray) {d : Int} (hd : inT (mvN R p c d)) : RwOk (mvR R p c d) := by
  have hle := ixL_le p c R
  refine ⟨?_, bd_iff.2 ?_⟩
  · unfold mvR
    by_cases hi : ixL R p c < R.length
    · rw [putL_lt hi]
      have hat := ixL_at p c R hi
      refine dist_of fun i j hi2 hj e => ?_
      rw [List.length_set] at hi2
      have g : ∀ k, k < R.length → same2 ((R.set (ixL R p c) ⟨p, mvN R p c d, c⟩).getD k ps0) (R.getD k ps0) := by
        intro k hk
        rw [List.getD, List.getElem?_set]
        by_cases e2 : ixL R p c = k
        · rw [if_pos e2, if_pos hi, ← e2]
          exact ⟨hat.2.symm, hat.1.symm⟩
        · rw [if_neg e2]; exact ⟨rfl, rfl⟩
      have g1 := g i hi2
      have g2 := g j (by omega)
      have : i = j := dist_getD h.dist hi2 (by omega) ⟨g1.1.symm.trans (e.1.symm.trans g2.1), g1.2.symm.trans (e.2.symm.trans g2.2)⟩
      omega
    · rw [putL_new (show R.length = ixL R p c by omega)]
      refine List.pairwise_append.2 ⟨h.dist, List.pairwise_singleton _ _, ?_⟩
      intro a ha b hb e
      rw [List.mem_singleton] at hb
      subst hb
      exact hi ((ixL_lt_iff p c R).2 ⟨a, ha, e.2, e.1⟩)
  · intro x hx
    have hbd := bd_iff.1 h.bd
    unfold mvR putL at hx
    split at hx
    · rcases List.mem_or_eq_of_mem_set hx with hx | rfl
      · exact hbd x hx
      · exact hd
    · rcases List.mem_append.1 hx with hx | hx
      · exact hbd x hx
      · rw [List.mem_singleton] at hx; subst hx; exact hd
theorem mvR_len (R : List Ps) (p c : ByteArray) (d : Int) : (mvR R p c d).length = if ixL R p c < R.length then R.length else R.length + 1 := putL_length _ _ _
theorem apN_ok {R : List Ps} {x : Tx} (h : RwOk R) (he : apE R x = 0) : RwOk (apN R x) := by
  obtain ⟨_, _, _, h1, h2⟩ := apE_zero he
  exact mvR_ok (mvR_ok h _ _ h1) _ _ h2
theorem apN_len (R : List Ps) (x : Tx) : (apN R x).length ≤ R.length + 2 := by
  unfold apN
  rw [mvR_len, mvR_len]
  split <;> split <;> omega
theorem apK_ok {L : List Ps} {T : List Tx} (hL : RwOk L) : ∀ {k : Nat}, (apK L T k).1 = 0 → RwOk (apK L T k).2 ∧ (apK L T k).2.length ≤ L.length + 2 * k
  | 0, _ => ⟨hL, by simp [apK]⟩
  | k + 1, h => by
    have h0 := apK_zero h k (by omega)
    obtain ⟨i1, i2⟩ := apK_ok hL h0
    rw [apK_step h0] at h ⊢
    have := apN_len (apK L T k).2 (T.getD k tx0)
    exact ⟨apN_ok i1 h, by dsimp only; omega⟩
/-- The error of transfers on positions, and what remains. -/
def apErr (L : List Ps) (T : List Tx) : Int := if sgP L ≠ 0 then sgP L else (apK L T T.length).1
def apRes (L : List Ps) (T : List Tx) : List Ps := if apErr L T ≠ 0 then [] else srt (nz (apK L T T.length).2)
end Go.Proofs.Ytmibjgblhaohiaa

/- Contracts: the reference applies transfers. -/
namespace Go.Proofs.Ytmibjgblhaohiaa
open Go.RowKit Go.Sy
attribute [local irreducible] vcall vloop vcallD retP
set_option maxRecDepth 100000
set_option linter.unusedVariables false
set_option linter.unusedSimpArgs false

/-- Names that are not too long for any machine. -/
def SmT (T : List Tx) : Prop := ∀ k, (T.getD k tx0).f.size ≤ 100000 ∧ (T.getD k tx0).t.size ≤ 100000
theorem colT_eq (L : List Tx) (k : Nat) : (⟨(tcOf L).f.getD k ⟨#[]⟩, (tcOf L).t.getD k ⟨#[]⟩, (tcOf L).a.getD k 0, (tcOf L).c.getD k ⟨#[]⟩⟩ : Tx) = L.getD k tx0 := by
  obtain ⟨a1, a2, a3, a4⟩ := atT L k
  rw [a1, a2, a3, a4]
theorem rowAll {L : List Ps} {n : Nat} (hn : L.length = n) : (some (HB.one false (.cols (0 + n) [.sc (.strs (seg 0 n (pcOf L).p)), .sc (.ints .i64 (seg 0 n (pcOf L).a)), .sc (.strs (seg 0 n (pcOf L).c))])) : Option HB) = some (.one false (psB (0 + n) (pcOf L))) := by
  rw [seg_all (by simp [pcOf, hn]), seg_all (by simp [pcOf, hn]), seg_all (by simp [pcOf, hn])]; rfl
theorem apE_mk (R : List Ps) (f t : ByteArray) (a : Int) (c : ByteArray) : apE R ⟨f, t, a, c⟩ = if nmB f = false ∨ nmB t = false then 5
  else if mchk a c ≠ 0 then mchk a c
  else if ¬ inT (mvN R f c a) then 4
  else if ¬ inT (mvN (mvR R f c a) t c (-a)) then 4 else 0 := rfl
/-- What applying transfers leaves. -/
abbrev apOut (L : List Ps) (T : List Tx) : SV → Heap → Nat → Prop :=
  if apErr L T ≠ 0 then isOut (.tup [.nsl, .int .i64 (apErr L T)]) [] 3 else isOut (.tup [.sl 3 0 0 (apRes L T).length, .int .i64 0]) [(3, some (.one false (psB (apRes L T).length (pcOf (apRes L T)))))] 4
abbrev raS (n m : Nat) (L : List Ps) (T : List Tx) (x : Nat × Nat × List Ps) : VS := ⟨[(0, .sl 1 0 0 n), (1, .sl 2 0 0 m), (7, .sl 3 0 0 x.2.1), (8, .int .i64 x.1)], [(1, some (.one true (psB n (pcOf L)))), (2, some (.one true (txB m (tcOf T)))), (3, some (.one false (psB x.2.1 (pcOf x.2.2))))], 4⟩
theorem r41_Apply (L : List Ps) (T : List Tx) (n m : Nat) (hn : L.length = n) (hm : T.length = m) (hl : n ≤ 400) (hl2 : m ≤ 200) (hs : SmP L) (ht : SmT T) : FC Try.prog 3 11 [.sl 1 0 0 n, .sl 2 0 0 m] [(1, some (.one true (psB n (pcOf L)))), (2, some (.one true (txB m (tcOf T))))] (apOut L T) := by
  have c1 := r41_Single L n hn (by omega) hs
  unfold apOut
  by_cases hsg : sgP L ≠ 0
  · have he : apErr L T = sgP L := by unfold apErr; rw [if_pos hsg]
    rw [if_pos (by rw [he]; exact hsg), he]
    generalize sgP L = sg at *
    refine fc_of mixed T_ok Try.func11 rfl (by kernel_rfl) (by kernel_rfl) (by kernel_rfl) ?_
    repeat' ((conv => whnf); first | (refine vcall_out (l :=  [0, 1]) (c1 ) ⟨rfl, rfl, rfl, rfl, (by (repeat' (first | exact trivial | exact GB_wf | exact fun _ _ => rfl | constructor)); first | done | fail), (by (repeat' (first | exact trivial | exact GB_fits rfl | constructor)); first | done | fail)⟩ ?_) | (refine vcallD_out (l :=  [0, 1]) (c1 ) ⟨rfl, rfl, rfl, rfl, (by (repeat' (first | exact trivial | exact GB_wf | exact fun _ _ => rfl | constructor)); first | done | fail), (by (repeat' (first | exact trivial | exact GB_fits rfl | constructor)); first | done | fail)⟩ ?_) | (refine br_dec (fun h => ?_) (fun h => ?_) <;> try (exfalso; (try dsimp only at h); omega)) | (refine br_ndec (fun h => ?_) (fun h => ?_) <;> try (exfalso; (try dsimp only at h); omega)) | refine br_seq (fun h => ?_) (fun h => ?_) | refine br_nseq (fun h => ?_) (fun h => ?_) | refine br_not (fun h => ?_) (fun h => ?_) | refine br_intro (fun h => ?_) (fun h => ?_) | refine cond_intro rfl ?_ | (refine cond_intro ⟨rfl, ?_⟩ ?_; (first | omega | (dsimp only; omega) | decide)) | (refine cond_intro ?_ ?_; (first | omega | (dsimp only; omega) | decide | (simp only [Nat.add_zero, Int.toNat_natCast, *]; omega))))
    all_goals (conv => whnf)
    all_goals first
      | exact ret_out (l := [0, 1, 2]) rfl rfl trivial allRw_nil
      | (exfalso; omega)
      | trace_state
  have hz := Classical.not_not.1 hsg
  have hL := sgP_rw hz
  have he : apErr L T = (apK L T m).1 := by unfold apErr; rw [if_neg hsg, hm]
  rw [hz] at c1
  refine fc_of mixed T_ok Try.func11 rfl (by kernel_rfl) (by kernel_rfl) (by kernel_rfl) ?_
  repeat' ((conv => whnf); first | (refine vcall_out (l :=  [0, 1]) (c1 ) ⟨rfl, rfl, rfl, rfl, (by (repeat' (first | exact trivial | exact GB_wf | exact fun _ _ => rfl | constructor)); first | done | fail), (by (repeat' (first | exact trivial | exact GB_fits rfl | constructor)); first | done | fail)⟩ ?_) | (refine vcallD_out (l :=  [0, 1]) (c1 ) ⟨rfl, rfl, rfl, rfl, (by (repeat' (first | exact trivial | exact GB_wf | exact fun _ _ => rfl | constructor)); first | done | fail), (by (repeat' (first | exact trivial | exact GB_fits rfl | constructor)); first | done | fail)⟩ ?_) | (refine br_dec (fun h => ?_) (fun h => ?_) <;> try (exfalso; (try dsimp only at h); omega)) | (refine br_ndec (fun h => ?_) (fun h => ?_) <;> try (exfalso; (try dsimp only at h); omega)) | refine br_seq (fun h => ?_) (fun h => ?_) | refine br_nseq (fun h => ?_) (fun h => ?_) | refine br_not (fun h => ?_) (fun h => ?_) | refine br_intro (fun h => ?_) (fun h => ?_) | refine cond_intro rfl ?_ | (refine cond_intro ⟨rfl, ?_⟩ ?_; (first | omega | (dsimp only; omega) | decide)) | (refine cond_intro ?_ ?_; (first | omega | (dsimp only; omega) | decide | (simp only [Nat.add_zero, Int.toNat_natCast, *]; omega))))
  all_goals (conv => whnf)
  refine vloop_lp (raS n m L T) (fun x => x.1 ≤ m ∧ apK L T x.1 = (0, x.2.2) ∧ x.2.2.length = x.2.1) (fun x => m - x.1) (0, 0 + n, L) [0, 1, 2, 4] [] ⟨rfl, ⟨rfl, rfl, rfl, rfl, trivial⟩, ⟨rfl, rfl, rowAll hn, trivial⟩⟩ ⟨Nat.zero_le _, rfl, by simp [hn]⟩ ?_
  rintro ⟨k, r, R⟩ ⟨hk, hK, hr⟩
  dsimp only at hk hK hr
  unfold raS
  dsimp only
  have hK1 : (apK L T k).1 = 0 := by rw [hK]
  obtain ⟨hR, hRl⟩ := apK_ok hL hK1
  have hst := apK_step hK1
  have hsp := apK_stop hK1
  rw [hK] at hR hRl hst hsp
  dsimp only at hR hRl hst hsp
  by_cases hk2 : k < m
  · have hsz := ht k
    rw [← colT_eq T k] at hst hsp hsz
    dsimp only at hsz
    have d1 := r08_IsName ((tcOf T).f.getD k ⟨#[]⟩) hsz.1
    have d2 := r08_IsName ((tcOf T).t.getD k ⟨#[]⟩) hsz.2
    have d3 := ref01_Check ((tcOf T).a.getD k 0) ((tcOf T).c.getD k ⟨#[]⟩)
    have hE := apE_mk R ((tcOf T).f.getD k ⟨#[]⟩) ((tcOf T).t.getD k ⟨#[]⟩) ((tcOf T).a.getD k 0) ((tcOf T).c.getD k ⟨#[]⟩)
    generalize hxe : apE R ⟨(tcOf T).f.getD k ⟨#[]⟩, (tcOf T).t.getD k ⟨#[]⟩, (tcOf T).a.getD k 0, (tcOf T).c.getD k ⟨#[]⟩⟩ = e at *
    have hout : e ≠ 0 → apErr L T = e := fun h => by rw [he]; exact hsp h m hk2
    by_cases hnf : nmB ((tcOf T).f.getD k ⟨#[]⟩) = false ∨ nmB ((tcOf T).t.getD k ⟨#[]⟩) = false
    · rw [if_pos hnf] at hE
      rw [hout (by omega), hE, if_pos (by decide)]
      generalize nmB ((tcOf T).f.getD k ⟨#[]⟩) = nf at *
      generalize nmB ((tcOf T).t.getD k ⟨#[]⟩) = nt at *
      cases nf <;> cases nt
      all_goals try (exfalso; simp at hnf; done)
      all_goals repeat' ((conv => whnf); first | (refine vcall_pure (d1) rfl rfl rfl ?_) | (refine vcallD_pure (d1) rfl rfl rfl ?_) | (refine vcall_pure (d2) rfl rfl rfl ?_) | (refine vcallD_pure (d2) rfl rfl rfl ?_) | (refine vcall_pure (d3) rfl rfl rfl ?_) | (refine vcallD_pure (d3) rfl rfl rfl ?_) | (refine br_dec (fun h => ?_) (fun h => ?_) <;> try (exfalso; (try dsimp only at h); omega)) | (refine br_ndec (fun h => ?_) (fun h => ?_) <;> try (exfalso; (try dsimp only at h); omega)) | refine br_seq (fun h => ?_) (fun h => ?_) | refine br_nseq (fun h => ?_) (fun h => ?_) | refine br_not (fun h => ?_) (fun h => ?_) | refine br_intro (fun h => ?_) (fun h => ?_) | refine cond_intro rfl ?_ | (refine cond_intro ⟨rfl, ?_⟩ ?_; (first | omega | (dsimp only; omega) | decide)) | (refine cond_intro ?_ ?_; (first | omega | (dsimp only; omega) | decide | (simp only [Nat.add_zero, Int.toNat_natCast, *]; omega))))
      all_goals (conv => whnf)
      all_goals first
        | exact ret_out (l := [0, 1, 2]) rfl rfl trivial allRw_nil
        | (exfalso; omega)
        | trace_state
    rw [if_neg hnf] at hE
    simp only [not_or, Bool.not_eq_false] at hnf
    rw [hnf.1] at d1
    rw [hnf.2] at d2
    by_cases hmc : mchk ((tcOf T).a.getD k 0) ((tcOf T).c.getD k ⟨#[]⟩) ≠ 0
    · rw [if_pos hmc] at hE
      rw [hout (by omega), hE, if_pos hmc]
      generalize mchk ((tcOf T).a.getD k 0) ((tcOf T).c.getD k ⟨#[]⟩) = mc at *
      repeat' ((conv => whnf); first | (refine vcall_pure (d1) rfl rfl rfl ?_) | (refine vcallD_pure (d1) rfl rfl rfl ?_) | (refine vcall_pure (d2) rfl rfl rfl ?_) | (refine vcallD_pure (d2) rfl rfl rfl ?_) | (refine vcall_pure (d3) rfl rfl rfl ?_) | (refine vcallD_pure (d3) rfl rfl rfl ?_) | (refine br_dec (fun h => ?_) (fun h => ?_) <;> try (exfalso; (try dsimp only at h); omega)) | (refine br_ndec (fun h => ?_) (fun h => ?_) <;> try (exfalso; (try dsimp only at h); omega)) | refine br_seq (fun h => ?_) (fun h => ?_) | refine br_nseq (fun h => ?_) (fun h => ?_) | refine br_not (fun h => ?_) (fun h => ?_) | refine br_intro (fun h => ?_) (fun h => ?_) | refine cond_intro rfl ?_ | (refine cond_intro ⟨rfl, ?_⟩ ?_; (first | omega | (dsimp only; omega) | decide)) | (refine cond_intro ?_ ?_; (first | omega | (dsimp only; omega) | decide | (simp only [Nat.add_zero, Int.toNat_natCast, *]; omega))))
      all_goals (conv => whnf)
      all_goals first
        | exact ret_out (l := [0, 1, 2]) rfl rfl trivial allRw_nil
        | (exfalso; omega)
        | trace_state
    rw [if_neg hmc] at hE
    have hab := (mchk_bd (Classical.not_not.1 hmc)).2
    rw [Classical.not_not.1 hmc] at d3
    have c4 := r41_move R ((tcOf T).f.getD k ⟨#[]⟩) ((tcOf T).c.getD k ⟨#[]⟩) ((tcOf T).a.getD k 0) 1 r hr (by omega) hab (.inl rfl) hR.bd
    unfold moR at c4
    rw [Int.one_mul] at c4
    by_cases h1 : inT (mvN R ((tcOf T).f.getD k ⟨#[]⟩) ((tcOf T).c.getD k ⟨#[]⟩) ((tcOf T).a.getD k 0))
    · rw [if_pos h1] at c4
      rw [if_neg (fun q => q h1)] at hE
      have hR1 := mvR_ok hR ((tcOf T).f.getD k ⟨#[]⟩) ((tcOf T).c.getD k ⟨#[]⟩) h1
      have hl1 := mvR_len R ((tcOf T).f.getD k ⟨#[]⟩) ((tcOf T).c.getD k ⟨#[]⟩) ((tcOf T).a.getD k 0)
      have c5 := r41_move (mvR R ((tcOf T).f.getD k ⟨#[]⟩) ((tcOf T).c.getD k ⟨#[]⟩) ((tcOf T).a.getD k 0)) ((tcOf T).t.getD k ⟨#[]⟩) ((tcOf T).c.getD k ⟨#[]⟩) ((tcOf T).a.getD k 0) (-1) _ rfl (by rw [hl1]; split <;> omega) hab (.inr rfl) hR1.bd
      unfold moR at c5
      rw [show -1 * (tcOf T).a.getD k 0 = - (tcOf T).a.getD k 0 by omega] at c5
      generalize hA : mvR R ((tcOf T).f.getD k ⟨#[]⟩) ((tcOf T).c.getD k ⟨#[]⟩) ((tcOf T).a.getD k 0) = A at *
      by_cases h2 : inT (mvN A ((tcOf T).t.getD k ⟨#[]⟩) ((tcOf T).c.getD k ⟨#[]⟩) (- (tcOf T).a.getD k 0))
      · rw [if_pos h2] at c5
        rw [if_neg (fun q => q h2)] at hE
        have hnx : apK L T (k + 1) = (0, mvR A ((tcOf T).t.getD k ⟨#[]⟩) ((tcOf T).c.getD k ⟨#[]⟩) (- (tcOf T).a.getD k 0)) := by rw [hst, hE]; unfold apN; dsimp only; rw [hA]
        generalize mvR A ((tcOf T).t.getD k ⟨#[]⟩) ((tcOf T).c.getD k ⟨#[]⟩) (- (tcOf T).a.getD k 0) = B at *
        repeat' ((conv => whnf); first | (refine vcall_pure (d1) rfl rfl rfl ?_) | (refine vcallD_pure (d1) rfl rfl rfl ?_) | (refine vcall_pure (d2) rfl rfl rfl ?_) | (refine vcallD_pure (d2) rfl rfl rfl ?_) | (refine vcall_pure (d3) rfl rfl rfl ?_) | (refine vcallD_pure (d3) rfl rfl rfl ?_) | (refine vcallD_out (l :=  [0, 3]) (c4 ) ⟨rfl, rfl, rfl, rfl, (by (repeat' (first | exact trivial | exact GB_wf | exact fun _ _ => rfl | constructor)); first | done | fail), (by (repeat' (first | exact trivial | exact GB_fits rfl | constructor)); first | done | fail)⟩ ?_) | (refine vcallD_out (l :=  [0, 4]) (c5 ) ⟨rfl, rfl, rfl, rfl, (by (repeat' (first | exact trivial | exact GB_wf | exact fun _ _ => rfl | constructor)); first | done | fail), (by (repeat' (first | exact trivial | exact GB_fits rfl | constructor)); first | done | fail)⟩ ?_) | (refine vcall_out (l :=  [0, 3]) (c4 ) ⟨rfl, rfl, rfl, rfl, (by (repeat' (first | exact trivial | exact GB_wf | exact fun _ _ => rfl | constructor)); first | done | fail), (by (repeat' (first | exact trivial | exact GB_fits rfl | constructor)); first | done | fail)⟩ ?_) | (refine vcall_out (l :=  [0, 4]) (c5 ) ⟨rfl, rfl, rfl, rfl, (by (repeat' (first | exact trivial | exact GB_wf | exact fun _ _ => rfl | constructor)); first | done | fail), (by (repeat' (first | exact trivial | exact GB_fits rfl | constructor)); first | done | fail)⟩ ?_) | (refine br_dec (fun h => ?_) (fun h => ?_) <;> try (exfalso; (try dsimp only at h); omega)) | (refine br_ndec (fun h => ?_) (fun h => ?_) <;> try (exfalso; (try dsimp only at h); omega)) | refine br_seq (fun h => ?_) (fun h => ?_) | refine br_nseq (fun h => ?_) (fun h => ?_) | refine br_not (fun h => ?_) (fun h => ?_) | refine br_intro (fun h => ?_) (fun h => ?_) | refine cond_intro rfl ?_ | (refine cond_intro ⟨rfl, ?_⟩ ?_; (first | omega | (dsimp only; omega) | decide)) | (refine cond_intro ?_ ?_; (first | omega | (dsimp only; omega) | decide | (simp only [Nat.add_zero, Int.toNat_natCast, *]; omega))))
        all_goals (conv => whnf)
        all_goals first
          | exact ⟨(k + 1, B.length, B), [0, 1, 2, 5], [], ⟨hk2, hnx, rfl⟩, (show m - (k + 1) < m - k by omega), ⟨rfl, ⟨rfl, rfl, rfl, congrArg (fun z => some (SV.int .i64 z)) (i64_succ (by omega)), trivial⟩, ⟨rfl, rfl, rfl, trivial⟩⟩⟩
          | (exfalso; omega)
          | trace_state
      · rw [if_neg h2] at c5
        rw [if_pos h2] at hE
        rw [hout (by omega), hE, if_pos (by decide)]
        repeat' ((conv => whnf); first | (refine vcall_pure (d1) rfl rfl rfl ?_) | (refine vcallD_pure (d1) rfl rfl rfl ?_) | (refine vcall_pure (d2) rfl rfl rfl ?_) | (refine vcallD_pure (d2) rfl rfl rfl ?_) | (refine vcall_pure (d3) rfl rfl rfl ?_) | (refine vcallD_pure (d3) rfl rfl rfl ?_) | (refine vcallD_out (l :=  [0, 3]) (c4 ) ⟨rfl, rfl, rfl, rfl, (by (repeat' (first | exact trivial | exact GB_wf | exact fun _ _ => rfl | constructor)); first | done | fail), (by (repeat' (first | exact trivial | exact GB_fits rfl | constructor)); first | done | fail)⟩ ?_) | (refine vcallD_out (l :=  [0, 4]) (c5 ) ⟨rfl, rfl, rfl, rfl, (by (repeat' (first | exact trivial | exact GB_wf | exact fun _ _ => rfl | constructor)); first | done | fail), (by (repeat' (first | exact trivial | exact GB_fits rfl | constructor)); first | done | fail)⟩ ?_) | (refine vcall_out (l :=  [0, 3]) (c4 ) ⟨rfl, rfl, rfl, rfl, (by (repeat' (first | exact trivial | exact GB_wf | exact fun _ _ => rfl | constructor)); first | done | fail), (by (repeat' (first | exact trivial | exact GB_fits rfl | constructor)); first | done | fail)⟩ ?_) | (refine vcall_out (l :=  [0, 4]) (c5 ) ⟨rfl, rfl, rfl, rfl, (by (repeat' (first | exact trivial | exact GB_wf | exact fun _ _ => rfl | constructor)); first | done | fail), (by (repeat' (first | exact trivial | exact GB_fits rfl | constructor)); first | done | fail)⟩ ?_) | (refine br_dec (fun h => ?_) (fun h => ?_) <;> try (exfalso; (try dsimp only at h); omega)) | (refine br_ndec (fun h => ?_) (fun h => ?_) <;> try (exfalso; (try dsimp only at h); omega)) | refine br_seq (fun h => ?_) (fun h => ?_) | refine br_nseq (fun h => ?_) (fun h => ?_) | refine br_not (fun h => ?_) (fun h => ?_) | refine br_intro (fun h => ?_) (fun h => ?_) | refine cond_intro rfl ?_ | (refine cond_intro ⟨rfl, ?_⟩ ?_; (first | omega | (dsimp only; omega) | decide)) | (refine cond_intro ?_ ?_; (first | omega | (dsimp only; omega) | decide | (simp only [Nat.add_zero, Int.toNat_natCast, *]; omega))))
        all_goals (conv => whnf)
        all_goals first
          | exact ret_out (l := [0, 1, 2]) rfl rfl trivial allRw_nil
          | (exfalso; omega)
          | trace_state
    · rw [if_neg h1] at c4
      rw [if_pos h1] at hE
      rw [hout (by omega), hE, if_pos (by decide)]
      repeat' ((conv => whnf); first | (refine vcall_pure (d1) rfl rfl rfl ?_) | (refine vcallD_pure (d1) rfl rfl rfl ?_) | (refine vcall_pure (d2) rfl rfl rfl ?_) | (refine vcallD_pure (d2) rfl rfl rfl ?_) | (refine vcall_pure (d3) rfl rfl rfl ?_) | (refine vcallD_pure (d3) rfl rfl rfl ?_) | (refine vcallD_out (l :=  [0, 3]) (c4 ) ⟨rfl, rfl, rfl, rfl, (by (repeat' (first | exact trivial | exact GB_wf | exact fun _ _ => rfl | constructor)); first | done | fail), (by (repeat' (first | exact trivial | exact GB_fits rfl | constructor)); first | done | fail)⟩ ?_) | (refine vcall_out (l :=  [0, 3]) (c4 ) ⟨rfl, rfl, rfl, rfl, (by (repeat' (first | exact trivial | exact GB_wf | exact fun _ _ => rfl | constructor)); first | done | fail), (by (repeat' (first | exact trivial | exact GB_fits rfl | constructor)); first | done | fail)⟩ ?_) | (refine br_dec (fun h => ?_) (fun h => ?_) <;> try (exfalso; (try dsimp only at h); omega)) | (refine br_ndec (fun h => ?_) (fun h => ?_) <;> try (exfalso; (try dsimp only at h); omega)) | refine br_seq (fun h => ?_) (fun h => ?_) | refine br_nseq (fun h => ?_) (fun h => ?_) | refine br_not (fun h => ?_) (fun h => ?_) | refine br_intro (fun h => ?_) (fun h => ?_) | refine cond_intro rfl ?_ | (refine cond_intro ⟨rfl, ?_⟩ ?_; (first | omega | (dsimp only; omega) | decide)) | (refine cond_intro ?_ ?_; (first | omega | (dsimp only; omega) | decide | (simp only [Nat.add_zero, Int.toNat_natCast, *]; omega))))
      all_goals (conv => whnf)
      all_goals first
        | exact ret_out (l := [0, 1, 2]) rfl rfl trivial allRw_nil
        | (exfalso; omega)
        | trace_state
  · have e : k = m := by omega
    subst e
    have he0 : apErr L T = 0 := he.trans hK1
    have hres : apRes L T = srt (nz R) := by unfold apRes; rw [if_neg (by omega), hm, hK]
    have hlen : (srt (nz R)).length = (nz R).length := (srt_perm _).length_eq
    have c6 := r41_Sorted R r hr (by omega) hR.dist
    rw [if_neg (by omega), hres, hlen]
    repeat' ((conv => whnf); first | (refine vcall_out (l :=  [0, 3]) (c6 ) ⟨rfl, rfl, rfl, rfl, (by (repeat' (first | exact trivial | exact GB_wf | exact fun _ _ => rfl | constructor)); first | done | fail), (by (repeat' (first | exact trivial | exact GB_fits rfl | constructor)); first | done | fail)⟩ ?_) | (refine vcallD_out (l :=  [0, 3]) (c6 ) ⟨rfl, rfl, rfl, rfl, (by (repeat' (first | exact trivial | exact GB_wf | exact fun _ _ => rfl | constructor)); first | done | fail), (by (repeat' (first | exact trivial | exact GB_fits rfl | constructor)); first | done | fail)⟩ ?_) | (refine br_dec (fun h => ?_) (fun h => ?_) <;> try (exfalso; (try dsimp only at h); omega)) | (refine br_ndec (fun h => ?_) (fun h => ?_) <;> try (exfalso; (try dsimp only at h); omega)) | refine br_seq (fun h => ?_) (fun h => ?_) | refine br_nseq (fun h => ?_) (fun h => ?_) | refine br_not (fun h => ?_) (fun h => ?_) | refine br_intro (fun h => ?_) (fun h => ?_) | refine cond_intro rfl ?_ | (refine cond_intro ⟨rfl, ?_⟩ ?_; (first | omega | (dsimp only; omega) | decide)) | (refine cond_intro ?_ ?_; (first | omega | (dsimp only; omega) | decide | (simp only [Nat.add_zero, Int.toNat_natCast, *]; omega))))
    all_goals (conv => whnf)
    all_goals first
      | exact ret_out (l := [0, 1, 2, 4]) rfl rfl ⟨rfl, trivial⟩ (allRw_cons allRw_nil)
      | (exfalso; omega)
      | trace_state
end Go.Proofs.Ytmibjgblhaohiaa

/- Contracts: transfers are applied. -/
namespace Go.Proofs.Ytmibjgblhaohiaa
open Go.RowKit Go.Sy
attribute [local irreducible] vcall vloop vcallD retP
set_option maxRecDepth 100000
set_option linter.unusedVariables false
set_option linter.unusedSimpArgs false

/-- Positions as a map of amounts. -/
abbrev RM (n : Nat) (R : List Ps) : Blk := .obj (.map true false n [.strs (pcOf R).c, .strs (pcOf R).p] [.sc (.ints .i64 (pcOf R).a)] (List.range n) n)
theorem rmNew {R : List Ps} {k ix : Nat} (hR : R.length = k) (h : ix = k) {p c : ByteArray} {a : Int} :
    (some (HB.one false (.obj (.map true false (if ix < k then k else k + 1) [.strs (putL ix c (pcOf R).c), .strs (putL ix p (pcOf R).p)] [.sc (.ints .i64 (putL ix a (pcOf R).a))] (if ix < k then List.range k else List.range k ++ [k]) (if ix < k then k else k + 1)))) : Option HB) = some (.one false (RM (k + 1) (R ++ [⟨p, a, c⟩]))) := by
  subst h
  simp only [Nat.lt_irrefl, if_false]
  rw [putL_new (by simp [pcOf, hR]), putL_new (by simp [pcOf, hR]), putL_new (by simp [pcOf, hR]), ← List.range_succ]
  unfold RM pcOf
  simp
theorem stampOk {ix r : Nat} (h : ix ≤ r) : 0 ≤ (((if ix < r then (List.range r).getD ix 0 else r : Nat)) : Int) ∧ (((if ix < r then (List.range r).getD ix 0 else r : Nat)) : Int).toNat ∈ (if ix < r then List.range r else List.range r ++ [r]) := by
  refine ⟨Int.natCast_nonneg _, ?_⟩
  rw [Int.toNat_natCast]
  by_cases e : ix < r
  · rw [if_pos e, if_pos e]
    simp [List.getD, e]
  · rw [if_neg e, if_neg e]; simp
theorem idx_range {i r : Nat} (h : i < r) : (List.range r).idxOf i = i := by
  have hl : (List.range r).idxOf i < (List.range r).length := List.idxOf_lt_length_of_mem (by simpa using h)
  have h2 := List.getElem_idxOf hl
  rwa [List.getElem_range] at h2
/-- A row of the map is put: what the columns become. -/
theorem updA {R : List Ps} {r : Nat} (hR : R.length = r) {ix : Nat} (hix : ix ≤ r) (p c : ByteArray) (v : Int) :
    putL ((if ix < r then List.range r else List.range r ++ [r]).idxOf (((if ix < r then (List.range r).getD ix 0 else r : Nat)) : Int).toNat) v (putL ix ((pcOf R).a.getD ix 0) (pcOf R).a) = (pcOf (putL ix ⟨p, v, c⟩ R)).a := by
  have hl : (pcOf R).a.length = r := by simp [pcOf, hR]
  rw [show (pcOf (putL ix ⟨p, v, c⟩ R)).a = putL ix v (pcOf R).a from putL_map _ _ _ _, Int.toNat_natCast]
  by_cases e : ix < r
  · rw [if_pos e, if_pos e, show (List.range r).getD ix 0 = ix by simp [List.getD, e], idx_range e, putL_lt (i := ix) (l := (pcOf R).a) (by omega), putL_lt (by rw [List.length_set]; omega), putL_lt (i := ix) (l := (pcOf R).a) (by omega), List.set_set]
  · have : ix = r := by omega
    subst this
    rw [if_neg e, if_neg e, ← List.range_succ, idx_range (by omega), putL_new hl, putL_new hl, putL_lt (by simp [hl]), List.set_append_right _ _ (by omega)]
    simp [hl]
theorem updC (R : List Ps) (ix : Nat) (p c : ByteArray) (v : Int) : putL ix c (pcOf R).c = (pcOf (putL ix ⟨p, v, c⟩ R)).c := (putL_map Ps.c ix ⟨p, v, c⟩ R).symm
theorem updP (R : List Ps) (ix : Nat) (p c : ByteArray) (v : Int) : putL ix p (pcOf R).p = (pcOf (putL ix ⟨p, v, c⟩ R)).p := (putL_map Ps.p ix ⟨p, v, c⟩ R).symm
theorem updN {R : List Ps} {r : Nat} (hR : R.length = r) (ix : Nat) (p c : ByteArray) (v : Int) : (if ix < r then r else r + 1) = (putL ix ⟨p, v, c⟩ R).length := by rw [putL_length, hR]
theorem updB {R : List Ps} {r : Nat} (hR : R.length = r) {ix : Nat} (p c : ByteArray) (v : Int) : (if ix < r then List.range r else List.range r ++ [r]) = List.range (putL ix ⟨p, v, c⟩ R).length := by
  rw [putL_length, hR]
  split
  · rfl
  · exact List.range_succ.symm
theorem rmUpd {A : List Ps} {r : Nat} (hA : A.length = r) {ix : Nat} (hix : ix ≤ r) (p c : ByteArray) (v : Int) :
    (some (HB.one false (.obj (.map true false (if ix < r then r else r + 1) [.strs (putL ix c (pcOf A).c), .strs (putL ix p (pcOf A).p)] [.sc (.ints .i64 (putL ((if ix < r then List.range r else List.range r ++ [r]).idxOf (((if ix < r then (List.range r).getD ix 0 else r : Nat)) : Int).toNat) v (putL ix ((pcOf A).a.getD ix 0) (pcOf A).a)))] (if ix < r then List.range r else List.range r ++ [r]) (if ix < r then r else r + 1)))) : Option HB) = some (.one false (RM (putL ix ⟨p, v, c⟩ A).length (putL ix ⟨p, v, c⟩ A))) := by
  rw [updA hA hix p c v, updC A ix p c v, updP A ix p c v, updN hA ix p c v, updB hA p c v]
/-- The rows that were visited and are not zero. -/
def vis (R : List Ps) : List Nat → List Ps
  | [] => []
  | i :: sn => if (R.getD i ps0).a = 0 then vis R sn else vis R sn ++ [R.getD i ps0]
theorem vis_perm (R : List Ps) : ∀ sn : List Nat, (vis R sn).Perm (nz (sn.map (fun i => R.getD i ps0)))
  | [] => List.Perm.refl _
  | i :: sn => by
    have ih := vis_perm R sn
    simp only [vis, List.map_cons]
    unfold nz at ih ⊢
    by_cases h : (R.getD i ps0).a = 0
    · rw [if_pos h, List.filter_cons, if_neg (by simpa using h)]; exact ih
    · rw [if_neg h, List.filter_cons, if_pos (decide_eq_true h)]
      exact (List.perm_append_comm (l₂ := [R.getD i ps0])).trans (ih.cons _)
theorem vis_all {R : List Ps} {sn : List Nat} (hd : sn.Nodup) (hl : ∀ i ∈ sn, i < R.length) (ha : ∀ i, i < R.length → i ∈ sn) : (vis R sn).Perm (nz R) := by
  refine (vis_perm R sn).trans (List.Perm.filter _ ?_)
  have hp : sn.Perm (List.range R.length) := (List.perm_ext_iff_of_nodup hd List.nodup_range).2 fun i => ⟨fun h => by simpa using hl i h, fun h => ha i (by simpa using h)⟩
  have e : (List.range R.length).map (fun i => R.getD i ps0) = R := by
    refine List.ext_getElem? fun i => ?_
    rw [List.getElem?_map]
    by_cases h : i < R.length
    · simp [h, List.getD]
    · rw [List.getElem?_eq_none (by simp; omega), List.getElem?_eq_none (by omega)]; rfl
  have h2 := hp.map (fun i => R.getD i ps0)
  rw [e] at h2
  exact h2
theorem rowApp {Q : List Ps} {k : Nat} {p c : ByteArray} {a : Int} {x : Ps} (hx : x = ⟨p, a, c⟩) : (some (HB.one false (.cols (k + 1) [.sc (.strs ((pcOf Q).p ++ [p])), .sc (.ints .i64 ((pcOf Q).a ++ [a])), .sc (.strs ((pcOf Q).c ++ [c]))])) : Option HB) = some (.one false (psB (k + 1) (pcOf (Q ++ [x])))) := by
  subst hx
  unfold psB pcOf
  simp
theorem rowPl {Q : List Ps} {k : Nat} {p c : ByteArray} {x : Ps} (h1 : x.p = p) (h2 : x.c = c) : (some (HB.one false (.cols (k + 1) [.sc (.strs ((pcOf Q).c ++ [c])), .sc (.strs ((pcOf Q).p ++ [p]))])) : Option HB) = some (.one false (.cols (k + 1) [.sc (.strs (pcOf (Q ++ [x])).c), .sc (.strs (pcOf (Q ++ [x])).p)])) := by
  subst h1; subst h2
  unfold pcOf
  simp
theorem nz_dist {R : List Ps} (h : Dist R) : Dist (nz R) := h.sublist List.filter_sublist
theorem nz_len (R : List Ps) : (nz R).length ≤ R.length := List.length_filter_le _ _
theorem toNat0 (k : Nat) : (k : Int).toNat + 0 = k := rfl
abbrev na1 (n m : Nat) (L : List Ps) (T : List Tx) (k : Nat) : VS := ⟨[(1, .sl 2 0 0 m), (7, .map 3 0), (27, .sl 1 0 0 n), (28, .int .i64 n), (29, .int .i64 k)], [(1, some (.one true (psB n (pcOf L)))), (2, some (.one true (txB m (tcOf T)))), (3, some (.one false (RM k (L.take k))))], 4⟩
abbrev na2 (n m : Nat) (L : List Ps) (T : List Tx) (x : Nat × Nat × List Ps) : VS := ⟨[(7, .map 3 0), (40, .sl 2 0 0 m), (41, .int .i64 m), (42, .int .i64 x.1)], [(1, some (.one true (psB n (pcOf L)))), (2, some (.one true (txB m (tcOf T)))), (3, some (.one false (RM x.2.1 x.2.2)))], 4⟩
theorem net_Apply (L : List Ps) (T : List Tx) (n m : Nat) (hn : L.length = n) (hm : T.length = m) (hl : n ≤ 400) (hl2 : m ≤ 200) : FC Try.prog 3 10 [.sl 1 0 0 n, .sl 2 0 0 m] [(1, some (.one true (psB n (pcOf L)))), (2, some (.one true (txB m (tcOf T))))] (apOut L T) := by
  have c1 := net_checkEach L n hn (by omega)
  unfold apOut
  by_cases hsg : sgP L ≠ 0
  · have he : apErr L T = sgP L := by unfold apErr; rw [if_pos hsg]
    rw [if_pos (by rw [he]; exact hsg), he]
    generalize sgP L = sg at *
    refine fc_of mixed T_ok Try.func10 rfl (by kernel_rfl) (by kernel_rfl) (by kernel_rfl) ?_
    repeat' ((conv => whnf); first | (refine vcall_out (l :=  [0, 1]) (c1 ) ⟨rfl, rfl, rfl, rfl, (by (repeat' (first | exact trivial | exact GB_wf | exact fun _ _ => rfl | constructor)); first | done | fail), (by (repeat' (first | exact trivial | exact GB_fits rfl | constructor)); first | done | fail)⟩ ?_) | (refine vcallD_out (l :=  [0, 1]) (c1 ) ⟨rfl, rfl, rfl, rfl, (by (repeat' (first | exact trivial | exact GB_wf | exact fun _ _ => rfl | constructor)); first | done | fail), (by (repeat' (first | exact trivial | exact GB_fits rfl | constructor)); first | done | fail)⟩ ?_) | (refine br_dec (fun h => ?_) (fun h => ?_) <;> try (exfalso; (try dsimp only at h); omega)) | (refine br_ndec (fun h => ?_) (fun h => ?_) <;> try (exfalso; (try dsimp only at h); omega)) | refine br_seq (fun h => ?_) (fun h => ?_) | refine br_nseq (fun h => ?_) (fun h => ?_) | refine br_not (fun h => ?_) (fun h => ?_) | refine br_intro (fun h => ?_) (fun h => ?_) | refine cond_intro rfl ?_ | (refine cond_intro ⟨rfl, ?_⟩ ?_; (first | omega | (dsimp only; omega) | decide)) | (refine cond_intro ?_ ?_; (first | omega | (dsimp only; omega) | decide | (simp only [Nat.add_zero, Int.toNat_natCast, *]; omega))))
    all_goals (conv => whnf)
    all_goals first
      | exact ret_out (l := [0, 1, 2]) rfl rfl trivial allRw_nil
      | (exfalso; omega)
      | trace_state
  have hz := Classical.not_not.1 hsg
  have hL := sgP_rw hz
  have he : apErr L T = (apK L T m).1 := by unfold apErr; rw [if_neg hsg, hm]
  rw [hz] at c1
  refine fc_of mixed T_ok Try.func10 rfl (by kernel_rfl) (by kernel_rfl) (by kernel_rfl) ?_
  repeat' ((conv => whnf); first | (refine vcall_out (l :=  [0, 1]) (c1 ) ⟨rfl, rfl, rfl, rfl, (by (repeat' (first | exact trivial | exact GB_wf | exact fun _ _ => rfl | constructor)); first | done | fail), (by (repeat' (first | exact trivial | exact GB_fits rfl | constructor)); first | done | fail)⟩ ?_) | (refine vcallD_out (l :=  [0, 1]) (c1 ) ⟨rfl, rfl, rfl, rfl, (by (repeat' (first | exact trivial | exact GB_wf | exact fun _ _ => rfl | constructor)); first | done | fail), (by (repeat' (first | exact trivial | exact GB_fits rfl | constructor)); first | done | fail)⟩ ?_) | (refine br_dec (fun h => ?_) (fun h => ?_) <;> try (exfalso; (try dsimp only at h); omega)) | (refine br_ndec (fun h => ?_) (fun h => ?_) <;> try (exfalso; (try dsimp only at h); omega)) | refine br_seq (fun h => ?_) (fun h => ?_) | refine br_nseq (fun h => ?_) (fun h => ?_) | refine br_not (fun h => ?_) (fun h => ?_) | refine br_intro (fun h => ?_) (fun h => ?_) | refine cond_intro rfl ?_ | (refine cond_intro ⟨rfl, ?_⟩ ?_; (first | omega | (dsimp only; omega) | decide)) | (refine cond_intro ?_ ?_; (first | omega | (dsimp only; omega) | decide | (simp only [Nat.add_zero, Int.toNat_natCast, *]; omega))))
  all_goals (conv => whnf)
  refine vloop_lp (na1 n m L T) (fun k => k ≤ n) (fun k => n - k) 0 [0, 1, 2, 3] [] ⟨rfl, ⟨rfl, rfl, rfl, rfl, rfl, trivial⟩, ⟨rfl, rfl, rfl, trivial⟩⟩ (Nat.zero_le _) ?_
  intro k hk
  unfold na1
  by_cases hk2 : k < n
  · have e1 := (erP_zero ((sgP_zero hz).2 k (by omega))).2.2
    have hle := ixL_le (L.getD k ps0).p (L.getD k ps0).c (L.take k)
    have hkl : (L.take k).length = k := by rw [List.length_take]; omega
    have htk := take_getD (L := L) (k := k) (by omega)
    rw [← colP_eq L k] at e1 hle htk
    dsimp only at e1 hle
    have hrow := rmNew hkl (show ixL (L.take k) ((pcOf L).p.getD k ⟨#[]⟩) ((pcOf L).c.getD k ⟨#[]⟩) = k by omega) (p := (pcOf L).p.getD k ⟨#[]⟩) (c := (pcOf L).c.getD k ⟨#[]⟩) (a := (pcOf L).a.getD k 0)
    rw [← htk] at hrow
    have c3 := net_placeOf ((pcOf L).p.getD k ⟨#[]⟩) ((pcOf L).a.getD k 0) ((pcOf L).c.getD k ⟨#[]⟩)
    repeat' ((conv => whnf); first | (refine vcall_pure (c3) rfl rfl rfl ?_) | (refine vcallD_pure (c3) rfl rfl rfl ?_) | (refine br_dec (fun h => ?_) (fun h => ?_) <;> try (exfalso; (try dsimp only at h); omega)) | (refine br_ndec (fun h => ?_) (fun h => ?_) <;> try (exfalso; (try dsimp only at h); omega)) | refine br_seq (fun h => ?_) (fun h => ?_) | refine br_nseq (fun h => ?_) (fun h => ?_) | refine br_not (fun h => ?_) (fun h => ?_) | refine br_intro (fun h => ?_) (fun h => ?_) | refine cond_intro rfl ?_ | (refine cond_intro ⟨rfl, ?_⟩ ?_; (first | omega | (dsimp only; omega) | decide)) | (refine cond_intro ?_ ?_; (first | omega | (dsimp only; omega) | decide | (simp only [Nat.add_zero, Int.toNat_natCast, *]; omega))))
    all_goals (conv => whnf)
    all_goals first
      | exact ⟨k + 1, [0, 1, 2, 3], [], hk2, (show n - (k + 1) < n - k by omega), ⟨rfl, ⟨rfl, rfl, rfl, rfl, congrArg (fun z => some (SV.int .i64 z)) (i64_succ (by omega)), trivial⟩, ⟨rfl, rfl, hrow, trivial⟩⟩⟩
      | (exfalso; omega)
      | trace_state
  have ek : k = n := by omega
  subst ek
  rw [show L.take k = L by rw [← hn, List.take_length]]
  repeat' ((conv => whnf); first | (refine br_dec (fun h => ?_) (fun h => ?_) <;> try (exfalso; (try dsimp only at h); omega)) | (refine br_ndec (fun h => ?_) (fun h => ?_) <;> try (exfalso; (try dsimp only at h); omega)) | refine br_seq (fun h => ?_) (fun h => ?_) | refine br_nseq (fun h => ?_) (fun h => ?_) | refine br_not (fun h => ?_) (fun h => ?_) | refine br_intro (fun h => ?_) (fun h => ?_) | refine cond_intro rfl ?_ | (refine cond_intro ⟨rfl, ?_⟩ ?_; (first | omega | (dsimp only; omega) | decide)) | (refine cond_intro ?_ ?_; (first | omega | (dsimp only; omega) | decide | (simp only [Nat.add_zero, Int.toNat_natCast, *]; omega))))
  all_goals (conv => whnf)
  all_goals first
    | (exfalso; omega)
    | skip
  refine vloop_lp (na2 k m L T) (fun x => x.1 ≤ m ∧ apK L T x.1 = (0, x.2.2) ∧ x.2.2.length = x.2.1) (fun x => m - x.1) (0, k, L) [0, 1, 2, 3] [] ⟨rfl, ⟨rfl, rfl, rfl, rfl, trivial⟩, ⟨rfl, rfl, rfl, trivial⟩⟩ ⟨Nat.zero_le _, rfl, hn⟩ ?_
  clear hk2 hk
  rintro ⟨i, r, R⟩ ⟨hi, hK, hr⟩
  dsimp only at hi hK hr
  unfold na2
  dsimp only
  have hK1 : (apK L T i).1 = 0 := by rw [hK]
  obtain ⟨hR, hRl⟩ := apK_ok hL hK1
  have hst := apK_step hK1
  have hsp := apK_stop hK1
  rw [hK] at hR hRl hst hsp
  dsimp only at hR hRl hst hsp
  by_cases hi2 : i < m
  · rw [← colT_eq T i] at hst hsp
    have d1 := net_isName ((tcOf T).f.getD i ⟨#[]⟩)
    have d2 := net_isName ((tcOf T).t.getD i ⟨#[]⟩)
    have d3 := money_Check ((tcOf T).a.getD i 0) ((tcOf T).c.getD i ⟨#[]⟩)
    have hE := apE_mk R ((tcOf T).f.getD i ⟨#[]⟩) ((tcOf T).t.getD i ⟨#[]⟩) ((tcOf T).a.getD i 0) ((tcOf T).c.getD i ⟨#[]⟩)
    generalize hxe : apE R ⟨(tcOf T).f.getD i ⟨#[]⟩, (tcOf T).t.getD i ⟨#[]⟩, (tcOf T).a.getD i 0, (tcOf T).c.getD i ⟨#[]⟩⟩ = e at *
    have hout : e ≠ 0 → apErr L T = e := fun h => by rw [he]; exact hsp h m hi2
    by_cases hnf : nmB ((tcOf T).f.getD i ⟨#[]⟩) = false ∨ nmB ((tcOf T).t.getD i ⟨#[]⟩) = false
    · rw [if_pos hnf] at hE
      rw [hout (by omega), hE, if_pos (by decide)]
      generalize nmB ((tcOf T).f.getD i ⟨#[]⟩) = nf at *
      generalize nmB ((tcOf T).t.getD i ⟨#[]⟩) = nt at *
      cases nf <;> cases nt
      all_goals try (exfalso; simp at hnf; done)
      all_goals repeat' ((conv => whnf); first | (refine vcall_pure (d1) rfl rfl rfl ?_) | (refine vcallD_pure (d1) rfl rfl rfl ?_) | (refine vcall_pure (d2) rfl rfl rfl ?_) | (refine vcallD_pure (d2) rfl rfl rfl ?_) | (refine vcall_pure (d3) rfl rfl rfl ?_) | (refine vcallD_pure (d3) rfl rfl rfl ?_) | (refine br_dec (fun h => ?_) (fun h => ?_) <;> try (exfalso; (try dsimp only at h); omega)) | (refine br_ndec (fun h => ?_) (fun h => ?_) <;> try (exfalso; (try dsimp only at h); omega)) | refine br_seq (fun h => ?_) (fun h => ?_) | refine br_nseq (fun h => ?_) (fun h => ?_) | refine br_not (fun h => ?_) (fun h => ?_) | refine br_intro (fun h => ?_) (fun h => ?_) | refine cond_intro rfl ?_ | (refine cond_intro ⟨rfl, ?_⟩ ?_; (first | omega | (dsimp only; omega) | decide)) | (refine cond_intro ?_ ?_; (first | omega | (dsimp only; omega) | decide | (simp only [Nat.add_zero, Int.toNat_natCast, *]; omega))))
      all_goals (conv => whnf)
      all_goals first
        | exact ret_out (l := [0, 1, 2]) rfl rfl trivial allRw_nil
        | (exfalso; omega)
        | trace_state
    rw [if_neg hnf] at hE
    simp only [not_or, Bool.not_eq_false] at hnf
    rw [hnf.1] at d1
    rw [hnf.2] at d2
    by_cases hmc : mchk ((tcOf T).a.getD i 0) ((tcOf T).c.getD i ⟨#[]⟩) ≠ 0
    · rw [if_pos hmc] at hE
      rw [hout (by omega), hE, if_pos hmc]
      generalize mchk ((tcOf T).a.getD i 0) ((tcOf T).c.getD i ⟨#[]⟩) = mc at *
      repeat' ((conv => whnf); first | (refine vcall_pure (d1) rfl rfl rfl ?_) | (refine vcallD_pure (d1) rfl rfl rfl ?_) | (refine vcall_pure (d2) rfl rfl rfl ?_) | (refine vcallD_pure (d2) rfl rfl rfl ?_) | (refine vcall_pure (d3) rfl rfl rfl ?_) | (refine vcallD_pure (d3) rfl rfl rfl ?_) | (refine br_dec (fun h => ?_) (fun h => ?_) <;> try (exfalso; (try dsimp only at h); omega)) | (refine br_ndec (fun h => ?_) (fun h => ?_) <;> try (exfalso; (try dsimp only at h); omega)) | refine br_seq (fun h => ?_) (fun h => ?_) | refine br_nseq (fun h => ?_) (fun h => ?_) | refine br_not (fun h => ?_) (fun h => ?_) | refine br_intro (fun h => ?_) (fun h => ?_) | refine cond_intro rfl ?_ | (refine cond_intro ⟨rfl, ?_⟩ ?_; (first | omega | (dsimp only; omega) | decide)) | (refine cond_intro ?_ ?_; (first | omega | (dsimp only; omega) | decide | (simp only [Nat.add_zero, Int.toNat_natCast, *]; omega))))
      all_goals (conv => whnf)
      all_goals first
        | exact ret_out (l := [0, 1, 2]) rfl rfl trivial allRw_nil
        | (exfalso; omega)
        | trace_state
    rw [if_neg hmc] at hE
    have hab := (mchk_bd (Classical.not_not.1 hmc)).2
    rw [Classical.not_not.1 hmc] at d3
    have ha1 := (atP R (ixL R ((tcOf T).f.getD i ⟨#[]⟩) ((tcOf T).c.getD i ⟨#[]⟩))).2.1
    have hb1 := hR.bd (ixL R ((tcOf T).f.getD i ⟨#[]⟩) ((tcOf T).c.getD i ⟨#[]⟩))
    have hm1 : IntKind.i64.wrap ((pcOf R).a.getD (ixL R ((tcOf T).f.getD i ⟨#[]⟩) ((tcOf T).c.getD i ⟨#[]⟩)) 0 + (tcOf T).a.getD i 0) = mvN R ((tcOf T).f.getD i ⟨#[]⟩) ((tcOf T).c.getD i ⟨#[]⟩) ((tcOf T).a.getD i 0) := by
      unfold mvN; rw [ha1]; exact w64_in (by omega) (by omega)
    have c4 := net_within (mvN R ((tcOf T).f.getD i ⟨#[]⟩) ((tcOf T).c.getD i ⟨#[]⟩) ((tcOf T).a.getD i 0))
    rw [← hm1] at c4
    by_cases h1 : inT (mvN R ((tcOf T).f.getD i ⟨#[]⟩) ((tcOf T).c.getD i ⟨#[]⟩) ((tcOf T).a.getD i 0))
    · rw [hm1, decide_eq_true h1, ← hm1] at c4
      rw [if_neg (fun q => q h1)] at hE
      have hl1 := ixL_le ((tcOf T).f.getD i ⟨#[]⟩) ((tcOf T).c.getD i ⟨#[]⟩) R
      rw [hr] at hl1
      have hR1 := mvR_ok hR ((tcOf T).f.getD i ⟨#[]⟩) ((tcOf T).c.getD i ⟨#[]⟩) h1
      have hmv : mvR R ((tcOf T).f.getD i ⟨#[]⟩) ((tcOf T).c.getD i ⟨#[]⟩) ((tcOf T).a.getD i 0) = putL (ixL R ((tcOf T).f.getD i ⟨#[]⟩) ((tcOf T).c.getD i ⟨#[]⟩)) ⟨((tcOf T).f.getD i ⟨#[]⟩), IntKind.i64.wrap ((pcOf R).a.getD (ixL R ((tcOf T).f.getD i ⟨#[]⟩) ((tcOf T).c.getD i ⟨#[]⟩)) 0 + (tcOf T).a.getD i 0), ((tcOf T).c.getD i ⟨#[]⟩)⟩ R := by unfold mvR; rw [hm1]
      rw [hmv] at hE hR1
      have k1 := updA hr hl1 ((tcOf T).f.getD i ⟨#[]⟩) ((tcOf T).c.getD i ⟨#[]⟩) (IntKind.i64.wrap ((pcOf R).a.getD (ixL R ((tcOf T).f.getD i ⟨#[]⟩) ((tcOf T).c.getD i ⟨#[]⟩)) 0 + (tcOf T).a.getD i 0))
      have k2 := updC R (ixL R ((tcOf T).f.getD i ⟨#[]⟩) ((tcOf T).c.getD i ⟨#[]⟩)) ((tcOf T).f.getD i ⟨#[]⟩) ((tcOf T).c.getD i ⟨#[]⟩) (IntKind.i64.wrap ((pcOf R).a.getD (ixL R ((tcOf T).f.getD i ⟨#[]⟩) ((tcOf T).c.getD i ⟨#[]⟩)) 0 + (tcOf T).a.getD i 0))
      have k3 := updP R (ixL R ((tcOf T).f.getD i ⟨#[]⟩) ((tcOf T).c.getD i ⟨#[]⟩)) ((tcOf T).f.getD i ⟨#[]⟩) ((tcOf T).c.getD i ⟨#[]⟩) (IntKind.i64.wrap ((pcOf R).a.getD (ixL R ((tcOf T).f.getD i ⟨#[]⟩) ((tcOf T).c.getD i ⟨#[]⟩)) 0 + (tcOf T).a.getD i 0))
      have k4 := updN hr (ixL R ((tcOf T).f.getD i ⟨#[]⟩) ((tcOf T).c.getD i ⟨#[]⟩)) ((tcOf T).f.getD i ⟨#[]⟩) ((tcOf T).c.getD i ⟨#[]⟩) (IntKind.i64.wrap ((pcOf R).a.getD (ixL R ((tcOf T).f.getD i ⟨#[]⟩) ((tcOf T).c.getD i ⟨#[]⟩)) 0 + (tcOf T).a.getD i 0))
      have k5 := updB hr (ix := ixL R ((tcOf T).f.getD i ⟨#[]⟩) ((tcOf T).c.getD i ⟨#[]⟩)) ((tcOf T).f.getD i ⟨#[]⟩) ((tcOf T).c.getD i ⟨#[]⟩) (IntKind.i64.wrap ((pcOf R).a.getD (ixL R ((tcOf T).f.getD i ⟨#[]⟩) ((tcOf T).c.getD i ⟨#[]⟩)) 0 + (tcOf T).a.getD i 0))
      generalize hA : putL (ixL R ((tcOf T).f.getD i ⟨#[]⟩) ((tcOf T).c.getD i ⟨#[]⟩)) ⟨((tcOf T).f.getD i ⟨#[]⟩), IntKind.i64.wrap ((pcOf R).a.getD (ixL R ((tcOf T).f.getD i ⟨#[]⟩) ((tcOf T).c.getD i ⟨#[]⟩)) 0 + (tcOf T).a.getD i 0), ((tcOf T).c.getD i ⟨#[]⟩)⟩ R = A at *
      rw [show ixL R ((tcOf T).f.getD i ⟨#[]⟩) ((tcOf T).c.getD i ⟨#[]⟩) = sidx2 (pcOf R).c (pcOf R).p ((tcOf T).c.getD i ⟨#[]⟩) ((tcOf T).f.getD i ⟨#[]⟩) from rfl] at k1 k2 k3 k4 k5
      rw [k5] at k1
      have hl2 := ixL_le ((tcOf T).t.getD i ⟨#[]⟩) ((tcOf T).c.getD i ⟨#[]⟩) A
      have ha2 := (atP A (ixL A ((tcOf T).t.getD i ⟨#[]⟩) ((tcOf T).c.getD i ⟨#[]⟩))).2.1
      have hb2 := hR1.bd (ixL A ((tcOf T).t.getD i ⟨#[]⟩) ((tcOf T).c.getD i ⟨#[]⟩))
      have hm2 : IntKind.i64.wrap ((pcOf A).a.getD (ixL A ((tcOf T).t.getD i ⟨#[]⟩) ((tcOf T).c.getD i ⟨#[]⟩)) 0 - (tcOf T).a.getD i 0) = mvN A ((tcOf T).t.getD i ⟨#[]⟩) ((tcOf T).c.getD i ⟨#[]⟩) (- (tcOf T).a.getD i 0) := by
        unfold mvN; rw [ha2]; exact w64_in (by omega) (by omega)
      have c5 := net_within (mvN A ((tcOf T).t.getD i ⟨#[]⟩) ((tcOf T).c.getD i ⟨#[]⟩) (- (tcOf T).a.getD i 0))
      rw [← hm2] at c5
      by_cases h2 : inT (mvN A ((tcOf T).t.getD i ⟨#[]⟩) ((tcOf T).c.getD i ⟨#[]⟩) (- (tcOf T).a.getD i 0))
      · rw [hm2, decide_eq_true h2, ← hm2] at c5
        rw [if_neg (fun q => q h2)] at hE
        have hmv2 : mvR A ((tcOf T).t.getD i ⟨#[]⟩) ((tcOf T).c.getD i ⟨#[]⟩) (- (tcOf T).a.getD i 0) = putL (ixL A ((tcOf T).t.getD i ⟨#[]⟩) ((tcOf T).c.getD i ⟨#[]⟩)) ⟨((tcOf T).t.getD i ⟨#[]⟩), IntKind.i64.wrap ((pcOf A).a.getD (ixL A ((tcOf T).t.getD i ⟨#[]⟩) ((tcOf T).c.getD i ⟨#[]⟩)) 0 - (tcOf T).a.getD i 0), ((tcOf T).c.getD i ⟨#[]⟩)⟩ A := by unfold mvR; rw [hm2]
        have hrow := rmUpd (A := A) rfl hl2 ((tcOf T).t.getD i ⟨#[]⟩) ((tcOf T).c.getD i ⟨#[]⟩) (IntKind.i64.wrap ((pcOf A).a.getD (ixL A ((tcOf T).t.getD i ⟨#[]⟩) ((tcOf T).c.getD i ⟨#[]⟩)) 0 - (tcOf T).a.getD i 0))
        have hnx : apK L T (i + 1) = (0, putL (ixL A ((tcOf T).t.getD i ⟨#[]⟩) ((tcOf T).c.getD i ⟨#[]⟩)) ⟨((tcOf T).t.getD i ⟨#[]⟩), IntKind.i64.wrap ((pcOf A).a.getD (ixL A ((tcOf T).t.getD i ⟨#[]⟩) ((tcOf T).c.getD i ⟨#[]⟩)) 0 - (tcOf T).a.getD i 0), ((tcOf T).c.getD i ⟨#[]⟩)⟩ A) := by rw [hst, hE]; unfold apN; dsimp only; rw [hmv, hmv2]
        generalize hB : putL (ixL A ((tcOf T).t.getD i ⟨#[]⟩) ((tcOf T).c.getD i ⟨#[]⟩)) ⟨((tcOf T).t.getD i ⟨#[]⟩), IntKind.i64.wrap ((pcOf A).a.getD (ixL A ((tcOf T).t.getD i ⟨#[]⟩) ((tcOf T).c.getD i ⟨#[]⟩)) 0 - (tcOf T).a.getD i 0), ((tcOf T).c.getD i ⟨#[]⟩)⟩ A = B at *
        repeat' ((conv => whnf); first | (refine vcall_pure (d1) rfl rfl rfl ?_) | (refine vcallD_pure (d1) rfl rfl rfl ?_) | (refine vcall_pure (d2) rfl rfl rfl ?_) | (refine vcallD_pure (d2) rfl rfl rfl ?_) | (refine vcall_pure (d3) rfl rfl rfl ?_) | (refine vcallD_pure (d3) rfl rfl rfl ?_) | (refine vcall_pure (c4) rfl rfl rfl ?_) | (refine vcallD_pure (c4) rfl rfl rfl ?_) | (refine ⟨stampOk hl1, ?_⟩) | (simp only [toNat0, k1, k2, k3, k4, k5]) | (refine vcall_pure (c5) rfl rfl rfl ?_) | (refine vcallD_pure (c5) rfl rfl rfl ?_) | (refine ⟨stampOk hl2, ?_⟩) | (refine br_dec (fun h => ?_) (fun h => ?_) <;> try (exfalso; (try dsimp only at h); omega)) | (refine br_ndec (fun h => ?_) (fun h => ?_) <;> try (exfalso; (try dsimp only at h); omega)) | refine br_seq (fun h => ?_) (fun h => ?_) | refine br_nseq (fun h => ?_) (fun h => ?_) | refine br_not (fun h => ?_) (fun h => ?_) | refine br_intro (fun h => ?_) (fun h => ?_) | refine cond_intro rfl ?_ | (refine cond_intro ⟨rfl, ?_⟩ ?_; (first | omega | (dsimp only; omega) | decide)) | (refine cond_intro ?_ ?_; (first | omega | (dsimp only; omega) | decide | (simp only [Nat.add_zero, Int.toNat_natCast, *]; omega))))
        all_goals (conv => whnf)
        all_goals first
          | exact ⟨(i + 1, B.length, B), [0, 1, 2, 3], [], ⟨hi2, hnx, rfl⟩, (show m - (i + 1) < m - i by omega), ⟨rfl, ⟨rfl, rfl, rfl, congrArg (fun z => some (SV.int .i64 z)) (i64_succ (by omega)), trivial⟩, ⟨rfl, rfl, hrow, trivial⟩⟩⟩
          | (exfalso; omega)
          | trace_state
      · rw [hm2, decide_eq_false h2, ← hm2] at c5
        rw [if_pos h2] at hE
        rw [hout (by omega), hE, if_pos (by decide)]
        repeat' ((conv => whnf); first | (refine vcall_pure (d1) rfl rfl rfl ?_) | (refine vcallD_pure (d1) rfl rfl rfl ?_) | (refine vcall_pure (d2) rfl rfl rfl ?_) | (refine vcallD_pure (d2) rfl rfl rfl ?_) | (refine vcall_pure (d3) rfl rfl rfl ?_) | (refine vcallD_pure (d3) rfl rfl rfl ?_) | (refine vcall_pure (c4) rfl rfl rfl ?_) | (refine vcallD_pure (c4) rfl rfl rfl ?_) | (refine ⟨stampOk hl1, ?_⟩) | (simp only [toNat0, k1, k2, k3, k4, k5]) | (refine vcall_pure (c5) rfl rfl rfl ?_) | (refine vcallD_pure (c5) rfl rfl rfl ?_) | (refine ⟨stampOk hl2, ?_⟩) | (refine br_dec (fun h => ?_) (fun h => ?_) <;> try (exfalso; (try dsimp only at h); omega)) | (refine br_ndec (fun h => ?_) (fun h => ?_) <;> try (exfalso; (try dsimp only at h); omega)) | refine br_seq (fun h => ?_) (fun h => ?_) | refine br_nseq (fun h => ?_) (fun h => ?_) | refine br_not (fun h => ?_) (fun h => ?_) | refine br_intro (fun h => ?_) (fun h => ?_) | refine cond_intro rfl ?_ | (refine cond_intro ⟨rfl, ?_⟩ ?_; (first | omega | (dsimp only; omega) | decide)) | (refine cond_intro ?_ ?_; (first | omega | (dsimp only; omega) | decide | (simp only [Nat.add_zero, Int.toNat_natCast, *]; omega))))
        all_goals (conv => whnf)
        all_goals first
          | exact ret_out (l := [0, 1, 2]) rfl rfl trivial allRw_nil
          | (exfalso; omega)
          | trace_state
    · rw [hm1, decide_eq_false h1, ← hm1] at c4
      rw [if_pos h1] at hE
      rw [hout (by omega), hE, if_pos (by decide)]
      repeat' ((conv => whnf); first | (refine vcall_pure (d1) rfl rfl rfl ?_) | (refine vcallD_pure (d1) rfl rfl rfl ?_) | (refine vcall_pure (d2) rfl rfl rfl ?_) | (refine vcallD_pure (d2) rfl rfl rfl ?_) | (refine vcall_pure (d3) rfl rfl rfl ?_) | (refine vcallD_pure (d3) rfl rfl rfl ?_) | (refine vcall_pure (c4) rfl rfl rfl ?_) | (refine vcallD_pure (c4) rfl rfl rfl ?_) | (refine br_dec (fun h => ?_) (fun h => ?_) <;> try (exfalso; (try dsimp only at h); omega)) | (refine br_ndec (fun h => ?_) (fun h => ?_) <;> try (exfalso; (try dsimp only at h); omega)) | refine br_seq (fun h => ?_) (fun h => ?_) | refine br_nseq (fun h => ?_) (fun h => ?_) | refine br_not (fun h => ?_) (fun h => ?_) | refine br_intro (fun h => ?_) (fun h => ?_) | refine cond_intro rfl ?_ | (refine cond_intro ⟨rfl, ?_⟩ ?_; (first | omega | (dsimp only; omega) | decide)) | (refine cond_intro ?_ ?_; (first | omega | (dsimp only; omega) | decide | (simp only [Nat.add_zero, Int.toNat_natCast, *]; omega))))
      all_goals (conv => whnf)
      all_goals first
        | exact ret_out (l := [0, 1, 2]) rfl rfl trivial allRw_nil
        | (exfalso; omega)
        | trace_state
  have e : i = m := by omega
  subst e
  clear hi2 hi
  have he0 : apErr L T = 0 := he.trans hK1
  have hres : apRes L T = srt (nz R) := by unfold apRes; rw [if_neg (by omega), hm, hK]
  rw [if_neg (by omega), hres]
  repeat' ((conv => whnf); first | (refine br_dec (fun h => ?_) (fun h => ?_) <;> try (exfalso; (try dsimp only at h); omega)) | (refine br_ndec (fun h => ?_) (fun h => ?_) <;> try (exfalso; (try dsimp only at h); omega)) | refine br_seq (fun h => ?_) (fun h => ?_) | refine br_nseq (fun h => ?_) (fun h => ?_) | refine br_not (fun h => ?_) (fun h => ?_) | refine br_intro (fun h => ?_) (fun h => ?_) | refine cond_intro rfl ?_ | (refine cond_intro ⟨rfl, ?_⟩ ?_; (first | omega | (dsimp only; omega) | decide)) | (refine cond_intro ?_ ?_; (first | omega | (dsimp only; omega) | decide | (simp only [Nat.add_zero, Int.toNat_natCast, *]; omega))))
  all_goals (conv => whnf)
  all_goals first
    | (exfalso; omega)
    | skip
  refine vloop_lp (fun x : List Nat × Nat × List Ps => ⟨[(7, .map 3 0), (112, .ptr 4 0 0 0), (15, .sl 5 0 0 x.2.1)], [(3, some (.one false (RM r R))), (4, some (.one false (.obj (.iter 3 0 (List.range r) r x.1)))), (5, some (.one false (.cols x.2.1 [.sc (.strs (pcOf x.2.2).c), .sc (.strs (pcOf x.2.2).p)])))], 6⟩) (fun x => x.1.Nodup ∧ (∀ i ∈ x.1, i < r) ∧ x.2.2 = vis R x.1 ∧ x.2.2.length = x.2.1) (fun x => r - x.1.length) ([], 0, []) [0, 1, 2, 3, 4, 5] [.slot 15 [.sc (.strs []), .sc (.strs [])]] ⟨rfl, ⟨rfl, rfl, rfl, trivial⟩, ⟨rfl, rfl, rfl, trivial⟩⟩ ⟨List.nodup_nil, by simp, rfl, rfl⟩ ?_
  rintro ⟨sn, j, V⟩ ⟨hd, hl3, hV, hj⟩
  dsimp only at hd hl3 hV hj
  dsimp only
  have hjr : j ≤ r := by
    rw [← hj, hV, (vis_perm R sn).length_eq]
    refine Nat.le_trans (nz_len _) ?_
    rw [List.length_map]
    exact nodup_len r sn hd hl3
  have hstep : ∀ x, vis R (x :: sn) = if (R.getD x ps0).a = 0 then V else V ++ [R.getD x ps0] := fun x => by rw [hV]; rfl
  have c6 := sort_pl j V (by omega) hj
  repeat' ((conv => whnf); first | (refine ⟨⟨rfl, rfl⟩, fun x hx hnx => ?_, fun hall => ?_⟩) | (refine br_dec (fun h => ?_) (fun h => ?_) <;> try (exfalso; (try dsimp only at h); omega)) | (refine br_ndec (fun h => ?_) (fun h => ?_) <;> try (exfalso; (try dsimp only at h); omega)) | refine br_seq (fun h => ?_) (fun h => ?_) | refine br_nseq (fun h => ?_) (fun h => ?_) | refine br_not (fun h => ?_) (fun h => ?_) | refine br_intro (fun h => ?_) (fun h => ?_) | refine cond_intro rfl ?_ | (refine cond_intro ⟨rfl, ?_⟩ ?_; (first | omega | (dsimp only; omega) | decide)) | (refine cond_intro ?_ ?_; (first | omega | (dsimp only; omega) | decide | (simp only [Nat.add_zero, Int.toNat_natCast, *]; omega))))
  all_goals (conv => whnf)
  · have ha0 := h
    have := nodup_cons_lt hd hl3 hx hnx
    obtain ⟨x1, x2, x3⟩ := atP R x
    have hv2 := hstep x
    rw [if_neg (by rw [← x2]; exact ha0)] at hv2
    have hrow := rowPl (Q := V) (k := j) (x := R.getD x ps0) x1.symm x3.symm
    refine ⟨(x :: sn, j + 1, V ++ [R.getD x ps0]), [0, 1, 2, 3, 4, 8], [], ⟨List.nodup_cons.2 ⟨hnx, hd⟩, fun y hy => ?_, hv2.symm, by simp [hj]⟩, by simp only [List.length_cons]; omega, ⟨rfl, ⟨rfl, rfl, rfl, trivial⟩, ⟨rfl, rfl, hrow, trivial⟩⟩⟩
    rcases List.mem_cons.1 hy with rfl | hy
    · exact hx
    · exact hl3 y hy
  · have ha0 := h
    have := nodup_cons_lt hd hl3 hx hnx
    have hv2 := hstep x
    have hz0 : (R.getD x ps0).a = 0 := by rw [← (atP R x).2.1]; exact ha0
    rw [if_pos hz0] at hv2
    refine ⟨(x :: sn, j, V), [0, 1, 2, 3, 4, 5], [], ⟨List.nodup_cons.2 ⟨hnx, hd⟩, fun y hy => ?_, hv2.symm, hj⟩, by simp only [List.length_cons]; omega, ⟨rfl, ⟨rfl, rfl, rfl, trivial⟩, ⟨rfl, rfl, rfl, trivial⟩⟩⟩
    rcases List.mem_cons.1 hy with rfl | hy
    · exact hx
    · exact hl3 y hy
  · have hvp : V.Perm (nz R) := by rw [hV]; exact vis_all hd (by rw [hr]; exact hl3) (by rw [hr]; exact hall)
    have hVd : Dist V := dist_perm hvp.symm (nz_dist hR.dist)
    have c6 := c6 hVd
    have hsv : srt V = srt (nz R) := srt_congr hvp hVd
    have hSl : (srt V).length = j := (srt_perm V).length_eq.trans hj
    rw [← hsv, hSl]
    have hmem : ∀ k, k < j → ∃ x, x < r ∧ R.getD x ps0 = (srt V).getD k ps0 := fun k hk => by
      have h1 : (srt V).getD k ps0 ∈ srt V := mem_getD.2 ⟨k, by omega, rfl⟩
      have h2 := (List.mem_filter.1 (hvp.subset ((srt_perm V).subset h1))).1
      obtain ⟨x, h3, h4⟩ := mem_getD.1 h2
      exact ⟨x, by omega, h4⟩
    generalize srt V = S at *
    repeat' ((conv => whnf); first | (refine vcall_out (l :=  [0, 5]) (c6 ) ⟨rfl, rfl, rfl, rfl, (by (repeat' (first | exact trivial | exact GB_wf | exact fun _ _ => rfl | constructor)); first | done | fail), (by (repeat' (first | exact trivial | exact GB_fits rfl | constructor)); first | done | fail)⟩ ?_) | (refine vcallD_out (l :=  [0, 5]) (c6 ) ⟨rfl, rfl, rfl, rfl, (by (repeat' (first | exact trivial | exact GB_wf | exact fun _ _ => rfl | constructor)); first | done | fail), (by (repeat' (first | exact trivial | exact GB_fits rfl | constructor)); first | done | fail)⟩ ?_) | (refine br_dec (fun h => ?_) (fun h => ?_) <;> try (exfalso; (try dsimp only at h); omega)) | (refine br_ndec (fun h => ?_) (fun h => ?_) <;> try (exfalso; (try dsimp only at h); omega)) | refine br_seq (fun h => ?_) (fun h => ?_) | refine br_nseq (fun h => ?_) (fun h => ?_) | refine br_not (fun h => ?_) (fun h => ?_) | refine br_intro (fun h => ?_) (fun h => ?_) | refine cond_intro rfl ?_ | (refine cond_intro ⟨rfl, ?_⟩ ?_; (first | omega | (dsimp only; omega) | decide)) | (refine cond_intro ?_ ?_; (first | omega | (dsimp only; omega) | decide | (simp only [Nat.add_zero, Int.toNat_natCast, *]; omega))))
    all_goals (conv => whnf)
    all_goals refine vloop_lp (fun k : Nat => ⟨[(7, .map 3 0), (126, .sl 5 0 0 j), (127, .int .i64 j), (128, .int .i64 k), (18, .sl 6 0 0 k)], [(3, some (.one false (RM r R))), (5, some (.one false (.cols j [.sc (.strs (pcOf S).c), .sc (.strs (pcOf S).p)]))), (6, some (.one false (psB k (pcOf (S.take k)))))], 7⟩) (fun k => k ≤ j) (fun k => j - k) 0 [0, 1, 2, 3, 4, 5, 6] [.slot 18 [.sc (.strs []), .sc (.ints .i64 []), .sc (.strs [])]] ⟨rfl, ⟨rfl, rfl, rfl, rfl, rfl, trivial⟩, ⟨rfl, rfl, rfl, trivial⟩⟩ (Nat.zero_le _) ?_
    all_goals intro k hk
    all_goals by_cases hk2 : k < j
    all_goals first
      | (have hk3 := hk2
         obtain ⟨x, hx, hxS⟩ := hmem k hk2
         have hix := ixL_row hR.dist (i := x) (by omega)
         rw [hxS] at hix
         obtain ⟨s1, s2, s3⟩ := atP S k
         have hval : (pcOf R).a.getD (sidx2 (pcOf R).c (pcOf R).p ((pcOf S).c.getD k ⟨#[]⟩) ((pcOf S).p.getD k ⟨#[]⟩)) 0 = (S.getD k ps0).a := by
           rw [s1, s3]
           rw [show sidx2 (pcOf R).c (pcOf R).p (S.getD k ps0).c (S.getD k ps0).p = x from hix, (atP R x).2.1, hxS]
         have hrow := rowApp (Q := S.take k) (k := k) (p := (pcOf S).p.getD k ⟨#[]⟩) (c := (pcOf S).c.getD k ⟨#[]⟩) (a := (pcOf R).a.getD (sidx2 (pcOf R).c (pcOf R).p ((pcOf S).c.getD k ⟨#[]⟩) ((pcOf S).p.getD k ⟨#[]⟩)) 0) (x := S.getD k ps0) (by rw [hval, s1, s3])
         rw [← take_getD (by omega)] at hrow
         clear hval s1 s2 s3)
      | (have e : k = j := by omega
         subst e
         rw [show S.take k = S by rw [← hSl, List.take_length]])
    all_goals repeat' ((conv => whnf); first | (refine br_dec (fun h => ?_) (fun h => ?_) <;> try (exfalso; (try dsimp only at h); omega)) | (refine br_ndec (fun h => ?_) (fun h => ?_) <;> try (exfalso; (try dsimp only at h); omega)) | refine br_seq (fun h => ?_) (fun h => ?_) | refine br_nseq (fun h => ?_) (fun h => ?_) | refine br_not (fun h => ?_) (fun h => ?_) | refine br_intro (fun h => ?_) (fun h => ?_) | refine cond_intro rfl ?_ | (refine cond_intro ⟨rfl, ?_⟩ ?_; (first | omega | (dsimp only; omega) | decide)) | (refine cond_intro ?_ ?_; (first | omega | (dsimp only; omega) | decide | (simp only [Nat.add_zero, Int.toNat_natCast, *]; omega))))
    all_goals (conv => whnf)
    all_goals first
      | (exfalso; omega)
      | exact ⟨k + 1, [0, 1, 2, 3, 4, 5, 9], [], hk2, (show j - (k + 1) < j - k by omega), ⟨rfl, ⟨rfl, rfl, rfl, congrArg (fun z => some (SV.int .i64 z)) (i64_succ (by omega)), rfl, trivial⟩, ⟨rfl, rfl, hrow, trivial⟩⟩⟩
      | exact ret_out (l := [0, 1, 2, 6]) rfl rfl ⟨rfl, trivial⟩ (allRw_cons allRw_nil)
      | trace_state
end Go.Proofs.Ytmibjgblhaohiaa

/- Contracts: transfers are applied; the transfers' handle stands first (so that the positions may be nil). Written out of XNetM by wip/gen_netm2.py. -/
namespace Go.Proofs.Ytmibjgblhaohiaa
open Go.RowKit Go.Sy
attribute [local irreducible] vcall vloop vcallD retP
set_option maxRecDepth 100000
set_option linter.unusedVariables false
set_option linter.unusedSimpArgs false

abbrev nb1 (n m : Nat) (L : List Ps) (T : List Tx) (k : Nat) : VS := ⟨[(1, .sl 1 0 0 m), (7, .map 3 0), (27, .sl 2 0 0 n), (28, .int .i64 n), (29, .int .i64 k)], [(2, some (.one true (psB n (pcOf L)))), (1, some (.one true (txB m (tcOf T)))), (3, some (.one false (RM k (L.take k))))], 4⟩
abbrev nb2 (n m : Nat) (L : List Ps) (T : List Tx) (x : Nat × Nat × List Ps) : VS := ⟨[(7, .map 3 0), (40, .sl 1 0 0 m), (41, .int .i64 m), (42, .int .i64 x.1)], [(2, some (.one true (psB n (pcOf L)))), (1, some (.one true (txB m (tcOf T)))), (3, some (.one false (RM x.2.1 x.2.2)))], 4⟩
theorem net_ApplyB (L : List Ps) (T : List Tx) (n m : Nat) (hn : L.length = n) (hm : T.length = m) (hl : n ≤ 400) (hl2 : m ≤ 200) : FC Try.prog 3 10 [.sl 2 0 0 n, .sl 1 0 0 m] [(2, some (.one true (psB n (pcOf L)))), (1, some (.one true (txB m (tcOf T))))] (apOut L T) := by
  have c1 := net_checkEach L n hn (by omega)
  unfold apOut
  by_cases hsg : sgP L ≠ 0
  · have he : apErr L T = sgP L := by unfold apErr; rw [if_pos hsg]
    rw [if_pos (by rw [he]; exact hsg), he]
    generalize sgP L = sg at *
    refine fc_of mixed T_ok Try.func10 rfl (by kernel_rfl) (by kernel_rfl) (by kernel_rfl) ?_
    repeat' ((conv => whnf); first | (refine vcall_out (l :=  [0, 2]) (c1 ) ⟨rfl, rfl, rfl, rfl, (by (repeat' (first | exact trivial | exact GB_wf | exact fun _ _ => rfl | constructor)); first | done | fail), (by (repeat' (first | exact trivial | exact GB_fits rfl | constructor)); first | done | fail)⟩ ?_) | (refine vcallD_out (l :=  [0, 2]) (c1 ) ⟨rfl, rfl, rfl, rfl, (by (repeat' (first | exact trivial | exact GB_wf | exact fun _ _ => rfl | constructor)); first | done | fail), (by (repeat' (first | exact trivial | exact GB_fits rfl | constructor)); first | done | fail)⟩ ?_) | (refine br_dec (fun h => ?_) (fun h => ?_) <;> try (exfalso; (try dsimp only at h); omega)) | (refine br_ndec (fun h => ?_) (fun h => ?_) <;> try (exfalso; (try dsimp only at h); omega)) | refine br_seq (fun h => ?_) (fun h => ?_) | refine br_nseq (fun h => ?_) (fun h => ?_) | refine br_not (fun h => ?_) (fun h => ?_) | refine br_intro (fun h => ?_) (fun h => ?_) | refine cond_intro rfl ?_ | (refine cond_intro ⟨rfl, ?_⟩ ?_; (first | omega | (dsimp only; omega) | decide)) | (refine cond_intro ?_ ?_; (first | omega | (dsimp only; omega) | decide | (simp only [Nat.add_zero, Int.toNat_natCast, *]; omega))))
    all_goals (conv => whnf)
    all_goals first
      | exact ret_out (l := [0, 1, 2]) rfl rfl trivial allRw_nil
      | (exfalso; omega)
      | trace_state
  have hz := Classical.not_not.1 hsg
  have hL := sgP_rw hz
  have he : apErr L T = (apK L T m).1 := by unfold apErr; rw [if_neg hsg, hm]
  rw [hz] at c1
  refine fc_of mixed T_ok Try.func10 rfl (by kernel_rfl) (by kernel_rfl) (by kernel_rfl) ?_
  repeat' ((conv => whnf); first | (refine vcall_out (l :=  [0, 2]) (c1 ) ⟨rfl, rfl, rfl, rfl, (by (repeat' (first | exact trivial | exact GB_wf | exact fun _ _ => rfl | constructor)); first | done | fail), (by (repeat' (first | exact trivial | exact GB_fits rfl | constructor)); first | done | fail)⟩ ?_) | (refine vcallD_out (l :=  [0, 2]) (c1 ) ⟨rfl, rfl, rfl, rfl, (by (repeat' (first | exact trivial | exact GB_wf | exact fun _ _ => rfl | constructor)); first | done | fail), (by (repeat' (first | exact trivial | exact GB_fits rfl | constructor)); first | done | fail)⟩ ?_) | (refine br_dec (fun h => ?_) (fun h => ?_) <;> try (exfalso; (try dsimp only at h); omega)) | (refine br_ndec (fun h => ?_) (fun h => ?_) <;> try (exfalso; (try dsimp only at h); omega)) | refine br_seq (fun h => ?_) (fun h => ?_) | refine br_nseq (fun h => ?_) (fun h => ?_) | refine br_not (fun h => ?_) (fun h => ?_) | refine br_intro (fun h => ?_) (fun h => ?_) | refine cond_intro rfl ?_ | (refine cond_intro ⟨rfl, ?_⟩ ?_; (first | omega | (dsimp only; omega) | decide)) | (refine cond_intro ?_ ?_; (first | omega | (dsimp only; omega) | decide | (simp only [Nat.add_zero, Int.toNat_natCast, *]; omega))))
  all_goals (conv => whnf)
  refine vloop_lp (nb1 n m L T) (fun k => k ≤ n) (fun k => n - k) 0 [0, 1, 2, 3] [] ⟨rfl, ⟨rfl, rfl, rfl, rfl, rfl, trivial⟩, ⟨rfl, rfl, rfl, trivial⟩⟩ (Nat.zero_le _) ?_
  intro k hk
  unfold nb1
  by_cases hk2 : k < n
  · have e1 := (erP_zero ((sgP_zero hz).2 k (by omega))).2.2
    have hle := ixL_le (L.getD k ps0).p (L.getD k ps0).c (L.take k)
    have hkl : (L.take k).length = k := by rw [List.length_take]; omega
    have htk := take_getD (L := L) (k := k) (by omega)
    rw [← colP_eq L k] at e1 hle htk
    dsimp only at e1 hle
    have hrow := rmNew hkl (show ixL (L.take k) ((pcOf L).p.getD k ⟨#[]⟩) ((pcOf L).c.getD k ⟨#[]⟩) = k by omega) (p := (pcOf L).p.getD k ⟨#[]⟩) (c := (pcOf L).c.getD k ⟨#[]⟩) (a := (pcOf L).a.getD k 0)
    rw [← htk] at hrow
    have c3 := net_placeOf ((pcOf L).p.getD k ⟨#[]⟩) ((pcOf L).a.getD k 0) ((pcOf L).c.getD k ⟨#[]⟩)
    repeat' ((conv => whnf); first | (refine vcall_pure (c3) rfl rfl rfl ?_) | (refine vcallD_pure (c3) rfl rfl rfl ?_) | (refine br_dec (fun h => ?_) (fun h => ?_) <;> try (exfalso; (try dsimp only at h); omega)) | (refine br_ndec (fun h => ?_) (fun h => ?_) <;> try (exfalso; (try dsimp only at h); omega)) | refine br_seq (fun h => ?_) (fun h => ?_) | refine br_nseq (fun h => ?_) (fun h => ?_) | refine br_not (fun h => ?_) (fun h => ?_) | refine br_intro (fun h => ?_) (fun h => ?_) | refine cond_intro rfl ?_ | (refine cond_intro ⟨rfl, ?_⟩ ?_; (first | omega | (dsimp only; omega) | decide)) | (refine cond_intro ?_ ?_; (first | omega | (dsimp only; omega) | decide | (simp only [Nat.add_zero, Int.toNat_natCast, *]; omega))))
    all_goals (conv => whnf)
    all_goals first
      | exact ⟨k + 1, [0, 1, 2, 3], [], hk2, (show n - (k + 1) < n - k by omega), ⟨rfl, ⟨rfl, rfl, rfl, rfl, congrArg (fun z => some (SV.int .i64 z)) (i64_succ (by omega)), trivial⟩, ⟨rfl, rfl, hrow, trivial⟩⟩⟩
      | (exfalso; omega)
      | trace_state
  have ek : k = n := by omega
  subst ek
  rw [show L.take k = L by rw [← hn, List.take_length]]
  repeat' ((conv => whnf); first | (refine br_dec (fun h => ?_) (fun h => ?_) <;> try (exfalso; (try dsimp only at h); omega)) | (refine br_ndec (fun h => ?_) (fun h => ?_) <;> try (exfalso; (try dsimp only at h); omega)) | refine br_seq (fun h => ?_) (fun h => ?_) | refine br_nseq (fun h => ?_) (fun h => ?_) | refine br_not (fun h => ?_) (fun h => ?_) | refine br_intro (fun h => ?_) (fun h => ?_) | refine cond_intro rfl ?_ | (refine cond_intro ⟨rfl, ?_⟩ ?_; (first | omega | (dsimp only; omega) | decide)) | (refine cond_intro ?_ ?_; (first | omega | (dsimp only; omega) | decide | (simp only [Nat.add_zero, Int.toNat_natCast, *]; omega))))
  all_goals (conv => whnf)
  all_goals first
    | (exfalso; omega)
    | skip
  refine vloop_lp (nb2 k m L T) (fun x => x.1 ≤ m ∧ apK L T x.1 = (0, x.2.2) ∧ x.2.2.length = x.2.1) (fun x => m - x.1) (0, k, L) [0, 1, 2, 3] [] ⟨rfl, ⟨rfl, rfl, rfl, rfl, trivial⟩, ⟨rfl, rfl, rfl, trivial⟩⟩ ⟨Nat.zero_le _, rfl, hn⟩ ?_
  clear hk2 hk
  rintro ⟨i, r, R⟩ ⟨hi, hK, hr⟩
  dsimp only at hi hK hr
  unfold nb2
  dsimp only
  have hK1 : (apK L T i).1 = 0 := by rw [hK]
  obtain ⟨hR, hRl⟩ := apK_ok hL hK1
  have hst := apK_step hK1
  have hsp := apK_stop hK1
  rw [hK] at hR hRl hst hsp
  dsimp only at hR hRl hst hsp
  by_cases hi2 : i < m
  · rw [← colT_eq T i] at hst hsp
    have d1 := net_isName ((tcOf T).f.getD i ⟨#[]⟩)
    have d2 := net_isName ((tcOf T).t.getD i ⟨#[]⟩)
    have d3 := money_Check ((tcOf T).a.getD i 0) ((tcOf T).c.getD i ⟨#[]⟩)
    have hE := apE_mk R ((tcOf T).f.getD i ⟨#[]⟩) ((tcOf T).t.getD i ⟨#[]⟩) ((tcOf T).a.getD i 0) ((tcOf T).c.getD i ⟨#[]⟩)
    generalize hxe : apE R ⟨(tcOf T).f.getD i ⟨#[]⟩, (tcOf T).t.getD i ⟨#[]⟩, (tcOf T).a.getD i 0, (tcOf T).c.getD i ⟨#[]⟩⟩ = e at *
    have hout : e ≠ 0 → apErr L T = e := fun h => by rw [he]; exact hsp h m hi2
    by_cases hnf : nmB ((tcOf T).f.getD i ⟨#[]⟩) = false ∨ nmB ((tcOf T).t.getD i ⟨#[]⟩) = false
    · rw [if_pos hnf] at hE
      rw [hout (by omega), hE, if_pos (by decide)]
      generalize nmB ((tcOf T).f.getD i ⟨#[]⟩) = nf at *
      generalize nmB ((tcOf T).t.getD i ⟨#[]⟩) = nt at *
      cases nf <;> cases nt
      all_goals try (exfalso; simp at hnf; done)
      all_goals repeat' ((conv => whnf); first | (refine vcall_pure (d1) rfl rfl rfl ?_) | (refine vcallD_pure (d1) rfl rfl rfl ?_) | (refine vcall_pure (d2) rfl rfl rfl ?_) | (refine vcallD_pure (d2) rfl rfl rfl ?_) | (refine vcall_pure (d3) rfl rfl rfl ?_) | (refine vcallD_pure (d3) rfl rfl rfl ?_) | (refine br_dec (fun h => ?_) (fun h => ?_) <;> try (exfalso; (try dsimp only at h); omega)) | (refine br_ndec (fun h => ?_) (fun h => ?_) <;> try (exfalso; (try dsimp only at h); omega)) | refine br_seq (fun h => ?_) (fun h => ?_) | refine br_nseq (fun h => ?_) (fun h => ?_) | refine br_not (fun h => ?_) (fun h => ?_) | refine br_intro (fun h => ?_) (fun h => ?_) | refine cond_intro rfl ?_ | (refine cond_intro ⟨rfl, ?_⟩ ?_; (first | omega | (dsimp only; omega) | decide)) | (refine cond_intro ?_ ?_; (first | omega | (dsimp only; omega) | decide | (simp only [Nat.add_zero, Int.toNat_natCast, *]; omega))))
      all_goals (conv => whnf)
      all_goals first
        | exact ret_out (l := [0, 1, 2]) rfl rfl trivial allRw_nil
        | (exfalso; omega)
        | trace_state
    rw [if_neg hnf] at hE
    simp only [not_or, Bool.not_eq_false] at hnf
    rw [hnf.1] at d1
    rw [hnf.2] at d2
    by_cases hmc : mchk ((tcOf T).a.getD i 0) ((tcOf T).c.getD i ⟨#[]⟩) ≠ 0
    · rw [if_pos hmc] at hE
      rw [hout (by omega), hE, if_pos hmc]
      generalize mchk ((tcOf T).a.getD i 0) ((tcOf T).c.getD i ⟨#[]⟩) = mc at *
      repeat' ((conv => whnf); first | (refine vcall_pure (d1) rfl rfl rfl ?_) | (refine vcallD_pure (d1) rfl rfl rfl ?_) | (refine vcall_pure (d2) rfl rfl rfl ?_) | (refine vcallD_pure (d2) rfl rfl rfl ?_) | (refine vcall_pure (d3) rfl rfl rfl ?_) | (refine vcallD_pure (d3) rfl rfl rfl ?_) | (refine br_dec (fun h => ?_) (fun h => ?_) <;> try (exfalso; (try dsimp only at h); omega)) | (refine br_ndec (fun h => ?_) (fun h => ?_) <;> try (exfalso; (try dsimp only at h); omega)) | refine br_seq (fun h => ?_) (fun h => ?_) | refine br_nseq (fun h => ?_) (fun h => ?_) | refine br_not (fun h => ?_) (fun h => ?_) | refine br_intro (fun h => ?_) (fun h => ?_) | refine cond_intro rfl ?_ | (refine cond_intro ⟨rfl, ?_⟩ ?_; (first | omega | (dsimp only; omega) | decide)) | (refine cond_intro ?_ ?_; (first | omega | (dsimp only; omega) | decide | (simp only [Nat.add_zero, Int.toNat_natCast, *]; omega))))
      all_goals (conv => whnf)
      all_goals first
        | exact ret_out (l := [0, 1, 2]) rfl rfl trivial allRw_nil
        | (exfalso; omega)
        | trace_state
    rw [if_neg hmc] at hE
    have hab := (mchk_bd (Classical.not_not.1 hmc)).2
    rw [Classical.not_not.1 hmc] at d3
    have ha1 := (atP R (ixL R ((tcOf T).f.getD i ⟨#[]⟩) ((tcOf T).c.getD i ⟨#[]⟩))).2.1
    have hb1 := hR.bd (ixL R ((tcOf T).f.getD i ⟨#[]⟩) ((tcOf T).c.getD i ⟨#[]⟩))
    have hm1 : IntKind.i64.wrap ((pcOf R).a.getD (ixL R ((tcOf T).f.getD i ⟨#[]⟩) ((tcOf T).c.getD i ⟨#[]⟩)) 0 + (tcOf T).a.getD i 0) = mvN R ((tcOf T).f.getD i ⟨#[]⟩) ((tcOf T).c.getD i ⟨#[]⟩) ((tcOf T).a.getD i 0) := by
      unfold mvN; rw [ha1]; exact w64_in (by omega) (by omega)
    have c4 := net_within (mvN R ((tcOf T).f.getD i ⟨#[]⟩) ((tcOf T).c.getD i ⟨#[]⟩) ((tcOf T).a.getD i 0))
    rw [← hm1] at c4
    by_cases h1 : inT (mvN R ((tcOf T).f.getD i ⟨#[]⟩) ((tcOf T).c.getD i ⟨#[]⟩) ((tcOf T).a.getD i 0))
    · rw [hm1, decide_eq_true h1, ← hm1] at c4
      rw [if_neg (fun q => q h1)] at hE
      have hl1 := ixL_le ((tcOf T).f.getD i ⟨#[]⟩) ((tcOf T).c.getD i ⟨#[]⟩) R
      rw [hr] at hl1
      have hR1 := mvR_ok hR ((tcOf T).f.getD i ⟨#[]⟩) ((tcOf T).c.getD i ⟨#[]⟩) h1
      have hmv : mvR R ((tcOf T).f.getD i ⟨#[]⟩) ((tcOf T).c.getD i ⟨#[]⟩) ((tcOf T).a.getD i 0) = putL (ixL R ((tcOf T).f.getD i ⟨#[]⟩) ((tcOf T).c.getD i ⟨#[]⟩)) ⟨((tcOf T).f.getD i ⟨#[]⟩), IntKind.i64.wrap ((pcOf R).a.getD (ixL R ((tcOf T).f.getD i ⟨#[]⟩) ((tcOf T).c.getD i ⟨#[]⟩)) 0 + (tcOf T).a.getD i 0), ((tcOf T).c.getD i ⟨#[]⟩)⟩ R := by unfold mvR; rw [hm1]
      rw [hmv] at hE hR1
      have k1 := updA hr hl1 ((tcOf T).f.getD i ⟨#[]⟩) ((tcOf T).c.getD i ⟨#[]⟩) (IntKind.i64.wrap ((pcOf R).a.getD (ixL R ((tcOf T).f.getD i ⟨#[]⟩) ((tcOf T).c.getD i ⟨#[]⟩)) 0 + (tcOf T).a.getD i 0))
      have k2 := updC R (ixL R ((tcOf T).f.getD i ⟨#[]⟩) ((tcOf T).c.getD i ⟨#[]⟩)) ((tcOf T).f.getD i ⟨#[]⟩) ((tcOf T).c.getD i ⟨#[]⟩) (IntKind.i64.wrap ((pcOf R).a.getD (ixL R ((tcOf T).f.getD i ⟨#[]⟩) ((tcOf T).c.getD i ⟨#[]⟩)) 0 + (tcOf T).a.getD i 0))
      have k3 := updP R (ixL R ((tcOf T).f.getD i ⟨#[]⟩) ((tcOf T).c.getD i ⟨#[]⟩)) ((tcOf T).f.getD i ⟨#[]⟩) ((tcOf T).c.getD i ⟨#[]⟩) (IntKind.i64.wrap ((pcOf R).a.getD (ixL R ((tcOf T).f.getD i ⟨#[]⟩) ((tcOf T).c.getD i ⟨#[]⟩)) 0 + (tcOf T).a.getD i 0))
      have k4 := updN hr (ixL R ((tcOf T).f.getD i ⟨#[]⟩) ((tcOf T).c.getD i ⟨#[]⟩)) ((tcOf T).f.getD i ⟨#[]⟩) ((tcOf T).c.getD i ⟨#[]⟩) (IntKind.i64.wrap ((pcOf R).a.getD (ixL R ((tcOf T).f.getD i ⟨#[]⟩) ((tcOf T).c.getD i ⟨#[]⟩)) 0 + (tcOf T).a.getD i 0))
      have k5 := updB hr (ix := ixL R ((tcOf T).f.getD i ⟨#[]⟩) ((tcOf T).c.getD i ⟨#[]⟩)) ((tcOf T).f.getD i ⟨#[]⟩) ((tcOf T).c.getD i ⟨#[]⟩) (IntKind.i64.wrap ((pcOf R).a.getD (ixL R ((tcOf T).f.getD i ⟨#[]⟩) ((tcOf T).c.getD i ⟨#[]⟩)) 0 + (tcOf T).a.getD i 0))
      generalize hA : putL (ixL R ((tcOf T).f.getD i ⟨#[]⟩) ((tcOf T).c.getD i ⟨#[]⟩)) ⟨((tcOf T).f.getD i ⟨#[]⟩), IntKind.i64.wrap ((pcOf R).a.getD (ixL R ((tcOf T).f.getD i ⟨#[]⟩) ((tcOf T).c.getD i ⟨#[]⟩)) 0 + (tcOf T).a.getD i 0), ((tcOf T).c.getD i ⟨#[]⟩)⟩ R = A at *
      rw [show ixL R ((tcOf T).f.getD i ⟨#[]⟩) ((tcOf T).c.getD i ⟨#[]⟩) = sidx2 (pcOf R).c (pcOf R).p ((tcOf T).c.getD i ⟨#[]⟩) ((tcOf T).f.getD i ⟨#[]⟩) from rfl] at k1 k2 k3 k4 k5
      rw [k5] at k1
      have hl2 := ixL_le ((tcOf T).t.getD i ⟨#[]⟩) ((tcOf T).c.getD i ⟨#[]⟩) A
      have ha2 := (atP A (ixL A ((tcOf T).t.getD i ⟨#[]⟩) ((tcOf T).c.getD i ⟨#[]⟩))).2.1
      have hb2 := hR1.bd (ixL A ((tcOf T).t.getD i ⟨#[]⟩) ((tcOf T).c.getD i ⟨#[]⟩))
      have hm2 : IntKind.i64.wrap ((pcOf A).a.getD (ixL A ((tcOf T).t.getD i ⟨#[]⟩) ((tcOf T).c.getD i ⟨#[]⟩)) 0 - (tcOf T).a.getD i 0) = mvN A ((tcOf T).t.getD i ⟨#[]⟩) ((tcOf T).c.getD i ⟨#[]⟩) (- (tcOf T).a.getD i 0) := by
        unfold mvN; rw [ha2]; exact w64_in (by omega) (by omega)
      have c5 := net_within (mvN A ((tcOf T).t.getD i ⟨#[]⟩) ((tcOf T).c.getD i ⟨#[]⟩) (- (tcOf T).a.getD i 0))
      rw [← hm2] at c5
      by_cases h2 : inT (mvN A ((tcOf T).t.getD i ⟨#[]⟩) ((tcOf T).c.getD i ⟨#[]⟩) (- (tcOf T).a.getD i 0))
      · rw [hm2, decide_eq_true h2, ← hm2] at c5
        rw [if_neg (fun q => q h2)] at hE
        have hmv2 : mvR A ((tcOf T).t.getD i ⟨#[]⟩) ((tcOf T).c.getD i ⟨#[]⟩) (- (tcOf T).a.getD i 0) = putL (ixL A ((tcOf T).t.getD i ⟨#[]⟩) ((tcOf T).c.getD i ⟨#[]⟩)) ⟨((tcOf T).t.getD i ⟨#[]⟩), IntKind.i64.wrap ((pcOf A).a.getD (ixL A ((tcOf T).t.getD i ⟨#[]⟩) ((tcOf T).c.getD i ⟨#[]⟩)) 0 - (tcOf T).a.getD i 0), ((tcOf T).c.getD i ⟨#[]⟩)⟩ A := by unfold mvR; rw [hm2]
        have hrow := rmUpd (A := A) rfl hl2 ((tcOf T).t.getD i ⟨#[]⟩) ((tcOf T).c.getD i ⟨#[]⟩) (IntKind.i64.wrap ((pcOf A).a.getD (ixL A ((tcOf T).t.getD i ⟨#[]⟩) ((tcOf T).c.getD i ⟨#[]⟩)) 0 - (tcOf T).a.getD i 0))
        have hnx : apK L T (i + 1) = (0, putL (ixL A ((tcOf T).t.getD i ⟨#[]⟩) ((tcOf T).c.getD i ⟨#[]⟩)) ⟨((tcOf T).t.getD i ⟨#[]⟩), IntKind.i64.wrap ((pcOf A).a.getD (ixL A ((tcOf T).t.getD i ⟨#[]⟩) ((tcOf T).c.getD i ⟨#[]⟩)) 0 - (tcOf T).a.getD i 0), ((tcOf T).c.getD i ⟨#[]⟩)⟩ A) := by rw [hst, hE]; unfold apN; dsimp only; rw [hmv, hmv2]
        generalize hB : putL (ixL A ((tcOf T).t.getD i ⟨#[]⟩) ((tcOf T).c.getD i ⟨#[]⟩)) ⟨((tcOf T).t.getD i ⟨#[]⟩), IntKind.i64.wrap ((pcOf A).a.getD (ixL A ((tcOf T).t.getD i ⟨#[]⟩) ((tcOf T).c.getD i ⟨#[]⟩)) 0 - (tcOf T).a.getD i 0), ((tcOf T).c.getD i ⟨#[]⟩)⟩ A = B at *
        repeat' ((conv => whnf); first | (refine vcall_pure (d1) rfl rfl rfl ?_) | (refine vcallD_pure (d1) rfl rfl rfl ?_) | (refine vcall_pure (d2) rfl rfl rfl ?_) | (refine vcallD_pure (d2) rfl rfl rfl ?_) | (refine vcall_pure (d3) rfl rfl rfl ?_) | (refine vcallD_pure (d3) rfl rfl rfl ?_) | (refine vcall_pure (c4) rfl rfl rfl ?_) | (refine vcallD_pure (c4) rfl rfl rfl ?_) | (refine ⟨stampOk hl1, ?_⟩) | (simp only [toNat0, k1, k2, k3, k4, k5]) | (refine vcall_pure (c5) rfl rfl rfl ?_) | (refine vcallD_pure (c5) rfl rfl rfl ?_) | (refine ⟨stampOk hl2, ?_⟩) | (refine br_dec (fun h => ?_) (fun h => ?_) <;> try (exfalso; (try dsimp only at h); omega)) | (refine br_ndec (fun h => ?_) (fun h => ?_) <;> try (exfalso; (try dsimp only at h); omega)) | refine br_seq (fun h => ?_) (fun h => ?_) | refine br_nseq (fun h => ?_) (fun h => ?_) | refine br_not (fun h => ?_) (fun h => ?_) | refine br_intro (fun h => ?_) (fun h => ?_) | refine cond_intro rfl ?_ | (refine cond_intro ⟨rfl, ?_⟩ ?_; (first | omega | (dsimp only; omega) | decide)) | (refine cond_intro ?_ ?_; (first | omega | (dsimp only; omega) | decide | (simp only [Nat.add_zero, Int.toNat_natCast, *]; omega))))
        all_goals (conv => whnf)
        all_goals first
          | exact ⟨(i + 1, B.length, B), [0, 1, 2, 3], [], ⟨hi2, hnx, rfl⟩, (show m - (i + 1) < m - i by omega), ⟨rfl, ⟨rfl, rfl, rfl, congrArg (fun z => some (SV.int .i64 z)) (i64_succ (by omega)), trivial⟩, ⟨rfl, rfl, hrow, trivial⟩⟩⟩
          | (exfalso; omega)
          | trace_state
      · rw [hm2, decide_eq_false h2, ← hm2] at c5
        rw [if_pos h2] at hE
        rw [hout (by omega), hE, if_pos (by decide)]
        repeat' ((conv => whnf); first | (refine vcall_pure (d1) rfl rfl rfl ?_) | (refine vcallD_pure (d1) rfl rfl rfl ?_) | (refine vcall_pure (d2) rfl rfl rfl ?_) | (refine vcallD_pure (d2) rfl rfl rfl ?_) | (refine vcall_pure (d3) rfl rfl rfl ?_) | (refine vcallD_pure (d3) rfl rfl rfl ?_) | (refine vcall_pure (c4) rfl rfl rfl ?_) | (refine vcallD_pure (c4) rfl rfl rfl ?_) | (refine ⟨stampOk hl1, ?_⟩) | (simp only [toNat0, k1, k2, k3, k4, k5]) | (refine vcall_pure (c5) rfl rfl rfl ?_) | (refine vcallD_pure (c5) rfl rfl rfl ?_) | (refine ⟨stampOk hl2, ?_⟩) | (refine br_dec (fun h => ?_) (fun h => ?_) <;> try (exfalso; (try dsimp only at h); omega)) | (refine br_ndec (fun h => ?_) (fun h => ?_) <;> try (exfalso; (try dsimp only at h); omega)) | refine br_seq (fun h => ?_) (fun h => ?_) | refine br_nseq (fun h => ?_) (fun h => ?_) | refine br_not (fun h => ?_) (fun h => ?_) | refine br_intro (fun h => ?_) (fun h => ?_) | refine cond_intro rfl ?_ | (refine cond_intro ⟨rfl, ?_⟩ ?_; (first | omega | (dsimp only; omega) | decide)) | (refine cond_intro ?_ ?_; (first | omega | (dsimp only; omega) | decide | (simp only [Nat.add_zero, Int.toNat_natCast, *]; omega))))
        all_goals (conv => whnf)
        all_goals first
          | exact ret_out (l := [0, 1, 2]) rfl rfl trivial allRw_nil
          | (exfalso; omega)
          | trace_state
    · rw [hm1, decide_eq_false h1, ← hm1] at c4
      rw [if_pos h1] at hE
      rw [hout (by omega), hE, if_pos (by decide)]
      repeat' ((conv => whnf); first | (refine vcall_pure (d1) rfl rfl rfl ?_) | (refine vcallD_pure (d1) rfl rfl rfl ?_) | (refine vcall_pure (d2) rfl rfl rfl ?_) | (refine vcallD_pure (d2) rfl rfl rfl ?_) | (refine vcall_pure (d3) rfl rfl rfl ?_) | (refine vcallD_pure (d3) rfl rfl rfl ?_) | (refine vcall_pure (c4) rfl rfl rfl ?_) | (refine vcallD_pure (c4) rfl rfl rfl ?_) | (refine br_dec (fun h => ?_) (fun h => ?_) <;> try (exfalso; (try dsimp only at h); omega)) | (refine br_ndec (fun h => ?_) (fun h => ?_) <;> try (exfalso; (try dsimp only at h); omega)) | refine br_seq (fun h => ?_) (fun h => ?_) | refine br_nseq (fun h => ?_) (fun h => ?_) | refine br_not (fun h => ?_) (fun h => ?_) | refine br_intro (fun h => ?_) (fun h => ?_) | refine cond_intro rfl ?_ | (refine cond_intro ⟨rfl, ?_⟩ ?_; (first | omega | (dsimp only; omega) | decide)) | (refine cond_intro ?_ ?_; (first | omega | (dsimp only; omega) | decide | (simp only [Nat.add_zero, Int.toNat_natCast, *]; omega))))
      all_goals (conv => whnf)
      all_goals first
        | exact ret_out (l := [0, 1, 2]) rfl rfl trivial allRw_nil
        | (exfalso; omega)
        | trace_state
  have e : i = m := by omega
  subst e
  clear hi2 hi
  have he0 : apErr L T = 0 := he.trans hK1
  have hres : apRes L T = srt (nz R) := by unfold apRes; rw [if_neg (by omega), hm, hK]
  rw [if_neg (by omega), hres]
  repeat' ((conv => whnf); first | (refine br_dec (fun h => ?_) (fun h => ?_) <;> try (exfalso; (try dsimp only at h); omega)) | (refine br_ndec (fun h => ?_) (fun h => ?_) <;> try (exfalso; (try dsimp only at h); omega)) | refine br_seq (fun h => ?_) (fun h => ?_) | refine br_nseq (fun h => ?_) (fun h => ?_) | refine br_not (fun h => ?_) (fun h => ?_) | refine br_intro (fun h => ?_) (fun h => ?_) | refine cond_intro rfl ?_ | (refine cond_intro ⟨rfl, ?_⟩ ?_; (first | omega | (dsimp only; omega) | decide)) | (refine cond_intro ?_ ?_; (first | omega | (dsimp only; omega) | decide | (simp only [Nat.add_zero, Int.toNat_natCast, *]; omega))))
  all_goals (conv => whnf)
  all_goals first
    | (exfalso; omega)
    | skip
  refine vloop_lp (fun x : List Nat × Nat × List Ps => ⟨[(7, .map 3 0), (112, .ptr 4 0 0 0), (15, .sl 5 0 0 x.2.1)], [(3, some (.one false (RM r R))), (4, some (.one false (.obj (.iter 3 0 (List.range r) r x.1)))), (5, some (.one false (.cols x.2.1 [.sc (.strs (pcOf x.2.2).c), .sc (.strs (pcOf x.2.2).p)])))], 6⟩) (fun x => x.1.Nodup ∧ (∀ i ∈ x.1, i < r) ∧ x.2.2 = vis R x.1 ∧ x.2.2.length = x.2.1) (fun x => r - x.1.length) ([], 0, []) [0, 1, 2, 3, 4, 5] [.slot 15 [.sc (.strs []), .sc (.strs [])]] ⟨rfl, ⟨rfl, rfl, rfl, trivial⟩, ⟨rfl, rfl, rfl, trivial⟩⟩ ⟨List.nodup_nil, by simp, rfl, rfl⟩ ?_
  rintro ⟨sn, j, V⟩ ⟨hd, hl3, hV, hj⟩
  dsimp only at hd hl3 hV hj
  dsimp only
  have hjr : j ≤ r := by
    rw [← hj, hV, (vis_perm R sn).length_eq]
    refine Nat.le_trans (nz_len _) ?_
    rw [List.length_map]
    exact nodup_len r sn hd hl3
  have hstep : ∀ x, vis R (x :: sn) = if (R.getD x ps0).a = 0 then V else V ++ [R.getD x ps0] := fun x => by rw [hV]; rfl
  have c6 := sort_pl j V (by omega) hj
  repeat' ((conv => whnf); first | (refine ⟨⟨rfl, rfl⟩, fun x hx hnx => ?_, fun hall => ?_⟩) | (refine br_dec (fun h => ?_) (fun h => ?_) <;> try (exfalso; (try dsimp only at h); omega)) | (refine br_ndec (fun h => ?_) (fun h => ?_) <;> try (exfalso; (try dsimp only at h); omega)) | refine br_seq (fun h => ?_) (fun h => ?_) | refine br_nseq (fun h => ?_) (fun h => ?_) | refine br_not (fun h => ?_) (fun h => ?_) | refine br_intro (fun h => ?_) (fun h => ?_) | refine cond_intro rfl ?_ | (refine cond_intro ⟨rfl, ?_⟩ ?_; (first | omega | (dsimp only; omega) | decide)) | (refine cond_intro ?_ ?_; (first | omega | (dsimp only; omega) | decide | (simp only [Nat.add_zero, Int.toNat_natCast, *]; omega))))
  all_goals (conv => whnf)
  · have ha0 := h
    have := nodup_cons_lt hd hl3 hx hnx
    obtain ⟨x1, x2, x3⟩ := atP R x
    have hv2 := hstep x
    rw [if_neg (by rw [← x2]; exact ha0)] at hv2
    have hrow := rowPl (Q := V) (k := j) (x := R.getD x ps0) x1.symm x3.symm
    refine ⟨(x :: sn, j + 1, V ++ [R.getD x ps0]), [0, 1, 2, 3, 4, 8], [], ⟨List.nodup_cons.2 ⟨hnx, hd⟩, fun y hy => ?_, hv2.symm, by simp [hj]⟩, by simp only [List.length_cons]; omega, ⟨rfl, ⟨rfl, rfl, rfl, trivial⟩, ⟨rfl, rfl, hrow, trivial⟩⟩⟩
    rcases List.mem_cons.1 hy with rfl | hy
    · exact hx
    · exact hl3 y hy
  · have ha0 := h
    have := nodup_cons_lt hd hl3 hx hnx
    have hv2 := hstep x
    have hz0 : (R.getD x ps0).a = 0 := by rw [← (atP R x).2.1]; exact ha0
    rw [if_pos hz0] at hv2
    refine ⟨(x :: sn, j, V), [0, 1, 2, 3, 4, 5], [], ⟨List.nodup_cons.2 ⟨hnx, hd⟩, fun y hy => ?_, hv2.symm, hj⟩, by simp only [List.length_cons]; omega, ⟨rfl, ⟨rfl, rfl, rfl, trivial⟩, ⟨rfl, rfl, rfl, trivial⟩⟩⟩
    rcases List.mem_cons.1 hy with rfl | hy
    · exact hx
    · exact hl3 y hy
  · have hvp : V.Perm (nz R) := by rw [hV]; exact vis_all hd (by rw [hr]; exact hl3) (by rw [hr]; exact hall)
    have hVd : Dist V := dist_perm hvp.symm (nz_dist hR.dist)
    have c6 := c6 hVd
    have hsv : srt V = srt (nz R) := srt_congr hvp hVd
    have hSl : (srt V).length = j := (srt_perm V).length_eq.trans hj
    rw [← hsv, hSl]
    have hmem : ∀ k, k < j → ∃ x, x < r ∧ R.getD x ps0 = (srt V).getD k ps0 := fun k hk => by
      have h1 : (srt V).getD k ps0 ∈ srt V := mem_getD.2 ⟨k, by omega, rfl⟩
      have h2 := (List.mem_filter.1 (hvp.subset ((srt_perm V).subset h1))).1
      obtain ⟨x, h3, h4⟩ := mem_getD.1 h2
      exact ⟨x, by omega, h4⟩
    generalize srt V = S at *
    repeat' ((conv => whnf); first | (refine vcall_out (l :=  [0, 5]) (c6 ) ⟨rfl, rfl, rfl, rfl, (by (repeat' (first | exact trivial | exact GB_wf | exact fun _ _ => rfl | constructor)); first | done | fail), (by (repeat' (first | exact trivial | exact GB_fits rfl | constructor)); first | done | fail)⟩ ?_) | (refine vcallD_out (l :=  [0, 5]) (c6 ) ⟨rfl, rfl, rfl, rfl, (by (repeat' (first | exact trivial | exact GB_wf | exact fun _ _ => rfl | constructor)); first | done | fail), (by (repeat' (first | exact trivial | exact GB_fits rfl | constructor)); first | done | fail)⟩ ?_) | (refine br_dec (fun h => ?_) (fun h => ?_) <;> try (exfalso; (try dsimp only at h); omega)) | (refine br_ndec (fun h => ?_) (fun h => ?_) <;> try (exfalso; (try dsimp only at h); omega)) | refine br_seq (fun h => ?_) (fun h => ?_) | refine br_nseq (fun h => ?_) (fun h => ?_) | refine br_not (fun h => ?_) (fun h => ?_) | refine br_intro (fun h => ?_) (fun h => ?_) | refine cond_intro rfl ?_ | (refine cond_intro ⟨rfl, ?_⟩ ?_; (first | omega | (dsimp only; omega) | decide)) | (refine cond_intro ?_ ?_; (first | omega | (dsimp only; omega) | decide | (simp only [Nat.add_zero, Int.toNat_natCast, *]; omega))))
    all_goals (conv => whnf)
    all_goals refine vloop_lp (fun k : Nat => ⟨[(7, .map 3 0), (126, .sl 5 0 0 j), (127, .int .i64 j), (128, .int .i64 k), (18, .sl 6 0 0 k)], [(3, some (.one false (RM r R))), (5, some (.one false (.cols j [.sc (.strs (pcOf S).c), .sc (.strs (pcOf S).p)]))), (6, some (.one false (psB k (pcOf (S.take k)))))], 7⟩) (fun k => k ≤ j) (fun k => j - k) 0 [0, 1, 2, 3, 4, 5, 6] [.slot 18 [.sc (.strs []), .sc (.ints .i64 []), .sc (.strs [])]] ⟨rfl, ⟨rfl, rfl, rfl, rfl, rfl, trivial⟩, ⟨rfl, rfl, rfl, trivial⟩⟩ (Nat.zero_le _) ?_
    all_goals intro k hk
    all_goals by_cases hk2 : k < j
    all_goals first
      | (have hk3 := hk2
         obtain ⟨x, hx, hxS⟩ := hmem k hk2
         have hix := ixL_row hR.dist (i := x) (by omega)
         rw [hxS] at hix
         obtain ⟨s1, s2, s3⟩ := atP S k
         have hval : (pcOf R).a.getD (sidx2 (pcOf R).c (pcOf R).p ((pcOf S).c.getD k ⟨#[]⟩) ((pcOf S).p.getD k ⟨#[]⟩)) 0 = (S.getD k ps0).a := by
           rw [s1, s3]
           rw [show sidx2 (pcOf R).c (pcOf R).p (S.getD k ps0).c (S.getD k ps0).p = x from hix, (atP R x).2.1, hxS]
         have hrow := rowApp (Q := S.take k) (k := k) (p := (pcOf S).p.getD k ⟨#[]⟩) (c := (pcOf S).c.getD k ⟨#[]⟩) (a := (pcOf R).a.getD (sidx2 (pcOf R).c (pcOf R).p ((pcOf S).c.getD k ⟨#[]⟩) ((pcOf S).p.getD k ⟨#[]⟩)) 0) (x := S.getD k ps0) (by rw [hval, s1, s3])
         rw [← take_getD (by omega)] at hrow
         clear hval s1 s2 s3)
      | (have e : k = j := by omega
         subst e
         rw [show S.take k = S by rw [← hSl, List.take_length]])
    all_goals repeat' ((conv => whnf); first | (refine br_dec (fun h => ?_) (fun h => ?_) <;> try (exfalso; (try dsimp only at h); omega)) | (refine br_ndec (fun h => ?_) (fun h => ?_) <;> try (exfalso; (try dsimp only at h); omega)) | refine br_seq (fun h => ?_) (fun h => ?_) | refine br_nseq (fun h => ?_) (fun h => ?_) | refine br_not (fun h => ?_) (fun h => ?_) | refine br_intro (fun h => ?_) (fun h => ?_) | refine cond_intro rfl ?_ | (refine cond_intro ⟨rfl, ?_⟩ ?_; (first | omega | (dsimp only; omega) | decide)) | (refine cond_intro ?_ ?_; (first | omega | (dsimp only; omega) | decide | (simp only [Nat.add_zero, Int.toNat_natCast, *]; omega))))
    all_goals (conv => whnf)
    all_goals first
      | (exfalso; omega)
      | exact ⟨k + 1, [0, 1, 2, 3, 4, 5, 9], [], hk2, (show j - (k + 1) < j - k by omega), ⟨rfl, ⟨rfl, rfl, rfl, congrArg (fun z => some (SV.int .i64 z)) (i64_succ (by omega)), rfl, trivial⟩, ⟨rfl, rfl, hrow, trivial⟩⟩⟩
      | exact ret_out (l := [0, 1, 2, 6]) rfl rfl ⟨rfl, trivial⟩ (allRw_cons allRw_nil)
      | trace_state
end Go.Proofs.Ytmibjgblhaohiaa

