/- Plain facts on digits and strings. No program in sight. -/
import Derived.Test.YtkbajejkllkahaaDoorNum
namespace Go.Sy
open Go.RowKit

theorem ext_ba {x y : ByteArray} (h : x.data.toList = y.data.toList) : x = y := by
  cases x; cases y; simp at h; congr
theorem digs_pad {n k w : Nat} (h : n < 10 ^ k) (hk : k ≤ w) : digs w n = List.replicate (w - k) 48 ++ digs k n := by
  apply List.ext_getElem?
  intro i
  by_cases hi : i < w
  · rw [digs_get _ _ _ hi]
    by_cases h2 : i < w - k
    · rw [List.getElem?_append_left (by simpa using h2), List.getElem?_replicate, if_pos h2]
      have : n / 10 ^ (w - 1 - i) = 0 := Nat.div_eq_of_lt (Nat.lt_of_lt_of_le h (Nat.pow_le_pow_right (by omega) (by omega)))
      rw [this]; rfl
    · rw [List.getElem?_append_right (by simpa using Nat.le_of_not_lt h2), List.length_replicate, digs_get _ _ _ (by omega)]
      rw [show k - 1 - (i - (w - k)) = w - 1 - i from by omega]
  · rw [List.getElem?_eq_none (by rw [digs_length]; omega), List.getElem?_eq_none (by simp [digs_length]; omega)]
theorem digs_bd {w n : Nat} {x : Int} (h : x ∈ digs w n) : 48 ≤ x ∧ x ≤ 57 := by
  obtain ⟨i, hi, rfl⟩ := List.getElem_of_mem h
  rw [digs_length] at hi
  have := digs_get w n i hi
  rw [List.getElem?_eq_getElem (by rw [digs_length]; exact hi)] at this
  simp only [Option.some.injEq] at this
  rw [this]; omega
theorem bytesOf_size (l : List Int) : (bytesOf l).size = l.length := by simp [bytesOf, ByteArray.size]
theorem byteAt_bytesOf {l : List Int} (h : ∀ x ∈ l, 0 ≤ x ∧ x ≤ 255) (i : Nat) (hi : i < l.length) : byteAt (bytesOf l) (i : Int) = l.getD i 0 := by
  unfold byteAt bytesOf
  rw [Int.toNat_natCast]
  have hm := h _ (List.getElem_mem hi)
  rw [List.getD, List.getElem?_eq_getElem (by simpa using hi), List.getD, List.getElem?_eq_getElem hi]
  simp
  have : (UInt8.ofNat (l[i].toNat)).toNat = l[i].toNat := by
    rw [UInt8.toNat_ofNat']; omega
  omega
theorem append_bytesOf (a b : List Int) : bytesOf a ++ bytesOf b = bytesOf (a ++ b) := by
  apply ext_ba
  simp [bytesOf, ByteArray.data_append]
theorem extract_left {a b : ByteArray} {n : Nat} (h : a.size = n) : (a ++ b).extract 0 n = a := by
  apply ext_ba
  have : a.data.toList.length = n := by simpa using h
  simp only [ByteArray.data_extract, ByteArray.data_append, Array.toList_extract, Array.toList_append, List.extract_eq_take_drop, Nat.sub_zero, List.drop_zero]
  rw [List.take_append_of_le_length (by omega), List.take_of_length_le (by omega)]
theorem extract_right {a b : ByteArray} {n m : Nat} (h : a.size = n) (hm : m = n + b.size) : (a ++ b).extract n m = b := by
  apply ext_ba
  have h1 : a.data.toList.length = n := by simpa using h
  have h2 : b.data.toList.length = b.size := by simp
  simp only [ByteArray.data_extract, ByteArray.data_append, Array.toList_extract, Array.toList_append, List.extract_eq_take_drop]
  rw [List.drop_append_of_le_length (by omega), List.drop_eq_nil_of_le (by omega), List.nil_append, List.take_of_length_le (by omega)]

/-- A row of digits, and its value. -/
def dgAt (s : ByteArray) (i : Nat) : Prop := 48 ≤ byteAt s (i : Int) ∧ byteAt s (i : Int) ≤ 57
instance (s : ByteArray) (i : Nat) : Decidable (dgAt s i) := by unfold dgAt; infer_instance
def dgTo (s : ByteArray) : Nat → Bool
  | 0 => true
  | k + 1 => dgTo s k && decide (dgAt s k)
def numTo (s : ByteArray) : Nat → Int
  | 0 => 0
  | k + 1 => 10 * numTo s k + (byteAt s (k : Int) - 48)
theorem dgTo_false {s : ByteArray} {k n : Nat} (h : k < n) (hc : ¬ dgAt s k) : dgTo s n = false := by
  induction n with
  | zero => omega
  | succ n ih =>
    simp only [dgTo]
    by_cases e : k = n
    · subst e; simp [hc]
    · rw [ih (by omega)]; rfl
theorem numTo_bd {s : ByteArray} : ∀ k, dgTo s k = true → 0 ≤ numTo s k ∧ numTo s k < 10 ^ k
  | 0, _ => by simp [numTo]
  | k + 1, h => by
    simp only [dgTo, Bool.and_eq_true, decide_eq_true_eq] at h
    have ih := numTo_bd k h.1
    have hd := h.2
    unfold dgAt at hd
    simp only [numTo]
    have : (10 : Int) ^ (k + 1) = 10 * 10 ^ k := by rw [Int.pow_succ]; omega
    omega
theorem dg_digs {w n : Nat} {s : ByteArray} (hs : s = bytesOf (digs w n)) : ∀ k, k ≤ w → dgTo s k = true ∧ numTo s k = ((n / 10 ^ (w - k) % 10 ^ k : Nat) : Int)
  | 0, _ => by simp [dgTo, numTo, Nat.mod_one]
  | k + 1, h => by
    obtain ⟨i1, i2⟩ := dg_digs hs k (by omega)
    have hb : byteAt s (k : Int) = ((48 + n / 10 ^ (w - 1 - k) % 10 : Nat) : Int) := by
      rw [hs, byteAt_bytesOf (fun x hx => by have := digs_bd hx; omega) k (by rw [digs_length]; omega), List.getD, digs_get _ _ _ (by omega)]
      rfl
    constructor
    · simp only [dgTo, i1, Bool.true_and, decide_eq_true_eq]
      unfold dgAt
      omega
    · simp only [numTo, i2, hb]
      have e1 : w - k = (w - (k + 1)) + 1 := by omega
      have e2 : w - 1 - k = w - (k + 1) := by omega
      rw [e2, e1, Nat.pow_succ, ← Nat.div_div_eq_div_mul]
      generalize n / 10 ^ (w - (k + 1)) = q
      rw [Nat.pow_succ, Nat.mul_comm (10 ^ k) 10, Nat.mod_mul]
      omega

/-- Digits of one width are ordered as their numbers are. -/
theorem lex_append {x y : UInt8} : ∀ {a b : List UInt8}, a.length = b.length → Op.bytesLess (a ++ [x]) (b ++ [y]) = (Op.bytesLess a b || (decide (a = b) && decide (x < y)))
  | [], [], _ => by simp [Op.bytesLess]
  | [], _ :: _, h => by simp at h
  | _ :: _, [], h => by simp at h
  | p :: a, q :: b, h => by
    have ih := lex_append (x := x) (y := y) (a := a) (b := b) (by simpa using h)
    simp only [List.cons_append, Op.bytesLess, ih, List.cons.injEq]
    by_cases e : p = q
    · subst e; simp [UInt8.lt_irrefl]
    · have : (p == q) = false := by simpa using e
      simp [this, e]
theorem lex_irrefl : ∀ a : List UInt8, Op.bytesLess a a = false
  | [] => rfl
  | p :: a => by simp [Op.bytesLess, lex_irrefl a, UInt8.lt_irrefl]
def digU (w n : Nat) : List UInt8 := (digs w n).map (fun x => UInt8.ofNat x.toNat)
theorem digU_succ (w n : Nat) : digU (w + 1) n = digU w (n / 10) ++ [UInt8.ofNat (48 + n % 10)] := by simp only [digU, digs, List.map_append, List.map_cons, List.map_nil, Int.toNat_natCast]
theorem digU_length (w n : Nat) : (digU w n).length = w := by simp [digU, digs_length]
theorem digU_lt : ∀ (w n m : Nat), n < 10 ^ w → m < 10 ^ w → Op.bytesLess (digU w n) (digU w m) = decide (n < m)
  | 0, n, m, hn, hm => by
    simp at hn hm; subst hn; subst hm; rfl
  | w + 1, n, m, hn, hm => by
    rw [Nat.pow_succ] at hn hm
    have i1 := digU_lt w (n / 10) (m / 10) (by omega) (by omega)
    have i2 := digU_lt w (m / 10) (n / 10) (by omega) (by omega)
    rw [digU_succ, digU_succ, lex_append (by rw [digU_length, digU_length]), i1]
    have hx : (UInt8.ofNat (48 + n % 10) < UInt8.ofNat (48 + m % 10)) ↔ n % 10 < m % 10 := by
      rw [UInt8.lt_iff_toNat_lt, UInt8.toNat_ofNat', UInt8.toNat_ofNat']; omega
    by_cases e : n / 10 = m / 10
    · rw [e]
      simp only [decide_true, Bool.true_and, Nat.lt_irrefl, decide_false, Bool.false_or]
      rw [decide_eq_decide, hx]; omega
    · have ne : digU w (n / 10) ≠ digU w (m / 10) := by
        intro h
        rw [h, lex_irrefl] at i1 i2
        have := of_decide_eq_false i1.symm
        have := of_decide_eq_false i2.symm
        omega
      simp only [ne, decide_false, Bool.false_and, Bool.or_false]
      rw [decide_eq_decide]; omega
theorem toList_eq (s : ByteArray) : s.toList = s.data.toList := by
  simpa using ByteArray.toList_eq s
theorem strLt_digs {w n m : Nat} (hn : n < 10 ^ w) (hm : m < 10 ^ w) : strLt (bytesOf (digs w n)) (bytesOf (digs w m)) = decide (n < m) := by
  unfold strLt
  rw [toList_eq, toList_eq]
  exact digU_lt w n m hn hm
end Go.Sy
