/- Plain facts: bytes of strings, integers that fit, branches. No program in sight. -/
import Derived.Test.YtllgfdogieohaaaSxSound6
import Derived.IntWalk
namespace Go.Sx

abbrev w64 (n : Int) : Int := IntKind.i64.wrap n
theorem w64_in {n : Int} (h : -9223372036854775808 ≤ n) (h' : n ≤ 9223372036854775807) : IntKind.i64.wrap n = n := IntWalk.i64_in n ⟨h, h'⟩

theorem br_dec {p : Prop} [Decidable p] {a b : Prop} (h : p → a) (k : ¬ p → b) : br (decide p) a b := br_intro (fun e => h (of_decide_eq_true e)) (fun e => k (of_decide_eq_false e))
theorem br_ndec {p : Prop} [Decidable p] {a b : Prop} (h : ¬ p → a) (k : p → b) : br (!decide p) a b := br_intro (fun e => h (by simpa using e)) (fun e => k (by simpa using e))
theorem br_seq {x y : ByteArray} {a b : Prop} (h : x = y → a) (k : x ≠ y → b) : br (seq x y) a b := br_intro (fun e => h (of_decide_eq_true e)) (fun e => k (of_decide_eq_false e))
theorem br_nseq {x y : ByteArray} {a b : Prop} (h : x ≠ y → a) (k : x = y → b) : br (!seq x y) a b := br_intro (fun e => h (by simpa [seq] using e)) (fun e => k (by simpa [seq] using e))
theorem br_not {b : Bool} {p q : Prop} (h : b = false → p) (k : b = true → q) : br (!b) p q := br_intro (fun e => h (by simpa using e)) (fun e => k (by simpa using e))

theorem idx_intro {a b k : Prop} (h1 : a) (h2 : b) (h3 : k) : (a ∧ b) ∧ k := ⟨⟨h1, h2⟩, h3⟩

theorem nz_intro {y : Int} {k : Prop} (h : y ≠ 0) (hk : k) : y ≠ 0 ∧ k := ⟨h, hk⟩

theorem lt_intro {i n : Nat} {k : Prop} (h : i < n) (hk : k) : i < n ∧ k := ⟨h, hk⟩

theorem byteAt_lt (s : ByteArray) (k : Nat) (h : k < s.size) : byteAt s (k : Int) = (s[k].toNat : Int) := by
  unfold byteAt
  have h' : k < s.data.toList.length := by simpa using h
  have e1 : s.data.toList.getD k 0 = s.data.toList[k] := by rw [List.getD, List.getElem?_eq_getElem h']; rfl
  rw [Int.toNat_natCast, e1]
  rfl
theorem byteAt_bd (s : ByteArray) (i : Int) : 0 ≤ byteAt s i ∧ byteAt s i ≤ 255 := by
  unfold byteAt
  have := (s.data.toList.getD i.toNat 0).toNat_lt
  omega

/-- The first k bytes are as p says. -/
def allTo (p : Int → Bool) (s : ByteArray) (k : Nat) : Prop := ∀ i : Nat, i < k → p (byteAt s i) = true
def allB (p : Int → Bool) (s : ByteArray) : Bool := s.data.toList.all (fun c => p (c.toNat : Int))
theorem allTo_zero (p : Int → Bool) (s : ByteArray) : allTo p s 0 := fun _ h => absurd h (Nat.not_lt_zero _)
theorem allTo_succ {p : Int → Bool} {s : ByteArray} {k : Nat} (h : allTo p s k) (hc : p (byteAt s k) = true) : allTo p s (k + 1) := by
  intro i hi
  by_cases e : i = k
  · subst e; exact hc
  · exact h i (by omega)
theorem allB_true {p : Int → Bool} {s : ByteArray} (h : allTo p s s.size) : allB p s = true := by
  unfold allB
  rw [List.all_eq_true]
  intro x hx
  obtain ⟨i, hi, rfl⟩ := List.getElem_of_mem hx
  have h1 : i < s.size := by simpa using hi
  have := h i h1
  rw [byteAt_lt s i h1] at this
  exact this
theorem allB_false {p : Int → Bool} {s : ByteArray} {k : Nat} (hk : k < s.size) (h : p (byteAt s k) = false) : allB p s = false := by
  unfold allB
  rw [List.all_eq_false]
  have hk' : k < s.data.toList.length := by simpa using hk
  refine ⟨s.data.toList[k], List.getElem_mem hk', ?_⟩
  rw [byteAt_lt s k hk] at h
  have e : s.data.toList[k] = s[k] := rfl
  rw [e, h]; simp
end Go.Sx
