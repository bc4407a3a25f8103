/- Several texts in one: XNum, XMoneyC, XBitsP, XFmtC, XBitsC, XMoneyC3, XMoneyC4, XPosA, XPosB, XPosC, XPanC, XBinC, XSortP, XPosD, XPosE, XCalA, XPosF, XPosG, XPosH, XPosI, XPosJ, XPosK, XMoneyC2, XRateC, XFmtC2, XFmtC3, XRateC2, XRateC3, XRateC4, XRateL, XRateM, XRateF, XPosL, XPosM, XPosN, XPosO, XSidx, XPosQ, XPosR, XPosP, XPosS, XCyA, XCyB, XCyC, XCyD, XCyE. -/
import Derived.Test.YtkdjnmcaifejjaaYLib
import Derived.Test.YtkdjnmcaifejjaaTab
import Derived.Test.YtkdjnmcaifejjaaYPlain
import Derived.Test.YtkdjnmcaifejjaaYCalls
import Derived.Test.YtkdjnmcaifejjaaShelf
import Derived.Test.YtkdjnmcaifejjaaYSort
import Derived.Sort.Walk0
import Derived.Test.YtkdjnmcaifejjaaLay
import Derived.Test.YtkdjnmcaifejjaaYKeys
import Derived.Test.YtkdjnmcaifejjaaYNil
import Derived.Test.YtkdjnmcaifejjaaYIdx
import Derived.Test.YtkdjnmcaifejjaaYLaw
import Derived.Test.YtkdjnmcaifejjaaYLaid
import Derived.Test.YtkdjnmcaifejjaaYArg
import Derived.Test.YtkdjnmcaifejjaaYFam
import Derived.Test.YtkdjnmcaifejjaaYRen
/- Plain facts on numbers: decimal digits, lengths in bits, division. No program in sight. -/
namespace Go.Sy
open Go.RowKit

theorem u8_in' {n : Int} (h : 0 ≤ n) (h' : n ≤ 255) : IntKind.u8.wrap n = n := IntWalk.u8_in n ⟨h, h'⟩
end Go.Sy

/- Contracts of package money, and of the reference's: currencies. -/
namespace Go.Proofs.Ytkdjnmcaifejjaa
open Go.RowKit Go.Sy
attribute [local irreducible] vcall vloop vcallD retP
set_option maxRecDepth 100000
set_option linter.unusedVariables false

theorem i64_succ {k : Nat} (h : k < 9223372036854775806) : IntKind.i64.wrap ((k : Int) + 1) = ((k + 1 : Nat) : Int) := by rw [w64_in (by omega) (by omega)]; rfl

def capAt (s : ByteArray) (i : Nat) : Bool := decide (65 ≤ byteAt s (i : Int)) && decide (byteAt s (i : Int) ≤ 90)
def capsTo (s : ByteArray) : Nat → Bool
  | 0 => true
  | k + 1 => capsTo s k && capAt s k
/-- Three capital letters. -/
def curB (s : ByteArray) : Bool := decide (s.size = 3) && capsTo s s.size
theorem capsTo_false {s : ByteArray} {k n : Nat} (h : k < n) (hc : capAt s k = false) : capsTo s n = false := by
  induction n with
  | zero => omega
  | succ n ih =>
    simp only [capsTo]
    by_cases e : k = n
    · subst e; simp [hc]
    · rw [ih (by omega)]; rfl
theorem curB_false {s : ByteArray} {k : Nat} (h : k < s.size) (hc : byteAt s (k : Int) < 65 ∨ 90 < byteAt s (k : Int)) : curB s = false := by
  have : capAt s k = false := by unfold capAt; simp; omega
  unfold curB
  rw [capsTo_false h this]; simp
theorem curB_size {s : ByteArray} (h : s.size ≠ 3) : curB s = false := by unfold curB; simp [h]
theorem capsTo_step {s : ByteArray} {k : Nat} (h : capsTo s k = true) (h1 : ¬ byteAt s (k : Int) < 65) (h2 : ¬ 90 < byteAt s (k : Int)) : capsTo s (k + 1) = true := by
  simp only [capsTo, h, capAt]; simp; omega
attribute [irreducible] curB
theorem money_isCurrency (s : ByteArray) : Pure Try.prog 50 [.str s] (.bool (curB s)) := by
  refine fc_of mixed T_ok Try.func50 rfl (by kernel_rfl) (by kernel_rfl) (by kernel_rfl) ?_
  repeat' ((conv => whnf); first | ((first | apply br_dec | apply br_ndec) <;> intro h <;> try (exfalso; (try dsimp only at h); omega)) | ((first | apply br_seq | apply br_nseq | apply br_not | apply br_intro) <;> intro h) | refine cond_a ?_)
  all_goals (conv => whnf)
  · exact ret_pure (by rw [curB_size (by omega)]; rfl)
  · refine vloop_of (fun k : Nat => ⟨[(0, .str s), (8, .int .i64 s.size), (9, .int .i64 k)], [], 1⟩) (fun k => k ≤ s.size ∧ capsTo s k = true) (fun k => s.size - k) 0 [0] [] ⟨rfl, ⟨rfl, rfl, rfl, trivial⟩, trivial⟩ ⟨by omega, rfl⟩ ?_
    rintro k ⟨hk, hc⟩
    repeat' ((conv => whnf); first | ((first | apply br_dec | apply br_ndec) <;> intro h <;> try (exfalso; (try dsimp only at h); omega)) | ((first | apply br_seq | apply br_nseq | apply br_not | apply br_intro) <;> intro h) | refine cond_a ?_)
    all_goals (conv => whnf)
    · exact ret_pure (by rw [curB_false (k := k) (by omega) (by omega)]; rfl)
    · exact ret_pure (by rw [curB_false (k := k) (by omega) (by omega)]; rfl)
    · exact ⟨k + 1, [0], [], ⟨by omega, capsTo_step hc (by omega) (by omega)⟩, by omega, ⟨rfl, ⟨rfl, rfl, congrArg (fun z => some (SV.int .i64 z)) (i64_succ (by omega)), trivial⟩, trivial⟩⟩
    · have e : k = s.size := by omega
      subst e
      refine ret_pure ?_
      have : curB s = true := by unfold curB; rw [hc]; simp; omega
      rw [this]; rfl

end Go.Proofs.Ytkdjnmcaifejjaa

/- Plain facts: long multiplication and long division of words. No program in sight. -/
namespace Go.Sy
open Go.RowKit

/-- One digit of a long division. -/
structure KD (u32 u1 Y1 Y0 Q : Nat) : Prop where
  b1 : u1 < 4294967296
  b0 : Y0 < 4294967296
  n1 : 2147483648 ≤ Y1
  n2 : Y1 < 4294967296
  lt : u32 < Y1 * 4294967296 + Y0
  q : Q = (u32 * 4294967296 + u1) / (Y1 * 4294967296 + Y0)

section
variable {u32 u1 Y1 Y0 Q : Nat} (k : KD u32 u1 Y1 Y0 Q)
include k
theorem KD.le : Q ≤ u32 / Y1 := by
  have h1 : Q * (Y1 * 4294967296 + Y0) ≤ u32 * 4294967296 + u1 := by rw [k.q]; exact Nat.div_mul_le_self _ _
  rw [Nat.le_div_iff_mul_le (by have := k.n1; omega)]
  rw [Nat.mul_add, ← Nat.mul_assoc] at h1
  have := k.b1
  have h2 : 0 ≤ Q * Y0 := Nat.zero_le _
  omega
end

end Go.Sy

/- Contracts of the library: numbers in decimal. -/
namespace Go.Proofs.Ytkdjnmcaifejjaa
open Go.RowKit Go.Sy
attribute [local irreducible] vcall vloop vcallD retP
set_option maxRecDepth 100000
set_option linter.unusedVariables false
set_option linter.unusedSimpArgs false

end Go.Proofs.Ytkdjnmcaifejjaa

/- Contracts of the library: long multiplication and long division. -/
namespace Go.Proofs.Ytkdjnmcaifejjaa
open Go.RowKit Go.Sy
attribute [local irreducible] vcall vloop vcallD retP
set_option maxRecDepth 100000
set_option linter.unusedVariables false
set_option linter.unusedSimpArgs false

end Go.Proofs.Ytkdjnmcaifejjaa

/- Contracts of package money: checks, scaled amounts. -/
namespace Go.Proofs.Ytkdjnmcaifejjaa
open Go.RowKit Go.Sy
attribute [local irreducible] vcall vloop vcallD retP
set_option maxRecDepth 100000
set_option linter.unusedVariables false
set_option linter.unusedSimpArgs false

theorem money_inTotal (n : Int) : Pure Try.prog 51 [.int .i64 n] (.bool (decide (-4503599627370496 ≤ n ∧ n ≤ 4503599627370496))) := by
  refine fc_of mixed T_ok Try.func51 rfl (by kernel_rfl) (by kernel_rfl) (by kernel_rfl) ?_
  repeat' ((conv => whnf); first | ((first | apply br_dec | apply br_ndec) <;> intro h <;> try (exfalso; (try dsimp only at h); omega)) | ((first | apply br_seq | apply br_nseq | apply br_not | apply br_intro) <;> intro h) | refine cond_a ?_)
  all_goals (conv => whnf)
  · exact ret_pure (congrArg SV.bool (by rw [decide_eq_decide]; omega))
  · exact ret_pure (congrArg SV.bool (by rw [eq_comm, decide_eq_false_iff_not]; omega))
/-- The error of an amount. -/
def mchk (a : Int) (c : ByteArray) : Int := if curB c = false then 11 else if -4503599627370496 ≤ a ∧ a ≤ 4503599627370496 then 0 else 4
theorem mchk_or (a : Int) (c : ByteArray) : (mchk a c = 11 ∨ mchk a c = 4) ∨ (mchk a c = 0 ∧ curB c = true ∧ -4503599627370496 ≤ a ∧ a ≤ 4503599627370496) := by
  unfold mchk
  split
  · exact .inl (.inl rfl)
  · split
    · rename_i h1 h2
      exact .inr ⟨rfl, by cases h : curB c <;> simp_all, h2⟩
    · exact .inl (.inr rfl)
attribute [irreducible] mchk
theorem money_Check (a : Int) (c : ByteArray) : Pure Try.prog 41 [.agg [.int .i64 a, .str c]] (.int .i64 (mchk a c)) := by
  refine fc_of mixed T_ok Try.func41 rfl (by kernel_rfl) (by kernel_rfl) (by kernel_rfl) ?_
  repeat' ((conv => whnf); first | (refine vcall_pure (money_isCurrency _) rfl rfl rfl ?_) | (refine vcall_pure (money_inTotal _) rfl rfl rfl ?_) | ((first | apply br_dec | apply br_ndec) <;> intro h <;> try (exfalso; (try dsimp only at h); omega)) | ((first | apply br_seq | apply br_nseq | apply br_not | apply br_intro) <;> intro h) | refine cond_a ?_)
  all_goals (conv => whnf)
  all_goals refine ret_pure (congrArg (SV.int .i64) ?_)
  all_goals unfold mchk
  all_goals simp_all
end Go.Proofs.Ytkdjnmcaifejjaa

/- Contracts of package money: scaled amounts, and the reference's. -/
namespace Go.Proofs.Ytkdjnmcaifejjaa
open Go.RowKit Go.Sy
attribute [local irreducible] vcall vloop vcallD retP
set_option maxRecDepth 100000
set_option linter.unusedVariables false
set_option linter.unusedSimpArgs false

end Go.Proofs.Ytkdjnmcaifejjaa

/- Contracts: sums of 128 bits, and the sum of positions. -/
namespace Go.Proofs.Ytkdjnmcaifejjaa
open Go.RowKit Go.Sy
attribute [local irreducible] vcall vloop vcallD retP
set_option maxRecDepth 100000
set_option linter.unusedVariables false
set_option linter.unusedSimpArgs false

end Go.Proofs.Ytkdjnmcaifejjaa

/- Contracts: the sum of positions, by the program and by the reference. -/
namespace Go.Proofs.Ytkdjnmcaifejjaa
open Go.RowKit Go.Sy
attribute [local irreducible] vcall vloop vcallD retP
set_option maxRecDepth 100000
set_option linter.unusedVariables false
set_option linter.unusedSimpArgs false

end Go.Proofs.Ytkdjnmcaifejjaa

/- Contracts: the sum of positions, by the program and by the reference. -/
namespace Go.Proofs.Ytkdjnmcaifejjaa
open Go.RowKit Go.Sy
attribute [local irreducible] vcall vloop vcallD retP
set_option maxRecDepth 100000
set_option linter.unusedVariables false
set_option linter.unusedSimpArgs false

theorem toNat0 (k : Nat) : (k : Int).toNat + 0 = k := rfl
end Go.Proofs.Ytkdjnmcaifejjaa

/- Contracts of package pan: digits, the check of Luhn. -/
namespace Go.Proofs.Ytkdjnmcaifejjaa
open Go.RowKit Go.Sy
attribute [local irreducible] vcall vloop vcallD retP
set_option maxRecDepth 100000
set_option linter.unusedVariables false
set_option linter.unusedSimpArgs false

/-- Digits. -/
def dgAt (s : ByteArray) (i : Nat) : Prop := 48 ≤ byteAt s (i : Int) ∧ byteAt s (i : Int) ≤ 57
instance (s : ByteArray) (i : Nat) : Decidable (dgAt s i) := by unfold dgAt; infer_instance
end Go.Proofs.Ytkdjnmcaifejjaa

/- Contracts of packages lexer and binrange: names, prefixes. -/
namespace Go.Proofs.Ytkdjnmcaifejjaa
open Go.RowKit Go.Sy
attribute [local irreducible] vcall vloop vcallD retP
set_option maxRecDepth 100000
set_option linter.unusedVariables false
set_option linter.unusedSimpArgs false

/-- The marks of the lexer. -/
def mkB (c : Int) : Bool := decide (0 ≤ Lib.indexByte [40, 41, 123, 125, 44, 59, 58, 61, 60, 62, 43, 45, 42, 37, 46] c.toNat.toUInt8)
theorem str_Marks (c : Int) (h0 : 0 ≤ c) (h1 : c < 128) : Pure Try.prog 52 [.str ⟨#[40, 41, 123, 125, 44, 59, 58, 61, 60, 62, 43, 45, 42, 37, 46]⟩, .int .i32 c] (.bool (mkB c)) := by
  refine pure_of_calls (vals := [.string ⟨#[40, 41, 123, 125, 44, 59, 58, 61, 60, 62, 43, 45, 42, 37, 46]⟩, .int .i32 c]) (v := .bool (mkB c)) (bodied_of' Try.func52 (by kernel_rfl) (by kernel_rfl)) ?_ ?_ ?_
  · intro g vs h
    simpa [Rvs, Rv] using h
  · intro g; simp [Rv]
  · intro w
    have h := Try.strings_ContainsRune_ascii ⟨#[40, 41, 123, 125, 44, 59, 58, 61, 60, 62, 43, 45, 42, 37, 46]⟩ c w h0 h1
    refine h.mono ?_
    rintro e w' ⟨rfl, rfl⟩
    exact ⟨rfl, Below.refl _ _⟩

/-- Letters; the bytes of a word. -/
def ltP (c : Int) : Prop := (97 ≤ c ∧ c ≤ 122) ∨ (65 ≤ c ∧ c ≤ 90)
instance (c : Int) : Decidable (ltP c) := by unfold ltP; infer_instance
def wdP (c : Int) : Prop := ltP c ∨ (48 ≤ c ∧ c ≤ 57) ∨ c = 95
instance (c : Int) : Decidable (wdP c) := by unfold wdP; infer_instance
def clsI (c : Int) : Int := if c = 32 ∨ c = 9 ∨ c = 10 then 1 else if ltP c then 2 else if 48 ≤ c ∧ c ≤ 57 then 3 else if c = 95 then 4 else if c = 34 then 5 else if c = 35 then 6 else if c ≤ 126 ∧ mkB c = true then 7 else 0
theorem i32_in {c : Int} (h0 : 0 ≤ c) (h1 : c ≤ 255) : IntKind.i32.wrap c = c := IntWalk.i32_in _ ⟨by omega, by omega⟩
theorem clsI_lt {c : Int} : clsI c = 2 ↔ ltP c := by
  unfold clsI
  by_cases h : ltP c
  · have : ¬ (c = 32 ∨ c = 9 ∨ c = 10) := by unfold ltP at h; omega
    rw [if_neg this, if_pos h]; simp [h]
  · simp only [if_neg h]
    (repeat' split) <;> simp [h]
theorem clsI_wd {c : Int} : (clsI c = 2 ∨ clsI c = 3 ∨ clsI c = 4) ↔ wdP c := by
  have e : ∀ x, clsI c = x → (clsI c = 2 ∨ clsI c = 3 ∨ clsI c = 4 ↔ x = 2 ∨ x = 3 ∨ x = 4) := fun x e => by rw [e]
  refine (e _ rfl).trans ?_
  unfold wdP
  by_cases h2 : ltP c
  · have := clsI_lt.2 h2; simp [this, h2]
  · have h2' := h2
    unfold ltP at h2'
    have n2 : clsI c ≠ 2 := fun h => h2 (clsI_lt.1 h)
    have e3 : clsI c = 3 ↔ (48 ≤ c ∧ c ≤ 57) := by
      unfold clsI; rw [if_neg h2]; (repeat' split) <;> omega
    have e4 : clsI c = 4 ↔ c = 95 := by
      unfold clsI; rw [if_neg h2]; (repeat' split) <;> omega
    rw [e3, e4]
    simp [n2, h2]
theorem lex_classOf (c : Int) (h0 : 0 ≤ c) (h1 : c ≤ 255) : Pure Try.prog 43 [.int .i32 c] (.int .i64 (clsI c)) := by
  by_cases h126 : c ≤ 126
  · have cm := str_Marks c h0 (by omega)
    cases hm : mkB c with
    | true =>
      rw [hm] at cm
      unfold clsI ltP
      rw [hm]
      refine fc_of mixed T_ok Try.func43 rfl (by kernel_rfl) (by kernel_rfl) (by kernel_rfl) ?_
      repeat' ((conv => whnf); first | (refine vcall_pure (cm) rfl rfl rfl ?_) | (refine vcallD_pure (cm) rfl rfl rfl ?_) | ((first | apply br_dec | apply br_ndec) <;> intro h <;> try (exfalso; (try dsimp only at h); omega)) | ((first | apply br_seq | apply br_nseq | apply br_not | apply br_intro) <;> intro h) | refine cond_a ?_)
      all_goals (conv => whnf)
      all_goals (refine ret_pure (congrArg (SV.int .i64) ?_))
      all_goals first
        | ((try simp only [and_true, Bool.false_eq_true, and_false, if_false]); (repeat' split) <;> omega)
    | false =>
      rw [hm] at cm
      unfold clsI ltP
      rw [hm]
      refine fc_of mixed T_ok Try.func43 rfl (by kernel_rfl) (by kernel_rfl) (by kernel_rfl) ?_
      repeat' ((conv => whnf); first | (refine vcall_pure (cm) rfl rfl rfl ?_) | (refine vcallD_pure (cm) rfl rfl rfl ?_) | ((first | apply br_dec | apply br_ndec) <;> intro h <;> try (exfalso; (try dsimp only at h); omega)) | ((first | apply br_seq | apply br_nseq | apply br_not | apply br_intro) <;> intro h) | refine cond_a ?_)
      all_goals (conv => whnf)
      all_goals (refine ret_pure (congrArg (SV.int .i64) ?_))
      all_goals first
        | ((try simp only [and_true, Bool.false_eq_true, and_false, if_false]); (repeat' split) <;> omega)
  · unfold clsI ltP
    refine fc_of mixed T_ok Try.func43 rfl (by kernel_rfl) (by kernel_rfl) (by kernel_rfl) ?_
    repeat' ((conv => whnf); first | ((first | apply br_dec | apply br_ndec) <;> intro h <;> try (exfalso; (try dsimp only at h); omega)) | ((first | apply br_seq | apply br_nseq | apply br_not | apply br_intro) <;> intro h) | refine cond_a ?_)
    all_goals (conv => whnf)
    all_goals (refine ret_pure (congrArg (SV.int .i64) ?_))
    all_goals first
      | ((repeat' split) <;> omega)

theorem lex_isWordByte (c : Int) (h0 : 0 ≤ c) (h1 : c ≤ 255) : Pure Try.prog 53 [.int .u8 c] (.bool (decide (wdP c))) := by
  have c1 := lex_classOf c h0 h1
  have hw := clsI_wd (c := c)
  rw [show (SV.int .i32 c) = SV.int .i32 (IntKind.i32.wrap c) by rw [i32_in h0 h1]] at c1
  generalize clsI c = x at c1 hw
  refine fc_of mixed T_ok Try.func53 rfl (by kernel_rfl) (by kernel_rfl) (by kernel_rfl) ?_
  repeat' ((conv => whnf); first | (refine vcall_pure (c1) rfl rfl rfl ?_) | (refine vcallD_pure (c1) rfl rfl rfl ?_) | ((first | apply br_dec | apply br_ndec) <;> intro h <;> try (exfalso; (try dsimp only at h); omega)) | ((first | apply br_seq | apply br_nseq | apply br_not | apply br_intro) <;> intro h) | refine cond_a ?_)
  all_goals (conv => whnf)
  all_goals first
    | exact ret_pure (congrArg SV.bool (decide_eq_true (hw.1 (by omega))).symm)
    | exact ret_pure (congrArg SV.bool (decide_eq_decide.2 ⟨fun hh => hw.1 (Or.inr (Or.inr hh)), fun hh => (hw.2 hh).resolve_left (by omega) |>.resolve_left (by omega)⟩))

def wdTo (s : ByteArray) : Nat → Bool
  | 0 => true
  | k + 1 => wdTo s k && decide (wdP (byteAt s (k : Int)))
theorem wdTo_step {s : ByteArray} {k : Nat} (h : wdTo s k = true) (h1 : wdP (byteAt s (k : Int))) : wdTo s (k + 1) = true := by
  simp only [wdTo, h, Bool.true_and, decide_eq_true_eq]; exact h1
theorem wdTo_false {s : ByteArray} {k n : Nat} (h : k < n) (hc : ¬ wdP (byteAt s (k : Int))) : wdTo s n = false := by
  induction n with
  | zero => omega
  | succ n ih =>
    simp only [wdTo]
    by_cases e : k = n
    · subst e; simp [hc]
    · rw [ih (by omega)]; rfl
theorem wdTo_at {s : ByteArray} {k n : Nat} (h : k < n) (hd : wdTo s n = true) : wdP (byteAt s (k : Int)) := by
  by_cases hc : wdP (byteAt s (k : Int))
  · exact hc
  · rw [wdTo_false h hc] at hd; cases hd
theorem wdTo_first {s : ByteArray} : ∀ n, wdTo s n = false → ∃ k, k < n ∧ wdTo s k = true ∧ ¬ wdP (byteAt s (k : Int))
  | 0, h => by simp [wdTo] at h
  | n + 1, h => by
    cases hn : wdTo s n with
    | false => obtain ⟨k, h1, h2⟩ := wdTo_first n hn; exact ⟨k, by omega, h2⟩
    | true =>
      refine ⟨n, by omega, hn, fun hw => ?_⟩
      rw [wdTo_step hn hw] at h; cases h

/-- The word at the beginning. -/
theorem lex_wordAt (s : ByteArray) (e : Nat) (he : e ≤ s.size) (ht : wdTo s e = true) (hx : e = s.size ∨ ¬ wdP (byteAt s (e : Int))) (hs : s.size ≤ 1000000) : Pure Try.prog 44 [.str s, .int .i64 0] (.str (s.extract 0 e)) := by
  refine fc_of mixed T_ok Try.func44 rfl (by kernel_rfl) (by kernel_rfl) (by kernel_rfl) ?_
  (conv => whnf)
  refine vloop_of (fun k : Nat => ⟨[(0, .str s), (1, .int .i64 0), (5, .int .i64 k)], [], 1⟩) (fun k => k ≤ e) (fun k => e - k) 0 [0] [] ⟨rfl, ⟨rfl, rfl, rfl, trivial⟩, trivial⟩ (by omega) ?_
  intro k hk
  have bd := byteAt_bd s (k : Int)
  have c := lex_isWordByte (byteAt s (k : Int)) bd.1 bd.2
  by_cases hk2 : k < e
  · rw [decide_eq_true (wdTo_at hk2 ht)] at c
    repeat' ((conv => whnf); first | (refine vcall_pure (c) rfl rfl rfl ?_) | (refine vcallD_pure (c) rfl rfl rfl ?_) | ((first | apply br_dec | apply br_ndec) <;> intro h <;> try (exfalso; (try dsimp only at h); omega)) | ((first | apply br_seq | apply br_nseq | apply br_not | apply br_intro) <;> intro h) | refine cond_a ?_)
    all_goals (conv => whnf)
    all_goals first
      | exact ⟨k + 1, [0], [], by omega, by omega, ⟨rfl, ⟨rfl, rfl, congrArg (fun z => some (SV.int .i64 z)) (i64_succ (by omega)), trivial⟩, trivial⟩⟩
      | (exfalso; omega)
  · have e1 : k = e := by omega
    subst e1
    by_cases hsz : k < s.size
    · rw [decide_eq_false (hx.resolve_left (by omega))] at c
      repeat' ((conv => whnf); first | (refine vcall_pure (c) rfl rfl rfl ?_) | (refine vcallD_pure (c) rfl rfl rfl ?_) | ((first | apply br_dec | apply br_ndec) <;> intro h <;> try (exfalso; (try dsimp only at h); omega)) | ((first | apply br_seq | apply br_nseq | apply br_not | apply br_intro) <;> intro h) | refine cond_a ?_)
      all_goals (conv => whnf)
      all_goals first
        | exact ret_pure rfl
        | (exfalso; omega)
    · repeat' ((conv => whnf); first | ((first | apply br_dec | apply br_ndec) <;> intro h <;> try (exfalso; (try dsimp only at h); omega)) | ((first | apply br_seq | apply br_nseq | apply br_not | apply br_intro) <;> intro h) | refine cond_a ?_)
      all_goals (conv => whnf)
      all_goals first
        | exact ret_pure rfl
        | (exfalso; omega)

/-- Names. -/
def nmB (s : ByteArray) : Bool := decide (1 ≤ s.size) && decide (s.size ≤ 16) && decide (ltP (byteAt s 0)) && wdTo s s.size
theorem sz_pos {s : ByteArray} (h : ¬ s = ⟨#[]⟩) : 1 ≤ s.size := by
  rcases Nat.eq_zero_or_pos s.size with h0 | h0
  · exfalso; apply h
    cases s with | mk d => 
    have : d = #[] := Array.eq_empty_of_size_eq_zero h0
    rw [this]
  · exact h0
theorem extract_all (s : ByteArray) : s.extract 0 s.size = s := by
  apply ByteArray.ext
  simp
theorem lex_IsName (s : ByteArray) : Pure Try.prog 33 [.str s] (.bool (nmB s)) := by
  unfold nmB
  by_cases h0 : s = ⟨#[]⟩
  · subst h0
    refine fc_of mixed T_ok Try.func33 rfl (by kernel_rfl) (by kernel_rfl) (by kernel_rfl) ?_
    repeat' ((conv => whnf); first | ((first | apply br_dec | apply br_ndec) <;> intro h <;> try (exfalso; (try dsimp only at h); omega)) | ((first | apply br_seq | apply br_nseq | apply br_not | apply br_intro) <;> intro h) | refine cond_a ?_)
    all_goals (conv => whnf)
    all_goals first
      | exact ret_pure rfl
      | (exfalso; exact h rfl)
  · have hz := sz_pos h0
    by_cases h16 : s.size ≤ 16
    · have bd := byteAt_bd s 0
      have c1 := lex_classOf (byteAt s 0) bd.1 bd.2
      rw [show (SV.int .i32 (byteAt s 0)) = SV.int .i32 (IntKind.i32.wrap (byteAt s 0)) by rw [i32_in bd.1 bd.2]] at c1
      by_cases hl : ltP (byteAt s 0)
      · rw [clsI_lt.2 hl] at c1
        cases hw : wdTo s s.size with
        | true =>
          have c2 := lex_wordAt s s.size (Nat.le_refl _) hw (.inl rfl) (by omega)
          rw [extract_all] at c2
          rw [decide_eq_true hz, decide_eq_true h16, decide_eq_true hl]
          refine fc_of mixed T_ok Try.func33 rfl (by kernel_rfl) (by kernel_rfl) (by kernel_rfl) ?_
          repeat' ((conv => whnf); first | (refine vcall_pure (c1) rfl rfl rfl ?_) | (refine vcallD_pure (c1) rfl rfl rfl ?_) | (refine vcall_pure (c2) rfl rfl rfl ?_) | (refine vcallD_pure (c2) rfl rfl rfl ?_) | ((first | apply br_dec | apply br_ndec) <;> intro h <;> try (exfalso; (try dsimp only at h); omega)) | ((first | apply br_seq | apply br_nseq | apply br_not | apply br_intro) <;> intro h) | refine cond_a ?_)
          all_goals (conv => whnf)
          all_goals first
            | exact ret_pure rfl
            | (exfalso; exact h0 (by assumption))
            | (exfalso; omega)
            | exact ret_pure (congrArg SV.bool (decide_eq_true rfl))
        | false =>
          obtain ⟨k, k1, k2, k3⟩ := wdTo_first _ hw
          have c2 := lex_wordAt s k (by omega) k2 (.inr k3) (by omega)
          have hsz : (s.extract 0 k).size = k := by rw [ByteArray.size_extract]; omega
          rw [decide_eq_true hz, decide_eq_true h16, decide_eq_true hl]
          refine fc_of mixed T_ok Try.func33 rfl (by kernel_rfl) (by kernel_rfl) (by kernel_rfl) ?_
          repeat' ((conv => whnf); first | (refine vcall_pure (c1) rfl rfl rfl ?_) | (refine vcallD_pure (c1) rfl rfl rfl ?_) | (refine vcall_pure (c2) rfl rfl rfl ?_) | (refine vcallD_pure (c2) rfl rfl rfl ?_) | ((first | apply br_dec | apply br_ndec) <;> intro h <;> try (exfalso; (try dsimp only at h); omega)) | ((first | apply br_seq | apply br_nseq | apply br_not | apply br_intro) <;> intro h) | refine cond_a ?_)
          all_goals (conv => whnf)
          all_goals first
            | exact ret_pure rfl
            | (exfalso; exact h0 (by assumption))
            | (exfalso; omega)
            | exact ret_pure (congrArg SV.bool (decide_eq_false (by rw [hsz]; omega)))
      · have hne : clsI (byteAt s 0) ≠ 2 := fun h => hl (clsI_lt.1 h)
        rw [decide_eq_false hl]
        generalize clsI (byteAt s 0) = x at c1 hne
        refine fc_of mixed T_ok Try.func33 rfl (by kernel_rfl) (by kernel_rfl) (by kernel_rfl) ?_
        repeat' ((conv => whnf); first | (refine vcall_pure (c1) rfl rfl rfl ?_) | (refine vcallD_pure (c1) rfl rfl rfl ?_) | ((first | apply br_dec | apply br_ndec) <;> intro h <;> try (exfalso; (try dsimp only at h); omega)) | ((first | apply br_seq | apply br_nseq | apply br_not | apply br_intro) <;> intro h) | refine cond_a ?_)
        all_goals (conv => whnf)
        all_goals first
          | (exfalso; exact h0 (by assumption))
          | (exfalso; omega)
          | exact ret_pure (by rw [Bool.and_false]; rfl)
    · rw [decide_eq_false h16]
      refine fc_of mixed T_ok Try.func33 rfl (by kernel_rfl) (by kernel_rfl) (by kernel_rfl) ?_
      repeat' ((conv => whnf); first | ((first | apply br_dec | apply br_ndec) <;> intro h <;> try (exfalso; (try dsimp only at h); omega)) | ((first | apply br_seq | apply br_nseq | apply br_not | apply br_intro) <;> intro h) | refine cond_a ?_)
      all_goals (conv => whnf)
      all_goals first
        | (exfalso; exact h0 (by assumption))
        | (exfalso; omega)
        | exact ret_pure (by rw [Bool.and_false]; rfl)

end Go.Proofs.Ytkdjnmcaifejjaa

/- Plain facts on texts in ascending order. No program in sight. -/
namespace Go.Sy
open Go.RowKit

theorem ofB_toList (s : ByteArray) : s.toList = ofB s := by
  exact (by simpa using ByteArray.toList_eq s : s.toList = s.data.toList)
theorem strLt_eq (a b : ByteArray) : strLt a b = decide (ofB a < ofB b) := by
  unfold strLt
  rw [ofB_toList, ofB_toList, Go.Proofs.bytesLess_eq]
theorem ofB_inj {a b : ByteArray} (h : ofB a = ofB b) : a = b := by rw [← toB_ofB a, ← toB_ofB b, h]
theorem strLt_irrefl (a : ByteArray) : strLt a a = false := by rw [strLt_eq]; exact decide_eq_false (List.lt_irrefl _)
theorem strLt_asymm {a b : ByteArray} (h : strLt a b = true) : strLt b a = false := by
  rw [strLt_eq] at h ⊢
  exact decide_eq_false (List.lt_asymm (of_decide_eq_true h))
theorem sortS_pairwise {l : List ByteArray} (hd : l.Nodup) : (sortS l).Pairwise (fun a b => strLt a b = true) := by
  have tr : ∀ a b c : List UInt8, leB a b = true → leB b c = true → leB a c = true := fun a b c h1 h2 => by simp only [leB, decide_eq_true_eq] at *; exact List.le_trans h1 h2
  have to : ∀ a b : List UInt8, (leB a b || leB b a) = true := fun a b => by simp only [leB, Bool.or_eq_true, decide_eq_true_eq]; exact List.le_total a b
  have h1 := List.pairwise_mergeSort tr to (l.map ofB)
  have hd2 : (sortS l).Nodup := (sortS_perm l).symm.nodup hd
  have h2 : (sortS l).Pairwise (fun a b => leB (ofB a) (ofB b) = true) := by
    unfold sortS
    rw [List.pairwise_map]
    exact h1
  refine (List.Pairwise.and h2 hd2).imp ?_
  rintro a b ⟨h3, h4⟩
  rw [strLt_eq]
  simp only [leB, decide_eq_true_eq] at h3
  rcases List.le_iff_lt_or_eq.1 h3 with h5 | h5
  · exact decide_eq_true h5
  · exact absurd (ofB_inj h5) h4
theorem sortS_lt {l : List ByteArray} (hd : l.Nodup) {i j : Nat} (hij : i < j) (hj : j < l.length) : strLt ((sortS l).getD i ⟨#[]⟩) ((sortS l).getD j ⟨#[]⟩) = true := by
  have hj' : j < (sortS l).length := by rw [sortS_length]; exact hj
  have := List.pairwise_iff_getElem.1 (sortS_pairwise hd) i j (by omega) hj' hij
  simpa [List.getD, hj', show i < (sortS l).length by omega] using this
/-- Texts in strictly ascending order are their own order. -/
theorem sortS_of {l m : List ByteArray} (hp : m.Perm l) (hm : m.Pairwise (fun a b => strLt a b = true)) : sortS l = m := by
  have hdm : m.Nodup := hm.imp (fun {a b} h e => by subst e; rw [strLt_irrefl] at h; cases h)
  refine List.Perm.eq_of_pairwise (le := fun a b => strLt a b = true) (fun a b _ _ h1 h2 => ?_) (sortS_pairwise (hp.nodup hdm)) hm ((sortS_perm l).trans hp.symm)
  rw [strLt_asymm h1] at h2; cases h2
end Go.Sy

/- Contracts: a book of positions is made. -/
namespace Go.Proofs.Ytkdjnmcaifejjaa
open Go.RowKit Go.Sy
attribute [local irreducible] vcall vloop vcallD retP
set_option maxRecDepth 100000
set_option linter.unusedVariables false
set_option linter.unusedSimpArgs false

/-- The place of a name, or -1. -/
def idI (ps : List ByteArray) (s : ByteArray) (n : Nat) : Int := if sidx ps s < n then (sidx ps s : Int) else -1
theorem sidx_le (s : ByteArray) : ∀ l : List ByteArray, sidx l s ≤ l.length
  | [] => Nat.le_refl _
  | x :: l => by
    have := sidx_le s l
    simp only [sidx, List.length_cons]
    cases seq x s <;> simp only [cond_true, cond_false] <;> omega
theorem seq_tr {a b : ByteArray} : seq a b = true ↔ a = b := by unfold seq; exact decide_eq_true_iff
theorem sidx_lo {s : ByteArray} : ∀ (l : List ByteArray) (j : Nat), j < sidx l s → ¬ l.getD j ⟨#[]⟩ = s
  | [], j, h => by simp [sidx] at h
  | x :: l, j, h => by
    simp only [sidx] at h
    cases hx : seq x s with
    | true => rw [hx] at h; simp at h
    | false =>
      rw [hx] at h
      simp only [cond_false] at h
      cases j with
      | zero => intro e; rw [seq_tr.2 (show x = s from e)] at hx; cases hx
      | succ j => exact sidx_lo l j (by omega)
theorem sidx_at {s : ByteArray} : ∀ (l : List ByteArray), sidx l s < l.length → l.getD (sidx l s) ⟨#[]⟩ = s
  | [], h => by simp [sidx] at h
  | x :: l, h => by
    simp only [sidx] at h ⊢
    cases hx : seq x s with
    | true => exact seq_tr.1 hx
    | false =>
      rw [hx] at h
      simp only [cond_false, List.length_cons] at h ⊢
      exact sidx_at l (by omega)
theorem sidx_eq {s : ByteArray} {l : List ByteArray} {k : Nat} (hk : k < l.length) (h : l.getD k ⟨#[]⟩ = s) (hlo : ∀ j, j < k → ¬ l.getD j ⟨#[]⟩ = s) : sidx l s = k := by
  rcases Nat.lt_trichotomy (sidx l s) k with q | q | q
  · exact absurd (sidx_at l (by omega)) (hlo _ q)
  · exact q
  · exact absurd h (sidx_lo l k q)
theorem str_Index (n : Nat) (ps : List ByteArray) (s : ByteArray) (hl : ps.length = n) (hn : n ≤ 100000) : FC Try.prog 2 40 [.sl 1 0 0 n, .str s] [(1, some (.one true (.cols n [.sc (.strs ps)])))] (isOut (.int .i64 (idI ps s n)) [] 2) := by
  refine fc_of mixed T_ok Try.func40 rfl (by kernel_rfl) (by kernel_rfl) (by kernel_rfl) ?_
  repeat' ((conv => whnf); first | ((first | apply br_dec | apply br_ndec) <;> intro h <;> try (exfalso; (try dsimp only at h); omega)) | ((first | apply br_seq | apply br_nseq | apply br_not | apply br_intro) <;> intro h) | refine cond_a ?_)
  all_goals (conv => whnf)
  refine vloop_lp (fun k : Nat => ⟨[(0, .sl 1 0 0 n), (1, .str s), (6, .sl 1 0 0 n), (7, .int .i64 n), (8, .int .i64 k)], [(1, some (.one true (.cols n [.sc (.strs ps)])))], 2⟩) (fun k => k ≤ n ∧ ∀ j, j < k → ¬ ps.getD j ⟨#[]⟩ = s) (fun k => n - k) 0 [0, 1] [] ⟨rfl, ⟨rfl, rfl, rfl, rfl, rfl, trivial⟩, ⟨rfl, trivial⟩⟩ ⟨Nat.zero_le _, fun j hj => by omega⟩ ?_
  rintro k ⟨hk, hlo⟩
  by_cases hk2 : k < n
  · by_cases q : ps.getD k ⟨#[]⟩ = s
    · have hi : idI ps s n = (k : Int) := by
        have e := sidx_eq (by omega) q hlo
        unfold idI; rw [e, if_pos hk2]
      rw [hi]
      repeat' ((conv => whnf); first | ((first | apply br_dec | apply br_ndec) <;> intro h <;> try (exfalso; (try dsimp only at h); omega)) | ((first | apply br_seq | apply br_nseq | apply br_not | apply br_intro) <;> intro h) | refine cond_a ?_)
      all_goals (conv => whnf)
      all_goals (try simp only [toNat0] at *)
      all_goals first
        | exact ret_out (l := [0, 1]) rfl rfl trivial allRw_nil
        | (exfalso; first | omega | contradiction | exact absurd q.symm (by assumption))
        | trace_state
    · have hnx : ∀ j, j < k + 1 → ¬ ps.getD j ⟨#[]⟩ = s := fun j hj => by
        by_cases e : j = k
        · subst e; exact q
        · exact hlo j (by omega)
      repeat' ((conv => whnf); first | ((first | apply br_dec | apply br_ndec) <;> intro h <;> try (exfalso; (try dsimp only at h); omega)) | ((first | apply br_seq | apply br_nseq | apply br_not | apply br_intro) <;> intro h) | refine cond_a ?_)
      all_goals (conv => whnf)
      all_goals (try simp only [toNat0] at *)
      all_goals first
        | exact ⟨k + 1, [0, 1], [], ⟨hk2, hnx⟩, (show n - (k + 1) < n - k by omega), ⟨rfl, ⟨rfl, rfl, rfl, rfl, congrArg (fun z => some (SV.int .i64 z)) (i64_succ (by omega)), trivial⟩, ⟨rfl, trivial⟩⟩⟩
        | (exfalso; first | omega | contradiction | exact q ((by assumption : s = _).symm))
        | trace_state
  · have e : k = n := by omega
    subst e
    have hi : idI ps s k = -1 := by
      unfold idI
      rw [if_neg]
      intro q
      exact hlo _ q (sidx_at ps (by omega))
    rw [hi]
    repeat' ((conv => whnf); first | ((first | apply br_dec | apply br_ndec) <;> intro h <;> try (exfalso; (try dsimp only at h); omega)) | ((first | apply br_seq | apply br_nseq | apply br_not | apply br_intro) <;> intro h) | refine cond_a ?_)
    all_goals (conv => whnf)
    all_goals first
      | exact ret_out (l := [0, 1]) rfl rfl trivial allRw_nil
      | (exfalso; omega)
      | trace_state
theorem str_Contains (n : Nat) (ps : List ByteArray) (s : ByteArray) (hl : ps.length = n) (hn : n ≤ 100000) : FC Try.prog 2 34 [.sl 1 0 0 n, .str s] [(1, some (.one true (.cols n [.sc (.strs ps)])))] (isOut (.bool (decide (0 ≤ idI ps s n))) [] 2) := by
  have c := str_Index n ps s hl hn
  refine fc_of mixed T_ok Try.func34 rfl (by kernel_rfl) (by kernel_rfl) (by kernel_rfl) ?_
  repeat' ((conv => whnf); first | refine vcall_o (l := [0, 1]) (c) ?_ | ((first | apply br_dec | apply br_ndec) <;> intro h <;> try (exfalso; (try dsimp only at h); omega)) | ((first | apply br_seq | apply br_nseq | apply br_not | apply br_intro) <;> intro h) | refine cond_a ?_)
  all_goals (conv => whnf)
  all_goals exact ret_out (l := [0, 1]) rfl rfl trivial allRw_nil
theorem bodied_of {P : Program} {f : FuncId} {fn : Func} (h : P.funcs[f]? = some fn) (hb : fn.body.isSome = true) (hn : (fn.name == "runtime.NumGoroutine") = false) : bodied P f := by
  obtain ⟨c, hc⟩ := Option.isSome_iff_exists.1 hb
  exact ⟨fn, c, h, hc, hn⟩
theorem str_Sort (n : Nat) (l : List ByteArray) (hn : n < 4611686018427387904) : FC Try.prog 2 35 [.sl 1 0 0 n] [(1, some (.one false (.cols n [.sc (.strs l)])))] (isOut (.tup []) [(1, some (.one false (.cols n [.sc (.strs (sortS l))])))] 2) :=
  fc_sortS ⟨fun blk off cap ss W hH hblk hsz => AnyM.slices_Sort_string Try.sortS blk off cap ss W hH hblk hsz, fun p cap W => AnyM.slices_Sort_string_none Try.sortS p cap W⟩ (bodied_of Try.func35 (by kernel_rfl) (by kernel_rfl)) n l hn
/-- A book: its parties, and the rows of its currencies. -/
structure Bk where
  n : Nat
  ps : List ByteArray
  m : Nat
  cs : List ByteArray
  vs : List (List Int)
  bs : List Nat
  ck : Nat
abbrev bkM (ro : Bool) (b : Bk) : Option HB := some (.one ro (.obj (.map false false b.m [.strs b.cs] [.arrs 16 .i64 b.vs] b.bs b.ck)))
abbrev bkP (ro : Bool) (b : Bk) : Option HB := some (.one ro (.cols b.n [.sc (.strs b.ps)]))
abbrev bkC (ro : Bool) (hp hm n : Nat) : Option HB := some (.one ro (.cells [.sl hp 0 0 n, .map hm 0]))
/-- The error of the k-th party, and of the first parties. -/
def nwE (ps : List ByteArray) (k : Nat) : Int := if nmB (ps.getD k ⟨#[]⟩) = false then 5 else if 0 ≤ idI (ps.take k) (ps.getD k ⟨#[]⟩) k then 7 else 0
def nwK (ps : List ByteArray) : Nat → Int
  | 0 => 0
  | k + 1 => if nwK ps k ≠ 0 then nwK ps k else nwE ps k
theorem nwK_stop {ps : List ByteArray} {k : Nat} (h0 : nwK ps k = 0) (h1 : nwE ps k ≠ 0) : ∀ n, k < n → nwK ps n = nwE ps k
  | 0, h => by omega
  | n + 1, h => by
    simp only [nwK]
    by_cases e : k = n
    · subst e; rw [if_neg (by omega)]
    · rw [nwK_stop h0 h1 n (by omega), if_pos h1]
def nwErr (ps : List ByteArray) : Int := if 16 < ps.length then 3 else nwK ps ps.length
def nwB (ps : List ByteArray) : Bk := ⟨ps.length, sortS ps, 0, [], [], [], 0⟩
def nwOut (ps : List ByteArray) : SV → Heap → Nat → Prop := if nwErr ps ≠ 0 then isOut (.tup [.nptr, .int .i64 (nwErr ps)]) [] 2 else isOut (.tup [.ptr 2 0 0 0, .int .i64 0]) [(2, bkC false 3 4 ps.length), (3, bkP false (nwB ps)), (4, bkM false (nwB ps))] 5
theorem take_snoc {ps : List ByteArray} {k : Nat} (hk : k < ps.length) : ps.take (k + 1) = ps.take k ++ [ps.getD k ⟨#[]⟩] := by
  rw [List.take_succ_eq_append_getElem hk, List.getD, List.getElem?_eq_getElem hk]; rfl
theorem pos_New (ps : List ByteArray) (n : Nat) (hl : ps.length = n) (hn : n ≤ 100000) : FC Try.prog 2 20 [.sl 1 0 0 n] [(1, some (.one true (.cols n [.sc (.strs ps)])))] (nwOut ps) := by
  unfold nwOut nwErr
  by_cases h16 : 16 < n
  · rw [hl, if_pos h16, if_pos (by decide)]
    refine fc_of mixed T_ok Try.func20 rfl (by kernel_rfl) (by kernel_rfl) (by kernel_rfl) ?_
    repeat' ((conv => whnf); first | ((first | apply br_dec | apply br_ndec) <;> intro h <;> try (exfalso; (try dsimp only at h); omega)) | ((first | apply br_seq | apply br_nseq | apply br_not | apply br_intro) <;> intro h) | refine cond_a ?_)
    all_goals (conv => whnf)
    all_goals first
      | exact ret_out (l := [0, 1]) rfl rfl trivial allRw_nil
      | (exfalso; omega)
      | trace_state
  rw [hl, if_neg h16]
  refine fc_of mixed T_ok Try.func20 rfl (by kernel_rfl) (by kernel_rfl) (by kernel_rfl) ?_
  repeat' ((conv => whnf); first | ((first | apply br_dec | apply br_ndec) <;> intro h <;> try (exfalso; (try dsimp only at h); omega)) | ((first | apply br_seq | apply br_nseq | apply br_not | apply br_intro) <;> intro h) | refine cond_a ?_)
  all_goals (conv => whnf)
  refine vloop_lp (fun k : Nat => ⟨[(4, .ptr 2 0 0 0), (13, .sl 1 0 0 n), (14, .int .i64 n), (15, .int .i64 k)], [(1, some (.one true (.cols n [.sc (.strs ps)]))), (2, bkC false 3 4 k), (3, some (.one false (.cols k [.sc (.strs (ps.take k))]))), (4, bkM false (nwB ps))], 5⟩) (fun k => k ≤ n ∧ nwK ps k = 0) (fun k => n - k) 0 [0, 1, 3, 4, 2] [.cell 3 0 [.sc (.strs [])]] ⟨rfl, ⟨rfl, rfl, rfl, rfl, trivial⟩, ⟨rfl, rfl, rfl, rfl, trivial⟩⟩ ⟨Nat.zero_le _, rfl⟩ ?_
  rintro k ⟨hk, h0⟩
  by_cases hk2 : k < n
  · have c1 := lex_IsName (ps.getD k ⟨#[]⟩)
    have c2 := str_Contains k (ps.take k) (ps.getD k ⟨#[]⟩) (by rw [List.length_take]; omega) (by omega)
    have hE : nwE ps k = if nmB (ps.getD k ⟨#[]⟩) = false then 5 else if 0 ≤ idI (ps.take k) (ps.getD k ⟨#[]⟩) k then 7 else 0 := rfl
    have hst := fun h => nwK_stop h0 h n hk2
    have hs0 : nwE ps k = 0 → nwK ps (k + 1) = 0 := fun h => by simp only [nwK]; rw [if_neg (by omega)]; exact h
    have htk := take_snoc (ps := ps) (k := k) (by omega)
    cases hnm : nmB (ps.getD k ⟨#[]⟩) with
    | false =>
      rw [hnm] at c1
      rw [hnm, if_pos rfl] at hE
      rw [hst (by omega), hE, if_pos (by decide)]
      repeat' ((conv => whnf); first | (refine vcall_pure (c1) rfl rfl rfl ?_) | refine vcall_o (l := [0, 3]) (c2) ?_ | ((first | apply br_dec | apply br_ndec) <;> intro h <;> try (exfalso; (try dsimp only at h); omega)) | ((first | apply br_seq | apply br_nseq | apply br_not | apply br_intro) <;> intro h) | refine cond_a ?_)
      all_goals (conv => whnf)
      all_goals first
        | exact ret_out (l := [0, 1]) rfl rfl trivial allRw_nil
        | (exfalso; omega)
        | trace_state
    | true =>
      rw [hnm] at c1
      rw [hnm, if_neg (by simp)] at hE
      by_cases hin : 0 ≤ idI (ps.take k) (ps.getD k ⟨#[]⟩) k
      · rw [if_pos hin] at hE
        rw [decide_eq_true hin] at c2
        rw [hst (by omega), hE, if_pos (by decide)]
        repeat' ((conv => whnf); first | (refine vcall_pure (c1) rfl rfl rfl ?_) | refine vcall_o (l := [0, 3]) (c2) ?_ | ((first | apply br_dec | apply br_ndec) <;> intro h <;> try (exfalso; (try dsimp only at h); omega)) | ((first | apply br_seq | apply br_nseq | apply br_not | apply br_intro) <;> intro h) | refine cond_a ?_)
        all_goals (conv => whnf)
        all_goals first
          | exact ret_out (l := [0, 1]) rfl rfl trivial allRw_nil
          | (exfalso; omega)
          | trace_state
      · rw [if_neg hin] at hE
        rw [decide_eq_false hin] at c2
        have hr : (some (HB.one false (.cols (k + 1) [.sc (.strs (ps.take k ++ [ps.getD k ⟨#[]⟩]))])) : Option HB) = some (.one false (.cols (k + 1) [.sc (.strs (ps.take (k + 1)))])) := by rw [htk]
        repeat' ((conv => whnf); first | (refine vcall_pure (c1) rfl rfl rfl ?_) | refine vcall_o (l := [0, 3]) (c2) ?_ | ((first | apply br_dec | apply br_ndec) <;> intro h <;> try (exfalso; (try dsimp only at h); omega)) | ((first | apply br_seq | apply br_nseq | apply br_not | apply br_intro) <;> intro h) | refine cond_a ?_)
        all_goals (conv => whnf)
        all_goals first
          | exact ⟨k + 1, [0, 1, 2, 6, 4], [], ⟨hk2, hs0 hE⟩, (show n - (k + 1) < n - k by omega), ⟨rfl, ⟨rfl, rfl, rfl, congrArg (fun z => some (SV.int .i64 z)) (i64_succ (by omega)), trivial⟩, ⟨rfl, rfl, hr, rfl, trivial⟩⟩⟩
          | (exfalso; omega)
          | trace_state
  · have e : k = n := by omega
    subst e
    have eT : ps.take k = ps := by rw [← hl, List.take_length]
    rw [eT, if_neg (by omega)]
    have c3 := str_Sort k ps (by omega)
    repeat' ((conv => whnf); first | refine vcall_o (l := [0, 3]) (c3) ?_ | ((first | apply br_dec | apply br_ndec) <;> intro h <;> try (exfalso; (try dsimp only at h); omega)) | ((first | apply br_seq | apply br_nseq | apply br_not | apply br_intro) <;> intro h) | refine cond_a ?_)
    all_goals (conv => whnf)
    all_goals first
      | exact ret_out (l := [0, 1, 2, 3, 4]) rfl rfl ⟨rfl, by rw [← hl]; rfl, rfl, trivial⟩ (allRw_cons (allRw_cons (allRw_cons allRw_nil)))
      | (exfalso; omega)
      | trace_state
end Go.Proofs.Ytkdjnmcaifejjaa

/- Contracts: moves in a book, what a party owes, the currencies of a book. -/
namespace Go.Proofs.Ytkdjnmcaifejjaa
open Go.RowKit Go.Sy
attribute [local irreducible] vcall vloop vcallD retP
set_option maxRecDepth 100000
set_option linter.unusedVariables false
set_option linter.unusedSimpArgs false

abbrev z16 : List Int := List.replicate 16 0
abbrev Bk.row (b : Bk) (c : ByteArray) : List Int := b.vs.getD (sidx b.cs c) z16
abbrev bkH (b : Bk) : Heap := [(1, bkC true 2 3 b.n), (2, bkP true b), (3, bkM false b)]
abbrev bkR (b : Bk) : Heap := [(1, bkC true 2 3 b.n), (2, bkP true b), (3, bkM true b)]
def Bk.put (b : Bk) (c : ByteArray) (r : List Int) : Bk :=
  ⟨b.n, b.ps, if sidx b.cs c < b.m then b.m else b.m + 1, putL (sidx b.cs c) c b.cs, putL (sidx b.cs c) r b.vs, if sidx b.cs c < b.m then b.bs else b.bs ++ [b.ck], if sidx b.cs c < b.m then b.ck else b.ck + 1⟩
def Bk.del (b : Bk) (c : ByteArray) : Bk :=
  ⟨b.n, b.ps, if sidx b.cs c < b.m then b.m - 1 else b.m, b.cs.eraseIdx (sidx b.cs c), b.vs.eraseIdx (sidx b.cs c), b.bs.eraseIdx (sidx b.cs c), b.ck⟩
/-- What a move needs to know of a book. -/
structure Bk.Ok (b : Bk) : Prop where
  n : b.n ≤ 16
  ps : b.ps.length = b.n
  len : ∀ i, (b.vs.getD i z16).length = 16
  bd : ∀ i j, -4503599627370496 ≤ (b.vs.getD i z16).getD j 0 ∧ (b.vs.getD i z16).getD j 0 ≤ 4503599627370496
def fitB (x : Int) : Bool := decide (-4503599627370496 ≤ x) && decide (x ≤ 4503599627370496)
theorem fitB_t {x : Int} : fitB x = true ↔ -4503599627370496 ≤ x ∧ x ≤ 4503599627370496 := by unfold fitB; simp
theorem fitB_f {x : Int} : fitB x = false ↔ ¬ (-4503599627370496 ≤ x ∧ x ≤ 4503599627370496) := by rw [← fitB_t]; simp
theorem pos_within (x : Int) : Pure Try.prog 42 [.int .i64 x] (.bool (fitB x)) := by
  by_cases h : -4503599627370496 ≤ x ∧ x ≤ 4503599627370496
  · rw [fitB_t.2 h]
    refine fc_of mixed T_ok Try.func42 rfl (by kernel_rfl) (by kernel_rfl) (by kernel_rfl) ?_
    repeat' ((conv => whnf); first | ((first | apply br_dec | apply br_ndec) <;> intro h <;> try (exfalso; (try dsimp only at h); omega)) | ((first | apply br_seq | apply br_nseq | apply br_not | apply br_intro) <;> intro h) | refine cond_a ?_)
    all_goals (conv => whnf)
    all_goals first
      | exact ret_pure rfl
      | (refine ret_pure (congrArg SV.bool ?_); simp; omega)
      | (exfalso; omega)
      | trace_state
  · rw [fitB_f.2 h]
    refine fc_of mixed T_ok Try.func42 rfl (by kernel_rfl) (by kernel_rfl) (by kernel_rfl) ?_
    repeat' ((conv => whnf); first | ((first | apply br_dec | apply br_ndec) <;> intro h <;> try (exfalso; (try dsimp only at h); omega)) | ((first | apply br_seq | apply br_nseq | apply br_not | apply br_intro) <;> intro h) | refine cond_a ?_)
    all_goals (conv => whnf)
    all_goals first
      | exact ret_pure rfl
      | (refine ret_pure (congrArg SV.bool ?_); simp; omega)
      | (exfalso; omega)
      | trace_state
/-- The row after a move. -/
abbrev mvRow (r : List Int) (F T : Nat) (a : Int) : List Int := (r.set F (r.getD F 0 - a)).set T (r.getD T 0 + a)
def mvE (b : Bk) (f t c : ByteArray) (a : Int) : Int :=
  if idI b.ps f b.n < 0 ∨ idI b.ps t b.n < 0 then 6
  else if idI b.ps f b.n = idI b.ps t b.n then 4
  else if mchk a c ≠ 0 then mchk a c
  else if a < 0 then 4
  else if fitB ((b.row c).getD (sidx b.ps f) 0 - a) = true ∧ fitB ((b.row c).getD (sidx b.ps t) 0 + a) = true then 0 else 4
def Bk.mv1 (b : Bk) (c : ByteArray) (r : List Int) : Bk := if r = z16 then (b.put c r).del c else b.put c r
def Bk.mv (b : Bk) (f t c : ByteArray) (a : Int) : Bk := if mvE b f t c a = 0 then b.mv1 c (mvRow (b.row c) (sidx b.ps f) (sidx b.ps t) a) else b
theorem mv_err {b : Bk} {f t c : ByteArray} {a : Int} (h : mvE b f t c a ≠ 0) : b.mv f t c a = b := if_neg h
theorem idI_lt {ps : List ByteArray} {s : ByteArray} {n : Nat} (h : sidx ps s < n) : idI ps s n = (sidx ps s : Int) := if_pos h
theorem idI_no {ps : List ByteArray} {s : ByteArray} {n : Nat} (h : ¬ sidx ps s < n) : idI ps s n = -1 := if_neg h
theorem pos_Move (b : Bk) (hb : b.Ok) (f t c : ByteArray) (a : Int) : FC Try.prog 4 32 [.ptr 1 0 0 0, .str f, .str t, .agg [.int .i64 a, .str c]] (bkH b) (isOut (.int .i64 (mvE b f t c a)) [(3, bkM false (b.mv f t c a))] 4) := by
  have hn := hb.n
  have c1 := str_Index b.n b.ps f hb.ps (by omega)
  have c2 := str_Index b.n b.ps t hb.ps (by omega)
  have c3 := money_Check a c
  by_cases h1 : sidx b.ps f < b.n
  case neg =>
    have e : mvE b f t c a = 6 := by unfold mvE; rw [idI_no h1, if_pos (Or.inl (by decide))]
    rw [mv_err (by rw [e]; decide), e]
    rw [idI_no h1] at c1
    refine fc_of mixed T_ok Try.func32 rfl (by kernel_rfl) (by kernel_rfl) (by kernel_rfl) ?_
    repeat' ((conv => whnf); first | refine vcall_o (l := [0, 2]) (c1) ?_ | refine vcall_o (l := [0, 2]) (c2) ?_ | refine vcallD_o (l := [0, 2]) (c1) ?_ | refine vcallD_o (l := [0, 2]) (c2) ?_ | ((first | apply br_dec | apply br_ndec) <;> intro h <;> try (exfalso; (try dsimp only at h); omega)) | ((first | apply br_seq | apply br_nseq | apply br_not | apply br_intro) <;> intro h) | refine cond_a ?_)
    all_goals (conv => whnf)
    all_goals first
      | exact ret_out (l := [0, 1, 2, 3]) rfl rfl ⟨rfl, trivial⟩ (allRw_cons allRw_nil)
      | (exfalso; omega)
      | trace_state
  by_cases h2 : sidx b.ps t < b.n
  case neg =>
    have e : mvE b f t c a = 6 := by unfold mvE; rw [idI_no h2, if_pos (Or.inr (by decide))]
    rw [mv_err (by rw [e]; decide), e]
    rw [idI_no h2] at c2
    refine fc_of mixed T_ok Try.func32 rfl (by kernel_rfl) (by kernel_rfl) (by kernel_rfl) ?_
    repeat' ((conv => whnf); first | refine vcall_o (l := [0, 2]) (c1) ?_ | refine vcall_o (l := [0, 2]) (c2) ?_ | refine vcallD_o (l := [0, 2]) (c1) ?_ | refine vcallD_o (l := [0, 2]) (c2) ?_ | ((first | apply br_dec | apply br_ndec) <;> intro h <;> try (exfalso; (try dsimp only at h); omega)) | ((first | apply br_seq | apply br_nseq | apply br_not | apply br_intro) <;> intro h) | refine cond_a ?_)
    all_goals (conv => whnf)
    all_goals first
      | exact ret_out (l := [0, 1, 2, 3]) rfl rfl ⟨rfl, trivial⟩ (allRw_cons allRw_nil)
      | (exfalso; omega)
      | trace_state
  have e0 : mvE b f t c a = if sidx b.ps f = sidx b.ps t then 4 else if mchk a c ≠ 0 then mchk a c else if a < 0 then 4 else if fitB ((b.row c).getD (sidx b.ps f) 0 - a) = true ∧ fitB ((b.row c).getD (sidx b.ps t) 0 + a) = true then 0 else 4 := by
    unfold mvE
    rw [idI_lt h1, idI_lt h2, if_neg (by omega)]
    by_cases q : sidx b.ps f = sidx b.ps t
    · rw [if_pos q, if_pos (by omega)]
    · rw [if_neg q, if_neg (by omega)]
  rw [idI_lt h1] at c1
  rw [idI_lt h2] at c2
  by_cases h3 : sidx b.ps f = sidx b.ps t
  · rw [if_pos h3] at e0
    rw [mv_err (by rw [e0]; decide), e0]
    refine fc_of mixed T_ok Try.func32 rfl (by kernel_rfl) (by kernel_rfl) (by kernel_rfl) ?_
    repeat' ((conv => whnf); first | refine vcall_o (l := [0, 2]) (c1) ?_ | refine vcall_o (l := [0, 2]) (c2) ?_ | refine vcallD_o (l := [0, 2]) (c1) ?_ | refine vcallD_o (l := [0, 2]) (c2) ?_ | ((first | apply br_dec | apply br_ndec) <;> intro h <;> try (exfalso; (try dsimp only at h); omega)) | ((first | apply br_seq | apply br_nseq | apply br_not | apply br_intro) <;> intro h) | refine cond_a ?_)
    all_goals (conv => whnf)
    all_goals first
      | exact ret_out (l := [0, 1, 2, 3]) rfl rfl ⟨rfl, trivial⟩ (allRw_cons allRw_nil)
      | (exfalso; omega)
      | trace_state
  rw [if_neg h3] at e0
  by_cases h4 : mchk a c = 0
  case neg =>
    rw [if_pos h4] at e0
    rw [mv_err (by rw [e0]; exact h4), e0]
    refine fc_of mixed T_ok Try.func32 rfl (by kernel_rfl) (by kernel_rfl) (by kernel_rfl) ?_
    repeat' ((conv => whnf); first | refine vcall_o (l := [0, 2]) (c1) ?_ | refine vcall_o (l := [0, 2]) (c2) ?_ | refine vcallD_o (l := [0, 2]) (c1) ?_ | refine vcallD_o (l := [0, 2]) (c2) ?_ | (refine vcall_pure (c3) rfl rfl rfl ?_) | ((first | apply br_dec | apply br_ndec) <;> intro h <;> try (exfalso; (try dsimp only at h); omega)) | ((first | apply br_seq | apply br_nseq | apply br_not | apply br_intro) <;> intro h) | refine cond_a ?_)
    all_goals (conv => whnf)
    all_goals first
      | exact ret_out (l := [0, 1, 2, 3]) rfl rfl ⟨rfl, trivial⟩ (allRw_cons allRw_nil)
      | (exfalso; omega)
      | trace_state
  rw [if_neg (by simpa using h4)] at e0
  rw [h4] at c3
  have ham := mchk_or a c
  rw [h4] at ham
  have hlen := hb.len (sidx b.cs c)
  have hbd := hb.bd (sidx b.cs c)
  have hF : -4503599627370496 ≤ (b.row c).getD (sidx b.ps f) 0 ∧ (b.row c).getD (sidx b.ps f) 0 ≤ 4503599627370496 := hbd (sidx b.ps f)
  have hT : -4503599627370496 ≤ (b.row c).getD (sidx b.ps t) 0 ∧ (b.row c).getD (sidx b.ps t) 0 ≤ 4503599627370496 := hbd (sidx b.ps t)
  by_cases h5 : a < 0
  · rw [if_pos h5] at e0
    rw [mv_err (by rw [e0]; decide), e0]
    refine fc_of mixed T_ok Try.func32 rfl (by kernel_rfl) (by kernel_rfl) (by kernel_rfl) ?_
    repeat' ((conv => whnf); first | refine vcall_o (l := [0, 2]) (c1) ?_ | refine vcall_o (l := [0, 2]) (c2) ?_ | refine vcallD_o (l := [0, 2]) (c1) ?_ | refine vcallD_o (l := [0, 2]) (c2) ?_ | (refine vcall_pure (c3) rfl rfl rfl ?_) | ((first | apply br_dec | apply br_ndec) <;> intro h <;> try (exfalso; (try dsimp only at h); omega)) | ((first | apply br_seq | apply br_nseq | apply br_not | apply br_intro) <;> intro h) | refine cond_a ?_)
    all_goals (conv => whnf)
    all_goals first
      | exact ret_out (l := [0, 1, 2, 3]) rfl rfl ⟨rfl, trivial⟩ (allRw_cons allRw_nil)
      | (exfalso; omega)
      | trace_state
  rw [if_neg h5] at e0
  have g1 : IntKind.i64.wrap ((b.row c).getD (sidx b.ps f) 0 - a) = (b.row c).getD (sidx b.ps f) 0 - a := w64_in (by omega) (by omega)
  have g2 : ((b.row c).set (sidx b.ps f) ((b.row c).getD (sidx b.ps f) 0 - a)).getD (sidx b.ps t) 0 = (b.row c).getD (sidx b.ps t) 0 := by
    rw [List.getD, List.getElem?_set_ne h3]; rfl
  have g3 : IntKind.i64.wrap ((b.row c).getD (sidx b.ps t) 0 + a) = (b.row c).getD (sidx b.ps t) 0 + a := w64_in (by omega) (by omega)
  have g4 : (mvRow (b.row c) (sidx b.ps f) (sidx b.ps t) a).getD (sidx b.ps f) 0 = (b.row c).getD (sidx b.ps f) 0 - a := by
    unfold mvRow
    rw [List.getD, List.getElem?_set_ne (fun e => h3 e.symm), List.getElem?_set_self (by rw [hlen]; omega)]; rfl
  have g5 : (mvRow (b.row c) (sidx b.ps f) (sidx b.ps t) a).getD (sidx b.ps t) 0 = (b.row c).getD (sidx b.ps t) 0 + a := by
    unfold mvRow
    rw [List.getD, List.getElem?_set_self (by rw [List.length_set, hlen]; omega)]; rfl
  by_cases h6 : fitB ((b.row c).getD (sidx b.ps f) 0 - a) = true ∧ fitB ((b.row c).getD (sidx b.ps t) 0 + a) = true
  case neg =>
    rw [if_neg h6] at e0
    rw [mv_err (by rw [e0]; decide), e0]
    refine fc_of mixed T_ok Try.func32 rfl (by kernel_rfl) (by kernel_rfl) (by kernel_rfl) ?_
    repeat' ((conv => whnf); first | refine vcall_o (l := [0, 2]) (c1) ?_ | refine vcall_o (l := [0, 2]) (c2) ?_ | refine vcallD_o (l := [0, 2]) (c1) ?_ | refine vcallD_o (l := [0, 2]) (c2) ?_ | (refine vcall_pure (c3) rfl rfl rfl ?_) | (refine vcall_pure (pos_within _) rfl rfl rfl ?_) | (refine vcallD_pure (pos_within _) rfl rfl rfl ?_) | ((first | apply br_dec | apply br_ndec) <;> intro h <;> try (exfalso; (try dsimp only at h); omega)) | ((first | apply br_seq | apply br_nseq | apply br_not | apply br_intro) <;> intro h) | refine cond_a ?_)
    all_goals (conv => whnf)
    all_goals (try simp only [toNat0, Int.toNat_natCast, g1, g2, g3, g4, g5] at *)
    all_goals first
      | exact ret_out (l := [0, 1, 2, 3]) rfl rfl ⟨rfl, trivial⟩ (allRw_cons allRw_nil)
      | (exfalso; omega)
      | (exfalso; exact h6 ⟨by assumption, by assumption⟩)
      | trace_state
  rw [if_pos h6] at e0
  have e1 : b.mv f t c a = b.mv1 c (mvRow (b.row c) (sidx b.ps f) (sidx b.ps t) a) := by unfold Bk.mv; rw [if_pos e0]
  rw [e1, e0]
  have h61 := h6.1
  have h62 := h6.2
  by_cases h7 : mvRow (b.row c) (sidx b.ps f) (sidx b.ps t) a = z16
  · unfold Bk.mv1
    rw [if_pos h7]
    refine fc_of mixed T_ok Try.func32 rfl (by kernel_rfl) (by kernel_rfl) (by kernel_rfl) ?_
    repeat' ((conv => whnf); first | refine vcall_o (l := [0, 2]) (c1) ?_ | refine vcall_o (l := [0, 2]) (c2) ?_ | refine vcallD_o (l := [0, 2]) (c1) ?_ | refine vcallD_o (l := [0, 2]) (c2) ?_ | (refine vcall_pure (c3) rfl rfl rfl ?_) | (refine vcall_pure (pos_within _) rfl rfl rfl ?_) | (refine vcallD_pure (pos_within _) rfl rfl rfl ?_) | ((first | apply br_dec | apply br_ndec) <;> intro h <;> try (exfalso; (try dsimp only at h); omega)) | ((first | apply br_seq | apply br_nseq | apply br_not | apply br_intro) <;> intro h) | refine cond_a ?_)
    all_goals (conv => whnf)
    all_goals (try simp only [toNat0, Int.toNat_natCast, g1, g2, g3, g4, g5] at *)
    all_goals first
      | exact ret_out (l := [0, 1, 2, 3]) rfl rfl ⟨rfl, trivial⟩ (allRw_cons allRw_nil)
      | (exfalso; omega)
      | (exfalso; exact bnf h61 (by assumption))
      | (exfalso; exact bnf h62 (by assumption))
      | contradiction
      | trace_state
  · unfold Bk.mv1
    rw [if_neg h7]
    refine fc_of mixed T_ok Try.func32 rfl (by kernel_rfl) (by kernel_rfl) (by kernel_rfl) ?_
    repeat' ((conv => whnf); first | refine vcall_o (l := [0, 2]) (c1) ?_ | refine vcall_o (l := [0, 2]) (c2) ?_ | refine vcallD_o (l := [0, 2]) (c1) ?_ | refine vcallD_o (l := [0, 2]) (c2) ?_ | (refine vcall_pure (c3) rfl rfl rfl ?_) | (refine vcall_pure (pos_within _) rfl rfl rfl ?_) | (refine vcallD_pure (pos_within _) rfl rfl rfl ?_) | ((first | apply br_dec | apply br_ndec) <;> intro h <;> try (exfalso; (try dsimp only at h); omega)) | ((first | apply br_seq | apply br_nseq | apply br_not | apply br_intro) <;> intro h) | refine cond_a ?_)
    all_goals (conv => whnf)
    all_goals (try simp only [toNat0, Int.toNat_natCast, g1, g2, g3, g4, g5] at *)
    all_goals first
      | exact ret_out (l := [0, 1, 2, 3]) rfl rfl ⟨rfl, trivial⟩ (allRw_cons allRw_nil)
      | (exfalso; omega)
      | (exfalso; exact bnf h61 (by assumption))
      | (exfalso; exact bnf h62 (by assumption))
      | contradiction
      | trace_state
end Go.Proofs.Ytkdjnmcaifejjaa

/- Contracts of package calendar: dates, business days. -/
namespace Go.Proofs.Ytkdjnmcaifejjaa
open Go.RowKit Go.Sy
attribute [local irreducible] vcall vloop vcallD retP
set_option maxRecDepth 100000
set_option linter.unusedVariables false
set_option linter.unusedSimpArgs false

/-- A date; its day of the week; date and second of a time. -/
def isD (d : Int) : Bool := decide (0 ≤ d) && decide (d ≤ 99999)
theorem isD_yes {d : Int} : isD d = true ↔ 0 ≤ d ∧ d ≤ 99999 := by unfold isD; simp
theorem isD_no {d : Int} : isD d = false ↔ d < 0 ∨ 99999 < d := by
  unfold isD
  rw [Bool.and_eq_false_iff, decide_eq_false_iff_not, decide_eq_false_iff_not]
  omega
theorem cal_isDate (d : Int) : Pure Try.prog 18 [.int .i64 d] (.bool (isD d)) := by
  unfold isD
  by_cases h1 : 0 ≤ d <;> by_cases h2 : d ≤ 99999
  all_goals simp only [h1, h2, decide_true, decide_false, Bool.and_true, Bool.and_false, Bool.true_and, Bool.false_and]
  all_goals refine fc_of mixed T_ok Try.func18 rfl (by kernel_rfl) (by kernel_rfl) (by kernel_rfl) ?_
  all_goals repeat' ((conv => whnf); first | ((first | apply br_dec | apply br_ndec) <;> intro h <;> try (exfalso; (try dsimp only at h); omega)) | ((first | apply br_seq | apply br_nseq | apply br_not | apply br_intro) <;> intro h) | refine cond_a ?_)
  all_goals (conv => whnf)
  all_goals first
    | exact ret_pure rfl
    | exact ret_pure (congrArg SV.bool (by simp; omega))
    | (exfalso; omega)
    | trace_state
def wkI (d : Int) : Int := if isD d = true then (d + 3) % 7 else -1
theorem tmod_pos {a b : Int} (h : 0 ≤ a) : a.tmod b = a % b := by rw [Int.tmod_eq_emod_of_nonneg h]
theorem tdiv_pos {a b : Int} (h : 0 ≤ a) : a.tdiv b = a / b := by rw [Int.tdiv_eq_ediv_of_nonneg h]
theorem cal_Weekday (d : Int) : Pure Try.prog 36 [.int .i64 d] (.int .i64 (wkI d)) := by
  have c := cal_isDate d
  unfold wkI
  cases h : isD d with
  | true =>
    have hd := isD_yes.1 h
    rw [h] at c
    rw [if_pos rfl]
    refine fc_of mixed T_ok Try.func36 rfl (by kernel_rfl) (by kernel_rfl) (by kernel_rfl) ?_
    repeat' ((conv => whnf); first | (refine vcall_pure (c) rfl rfl rfl ?_) | (refine vcallD_pure (c) rfl rfl rfl ?_) | ((first | apply br_dec | apply br_ndec) <;> intro h <;> try (exfalso; (try dsimp only at h); omega)) | ((first | apply br_seq | apply br_nseq | apply br_not | apply br_intro) <;> intro h) | refine cond_a ?_)
    all_goals (conv => whnf)
    all_goals first
      | exact ret_pure (congrArg (SV.int .i64) (by rw [w64_in (n := d + 3) (by omega) (by omega), tmod_pos (by omega)]))
      | (exfalso; omega)
      | trace_state
  | false =>
    rw [h] at c
    rw [if_neg (by simp)]
    refine fc_of mixed T_ok Try.func36 rfl (by kernel_rfl) (by kernel_rfl) (by kernel_rfl) ?_
    repeat' ((conv => whnf); first | (refine vcall_pure (c) rfl rfl rfl ?_) | (refine vcallD_pure (c) rfl rfl rfl ?_) | ((first | apply br_dec | apply br_ndec) <;> intro h <;> try (exfalso; (try dsimp only at h); omega)) | ((first | apply br_seq | apply br_nseq | apply br_not | apply br_intro) <;> intro h) | refine cond_a ?_)
    all_goals (conv => whnf)
    all_goals first
      | exact ret_pure rfl
      | (exfalso; omega)
      | trace_state
def okT (t : Int) : Bool := decide (0 ≤ t) && (decide (t ≤ 1099511627776) && isD (t / 86400))
def dayI (t : Int) : Int := if okT t = true then t / 86400 else -1
def secI (t : Int) : Int := if okT t = true then t % 86400 else -1
theorem okT_yes {t : Int} : okT t = true ↔ 0 ≤ t ∧ t ≤ 1099511627776 ∧ isD (t / 86400) = true := by unfold okT; simp
theorem cal_Day (t : Int) : Pure Try.prog 22 [.int .i64 t] (.tup [.int .i64 (dayI t), .int .i64 (secI t)]) := by
  have c := cal_isDate (t / 86400)
  unfold dayI secI
  by_cases h1 : 0 ≤ t
  · by_cases h2 : t ≤ 1099511627776
    · have e1 : IntKind.i64.wrap (t.tdiv 86400) = t / 86400 := by rw [tdiv_pos h1, w64_in (by omega) (by omega)]
      have e2 : t.tmod 86400 = t % 86400 := tmod_pos h1
      cases h3 : isD (t / 86400) with
      | true =>
        have hk : okT t = true := okT_yes.2 ⟨h1, h2, h3⟩
        rw [h3] at c
        rw [if_pos hk, if_pos hk]
        refine fc_of mixed T_ok Try.func22 rfl (by kernel_rfl) (by kernel_rfl) (by kernel_rfl) ?_
        repeat' ((conv => whnf); first | (simp only [e1]) | (refine vcall_pure (c) rfl rfl rfl ?_) | (refine vcallD_pure (c) rfl rfl rfl ?_) | ((first | apply br_dec | apply br_ndec) <;> intro h <;> try (exfalso; (try dsimp only at h); omega)) | ((first | apply br_seq | apply br_nseq | apply br_not | apply br_intro) <;> intro h) | refine cond_a ?_)
        all_goals (conv => whnf)
        all_goals (try simp only [e2])
        all_goals first
          | exact ret_pure rfl
          | (exfalso; omega)
          | trace_state
      | false =>
        have hk : ¬ okT t = true := fun q => by have := (okT_yes.1 q).2.2; rw [h3] at this; cases this
        rw [h3] at c
        rw [if_neg hk, if_neg hk]
        refine fc_of mixed T_ok Try.func22 rfl (by kernel_rfl) (by kernel_rfl) (by kernel_rfl) ?_
        repeat' ((conv => whnf); first | (simp only [e1]) | (refine vcall_pure (c) rfl rfl rfl ?_) | (refine vcallD_pure (c) rfl rfl rfl ?_) | ((first | apply br_dec | apply br_ndec) <;> intro h <;> try (exfalso; (try dsimp only at h); omega)) | ((first | apply br_seq | apply br_nseq | apply br_not | apply br_intro) <;> intro h) | refine cond_a ?_)
        all_goals (conv => whnf)
        all_goals first
          | exact ret_pure rfl
          | (exfalso; omega)
          | trace_state
    · have hk : ¬ okT t = true := fun q => h2 (okT_yes.1 q).2.1
      rw [if_neg hk, if_neg hk]
      refine fc_of mixed T_ok Try.func22 rfl (by kernel_rfl) (by kernel_rfl) (by kernel_rfl) ?_
      repeat' ((conv => whnf); first | ((first | apply br_dec | apply br_ndec) <;> intro h <;> try (exfalso; (try dsimp only at h); omega)) | ((first | apply br_seq | apply br_nseq | apply br_not | apply br_intro) <;> intro h) | refine cond_a ?_)
      all_goals (conv => whnf)
      all_goals first
        | exact ret_pure rfl
        | (exfalso; omega)
        | trace_state
  · have hk : ¬ okT t = true := fun q => h1 (okT_yes.1 q).1
    rw [if_neg hk, if_neg hk]
    refine fc_of mixed T_ok Try.func22 rfl (by kernel_rfl) (by kernel_rfl) (by kernel_rfl) ?_
    repeat' ((conv => whnf); first | ((first | apply br_dec | apply br_ndec) <;> intro h <;> try (exfalso; (try dsimp only at h); omega)) | ((first | apply br_seq | apply br_nseq | apply br_not | apply br_intro) <;> intro h) | refine cond_a ?_)
    all_goals (conv => whnf)
    all_goals first
      | exact ret_pure rfl
      | (exfalso; omega)
      | trace_state
/-- A set of dates in a map; a calendar. -/
abbrev tmM (ro : Bool) (n : Nat) (ks : List Int) : Option HB := some (.one ro (.obj (.map false false n [.ints .i64 ks] [.sc (.bools (List.replicate n true))] (List.range n) n)))
abbrev calC (ro : Bool) (h : Nat) : Option HB := some (.one ro (.cells [.map h 0]))
theorem tm_get {n : Nat} {ks : List Int} (hn : ks.length = n) (d : Int) : (List.replicate n true).getD (iidx ks d) false = decide (d ∈ ks) := by
  by_cases h : d ∈ ks
  · rw [decide_eq_true h, List.getD, List.getElem?_replicate, if_pos (by have := iidx_lt.2 h; omega)]; rfl
  · rw [decide_eq_false h, List.getD, List.getElem?_replicate, if_neg (fun q => h (iidx_lt.1 (by omega)))]; rfl
def busB (hs : List Int) (d : Int) : Bool := isD d && (decide ((d + 3) % 7 < 5) && !decide (d ∈ hs))
theorem cal_Business (n : Nat) (ks : List Int) (hn : ks.length = n) (d : Int) : FC Try.prog 3 23 [.ptr 1 0 0 0, .int .i64 d] [(1, calC true 2), (2, tmM true n ks)] (isOut (.bool (busB ks d)) [] 3) := by
  have c1 := cal_isDate d
  have c2 := cal_Weekday d
  have hg := tm_get hn d
  unfold busB
  cases h : isD d with
  | false =>
    rw [h] at c1
    rw [Bool.false_and]
    refine fc_of mixed T_ok Try.func23 rfl (by kernel_rfl) (by kernel_rfl) (by kernel_rfl) ?_
    repeat' ((conv => whnf); first | (refine vcall_pure (c1) rfl rfl rfl ?_) | (refine vcallD_pure (c1) rfl rfl rfl ?_) | (refine vcall_pure (c2) rfl rfl rfl ?_) | (refine vcallD_pure (c2) rfl rfl rfl ?_) | ((first | apply br_dec | apply br_ndec) <;> intro h <;> try (exfalso; (try dsimp only at h); omega)) | ((first | apply br_seq | apply br_nseq | apply br_not | apply br_intro) <;> intro h) | refine cond_a ?_)
    all_goals (conv => whnf)
    all_goals first
      | exact ret_out (l := [0, 1, 2]) rfl rfl trivial allRw_nil
      | (exfalso; omega)
      | trace_state
  | true =>
    have hd := isD_yes.1 h
    unfold wkI at c2
    rw [if_pos h] at c2
    rw [h] at c1
    rw [Bool.true_and]
    by_cases q : (d + 3) % 7 < 5
    · rw [decide_eq_true q, Bool.true_and]
      refine fc_of mixed T_ok Try.func23 rfl (by kernel_rfl) (by kernel_rfl) (by kernel_rfl) ?_
      repeat' ((conv => whnf); first | (refine vcall_pure (c1) rfl rfl rfl ?_) | (refine vcallD_pure (c1) rfl rfl rfl ?_) | (refine vcall_pure (c2) rfl rfl rfl ?_) | (refine vcallD_pure (c2) rfl rfl rfl ?_) | ((first | apply br_dec | apply br_ndec) <;> intro h <;> try (exfalso; (try dsimp only at h); omega)) | ((first | apply br_seq | apply br_nseq | apply br_not | apply br_intro) <;> intro h) | refine cond_a ?_)
      all_goals (conv => whnf)
      all_goals (try simp only [hg] at *)
      all_goals first
        | exact ret_out (l := [0, 1, 2]) rfl rfl trivial allRw_nil
        | (exfalso; omega)
        | trace_state
    · rw [decide_eq_false q, Bool.false_and]
      refine fc_of mixed T_ok Try.func23 rfl (by kernel_rfl) (by kernel_rfl) (by kernel_rfl) ?_
      repeat' ((conv => whnf); first | (refine vcall_pure (c1) rfl rfl rfl ?_) | (refine vcallD_pure (c1) rfl rfl rfl ?_) | (refine vcall_pure (c2) rfl rfl rfl ?_) | (refine vcallD_pure (c2) rfl rfl rfl ?_) | ((first | apply br_dec | apply br_ndec) <;> intro h <;> try (exfalso; (try dsimp only at h); omega)) | ((first | apply br_seq | apply br_nseq | apply br_not | apply br_intro) <;> intro h) | refine cond_a ?_)
      all_goals (conv => whnf)
      all_goals first
        | exact ret_out (l := [0, 1, 2]) rfl rfl trivial allRw_nil
        | (exfalso; omega)
        | trace_state
/-- The first business day at a date or later; none: -1. -/
def nxK (p : Int → Bool) : Nat → Int → Int
  | 0, _ => -1
  | k + 1, d => if p d = true then d else nxK p k (d + 1)
def nxI (hs : List Int) (d : Int) : Int := nxK (busB hs) (100000 - d).toNat d
def nxV (x : Int) : SV := if x < 0 then .tup [.int .i64 0, .int .i64 4] else .tup [.int .i64 x, .int .i64 0]
theorem nxI_yes {hs : List Int} {d : Int} (h : busB hs d = true) (hd : d ≤ 99999) : nxI hs d = d := by
  unfold nxI
  obtain ⟨k, hk⟩ : ∃ k, (100000 - d).toNat = k + 1 := ⟨(99999 - d).toNat, by omega⟩
  rw [hk]; exact if_pos h
theorem nxI_no {hs : List Int} {d : Int} (h : busB hs d = false) (hd : d ≤ 99999) : nxI hs d = nxI hs (d + 1) := by
  unfold nxI
  obtain ⟨k, hk⟩ : ∃ k, (100000 - d).toNat = k + 1 := ⟨(99999 - d).toNat, by omega⟩
  rw [hk, show (100000 - (d + 1)).toNat = k by omega]
  simp only [nxK, h, Bool.false_eq_true, if_false]
theorem nxI_end {hs : List Int} {d : Int} (hd : 99999 < d) : nxI hs d = -1 := by
  unfold nxI
  rw [show (100000 - d).toNat = 0 by omega]; rfl
theorem cal_Next (n : Nat) (ks : List Int) (hn : ks.length = n) (d : Int) : FC Try.prog 3 37 [.ptr 1 0 0 0, .int .i64 d] [(1, calC true 2), (2, tmM true n ks)] (isOut (if isD d = true then nxV (nxI ks d) else nxV (-1)) [] 3) := by
  have c1 := cal_isDate d
  cases h : isD d with
  | false =>
    rw [h] at c1
    rw [if_neg (by simp)]
    refine fc_of mixed T_ok Try.func37 rfl (by kernel_rfl) (by kernel_rfl) (by kernel_rfl) ?_
    repeat' ((conv => whnf); first | (refine vcall_pure (c1) rfl rfl rfl ?_) | (refine vcallD_pure (c1) rfl rfl rfl ?_) | ((first | apply br_dec | apply br_ndec) <;> intro h <;> try (exfalso; (try dsimp only at h); omega)) | ((first | apply br_seq | apply br_nseq | apply br_not | apply br_intro) <;> intro h) | refine cond_a ?_)
    all_goals (conv => whnf)
    all_goals first
      | exact ret_out (l := [0, 1, 2]) rfl rfl trivial allRw_nil
      | (exfalso; omega)
      | trace_state
  | true =>
    have hd := isD_yes.1 h
    rw [h] at c1
    rw [if_pos rfl]
    obtain ⟨a, ea⟩ := Int.eq_ofNat_of_zero_le hd.1
    subst ea
    generalize hX : nxI ks (a : Int) = X
    refine fc_of mixed T_ok Try.func37 rfl (by kernel_rfl) (by kernel_rfl) (by kernel_rfl) ?_
    repeat' ((conv => whnf); first | (refine vcall_pure (c1) rfl rfl rfl ?_) | (refine vcallD_pure (c1) rfl rfl rfl ?_) | ((first | apply br_dec | apply br_ndec) <;> intro h <;> try (exfalso; (try dsimp only at h); omega)) | ((first | apply br_seq | apply br_nseq | apply br_not | apply br_intro) <;> intro h) | refine cond_a ?_)
    all_goals (conv => whnf)
    refine vloop_lp (fun k : Nat => ⟨[(0, .ptr 1 0 0 0), (1, .int .i64 k)], [(1, calC true 2), (2, tmM true n ks)], 3⟩) (fun k => k ≤ 100000 ∧ nxI ks (k : Int) = X) (fun k => 100000 - k) a [0, 1, 2] [] ⟨rfl, ⟨rfl, rfl, trivial⟩, ⟨rfl, rfl, trivial⟩⟩ ⟨by omega, hX⟩ ?_
    rintro k ⟨hk, hx⟩
    have c := cal_Business n ks hn k
    by_cases hk2 : k ≤ 99999
    · cases hb : busB ks k with
      | true =>
        rw [nxI_yes hb (by omega)] at hx
        subst hx
        rw [hb] at c
        unfold nxV
        rw [if_neg (by omega)]
        repeat' ((conv => whnf); first | refine vcall_o (l := [0, 1, 2]) (c) ?_ | ((first | apply br_dec | apply br_ndec) <;> intro h <;> try (exfalso; (try dsimp only at h); omega)) | ((first | apply br_seq | apply br_nseq | apply br_not | apply br_intro) <;> intro h) | refine cond_a ?_)
        all_goals (conv => whnf)
        all_goals first
          | exact ret_out (l := [0, 1, 2]) rfl rfl trivial allRw_nil
          | (exfalso; omega)
          | trace_state
      | false =>
        rw [nxI_no hb (by omega)] at hx
        rw [hb] at c
        repeat' ((conv => whnf); first | refine vcall_o (l := [0, 1, 2]) (c) ?_ | ((first | apply br_dec | apply br_ndec) <;> intro h <;> try (exfalso; (try dsimp only at h); omega)) | ((first | apply br_seq | apply br_nseq | apply br_not | apply br_intro) <;> intro h) | refine cond_a ?_)
        all_goals (conv => whnf)
        all_goals first
          | exact ⟨k + 1, [0, 1, 2], [], ⟨by omega, hx⟩, (show 100000 - (k + 1) < 100000 - k by omega), ⟨rfl, ⟨rfl, congrArg (fun z => some (SV.int .i64 z)) (i64_succ (by omega)), trivial⟩, ⟨rfl, rfl, trivial⟩⟩⟩
          | (exfalso; omega)
          | trace_state
    · rw [nxI_end (by omega)] at hx
      subst hx
      repeat' ((conv => whnf); first | ((first | apply br_dec | apply br_ndec) <;> intro h <;> try (exfalso; (try dsimp only at h); omega)) | ((first | apply br_seq | apply br_nseq | apply br_not | apply br_intro) <;> intro h) | refine cond_a ?_)
      all_goals (conv => whnf)
      all_goals first
        | exact ret_out (l := [0, 1, 2]) rfl rfl trivial allRw_nil
        | (exfalso; omega)
        | trace_state
/-- The dates, each once. -/
def ddL (l : List Int) (k : Nat) : List Int := (l.take k).foldl (fun s d => if d ∈ s then s else s ++ [d]) []
theorem ddL_succ {l : List Int} {k : Nat} (h : k < l.length) : ddL l (k + 1) = if l.getD k 0 ∈ ddL l k then ddL l k else ddL l k ++ [l.getD k 0] := by
  unfold ddL
  rw [List.take_add_one, List.getElem?_eq_getElem h, List.foldl_append]
  simp only [Option.toList_some, List.foldl_cons, List.foldl_nil, List.getD, List.getElem?_eq_getElem h, Option.getD_some]
def ddS (l : List Int) : List Int := ddL l l.length
/-- The first holiday that is no date. -/
def holK (l : List Int) : Nat → Bool
  | 0 => true
  | k + 1 => holK l k && isD (l.getD k 0)
theorem holK_stop {l : List Int} {k : Nat} (h : isD (l.getD k 0) = false) : ∀ n, k < n → holK l n = false
  | 0, q => by omega
  | n + 1, q => by
    simp only [holK]
    by_cases e : k = n
    · subst e; rw [h, Bool.and_false]
    · rw [holK_stop h n (by omega), Bool.false_and]
/-- The error of New. -/
def holE (l : List Int) (n : Nat) : Int := if 400 < n then 3 else if holK l n = true then 0 else 4
def holO (l : List Int) (n : Nat) : SV → Heap → Nat → Prop := if holE l n = 0 then isOut (.tup [.ptr 2 0 0 0, .int .i64 0]) [(2, calC false 3), (3, tmM false (ddS l).length (ddS l))] 4 else isOut (.tup [.nptr, .int .i64 (holE l n)]) [] 2
theorem tmPut {m : Nat} {s : List Int} (hm : s.length = m) (x : Int) : (some (HB.one false (.obj (.map false false (if iidx s x < m then m else m + 1) [.ints .i64 (putL (iidx s x) x s)] [.sc (.bools (putL (iidx s x) true (List.replicate m true)))] (if iidx s x < m then List.range m else List.range m ++ [m]) (if iidx s x < m then m else m + 1)))) : Option HB) = tmM false (if x ∈ s then s else s ++ [x]).length (if x ∈ s then s else s ++ [x]) := by
  rw [iput_key]
  by_cases h : x ∈ s
  · have hi := iidx_lt.2 h
    rw [if_pos h, if_pos hi, if_pos (by omega), if_pos (by omega), hm]
    unfold putL
    rw [List.length_replicate, if_pos (by omega), List.set_replicate_self]
  · have hi : ¬ iidx s x < s.length := fun q => h (iidx_lt.1 q)
    rw [if_neg h, if_neg hi, if_neg (by omega), if_neg (by omega)]
    unfold putL
    have e : List.replicate m true ++ [true] = List.replicate (m + 1) true := List.replicate_succ'.symm
    rw [List.length_replicate, if_neg (by omega), List.length_append, hm, List.length_singleton, ← List.range_succ, e]
theorem cal_New (l : List Int) (n : Nat) (hl : l.length = n) : FC Try.prog 2 6 [.sl 1 0 0 n] [(1, some (.one true (.cols n [.sc (.ints .i64 l)])))] (holO l n) := by
  unfold holO holE
  by_cases h4 : 400 < n
  · rw [if_pos h4, if_neg (by decide)]
    refine fc_of mixed T_ok Try.func6 rfl (by kernel_rfl) (by kernel_rfl) (by kernel_rfl) ?_
    repeat' ((conv => whnf); first | ((first | apply br_dec | apply br_ndec) <;> intro h <;> try (exfalso; (try dsimp only at h); omega)) | ((first | apply br_seq | apply br_nseq | apply br_not | apply br_intro) <;> intro h) | refine cond_a ?_)
    all_goals (conv => whnf)
    all_goals first
      | exact ret_out (l := [0, 1]) rfl rfl trivial allRw_nil
      | (exfalso; omega)
      | trace_state
  rw [if_neg h4]
  refine fc_of mixed T_ok Try.func6 rfl (by kernel_rfl) (by kernel_rfl) (by kernel_rfl) ?_
  repeat' ((conv => whnf); first | ((first | apply br_dec | apply br_ndec) <;> intro h <;> try (exfalso; (try dsimp only at h); omega)) | ((first | apply br_seq | apply br_nseq | apply br_not | apply br_intro) <;> intro h) | refine cond_a ?_)
  all_goals (conv => whnf)
  all_goals first
    | (exfalso; omega)
    | skip
  refine vloop_lp (fun k : Nat => ⟨[(4, .ptr 3 0 0 0), (13, .sl 1 0 0 n), (14, .int .i64 n), (15, .int .i64 k)], [(1, some (.one true (.cols n [.sc (.ints .i64 l)]))), (2, tmM false (ddL l k).length (ddL l k)), (3, calC false 2)], 4⟩) (fun k => k ≤ n ∧ holK l k = true) (fun k => n - k) 0 [0, 1, 2, 3] [] ⟨rfl, ⟨rfl, rfl, rfl, rfl, trivial⟩, ⟨rfl, rfl, rfl, trivial⟩⟩ ⟨Nat.zero_le _, rfl⟩ ?_
  rintro k ⟨hk, hh⟩
  by_cases hk2 : k < n
  · have c := cal_isDate (l.getD k 0)
    have hs := ddL_succ (l := l) (k := k) (by omega)
    cases hb : isD (l.getD k 0) with
    | false =>
      rw [hb] at c
      rw [if_neg (by rw [if_neg (by rw [holK_stop hb n hk2]; simp)]; decide), if_neg (by rw [holK_stop hb n hk2]; simp)]
      repeat' ((conv => whnf); first | (refine vcall_pure (c) rfl rfl rfl ?_) | (refine vcallD_pure (c) rfl rfl rfl ?_) | ((first | apply br_dec | apply br_ndec) <;> intro h <;> try (exfalso; (try dsimp only at h); omega)) | ((first | apply br_seq | apply br_nseq | apply br_not | apply br_intro) <;> intro h) | refine cond_a ?_)
      all_goals (conv => whnf)
      all_goals first
        | exact ret_out (l := [0, 1]) rfl rfl trivial allRw_nil
        | (exfalso; omega)
        | trace_state
    | true =>
      rw [hb] at c
      have ht := tmPut (s := ddL l k) rfl (l.getD k 0)
      rw [← hs] at ht
      have hh2 : holK l (k + 1) = true := by simp only [holK, hh, hb, Bool.and_true]
      repeat' ((conv => whnf); first | (refine vcall_pure (c) rfl rfl rfl ?_) | (refine vcallD_pure (c) rfl rfl rfl ?_) | ((first | apply br_dec | apply br_ndec) <;> intro h <;> try (exfalso; (try dsimp only at h); omega)) | ((first | apply br_seq | apply br_nseq | apply br_not | apply br_intro) <;> intro h) | refine cond_a ?_)
      all_goals (conv => whnf)
      all_goals (try simp only [toNat0, Int.toNat_natCast, Nat.add_zero] at *)
      all_goals first
        | exact ⟨k + 1, [0, 1, 2, 3], [], ⟨hk2, hh2⟩, (show n - (k + 1) < n - k by omega), ⟨rfl, ⟨rfl, rfl, rfl, congrArg (fun z => some (SV.int .i64 z)) (i64_succ (by omega)), trivial⟩, ⟨rfl, ht, rfl, trivial⟩⟩⟩
        | (exfalso; omega)
        | trace_state
  · have e : k = n := by omega
    subst e
    rw [if_pos (by rw [if_pos hh])]
    unfold ddS
    rw [hl]
    repeat' ((conv => whnf); first | ((first | apply br_dec | apply br_ndec) <;> intro h <;> try (exfalso; (try dsimp only at h); omega)) | ((first | apply br_seq | apply br_nseq | apply br_not | apply br_intro) <;> intro h) | refine cond_a ?_)
    all_goals (conv => whnf)
    all_goals first
      | exact ret_out (l := [0, 1, 3, 2]) rfl rfl ⟨rfl, rfl, trivial⟩ (allRw_cons (allRw_cons allRw_nil))
      | (exfalso; omega)
      | trace_state
end Go.Proofs.Ytkdjnmcaifejjaa

/- Contracts: what a party owes, the currencies of a book, capital letters. -/
namespace Go.Proofs.Ytkdjnmcaifejjaa
open Go.RowKit Go.Sy
attribute [local irreducible] vcall vloop vcallD retP
set_option maxRecDepth 100000
set_option linter.unusedVariables false
set_option linter.unusedSimpArgs false

def netI (b : Bk) (p c : ByteArray) : Int := if sidx b.ps p < b.n then (b.row c).getD (sidx b.ps p) 0 else 0
theorem bk_keys (n : Nat) (ks : List ByteArray) (vs : List (List Int)) (bs : List Nat) (ck : Nat) : FC Try.prog 2 49 [.map 1 0] [] (isOut (.fn 75 [.ptr 2 0 0 0]) [(2, some (.one false (.cells [.map 1 0])))] 3) := by
  refine fc_of mixed T_ok Try.func49 rfl (by kernel_rfl) (by kernel_rfl) (by kernel_rfl) ?_
  repeat' ((conv => whnf); first | ((first | apply br_dec | apply br_ndec) <;> intro h <;> try (exfalso; (try dsimp only at h); omega)) | ((first | apply br_seq | apply br_nseq | apply br_not | apply br_intro) <;> intro h) | refine cond_a ?_)
  all_goals (conv => whnf)
  all_goals exact ret_out (l := [0, 1, 2]) rfl rfl ⟨rfl, trivial⟩ (allRw_cons allRw_nil)
theorem bk_sorted {n : Nat} {ks : List ByteArray} (vs : List (List Int)) (bs : List Nat) (ck : Nat) (hn : n ≤ 100000) (hz : ∀ s ∈ ks, s.size ≤ 9223372036854775807) (hnd : ks.Nodup) :
    FC Try.prog 3 48 [.fn 75 [.ptr 2 0 0 0]] [(1, some (.one true (.obj (.map false false n [.strs ks] [.arrs 16 .i64 vs] bs ck)))), (2, some (.one true (.cells [.map 1 0])))] (isOut (.sl 3 0 0 n) [(3, some (.one false (.cols n [.sc (.strs (sortS ks))])))] 4) :=
  fc_sorted (ρ := Try.keys49_ren) (ρ' := Try.sorted_ren) rfl rfl rfl { Try.keys49 with } Try.sorted
    (fun m => ⟨fun blk off cap ss W hH hblk hsz => callsIn_wide.2 (AnyM.slices_Sort_string Try.sortS blk off cap ss W hH hblk hsz), fun p cap W => callsIn_wide.2 (AnyM.slices_Sort_string_none Try.sortS p cap W)⟩)
    (bodied_of Try.func48 (by kernel_rfl) (by kernel_rfl)) (enters_of Try.func35 (by kernel_rfl) rfl) (enters_of Try.func75 (by kernel_rfl) rfl) Try.underlying9 hn hz hnd
/-- What the currencies of a book need. -/
structure Bk.Cok (b : Bk) : Prop where
  m : b.m ≤ 100000
  sz : ∀ s ∈ b.cs, s.size ≤ 9223372036854775807
  nd : b.cs.Nodup
theorem pos_Currencies (b : Bk) (hc : b.Cok) : FC Try.prog 4 39 [.ptr 1 0 0 0] (bkR b) (isOut (.sl 4 0 0 b.m) [(4, some (.one false (.cols b.m [.sc (.strs (sortS b.cs))])))] 5) := by
  have c1 := bk_keys b.m b.cs b.vs b.bs b.ck
  have c2 := bk_sorted (n := b.m) (ks := b.cs) b.vs b.bs b.ck hc.m hc.sz hc.nd
  refine fc_of mixed T_ok Try.func39 rfl (by kernel_rfl) (by kernel_rfl) (by kernel_rfl) ?_
  repeat' ((conv => whnf); first | refine vcall_o (l := [0, 3]) (c1) ?_ | refine vcall_o (l := [0, 3, 4]) (c2) ?_ | ((first | apply br_dec | apply br_ndec) <;> intro h <;> try (exfalso; (try dsimp only at h); omega)) | ((first | apply br_seq | apply br_nseq | apply br_not | apply br_intro) <;> intro h) | refine cond_a ?_)
  all_goals (conv => whnf)
  all_goals exact ret_out (l := [0, 1, 2, 3, 5]) rfl rfl ⟨rfl, trivial⟩ (allRw_cons allRw_nil)
end Go.Proofs.Ytkdjnmcaifejjaa

/- Contract: the positions of a book that are not zero. -/
namespace Go.Proofs.Ytkdjnmcaifejjaa
open Go.RowKit Go.Sy
attribute [local irreducible] vcall vloop vcallD retP
set_option maxRecDepth 100000
set_option linter.unusedVariables false
set_option linter.unusedSimpArgs false

structure Px where
  p : ByteArray
  a : Int
  c : ByteArray
def px0 : Px := ⟨⟨#[]⟩, 0, ⟨#[]⟩⟩
structure PxC where
  p : List ByteArray
  a : List Int
  c : List ByteArray
def pxOf (L : List Px) : PxC := ⟨L.map Px.p, L.map Px.a, L.map Px.c⟩
theorem pxOf_snoc (L : List Px) (x : Px) : pxOf (L ++ [x]) = ⟨(pxOf L).p ++ [x.p], (pxOf L).a ++ [x.a], (pxOf L).c ++ [x.c]⟩ := by simp [pxOf]
abbrev pxB (n : Nat) (q : PxC) : Blk := .cols n [.sc (.strs q.p), .sc (.ints .i64 q.a), .sc (.strs q.c)]
/-- The positions of a row that are not zero. -/
def liR (r : List Int) (ps : List ByteArray) (c : ByteArray) : Nat → List Px
  | 0 => []
  | i + 1 => if r.getD i 0 = 0 then liR r ps c i else liR r ps c i ++ [⟨ps.getD i ⟨#[]⟩, r.getD i 0, c⟩]
def liA (b : Bk) (cs : List ByteArray) : Nat → List Px
  | 0 => []
  | k + 1 => liA b cs k ++ liR (b.row (cs.getD k ⟨#[]⟩)) b.ps (cs.getD k ⟨#[]⟩) b.n
def Bk.list (b : Bk) : List Px := liA b (sortS b.cs) b.m
theorem liR_len (r : List Int) (ps : List ByteArray) (c : ByteArray) : ∀ i, (liR r ps c i).length ≤ i
  | 0 => Nat.le_refl _
  | i + 1 => by
    have := liR_len r ps c i
    simp only [liR]
    split <;> simp <;> omega
theorem liA_len (b : Bk) (cs : List ByteArray) : ∀ k, (liA b cs k).length ≤ k * b.n
  | 0 => by simp [liA]
  | k + 1 => by
    have := liA_len b cs k
    have h2 := liR_len (b.row (cs.getD k ⟨#[]⟩)) b.ps (cs.getD k ⟨#[]⟩) b.n
    simp only [liA, List.length_append]
    rw [Nat.succ_mul]; omega
theorem pos_List (b : Bk) (hb : b.Ok) (hc : b.Cok) : FC Try.prog 4 30 [.ptr 1 0 0 0] (bkR b) (isOut (.sl 4 0 0 b.list.length) [(4, some (.one false (pxB b.list.length (pxOf b.list))))] 5) := by
  have hn := hb.n
  have hm := hc.m
  have c1 := pos_Currencies b hc
  refine fc_of mixed T_ok Try.func30 rfl (by kernel_rfl) (by kernel_rfl) (by kernel_rfl) ?_
  repeat' ((conv => whnf); first | refine vcall_o (l := [0, 1, 2, 3]) (c1) ?_ | ((first | apply br_dec | apply br_ndec) <;> intro h <;> try (exfalso; (try dsimp only at h); omega)) | ((first | apply br_seq | apply br_nseq | apply br_not | apply br_intro) <;> intro h) | refine cond_a ?_)
  all_goals (conv => whnf)
  refine vloop_lp (fun x : Nat × Nat × List Px => ⟨[(0, .ptr 1 0 0 0), (12, .sl 4 0 0 b.m), (13, .int .i64 b.m), (14, .int .i64 x.1), (3, .sl 5 0 0 x.2.1)], (4, some (.one false (.cols b.m [.sc (.strs (sortS b.cs))]))) :: (5, some (.one false (pxB x.2.1 (pxOf x.2.2)))) :: bkR b, 6⟩) (fun x => x.1 ≤ b.m ∧ x.2.2 = liA b (sortS b.cs) x.1 ∧ x.2.2.length = x.2.1) (fun x => b.m - x.1) (0, 0, []) [0, 1, 2, 3, 4, 5] [.slot 3 [.sc (.strs []), .sc (.ints .i64 []), .sc (.strs [])]] ⟨rfl, ⟨rfl, rfl, rfl, rfl, rfl, trivial⟩, ⟨rfl, rfl, rfl, rfl, rfl, trivial⟩⟩ ⟨Nat.zero_le _, rfl, rfl⟩ ?_
  rintro ⟨k, m, L⟩ ⟨hk, hL, hl⟩
  dsimp only at hk hL hl
  by_cases hk2 : k < b.m
  · have hstep : liA b (sortS b.cs) (k + 1) = L ++ liR (b.row ((sortS b.cs).getD k ⟨#[]⟩)) b.ps ((sortS b.cs).getD k ⟨#[]⟩) b.n := by rw [hL]; rfl
    repeat' ((conv => whnf); first | ((first | apply br_dec | apply br_ndec) <;> intro h <;> try (exfalso; (try dsimp only at h); omega)) | ((first | apply br_seq | apply br_nseq | apply br_not | apply br_intro) <;> intro h) | refine cond_a ?_)
    all_goals (conv => whnf)
    all_goals (try simp only [toNat0] at *)
    all_goals first
      | (exfalso; omega)
      | skip
    refine vloop_lp (fun x : Nat × Nat × List Px => ⟨[(0, .ptr 1 0 0 0), (12, .sl 4 0 0 b.m), (13, .int .i64 b.m), (14, .int .i64 k), (3, .sl 5 0 0 x.2.1), (5, .str ((sortS b.cs).getD k ⟨#[]⟩)), (6, .ptr 6 0 0 0), (27, .sl 2 0 0 b.n), (28, .int .i64 b.n), (29, .int .i64 x.1)], (4, some (.one false (.cols b.m [.sc (.strs (sortS b.cs))]))) :: (5, some (.one false (pxB x.2.1 (pxOf x.2.2)))) :: (6, some (.one false (.cols 16 [.sc (.ints .i64 (b.row ((sortS b.cs).getD k ⟨#[]⟩)))]))) :: bkR b, 7⟩) (fun x => x.1 ≤ b.n ∧ x.2.2 = L ++ liR (b.row ((sortS b.cs).getD k ⟨#[]⟩)) b.ps ((sortS b.cs).getD k ⟨#[]⟩) x.1 ∧ x.2.2.length = x.2.1) (fun x => b.n - x.1) (0, m, L) [0, 1, 2, 3, 4, 5, 6] [] ⟨rfl, ⟨rfl, rfl, rfl, rfl, rfl, rfl, rfl, rfl, rfl, rfl, trivial⟩, ⟨rfl, rfl, rfl, rfl, rfl, rfl, trivial⟩⟩ ⟨Nat.zero_le _, (List.append_nil L).symm, hl⟩ ?_
    rintro ⟨i, m2, L2⟩ ⟨hi, hL2, hl2⟩
    dsimp only at hi hL2 hl2
    have hmb : m2 ≤ 1600016 := by
      have b1 := liA_len b (sortS b.cs) k
      have b2 := liR_len (b.row ((sortS b.cs).getD k ⟨#[]⟩)) b.ps ((sortS b.cs).getD k ⟨#[]⟩) i
      have b3 : k * b.n ≤ 100000 * 16 := Nat.mul_le_mul (by omega) hn
      rw [← hl2, hL2, List.length_append, hL]; omega
    by_cases hi2 : i < b.n
    · by_cases hz : (b.row ((sortS b.cs).getD k ⟨#[]⟩)).getD i 0 = 0
      · have h3 : L2 = L ++ liR (b.row ((sortS b.cs).getD k ⟨#[]⟩)) b.ps ((sortS b.cs).getD k ⟨#[]⟩) (i + 1) := by simp only [liR]; rw [if_pos hz]; exact hL2
        repeat' ((conv => whnf); first | ((first | apply br_dec | apply br_ndec) <;> intro h <;> try (exfalso; (try dsimp only at h); omega)) | ((first | apply br_seq | apply br_nseq | apply br_not | apply br_intro) <;> intro h) | refine cond_a ?_)
        all_goals (conv => whnf)
        all_goals (try simp only [toNat0, Int.toNat_natCast] at *)
        all_goals first
          | exact ⟨(i + 1, m2, L2), [0, 1, 2, 3, 4, 5, 6], [], ⟨hi2, h3, hl2⟩, (show b.n - (i + 1) < b.n - i by omega), ⟨rfl, ⟨rfl, rfl, rfl, rfl, rfl, rfl, rfl, rfl, rfl, congrArg (fun z => some (SV.int .i64 z)) (i64_succ (by omega)), trivial⟩, ⟨rfl, rfl, rfl, rfl, rfl, rfl, trivial⟩⟩⟩
          | (exfalso; omega)
          | contradiction
          | trace_state
      · have h3 : L2 ++ [⟨b.ps.getD i ⟨#[]⟩, (b.row ((sortS b.cs).getD k ⟨#[]⟩)).getD i 0, (sortS b.cs).getD k ⟨#[]⟩⟩] = L ++ liR (b.row ((sortS b.cs).getD k ⟨#[]⟩)) b.ps ((sortS b.cs).getD k ⟨#[]⟩) (i + 1) := by simp only [liR]; rw [if_neg hz, hL2, List.append_assoc]
        have h4 : (L2 ++ [(⟨b.ps.getD i ⟨#[]⟩, (b.row ((sortS b.cs).getD k ⟨#[]⟩)).getD i 0, (sortS b.cs).getD k ⟨#[]⟩⟩ : Px)]).length = m2 + 1 := by rw [List.length_append, hl2]; rfl
        have h5 := pxOf_snoc L2 ⟨b.ps.getD i ⟨#[]⟩, (b.row ((sortS b.cs).getD k ⟨#[]⟩)).getD i 0, (sortS b.cs).getD k ⟨#[]⟩⟩
        have h6 : (some (HB.one false (pxB (m2 + 1) ⟨(pxOf L2).p ++ [b.ps.getD i ⟨#[]⟩], (pxOf L2).a ++ [(b.row ((sortS b.cs).getD k ⟨#[]⟩)).getD i 0], (pxOf L2).c ++ [(sortS b.cs).getD k ⟨#[]⟩]⟩)) : Option HB) = some (.one false (pxB (m2 + 1) (pxOf (L2 ++ [⟨b.ps.getD i ⟨#[]⟩, (b.row ((sortS b.cs).getD k ⟨#[]⟩)).getD i 0, (sortS b.cs).getD k ⟨#[]⟩⟩])))) := by rw [h5]
        repeat' ((conv => whnf); first | ((first | apply br_dec | apply br_ndec) <;> intro h <;> try (exfalso; (try dsimp only at h); omega)) | ((first | apply br_seq | apply br_nseq | apply br_not | apply br_intro) <;> intro h) | refine cond_a ?_)
        all_goals (conv => whnf)
        all_goals (try simp only [toNat0, Int.toNat_natCast] at *)
        all_goals first
          | exact ⟨(i + 1, m2 + 1, _), [0, 1, 2, 3, 4, 8, 6], [], ⟨hi2, h3, h4⟩, (show b.n - (i + 1) < b.n - i by omega), ⟨rfl, ⟨rfl, rfl, rfl, rfl, rfl, rfl, rfl, rfl, rfl, congrArg (fun z => some (SV.int .i64 z)) (i64_succ (by omega)), trivial⟩, ⟨rfl, h6, rfl, rfl, rfl, rfl, trivial⟩⟩⟩
          | (exfalso; omega)
          | contradiction
          | trace_state
    · have ei : i = b.n := by omega
      subst ei
      repeat' ((conv => whnf); first | ((first | apply br_dec | apply br_ndec) <;> intro h <;> try (exfalso; (try dsimp only at h); omega)) | ((first | apply br_seq | apply br_nseq | apply br_not | apply br_intro) <;> intro h) | refine cond_a ?_)
      all_goals (conv => whnf)
      all_goals (try simp only [toNat0] at *)
      all_goals first
        | exact ⟨(k + 1, m2, L2), [0, 1, 2, 3, 4, 5], [], ⟨hk2, hL2.trans hstep.symm, hl2⟩, (show b.m - (k + 1) < b.m - k by omega), ⟨rfl, ⟨rfl, rfl, rfl, congrArg (fun z => some (SV.int .i64 z)) (i64_succ (by omega)), rfl, trivial⟩, ⟨rfl, rfl, rfl, rfl, rfl, trivial⟩⟩⟩
        | (exfalso; omega)
        | trace_state
  · have e : k = b.m := by omega
    subst e
    have e2 : L = b.list := hL
    subst e2
    rw [hl]
    repeat' ((conv => whnf); first | ((first | apply br_dec | apply br_ndec) <;> intro h <;> try (exfalso; (try dsimp only at h); omega)) | ((first | apply br_seq | apply br_nseq | apply br_not | apply br_intro) <;> intro h) | refine cond_a ?_)
    all_goals (conv => whnf)
    all_goals first
      | exact ret_out (l := [0, 1, 2, 3, 5]) rfl rfl ⟨rfl, trivial⟩ (allRw_cons allRw_nil)
      | (exfalso; omega)
      | trace_state
end Go.Proofs.Ytkdjnmcaifejjaa

/- Contracts: the sum of weights, the stable sort of at most 16 places by their rests. -/
namespace Go.Proofs.Ytkdjnmcaifejjaa
open Go.RowKit Go.Sy
attribute [local irreducible] vcall vloop vcallD retP
set_option maxRecDepth 100000
set_option linter.unusedVariables false
set_option linter.unusedSimpArgs false

theorem set_getD2 (l : List Int) (i k : Nat) (x : Int) (h : i < l.length) : (l.set i x).getD k 0 = if k = i then x else l.getD k 0 := by
  by_cases e : k = i
  · subst e; rw [if_pos rfl, List.getD, List.getElem?_set_self h]; rfl
  · rw [if_neg e, List.getD, List.getElem?_set_ne (fun q => e q.symm)]; rfl
end Go.Proofs.Ytkdjnmcaifejjaa

/- Contract: an amount is split in proportion to weights. -/
namespace Go.Proofs.Ytkdjnmcaifejjaa
open Go.RowKit Go.Sy
attribute [local irreducible] vcall vloop vcallD retP
set_option maxRecDepth 100000
set_option linter.unusedVariables false
set_option linter.unusedSimpArgs false

end Go.Proofs.Ytkdjnmcaifejjaa

/- Contract: an amount is split in proportion to weights (the walk). -/
namespace Go.Proofs.Ytkdjnmcaifejjaa
open Go.RowKit Go.Sy
attribute [local irreducible] vcall vloop vcallD retP
set_option maxRecDepth 100000
set_option linter.unusedVariables false
set_option linter.unusedSimpArgs false

end Go.Proofs.Ytkdjnmcaifejjaa

/- Contract: an amount is divided among the positions of a sign. -/
namespace Go.Proofs.Ytkdjnmcaifejjaa
open Go.RowKit Go.Sy
attribute [local irreducible] vcall vloop vcallD retP
set_option maxRecDepth 100000
set_option linter.unusedVariables false
set_option linter.unusedSimpArgs false

end Go.Proofs.Ytkdjnmcaifejjaa

/- Contracts of package money: decimal places. -/
namespace Go.Proofs.Ytkdjnmcaifejjaa
open Go.RowKit Go.Sy
attribute [local irreducible] vcall vloop vcallD retP
set_option maxRecDepth 100000
set_option linter.unusedVariables false

end Go.Proofs.Ytkdjnmcaifejjaa

/- Contracts of package rate, and of the reference's: checks, fractions in lowest terms. -/
namespace Go.Proofs.Ytkdjnmcaifejjaa
open Go.RowKit Go.Sy
attribute [local irreducible] vcall vloop vcallD retP
set_option maxRecDepth 100000
set_option linter.unusedVariables false

/-- The error of a rate. -/
def rchk (f t : ByteArray) (n d : Int) : Int :=
  if curB f = false ∨ curB t = false ∨ f = t then 11 else if n < 1 ∨ 1099511627776 < n ∨ d < 1 ∨ 1099511627776 < d then 4 else 0
attribute [irreducible] rchk
end Go.Proofs.Ytkdjnmcaifejjaa

/- Contracts of the library: numbers in decimal. -/
namespace Go.Proofs.Ytkdjnmcaifejjaa
open Go.RowKit Go.Sy
attribute [local irreducible] vcall vloop vcallD retP
set_option maxRecDepth 100000
set_option linter.unusedVariables false
set_option linter.unusedSimpArgs false

end Go.Proofs.Ytkdjnmcaifejjaa

/- Contracts of the library: FormatInt. -/
namespace Go.Proofs.Ytkdjnmcaifejjaa
open Go.RowKit Go.Sy
attribute [local irreducible] vcall vloop vcallD retP
set_option maxRecDepth 100000
set_option linter.unusedVariables false
set_option linter.unusedSimpArgs false

end Go.Proofs.Ytkdjnmcaifejjaa

/- Contracts of package rate, and of the reference's: conversions, other rates. -/
namespace Go.Proofs.Ytkdjnmcaifejjaa
open Go.RowKit Go.Sy
attribute [local irreducible] vcall vloop vcallD retP
set_option maxRecDepth 100000
set_option linter.unusedVariables false
set_option linter.unusedSimpArgs false

end Go.Proofs.Ytkdjnmcaifejjaa

/- Contracts of package rate, and of the reference's: products of rates, texts. -/
namespace Go.Proofs.Ytkdjnmcaifejjaa
open Go.RowKit Go.Sy
attribute [local irreducible] vcall vloop vcallD retP
set_option maxRecDepth 100000
set_option linter.unusedVariables false
set_option linter.unusedSimpArgs false

end Go.Proofs.Ytkdjnmcaifejjaa

/- Contracts of package rate, and of the reference's: texts; the law's examples. -/
namespace Go.Proofs.Ytkdjnmcaifejjaa
open Go.RowKit Go.Sy
attribute [local irreducible] vcall vloop vcallD retP
set_option maxRecDepth 100000
set_option linter.unusedVariables false
set_option linter.unusedSimpArgs false

end Go.Proofs.Ytkdjnmcaifejjaa

/- The laws of package rate: checks, conversions. -/
namespace Go.Proofs.Ytkdjnmcaifejjaa
open Go.RowKit Go.Sy
attribute [local irreducible] vcall vloop vcallD retP
set_option maxRecDepth 100000
set_option linter.unusedVariables false
set_option linter.unusedSimpArgs false

end Go.Proofs.Ytkdjnmcaifejjaa

/- The law on made rates: products of fractions, a rate with a markup. -/
namespace Go.Proofs.Ytkdjnmcaifejjaa
open Go.RowKit Go.Sy
attribute [local irreducible] vcall vloop vcallD retP
set_option maxRecDepth 100000
set_option linter.unusedVariables false
set_option linter.unusedSimpArgs false

end Go.Proofs.Ytkdjnmcaifejjaa

/- The law on rates that are found in a list. -/
namespace Go.Proofs.Ytkdjnmcaifejjaa
open Go.RowKit Go.Sy
attribute [local irreducible] vcall vloop vcallD retP
set_option maxRecDepth 100000
set_option linter.unusedVariables false
set_option linter.unusedSimpArgs false

structure Rt where
  f : ByteArray
  t : ByteArray
  n : Int
  d : Int
def Rt.z : Rt := ⟨⟨#[]⟩, ⟨#[]⟩, 0, 0⟩
/-- A list of rates, by columns. -/
structure RL where
  f : List ByteArray
  t : List ByteArray
  n : List Int
  d : List Int
  l : Nat
def RL.at (q : RL) (i : Nat) : Rt := ⟨q.f.getD i ⟨#[]⟩, q.t.getD i ⟨#[]⟩, q.n.getD i 0, q.d.getD i 0⟩
/-- A row that states the rate. -/
def RL.fits (q : RL) (f t : ByteArray) (i : Nat) : Prop := (q.at i).f = f ∧ (q.at i).t = t ∧ rchk (q.at i).f (q.at i).t (q.at i).n (q.at i).d = 0
instance (q : RL) (f t : ByteArray) (i : Nat) : Decidable (q.fits f t i) := by unfold RL.fits; infer_instance
end Go.Proofs.Ytkdjnmcaifejjaa

/- Contract: the positions of a currency in another one. -/
namespace Go.Proofs.Ytkdjnmcaifejjaa
open Go.RowKit Go.Sy
attribute [local irreducible] vcall vloop vcallD retP
set_option maxRecDepth 100000
set_option linter.unusedVariables false
set_option linter.unusedSimpArgs false

end Go.Proofs.Ytkdjnmcaifejjaa

/- Contracts: sums of 128 bits in an array. -/
namespace Go.Proofs.Ytkdjnmcaifejjaa
open Go.RowKit Go.Sy
attribute [local irreducible] vcall vloop vcallD retP
set_option maxRecDepth 100000
set_option linter.unusedVariables false
set_option linter.unusedSimpArgs false

end Go.Proofs.Ytkdjnmcaifejjaa

/- Contract: all positions in one currency. -/
namespace Go.Proofs.Ytkdjnmcaifejjaa
open Go.RowKit Go.Sy
attribute [local irreducible] vcall vloop vcallD retP
set_option maxRecDepth 100000
set_option linter.unusedVariables false
set_option linter.unusedSimpArgs false

theorem z16_get (j : Nat) : z16.getD j 0 = 0 := by
  rw [List.getD, List.getElem?_replicate]; split <;> rfl
end Go.Proofs.Ytkdjnmcaifejjaa

/- The examples of the chapter on positions. -/
namespace Go.Proofs.Ytkdjnmcaifejjaa
open Go.RowKit Go.Sy
attribute [local irreducible] vcall vloop vcallD retP
set_option maxRecDepth 100000
set_option linter.unusedVariables false
set_option linter.unusedSimpArgs false

def sEur : ByteArray := ⟨#[69, 85, 82]⟩
def sUsd : ByteArray := ⟨#[85, 83, 68]⟩
def p3 : List ByteArray := [⟨#[97]⟩, ⟨#[98]⟩, ⟨#[99]⟩]
def k0 : Bk := ⟨3, p3, 0, [], [], [], 0⟩
def k1 : Bk := ⟨3, p3, 1, [sEur], [[-100, 100, 0, 0, 0, 0, 0, 0, 0, 0, 0, 0, 0, 0, 0, 0]], [0], 1⟩
def k2 : Bk := ⟨3, p3, 1, [sEur], [[-100, 70, 30, 0, 0, 0, 0, 0, 0, 0, 0, 0, 0, 0, 0, 0]], [0], 1⟩
def l0 : List Px := [⟨⟨#[97]⟩, -110, sUsd⟩, ⟨⟨#[98]⟩, 77, sUsd⟩, ⟨⟨#[99]⟩, 33, sUsd⟩]
theorem p3_sort : sortS p3 = p3 := by
  exact sortS_of (List.Perm.refl _) (by unfold p3; refine .cons (fun a h => ?_) (.cons (fun a h => ?_) (.cons (fun a h => absurd h (List.not_mem_nil)) .nil)) <;> simp only [List.mem_cons, List.not_mem_nil, or_false] at h <;> (first | (rcases h with rfl | rfl <;> kernel_rfl) | (subst h; kernel_rfl)))
theorem one_sort (s : ByteArray) : sortS [s] = [s] := sortS_of (List.Perm.refl _) (List.pairwise_singleton _ _)
end Go.Proofs.Ytkdjnmcaifejjaa

/- Plain facts on the first place of a text in a list. No program in sight. -/
namespace Go.Sy
open Go.RowKit

theorem sidx_le (l : List ByteArray) (s : ByteArray) : sidx l s ≤ l.length := by
  induction l with
  | nil => simp [sidx]
  | cons x l ih =>
    simp only [sidx, seq]
    by_cases h : x = s
    · rw [decide_eq_true h]; simp
    · rw [decide_eq_false h]; simp; exact ih
theorem sidx_lt {l : List ByteArray} {s : ByteArray} : sidx l s < l.length ↔ s ∈ l := by
  induction l with
  | nil => simp [sidx]
  | cons x l ih =>
    simp only [sidx, seq]
    by_cases h : x = s
    · rw [decide_eq_true h]; simp [h]
    · rw [decide_eq_false h]
      have : ¬ s = x := fun e => h e.symm
      simp [this, ih]
theorem sidx_get {l : List ByteArray} {s : ByteArray} (h : sidx l s < l.length) : l[sidx l s]? = some s := by
  induction l with
  | nil => simp [sidx] at h
  | cons x l ih =>
    simp only [sidx, seq] at h ⊢
    by_cases e : x = s
    · rw [decide_eq_true e]; simp [e]
    · rw [decide_eq_false e] at h ⊢
      simp only [cond_false, List.length_cons, List.getElem?_cons_succ] at h ⊢
      exact ih (by omega)
theorem sidx_of_get {l : List ByteArray} (hd : l.Nodup) {i : Nat} {s : ByteArray} (h : l[i]? = some s) : sidx l s = i := by
  have hi : i < l.length := (List.getElem?_eq_some_iff.1 h).1
  have hm : s ∈ l := List.mem_iff_getElem?.2 ⟨i, h⟩
  have h2 := sidx_get (sidx_lt.2 hm)
  have h3 := sidx_lt.2 hm
  obtain ⟨_, e1⟩ := List.getElem?_eq_some_iff.1 h
  obtain ⟨_, e2⟩ := List.getElem?_eq_some_iff.1 h2
  exact (List.getElem_inj hd).1 (e2.trans e1.symm)
theorem put_key {l : List ByteArray} {s : ByteArray} : putL (sidx l s) s l = if sidx l s < l.length then l else l ++ [s] := by
  unfold putL
  split
  · rename_i h
    have := sidx_get h
    refine List.ext_getElem? fun i => ?_
    rw [List.getElem?_set]
    by_cases e : sidx l s = i
    · subst e; rw [if_pos rfl, if_pos h, this]
    · rw [if_neg e]
  · rfl

end Go.Sy

/- Plain facts on books: the rows as a function of the currency. No program in sight. -/
namespace Go.Proofs.Ytkdjnmcaifejjaa
open Go.RowKit Go.Sy
set_option linter.unusedVariables false
set_option linter.unusedSimpArgs false

structure BkC (b : Bk) : Prop where
  cl : b.cs.length = b.m
  vl : b.vs.length = b.m
  nd : b.cs.Nodup
theorem row_at {b : Bk} (h : BkC b) {c : ByteArray} {j : Nat} (hj : b.cs[j]? = some c) : b.row c = b.vs.getD j z16 := by
  unfold Bk.row
  rw [Go.Sy.sidx_of_get h.nd hj]
theorem row_no {b : Bk} (h : BkC b) {c : ByteArray} (hc : ¬ c ∈ b.cs) : b.row c = z16 := by
  unfold Bk.row
  have : ¬ sidx b.cs c < b.cs.length := fun q => hc (Go.Sy.sidx_lt.1 q)
  rw [List.getD, List.getElem?_eq_none (by rw [h.vl, ← h.cl]; omega)]; rfl
theorem vs_of {b : Bk} (h : BkC b) {P : List Int → Prop} (hz : P z16) (hr : ∀ c, P (b.row c)) (i : Nat) : P (b.vs.getD i z16) := by
  by_cases e : i < b.m
  · have hj : b.cs[i]? = some (b.cs[i]'(by rw [h.cl]; exact e)) := List.getElem?_eq_getElem _
    have := hr (b.cs[i]'(by rw [h.cl]; exact e))
    rw [row_at h hj] at this
    exact this
  · rw [List.getD, List.getElem?_eq_none (by rw [h.vl]; omega)]; exact hz
theorem put_C {b : Bk} (h : BkC b) (c : ByteArray) (r : List Int) : BkC (b.put c r) := by
  have hle := Go.Sy.sidx_le b.cs c
  by_cases e : sidx b.cs c < b.m
  · have e2 : sidx b.cs c < b.cs.length := by rw [h.cl]; exact e
    refine ⟨?_, ?_, ?_⟩
    · show (putL _ _ _).length = if _ then _ else _
      rw [if_pos e, put_key, if_pos e2]; exact h.cl
    · show (putL _ _ _).length = if _ then _ else _
      rw [if_pos e]
      unfold putL
      rw [if_pos (by rw [h.vl]; exact e), List.length_set]; exact h.vl
    · show (putL _ _ _).Nodup
      rw [put_key, if_pos e2]; exact h.nd
  · have e2 : ¬ sidx b.cs c < b.cs.length := by rw [h.cl]; exact e
    refine ⟨?_, ?_, ?_⟩
    · show (putL _ _ _).length = if _ then _ else _
      rw [if_neg e, put_key, if_neg e2, List.length_append, h.cl]; rfl
    · show (putL _ _ _).length = if _ then _ else _
      rw [if_neg e]
      unfold putL
      rw [if_neg (by rw [h.vl]; exact e), List.length_append, h.vl]; rfl
    · show (putL _ _ _).Nodup
      rw [put_key, if_neg e2]
      refine List.nodup_append.2 ⟨h.nd, by simp, fun x hx y hy => ?_⟩
      simp only [List.mem_singleton] at hy
      subst hy
      intro q; subst q
      exact e2 (Go.Sy.sidx_lt.2 hx)
theorem put_row {b : Bk} (h : BkC b) (c : ByteArray) (r : List Int) (c' : ByteArray) : (b.put c r).row c' = if c' = c then r else b.row c' := by
  have hC := put_C h c r
  have hle := Go.Sy.sidx_le b.cs c
  by_cases e : sidx b.cs c < b.m
  · have e2 : sidx b.cs c < b.cs.length := by rw [h.cl]; exact e
    have ecs : (b.put c r).cs = b.cs := by show putL _ _ _ = _; rw [put_key, if_pos e2]
    have evs : (b.put c r).vs = b.vs.set (sidx b.cs c) r := by show putL _ _ _ = _; unfold putL; rw [if_pos (by rw [h.vl]; exact e)]
    show (b.put c r).vs.getD (sidx (b.put c r).cs c') z16 = _
    rw [ecs, evs]
    by_cases q : c' = c
    · subst q
      rw [if_pos rfl, List.getD, List.getElem?_set_self (by rw [h.vl]; exact e)]; rfl
    · rw [if_neg q]
      have : sidx b.cs c ≠ sidx b.cs c' := fun w => by
        have g1 := Go.Sy.sidx_get e2
        have g2 := Go.Sy.sidx_get (l := b.cs) (s := c') (by rw [← w]; exact e2)
        rw [← w, g1] at g2
        exact q (Option.some.inj g2).symm
      rw [List.getD, List.getElem?_set_ne this]; rfl
  · have e2 : ¬ sidx b.cs c < b.cs.length := by rw [h.cl]; exact e
    have ecs : (b.put c r).cs = b.cs ++ [c] := by show putL _ _ _ = _; rw [put_key, if_neg e2]
    have evs : (b.put c r).vs = b.vs ++ [r] := by show putL _ _ _ = _; unfold putL; rw [if_neg (by rw [h.vl]; exact e)]
    by_cases q : c' = c
    · subst q
      rw [if_pos rfl, row_at hC (j := b.m) (by rw [ecs, List.getElem?_append_right (by rw [h.cl]; omega), h.cl, Nat.sub_self]; rfl), evs, List.getD, List.getElem?_append_right (by rw [h.vl]; omega), h.vl, Nat.sub_self]; rfl
    · rw [if_neg q]
      by_cases hm : c' ∈ b.cs
      · obtain ⟨j, hj⟩ := List.mem_iff_getElem?.1 hm
        have hjl : j < b.m := by rw [← h.cl]; exact (List.getElem?_eq_some_iff.1 hj).1
        rw [row_at h hj, row_at hC (j := j) (by rw [ecs, List.getElem?_append_left (by rw [h.cl]; exact hjl)]; exact hj), evs, List.getD, List.getElem?_append_left (by rw [h.vl]; exact hjl)]; rfl
      · rw [row_no h hm, row_no hC (by rw [ecs]; simp [hm, q])]
theorem put_mem {b : Bk} (h : BkC b) (c : ByteArray) (r : List Int) (s : ByteArray) : s ∈ (b.put c r).cs ↔ s ∈ b.cs ∨ s = c := by
  show s ∈ putL _ _ _ ↔ _
  rw [put_key]
  split
  · rename_i e
    exact ⟨.inl, fun q => q.elim id (fun q => by subst q; exact Go.Sy.sidx_lt.1 e)⟩
  · simp
theorem del_C {b : Bk} (h : BkC b) (c : ByteArray) : BkC (b.del c) := by
  by_cases e : sidx b.cs c < b.m
  · refine ⟨?_, ?_, ?_⟩
    · show (b.cs.eraseIdx _).length = if _ then _ else _
      rw [if_pos e, List.length_eraseIdx_of_lt (by rw [h.cl]; exact e), h.cl]
    · show (b.vs.eraseIdx _).length = if _ then _ else _
      rw [if_pos e, List.length_eraseIdx_of_lt (by rw [h.vl]; exact e), h.vl]
    · exact h.nd.sublist (List.eraseIdx_sublist _ _)
  · refine ⟨?_, ?_, ?_⟩
    · show (b.cs.eraseIdx _).length = if _ then _ else _
      rw [if_neg e, List.eraseIdx_of_length_le (by rw [h.cl]; omega), h.cl]
    · show (b.vs.eraseIdx _).length = if _ then _ else _
      rw [if_neg e, List.eraseIdx_of_length_le (by rw [h.vl]; omega), h.vl]
    · exact h.nd.sublist (List.eraseIdx_sublist _ _)
theorem del_mem {b : Bk} (h : BkC b) (c s : ByteArray) : s ∈ (b.del c).cs ↔ s ∈ b.cs ∧ s ≠ c := by
  show s ∈ b.cs.eraseIdx _ ↔ _
  constructor
  · intro q
    refine ⟨(List.eraseIdx_sublist _ _).subset q, fun w => ?_⟩
    subst w
    obtain ⟨j, hj⟩ := List.mem_iff_getElem?.1 q
    rw [List.getElem?_eraseIdx] at hj
    by_cases e : j < sidx b.cs s
    · rw [if_pos e] at hj
      have := Go.Sy.sidx_of_get h.nd hj; omega
    · rw [if_neg e] at hj
      have := Go.Sy.sidx_of_get h.nd hj; omega
  · rintro ⟨q, w⟩
    obtain ⟨j, hj⟩ := List.mem_iff_getElem?.1 q
    have hne : j ≠ sidx b.cs c := fun e => by
      have hl : sidx b.cs c < b.cs.length := by rw [← e]; exact (List.getElem?_eq_some_iff.1 hj).1
      have g := Go.Sy.sidx_get hl
      rw [← e, hj] at g
      exact w (Option.some.inj g)
    refine List.mem_iff_getElem?.2 ?_
    by_cases e : j < sidx b.cs c
    · exact ⟨j, by rw [List.getElem?_eraseIdx, if_pos e]; exact hj⟩
    · exact ⟨j - 1, by rw [List.getElem?_eraseIdx, if_neg (by omega), show j - 1 + 1 = j by omega]; exact hj⟩
theorem del_row {b : Bk} (h : BkC b) (c c' : ByteArray) : (b.del c).row c' = if c' = c then z16 else b.row c' := by
  have hC := del_C h c
  by_cases q : c' = c
  · subst q
    rw [if_pos rfl, row_no hC (fun w => ((del_mem h c' c').1 w).2 rfl)]
  · rw [if_neg q]
    by_cases hm : c' ∈ b.cs
    · obtain ⟨j, hj⟩ := List.mem_iff_getElem?.1 hm
      have hne : j ≠ sidx b.cs c := fun e => by
        have hl : sidx b.cs c < b.cs.length := by rw [← e]; exact (List.getElem?_eq_some_iff.1 hj).1
        have g := Go.Sy.sidx_get hl
        rw [← e, hj] at g
        exact q (Option.some.inj g)
      rw [row_at h hj]
      have ecs : (b.del c).cs = b.cs.eraseIdx (sidx b.cs c) := rfl
      have evs : (b.del c).vs = b.vs.eraseIdx (sidx b.cs c) := rfl
      by_cases e : j < sidx b.cs c
      · rw [row_at hC (j := j) (by rw [ecs, List.getElem?_eraseIdx, if_pos e]; exact hj), evs, List.getD, List.getElem?_eraseIdx, if_pos e]; rfl
      · rw [row_at hC (j := j - 1) (by rw [ecs, List.getElem?_eraseIdx, if_neg (by omega), show j - 1 + 1 = j by omega]; exact hj), evs, List.getD, List.getElem?_eraseIdx, if_neg (by omega), show j - 1 + 1 = j by omega]; rfl
    · rw [row_no h hm, row_no hC (fun w => hm ((del_mem h c c').1 w).1)]
theorem mv1_C {b : Bk} (h : BkC b) (c : ByteArray) (r : List Int) : BkC (b.mv1 c r) := by
  unfold Bk.mv1
  split
  · exact del_C (put_C h c r) c
  · exact put_C h c r
theorem mv1_row {b : Bk} (h : BkC b) (c : ByteArray) (r : List Int) (c' : ByteArray) : (b.mv1 c r).row c' = if c' = c then r else b.row c' := by
  unfold Bk.mv1
  by_cases e : r = z16
  · rw [if_pos e, del_row (put_C h c r), put_row h]
    by_cases q : c' = c
    · rw [if_pos q, if_pos q, e]
    · rw [if_neg q, if_neg q]
  · rw [if_neg e, put_row h]
theorem mv1_mem {b : Bk} (h : BkC b) (c : ByteArray) (r : List Int) (s : ByteArray) : s ∈ (b.mv1 c r).cs ↔ (s ∈ b.cs ∧ s ≠ c) ∨ (s = c ∧ r ≠ z16) := by
  unfold Bk.mv1
  by_cases e : r = z16
  · rw [if_pos e, del_mem (put_C h c r), put_mem h]
    constructor
    · rintro ⟨q | q, w⟩
      · exact .inl ⟨q, w⟩
      · exact absurd q w
    · rintro (q | q)
      · exact ⟨.inl q.1, q.2⟩
      · exact absurd e q.2
  · rw [if_neg e, put_mem h]
    constructor
    · rintro (q | q)
      · by_cases w : s = c
        · exact .inr ⟨w, e⟩
        · exact .inl ⟨q, w⟩
      · exact .inr ⟨q, e⟩
    · rintro (q | q)
      · exact .inl q.1
      · exact .inr q.1
/-- A book's invariant, with a bound of its positions. -/
structure BkI (b : Bk) (B : Int) : Prop where
  C : BkC b
  n16 : b.n ≤ 16
  psl : b.ps.length = b.n
  nz : ∀ c, c ∈ b.cs → b.row c ≠ z16
  c3 : ∀ c, c ∈ b.cs → curB c = true
  rl : ∀ c, (b.row c).length = 16
  rb : ∀ c j, -B ≤ (b.row c).getD j 0 ∧ (b.row c).getD j 0 ≤ B
  rs : ∀ c, (b.row c).sum = 0
  rt : ∀ c j, b.n ≤ j → (b.row c).getD j 0 = 0
theorem BkI.ok {b : Bk} {B : Int} (h : BkI b B) (hB : B ≤ 4503599627370496) : b.Ok := by
  have h0 := h.rb ⟨#[]⟩ 0
  refine ⟨h.n16, h.psl, vs_of h.C (P := fun r => r.length = 16) rfl h.rl, fun i j => ?_⟩
  refine vs_of h.C (P := fun r => -4503599627370496 ≤ r.getD j 0 ∧ r.getD j 0 ≤ 4503599627370496) ?_ (fun c => ?_) i
  · show _ ≤ z16.getD j 0 ∧ z16.getD j 0 ≤ _
    rw [z16_get]; decide
  · show -4503599627370496 ≤ (b.row c).getD j 0 ∧ (b.row c).getD j 0 ≤ 4503599627370496
    have := h.rb c j; omega
theorem BkI.cok {b : Bk} {B : Int} (h : BkI b B) (hm : b.m ≤ 100000) : b.Cok := by
  refine ⟨hm, fun s hs => ?_, h.C.nd⟩
  have := h.c3 s hs
  unfold curB at this
  simp only [Bool.and_eq_true, decide_eq_true_eq] at this
  omega
theorem mem_row {b : Bk} {B : Int} (h : BkI b B) (c : ByteArray) : c ∈ b.cs ↔ b.row c ≠ z16 :=
  ⟨h.nz c, fun q => Classical.byContradiction fun w => q (row_no h.C w)⟩
theorem sum_set (l : List Int) (i : Nat) (x : Int) (h : i < l.length) : (l.set i x).sum = l.sum - l.getD i 0 + x := by
  induction l generalizing i with
  | nil => simp at h
  | cons y l ih =>
    cases i with
    | zero => simp only [List.set_cons_zero, List.sum_cons, List.getD_cons_zero]; omega
    | succ i =>
      simp only [List.length_cons] at h
      simp only [List.set_cons_succ, List.sum_cons, List.getD_cons_succ]
      rw [ih i (by omega)]; omega
theorem mvRow_get {r : List Int} {F T : Nat} {a : Int} (hl : r.length = 16) (hF : F < 16) (hT : T < 16) (hne : F ≠ T) (j : Nat) : (mvRow r F T a).getD j 0 = r.getD j 0 + ((if j = F then -a else 0) + (if j = T then a else 0)) := by
  unfold mvRow
  rw [set_getD2 _ _ _ _ (by rw [List.length_set, hl]; exact hT), set_getD2 _ _ _ _ (by rw [hl]; exact hF)]
  by_cases e : j = T
  · subst e
    rw [if_pos rfl, if_neg (fun q => hne q.symm), if_pos rfl]; omega
  · rw [if_neg e, if_neg e]
    by_cases e2 : j = F
    · subst e2; rw [if_pos rfl, if_pos rfl]; omega
    · rw [if_neg e2, if_neg e2]; omega
theorem mvRow_sum {r : List Int} {F T : Nat} {a : Int} (hl : r.length = 16) (hF : F < 16) (hT : T < 16) (hne : F ≠ T) : (mvRow r F T a).sum = r.sum := by
  unfold mvRow
  rw [sum_set _ _ _ (by rw [List.length_set, hl]; exact hT), sum_set _ _ _ (by rw [hl]; exact hF), set_getD2 _ _ _ _ (by rw [hl]; exact hF), if_neg (fun q => hne q.symm)]
  omega
end Go.Proofs.Ytkdjnmcaifejjaa

/- Plain facts on sequences of moves. No program in sight. -/
namespace Go.Proofs.Ytkdjnmcaifejjaa
open Go.RowKit Go.Sy
set_option linter.unusedVariables false
set_option linter.unusedSimpArgs false

/-- The error of a move that no position decides. -/
def stE (b : Bk) (f t c : ByteArray) (a : Int) : Int :=
  if idI b.ps f b.n < 0 ∨ idI b.ps t b.n < 0 then 6
  else if idI b.ps f b.n = idI b.ps t b.n then 4
  else if mchk a c ≠ 0 then mchk a c
  else if a < 0 then 4 else 0
theorem stE_ok {b : Bk} {f t c : ByteArray} {a : Int} (h : stE b f t c a = 0) : sidx b.ps f < b.n ∧ sidx b.ps t < b.n ∧ sidx b.ps f ≠ sidx b.ps t ∧ curB c = true ∧ 0 ≤ a ∧ a ≤ 4503599627370496 ∧ mchk a c = 0 := by
  unfold stE at h
  split at h
  · cases h
  · rename_i h1
    split at h
    · cases h
    · rename_i h2
      split at h
      · rename_i h3; exact absurd h h3
      · rename_i h3
        split at h
        · cases h
        · rename_i h4
          have h3' : mchk a c = 0 := by simpa using h3
          have hm := mchk_or a c
          rw [h3'] at hm
          have g1 : sidx b.ps f < b.n := by
            rcases Nat.lt_or_ge (sidx b.ps f) b.n with q | q
            · exact q
            · exact absurd (Or.inl (by rw [idI_no (by omega)]; decide)) h1
          have g2 : sidx b.ps t < b.n := by
            rcases Nat.lt_or_ge (sidx b.ps t) b.n with q | q
            · exact q
            · exact absurd (Or.inr (by rw [idI_no (by omega)]; decide)) h1
          rw [idI_lt g1, idI_lt g2] at h2
          rcases hm with hm | hm
          · omega
          · exact ⟨g1, g2, by omega, hm.2.1, by omega, hm.2.2.2, h3'⟩
theorem mvE_st (b : Bk) (f t c : ByteArray) (a : Int) : mvE b f t c a = if stE b f t c a ≠ 0 then stE b f t c a else if fitB ((b.row c).getD (sidx b.ps f) 0 - a) = true ∧ fitB ((b.row c).getD (sidx b.ps t) 0 + a) = true then 0 else 4 := by
  unfold mvE stE
  split
  · rfl
  · split
    · rfl
    · split
      · rfl
      · split
        · rfl
        · rfl
/-- A move that is not refused keeps the invariant. -/
theorem mv1_I {b : Bk} {B B' : Int} (h : BkI b B) {f t c : ByteArray} {a : Int} (hs : stE b f t c a = 0) (hB : B ≤ B') (h1 : -B' ≤ (b.row c).getD (sidx b.ps f) 0 - a ∧ (b.row c).getD (sidx b.ps f) 0 - a ≤ B') (h2 : -B' ≤ (b.row c).getD (sidx b.ps t) 0 + a ∧ (b.row c).getD (sidx b.ps t) 0 + a ≤ B') : BkI (b.mv1 c (mvRow (b.row c) (sidx b.ps f) (sidx b.ps t) a)) B' := by
  obtain ⟨hF, hT, hne, hc, ha, _⟩ := stE_ok hs
  have hn := h.n16
  have hps : (b.mv1 c (mvRow (b.row c) (sidx b.ps f) (sidx b.ps t) a)).ps = b.ps := by unfold Bk.mv1; split <;> rfl
  have hnn : (b.mv1 c (mvRow (b.row c) (sidx b.ps f) (sidx b.ps t) a)).n = b.n := by unfold Bk.mv1; split <;> rfl
  have hg := mvRow_get (a := a) (h.rl c) (show sidx b.ps f < 16 by omega) (show sidx b.ps t < 16 by omega) hne
  refine ⟨mv1_C h.C _ _, by rw [hnn]; exact hn, by rw [hps, hnn]; exact h.psl, fun s q => ?_, fun s q => ?_, fun s => ?_, fun s j => ?_, fun s => ?_, fun s j q => ?_⟩
  · rw [mv1_mem h.C] at q
    rw [mv1_row h.C]
    rcases q with q | q
    · rw [if_neg q.2]; exact h.nz s q.1
    · rw [if_pos q.1]; exact q.2
  · rw [mv1_mem h.C] at q
    rcases q with q | q
    · exact h.c3 s q.1
    · rw [q.1]; exact hc
  · rw [mv1_row h.C]
    split
    · rw [List.length_set, List.length_set]; exact h.rl c
    · exact h.rl s
  · rw [mv1_row h.C]
    split
    · rw [hg j]
      have := h.rb c j
      by_cases e1 : j = sidx b.ps f
      · rw [if_pos e1, if_neg (by omega), e1]; omega
      · by_cases e2 : j = sidx b.ps t
        · rw [if_neg e1, if_pos e2, e2]; omega
        · rw [if_neg e1, if_neg e2]; omega
    · have := h.rb s j; omega
  · rw [mv1_row h.C]
    split
    · rw [mvRow_sum (h.rl c) (by omega) (by omega) hne]; exact h.rs c
    · exact h.rs s
  · rw [hnn] at q
    rw [mv1_row h.C]
    split
    · rw [hg j, if_neg (by omega), if_neg (by omega), h.rt c j q]; rfl
    · exact h.rt s j q
theorem mv_ps (b : Bk) (f t c : ByteArray) (a : Int) : (b.mv f t c a).ps = b.ps ∧ (b.mv f t c a).n = b.n := by
  unfold Bk.mv Bk.mv1
  split
  · split <;> exact ⟨rfl, rfl⟩
  · exact ⟨rfl, rfl⟩
theorem mv_m (b : Bk) (f t c : ByteArray) (a : Int) : (b.mv f t c a).m ≤ b.m + 1 := by
  have hp : ∀ r, (b.put c r).m ≤ b.m + 1 := fun r => by
    unfold Bk.put; dsimp only
    split <;> omega
  have hd : ∀ b' : Bk, (b'.del c).m ≤ b'.m := fun b' => by
    unfold Bk.del; dsimp only
    split <;> omega
  unfold Bk.mv Bk.mv1
  split
  · split
    · exact Nat.le_trans (hd _) (hp _)
    · exact hp _
  · omega
/-- Any move keeps the invariant at the greatest bound. -/
theorem mv_I {b : Bk} (h : BkI b 4503599627370496) (f t c : ByteArray) (a : Int) : BkI (b.mv f t c a) 4503599627370496 := by
  by_cases e : mvE b f t c a = 0
  · have e2 := e
    rw [mvE_st] at e2
    by_cases s : stE b f t c a = 0
    · rw [if_neg (by simpa using s)] at e2
      split at e2
      · rename_i g
        rw [fitB_t, fitB_t] at g
        unfold Bk.mv
        rw [if_pos e]
        exact mv1_I h s (Int.le_refl _) g.1 g.2
      · cases e2
    · rw [if_pos s] at e2; exact absurd e2 s
  · rw [mv_err e]; exact h
/-- A move of a small amount in a book of small positions: no position refuses it. -/
theorem mv_small {b : Bk} {B : Int} (h : BkI b B) (hB : B + 1000000000000 ≤ 4503599627370496) (f t c : ByteArray) (a : Int) (ha : a ≤ 1000000000000) : mvE b f t c a = stE b f t c a ∧ BkI (b.mv f t c a) (B + 1000000000000) := by
  by_cases s : stE b f t c a = 0
  · have hk := stE_ok s
    have r1 := h.rb c (sidx b.ps f)
    have r2 := h.rb c (sidx b.ps t)
    have e : mvE b f t c a = 0 := by
      rw [mvE_st, if_neg (by simpa using s), if_pos ⟨fitB_t.2 (by omega), fitB_t.2 (by omega)⟩]
    refine ⟨by rw [e, s], ?_⟩
    unfold Bk.mv
    rw [if_pos e]
    exact mv1_I h s (by omega) (by omega) (by omega)
  · have e : mvE b f t c a = stE b f t c a := by rw [mvE_st, if_pos s]
    refine ⟨e, ?_⟩
    rw [mv_err (by rw [e]; exact s)]
    have g := h.rb
    exact ⟨h.C, h.n16, h.psl, h.nz, h.c3, h.rl, fun c j => by have := g c j; omega, h.rs, h.rt⟩
/-- What a move adds to a position. -/
def dM (b : Bk) (f t c : ByteArray) (a : Int) (c' : ByteArray) (j : Nat) : Int := if stE b f t c a = 0 ∧ c' = c then (if j = sidx b.ps f then -a else 0) + (if j = sidx b.ps t then a else 0) else 0
theorem mv_row {b : Bk} {B : Int} (h : BkI b B) {f t c : ByteArray} {a : Int} (he : mvE b f t c a = stE b f t c a) (c' : ByteArray) (j : Nat) : ((b.mv f t c a).row c').getD j 0 = (b.row c').getD j 0 + dM b f t c a c' j := by
  unfold dM
  by_cases s : stE b f t c a = 0
  · obtain ⟨hF, hT, hne, hc, ha, _⟩ := stE_ok s
    have hn := h.n16
    unfold Bk.mv
    rw [if_pos (by rw [he]; exact s), mv1_row h.C]
    by_cases q : c' = c
    · rw [if_pos q, if_pos ⟨s, q⟩, mvRow_get (h.rl c) (by omega) (by omega) hne, q]
    · rw [if_neg q, if_neg (fun w => q w.2)]; omega
  · rw [mv_err (by rw [he]; exact s), if_neg (fun w => s w.1)]; omega
structure Mv where
  f : ByteArray
  t : ByteArray
  a : Int
  c : ByteArray
abbrev Bk.go (b : Bk) (m : Mv) : Bk := b.mv m.f m.t m.c m.a
def Bk.all (b : Bk) (M : List Mv) : Bk := M.foldl Bk.go b
end Go.Proofs.Ytkdjnmcaifejjaa

/- The law PositionSums. -/
namespace Go.Proofs.Ytkdjnmcaifejjaa
open Go.RowKit Go.Sy
attribute [local irreducible] vcall vloop vcallD retP
set_option maxRecDepth 100000
set_option linter.unusedVariables false
set_option linter.unusedSimpArgs false

end Go.Proofs.Ytkdjnmcaifejjaa

/- Contracts of the law's helpers; contracts of a book as the laws see it. -/
namespace Go.Proofs.Ytkdjnmcaifejjaa
open Go.RowKit Go.Sy
attribute [local irreducible] vcall vloop vcallD retP
set_option maxRecDepth 100000
set_option linter.unusedVariables false
set_option linter.unusedSimpArgs false

/-- New for any number of names. -/
theorem pos_NewA (ps : List ByteArray) (n : Nat) (hl : ps.length = n) : FC Try.prog 2 20 [.sl 1 0 0 n] [(1, some (.one true (.cols n [.sc (.strs ps)])))] (nwOut ps) := by
  by_cases h16 : 16 < n
  · unfold nwOut nwErr
    rw [hl, if_pos h16, if_pos (by decide)]
    refine fc_of mixed T_ok Try.func20 rfl (by kernel_rfl) (by kernel_rfl) (by kernel_rfl) ?_
    repeat' ((conv => whnf); first | ((first | apply br_dec | apply br_ndec) <;> intro h <;> try (exfalso; (try dsimp only at h); omega)) | ((first | apply br_seq | apply br_nseq | apply br_not | apply br_intro) <;> intro h) | refine cond_a ?_)
    all_goals (conv => whnf)
    all_goals first
      | exact ret_out (l := [0, 1]) rfl rfl trivial allRw_nil
      | (exfalso; omega)
      | trace_state
  · exact pos_New ps n hl (by omega)
theorem nwK_mono {ps : List ByteArray} : ∀ {n k : Nat}, nwK ps n = 0 → k ≤ n → nwK ps k = 0
  | 0, k, h, hk => by rw [show k = 0 by omega]; rfl
  | n + 1, k, h, hk => by
    have h0 : nwK ps n = 0 := by
      simp only [nwK] at h
      by_cases q : nwK ps n = 0
      · exact q
      · rw [if_pos q] at h; exact h
    by_cases e : k = n + 1
    · rw [e]; exact h
    · exact nwK_mono h0 (by omega)
theorem nw_ok {ps : List ByteArray} (h : nwErr ps = 0) : ps.length ≤ 16 ∧ ps.Nodup ∧ ∀ s ∈ ps, nmB s = true := by
  unfold nwErr at h
  split at h
  · cases h
  · have hE : ∀ k, k < ps.length → nwE ps k = 0 := fun k hk => by
      have h1 := nwK_mono h (show k + 1 ≤ ps.length from hk)
      have h0 := nwK_mono h (show k ≤ ps.length by omega)
      simp only [nwK] at h1
      rwa [if_neg (by simpa using h0)] at h1
    refine ⟨by omega, ?_, fun s hs => ?_⟩
    · refine List.pairwise_iff_getElem.2 fun i j hi hj hij e => ?_
      have := hE j hj
      unfold nwE at this
      split at this
      · cases this
      · split at this
        · cases this
        · rename_i g
          have gj : ps.getD j ⟨#[]⟩ = ps[j] := by rw [List.getD, List.getElem?_eq_getElem hj]; rfl
          have hm : ps[j] ∈ ps.take j := by
            rw [← e]
            exact List.mem_iff_getElem.2 ⟨i, by rw [List.length_take]; omega, by rw [List.getElem_take]⟩
          have hlt := Go.Sy.sidx_lt.2 hm
          rw [List.length_take, Nat.min_eq_left (by omega)] at hlt
          rw [gj] at g
          unfold idI at g
          rw [if_pos hlt] at g
          omega
    · obtain ⟨k, hk, rfl⟩ := List.getElem_of_mem hs
      have := hE k hk
      unfold nwE at this
      have gj : ps.getD k ⟨#[]⟩ = ps[k] := by rw [List.getD, List.getElem?_eq_getElem hk]; rfl
      rw [gj] at this
      cases q : nmB ps[k] with
      | true => rfl
      | false => rw [q, if_pos rfl] at this; cases this
theorem nwB_I {ps : List ByteArray} (h : nwErr ps = 0) : BkI (nwB ps) 0 := by
  have hr : ∀ c, (nwB ps).row c = z16 := fun c => rfl
  refine ⟨⟨rfl, rfl, List.nodup_nil⟩, (nw_ok h).1, sortS_length ps, fun c q => absurd q (List.not_mem_nil), fun c q => absurd q (List.not_mem_nil), fun c => rfl, fun c j => ?_, fun c => rfl, fun c j _ => ?_⟩
  · rw [hr, z16_get]; decide
  · rw [hr, z16_get]
abbrev bkX (ro : Bool) (np : Nat) (ps : List ByteArray) (b : Bk) : Heap := [(1, bkC true 2 3 np), (2, some (.one true (.cols np [.sc (.strs ps)]))), (3, bkM ro b)]
theorem pos_MoveX {b : Bk} (h : BkI b 4503599627370496) {np : Nat} {ps : List ByteArray} (hn : b.n = np) (hp : b.ps = ps) (f t c : ByteArray) (a : Int) : FC Try.prog 4 32 [.ptr 1 0 0 0, .str f, .str t, .agg [.int .i64 a, .str c]] (bkX false np ps b) (isOut (.int .i64 (mvE b f t c a)) [(3, bkM false (b.mv f t c a))] 4) := by
  subst hn hp; exact pos_Move b (h.ok (Int.le_refl _)) f t c a
theorem pos_ListX {b : Bk} (h : BkI b 4503599627370496) {np : Nat} {ps : List ByteArray} (hn : b.n = np) (hp : b.ps = ps) (hm : b.m ≤ 100000) : FC Try.prog 4 30 [.ptr 1 0 0 0] (bkX true np ps b) (isOut (.sl 4 0 0 b.list.length) [(4, some (.one false (pxB b.list.length (pxOf b.list))))] 5) := by
  subst hn hp; exact pos_List b (h.ok (Int.le_refl _)) (h.cok hm)
theorem BkI.up {b : Bk} {B B' : Int} (h : BkI b B) (hB : B ≤ B') : BkI b B' := by
  have g := h.rb
  exact ⟨h.C, h.n16, h.psl, h.nz, h.c3, h.rl, fun c j => by have := g c j; omega, h.rs, h.rt⟩
end Go.Proofs.Ytkdjnmcaifejjaa

/- Contracts of package cycle: new cycles, the cycle of a time. -/
namespace Go.Proofs.Ytkdjnmcaifejjaa
open Go.RowKit Go.Sy
attribute [local irreducible] vcall vloop vcallD retP
set_option maxRecDepth 100000
set_option linter.unusedVariables false
set_option linter.unusedSimpArgs false

theorem segs_all {α : Type} {l : List α} {n : Nat} (h : l.length = n) : seg 0 n l = l := by
  unfold seg; rw [List.drop_zero, List.take_of_length_le (by omega)]
theorem str_Clone (n : Nat) (l : List ByteArray) (hl : l.length = n) (hn : n ≤ 1000000) : FC Try.prog 2 21 [.sl 1 0 0 n] [(1, some (.one true (.cols n [.sc (.strs l)])))] (isOut (.sl 2 0 0 n) [(2, some (.one false (.cols n [.sc (.strs l)])))] 3) := by
  cases n with
  | zero =>
    obtain rfl := List.eq_nil_of_length_eq_zero hl
    refine fc_nil rfl ?_
    refine fc_of mixed T_ok Try.func21 rfl (by kernel_rfl) (by kernel_rfl) (by kernel_rfl) ?_
    repeat' ((conv => whnf); first | ((first | apply br_dec | apply br_ndec) <;> intro h <;> try (exfalso; (try dsimp only at h); omega)) | ((first | apply br_seq | apply br_nseq | apply br_not | apply br_intro) <;> intro h) | refine cond_a ?_ | (refine And.intro ?_ ?_))
    all_goals (conv => whnf)
    all_goals first
      | exact retP_mono (fun _ _ _ h => .inl h) (ret_out (l := [0, 1]) rfl rfl trivial allRw_nil)
      | exact retP_mono (fun _ _ _ h => .inr h) (ret_out (l := [0, 1, 3]) rfl rfl ⟨rfl, trivial⟩ (allRw_cons allRw_nil))
      | decide
  | succ n =>
    refine fc_of mixed T_ok Try.func21 rfl (by kernel_rfl) (by kernel_rfl) (by kernel_rfl) ?_
    repeat' ((conv => whnf); first | ((first | apply br_dec | apply br_ndec) <;> intro h <;> try (exfalso; (try dsimp only at h); omega)) | ((first | apply br_seq | apply br_nseq | apply br_not | apply br_intro) <;> intro h) | refine cond_a ?_)
    all_goals (conv => whnf)
    all_goals (rw [Nat.zero_add (n + 1), segs_all hl]; exact ret_out (l := [0, 1, 3]) rfl rfl ⟨rfl, trivial⟩ (allRw_cons allRw_nil))
abbrev bk0 : Bk := ⟨0, [], 0, [], [], [], 0⟩
abbrev bkMb (b : Bk) : Blk := .obj (.map false false b.m [.strs b.cs] [.arrs 16 .i64 b.vs] b.bs b.ck)
/-- Cycles: the books by date lie in three families. -/
abbrev cyC (ro : Bool) (hc hp hb hd np : Nat) (cut : Int) : Option HB := some (.one ro (.cells [.ptr hc 0 0 0, .int .i64 cut, .sl hp 0 0 np, .map hb 0, .map hd 0]))
abbrev cyP (ro : Bool) (n : Nat) (ps : List ByteArray) : Option HB := some (.one ro (.cols n [.sc (.strs ps)]))
abbrev cyB (ro : Bool) (h m : Nat) (ds : List Int) : Option HB := some (.one ro (.obj (.map false false m [.ints .i64 ds] [.ptrs h m] (List.range m) m)))
def f7 (hp hm np : Nat) (x : Nat) : Blk := .cells [.sl hp x 0 np, .map hm x]
def f8 (np : Nat) (sp : List ByteArray) (x : Nat) : Blk := .cols np [.sc (.strs sp)]
def f9 (B : List Bk) (x : Nat) : Blk := bkMb (B.getD x bk0)
abbrev fmB (ro : Bool) (m : Nat) (f : Nat → Blk) : Option HB := some (.fam ro (fun x => x < m) f)
def cnE (cut : Int) (ps : List ByteArray) : Int := if cut < 0 ∨ 86400 < cut then 4 else nwErr ps
def cnO (cut : Int) (ps : List ByteArray) (n : Nat) : SV → Heap → Nat → Prop := if cnE cut ps = 0 then isOut (.tup [.ptr 3 0 0 0, .int .i64 0]) [(3, cyC false 1 4 5 6 n cut), (4, cyP false n ps), (5, cyB false 7 0 []), (6, tmM false 0 []), (7, fmB false 0 (f7 8 9 n)), (8, fmB false 0 (f8 n (sortS ps))), (9, fmB false 0 (f9 []))] 10 else isOut (.tup [.nptr, .int .i64 (cnE cut ps)]) [] 3
theorem cy_New (cut : Int) (ps : List ByteArray) (n : Nat) (hl : ps.length = n) : FC Try.prog 3 8 [.ptr 1 0 0 0, .int .i64 cut, .sl 2 0 0 n] [(2, some (.one true (.cols n [.sc (.strs ps)])))] (cnO cut ps n) := by
  have c1 := pos_NewA ps n hl
  unfold cnO cnE
  by_cases h : cut < 0 ∨ 86400 < cut
  · rw [if_pos h, if_neg (by decide)]
    refine fc_of mixed T_ok Try.func8 rfl (by kernel_rfl) (by kernel_rfl) (by kernel_rfl) ?_
    repeat' ((conv => whnf); first | ((first | apply br_dec | apply br_ndec) <;> intro h <;> try (exfalso; (try dsimp only at h); omega)) | ((first | apply br_seq | apply br_nseq | apply br_not | apply br_intro) <;> intro h) | refine cond_a ?_)
    all_goals (conv => whnf)
    all_goals first
      | exact ret_out (l := [0, 1, 2]) rfl rfl trivial allRw_nil
      | (exfalso; omega)
      | trace_state
  rw [if_neg h]
  unfold nwOut at c1
  by_cases he : nwErr ps = 0
  · rw [if_neg (by rw [he]; simp)] at c1
    rw [if_pos he]
    have c2 := str_Clone n ps hl (by have := (nw_ok he).1; omega)
    refine fc_of mixed T_ok Try.func8 rfl (by kernel_rfl) (by kernel_rfl) (by kernel_rfl) ?_
    repeat' ((conv => whnf); first | refine vcall_o (l := [0, 2]) (c1) ?_ | refine vcall_o (l := [0, 2]) (c2) ?_ | ((first | apply br_dec | apply br_ndec) <;> intro h <;> try (exfalso; (try dsimp only at h); omega)) | ((first | apply br_seq | apply br_nseq | apply br_not | apply br_intro) <;> intro h) | refine cond_a ?_)
    all_goals (conv => whnf)
    all_goals first
      | (exfalso; omega)
      | exact ret_up (l := [0, 1, 2, 9, 6, 7, 8, 10, 11, 12]) [.relab (fun _ _ => none) (fun _ => 0) ((7, cyB false 10 0 []) :: gdN 10 0 0 [⟨0, 0, f7 11 12 n⟩, ⟨0, 0, f8 n (sortS ps)⟩, ⟨0, 0, f9 []⟩]) [] 3] ⟨relab_none (n := 10) (th := 7) [⟨0, 0, f7 11 12 n⟩, ⟨0, 0, f8 n (sortS ps)⟩, ⟨0, 0, f9 []⟩] (by decide) rfl (ble_map1 rfl (fun i hi => by omega)), rfl, rfl, ⟨rfl, rfl, rfl, rfl, rfl, rfl, rfl, trivial⟩⟩ (allRw_cons (allRw_cons (allRw_cons (allRw_cons (allRw_fam (allRw_fam (allRw_fam allRw_nil)))))))
      | trace_state
  · rw [if_pos he] at c1
    rw [if_neg he]
    generalize nwErr ps = e at *
    refine fc_of mixed T_ok Try.func8 rfl (by kernel_rfl) (by kernel_rfl) (by kernel_rfl) ?_
    repeat' ((conv => whnf); first | refine vcall_o (l := [0, 2]) (c1) ?_ | ((first | apply br_dec | apply br_ndec) <;> intro h <;> try (exfalso; (try dsimp only at h); omega)) | ((first | apply br_seq | apply br_nseq | apply br_not | apply br_intro) <;> intro h) | refine cond_a ?_)
    all_goals (conv => whnf)
    all_goals first
      | exact ret_out (l := [0, 1, 2]) rfl rfl trivial allRw_nil
      | (exfalso; omega)
      | trace_state
end Go.Proofs.Ytkdjnmcaifejjaa

/- Contracts of package cycle: the cycle of a time, the next later one, what is closed. -/
namespace Go.Proofs.Ytkdjnmcaifejjaa
open Go.RowKit Go.Sy
attribute [local irreducible] vcall vloop vcallD retP
set_option maxRecDepth 100000
set_option linter.unusedVariables false
set_option linter.unusedSimpArgs false

theorem nxK_ok (p : Int → Bool) : ∀ (k : Nat) (d : Int), nxK p k d < 0 ∨ (d ≤ nxK p k d ∧ nxK p k d < d + (k : Int) ∧ p (nxK p k d) = true)
  | 0, d => .inl (by simp [nxK])
  | k + 1, d => by
    simp only [nxK]
    split
    · rename_i h
      exact .inr ⟨by omega, by omega, h⟩
    · rcases nxK_ok p k (d + 1) with h | ⟨h1, h2, h3⟩
      · exact .inl h
      · exact .inr ⟨by omega, by omega, h3⟩
theorem nxI_ok {hs : List Int} {d : Int} (h : ¬ nxI hs d < 0) : d ≤ nxI hs d ∧ nxI hs d ≤ 99999 ∧ busB hs (nxI hs d) = true := by
  rcases nxK_ok (busB hs) (100000 - d).toNat d with q | ⟨h1, h2, h3⟩
  · exact absurd q h
  · have h4 := h3
    unfold busB at h4
    simp only [Bool.and_eq_true] at h4
    exact ⟨h1, (isD_yes.1 h4.1).2, h3⟩
/-- The cycle of a time; none: -1. -/
def ofI (hs : List Int) (cut t : Int) : Int := if dayI t < 0 then -1 else if busB hs (dayI t) = true ∧ secI t < cut then dayI t else nxI hs (dayI t + 1)
def ofV (x : Int) : SV := if x < 0 then .tup [.int .i64 0, .int .i64 14] else .tup [.int .i64 x, .int .i64 0]
abbrev cyR (np hn : Nat) (cut : Int) (hs : List Int) : Heap := [(1, cyC true 2 4 5 6 np cut), (2, calC true 3), (3, tmM true hn hs)]
theorem cy_later (np hn : Nat) (cut : Int) (hs : List Int) (hh : hs.length = hn) (d : Int) (hd : 0 ≤ d) (hd2 : d ≤ 99999) : FC Try.prog 10 24 [.ptr 1 0 0 0, .int .i64 d] (cyR np hn cut hs) (isOut (ofV (nxI hs (d + 1))) [] 10) := by
  have e : IntKind.i64.wrap (d + 1) = d + 1 := w64_in (by omega) (by omega)
  have c := cal_Next hn hs hh (d + 1)
  have hv : (if isD (d + 1) = true then nxV (nxI hs (d + 1)) else nxV (-1)) = nxV (nxI hs (d + 1)) := by
    cases h : isD (d + 1) with
    | true => rw [if_pos rfl]
    | false => rw [if_neg (by simp), nxI_end (by have := isD_no.1 h; omega)]
  rw [hv] at c
  unfold nxV at c
  unfold ofV
  by_cases h : nxI hs (d + 1) < 0
  · rw [if_pos h] at c ⊢
    refine fc_of mixed T_ok Try.func24 rfl (by kernel_rfl) (by kernel_rfl) (by kernel_rfl) ?_
    repeat' ((conv => whnf); first | (simp only [e]) | refine vcall_o (l := [0, 2, 3]) (c) ?_ | ((first | apply br_dec | apply br_ndec) <;> intro h <;> try (exfalso; (try dsimp only at h); omega)) | ((first | apply br_seq | apply br_nseq | apply br_not | apply br_intro) <;> intro h) | refine cond_a ?_)
    all_goals (conv => whnf)
    all_goals first
      | exact ret_out (l := [0, 1, 2, 3, 4, 5, 6, 7, 8, 9]) rfl rfl trivial allRw_nil
      | (exfalso; omega)
      | trace_state
  · rw [if_neg h] at c ⊢
    refine fc_of mixed T_ok Try.func24 rfl (by kernel_rfl) (by kernel_rfl) (by kernel_rfl) ?_
    repeat' ((conv => whnf); first | (simp only [e]) | refine vcall_o (l := [0, 2, 3]) (c) ?_ | ((first | apply br_dec | apply br_ndec) <;> intro h <;> try (exfalso; (try dsimp only at h); omega)) | ((first | apply br_seq | apply br_nseq | apply br_not | apply br_intro) <;> intro h) | refine cond_a ?_)
    all_goals (conv => whnf)
    all_goals first
      | exact ret_out (l := [0, 1, 2, 3, 4, 5, 6, 7, 8, 9]) rfl rfl trivial allRw_nil
      | (exfalso; omega)
      | trace_state
theorem dayI_ok {t : Int} (h : ¬ dayI t < 0) : okT t = true ∧ 0 ≤ dayI t ∧ dayI t ≤ 99999 ∧ 0 ≤ secI t := by
  unfold dayI secI at *
  by_cases q : okT t = true
  · rw [if_pos q] at h ⊢
    rw [if_pos q]
    have := isD_yes.1 (okT_yes.1 q).2.2
    exact ⟨q, this.1, this.2, by omega⟩
  · rw [if_neg q] at h; omega
theorem cy_Of (np hn : Nat) (cut : Int) (hs : List Int) (hh : hs.length = hn) (t : Int) : FC Try.prog 10 9 [.ptr 1 0 0 0, .int .i64 t] (cyR np hn cut hs) (isOut (ofV (ofI hs cut t)) [] 10) := by
  have c1 := cal_Day t
  unfold ofI
  by_cases h : dayI t < 0
  · rw [if_pos h]
    generalize dayI t = d at *
    refine fc_of mixed T_ok Try.func9 rfl (by kernel_rfl) (by kernel_rfl) (by kernel_rfl) ?_
    repeat' ((conv => whnf); first | (refine vcall_pure (c1) rfl rfl rfl ?_) | (refine vcallD_pure (c1) rfl rfl rfl ?_) | ((first | apply br_dec | apply br_ndec) <;> intro h <;> try (exfalso; (try dsimp only at h); omega)) | ((first | apply br_seq | apply br_nseq | apply br_not | apply br_intro) <;> intro h) | refine cond_a ?_)
    all_goals (conv => whnf)
    all_goals first
      | exact ret_out (l := [0, 1, 2, 3, 4, 5, 6, 7, 8, 9]) rfl rfl trivial allRw_nil
      | (exfalso; omega)
      | trace_state
  · have hd := dayI_ok h
    rw [if_neg h]
    have c2 := cal_Business hn hs hh (dayI t)
    have c3 := cy_later np hn cut hs hh (dayI t) hd.2.1 hd.2.2.1
    generalize dayI t = d at *
    generalize secI t = s at *
    cases hb : busB hs d with
    | true =>
      rw [hb] at c2
      by_cases hq : s < cut
      · rw [if_pos ⟨rfl, hq⟩]
        unfold ofV
        rw [if_neg h]
        refine fc_of mixed T_ok Try.func9 rfl (by kernel_rfl) (by kernel_rfl) (by kernel_rfl) ?_
        repeat' ((conv => whnf); first | (refine vcall_pure (c1) rfl rfl rfl ?_) | (refine vcallD_pure (c1) rfl rfl rfl ?_) | refine vcall_o (l := [0, 2, 3]) (c2) ?_ | refine vcallD_o (l := [0, 2, 3]) (c2) ?_ | ((first | apply br_dec | apply br_ndec) <;> intro h <;> try (exfalso; (try dsimp only at h); omega)) | ((first | apply br_seq | apply br_nseq | apply br_not | apply br_intro) <;> intro h) | refine cond_a ?_)
        all_goals (conv => whnf)
        all_goals first
          | exact ret_out (l := [0, 1, 2, 3, 4, 5, 6, 7, 8, 9]) rfl rfl trivial allRw_nil
          | (exfalso; omega)
          | trace_state
      · rw [if_neg (fun w => hq w.2)]
        unfold ofV at c3 ⊢
        by_cases hx : nxI hs (d + 1) < 0
        · rw [if_pos hx] at c3 ⊢
          refine fc_of mixed T_ok Try.func9 rfl (by kernel_rfl) (by kernel_rfl) (by kernel_rfl) ?_
          repeat' ((conv => whnf); first | (refine vcall_pure (c1) rfl rfl rfl ?_) | (refine vcallD_pure (c1) rfl rfl rfl ?_) | refine vcall_o (l := [0, 2, 3]) (c2) ?_ | refine vcallD_o (l := [0, 2, 3]) (c2) ?_ | refine vcall_o (l := [0, 1, 2, 3, 4, 5, 6, 7, 8, 9]) (c3) ?_ | refine vcallD_o (l := [0, 1, 2, 3, 4, 5, 6, 7, 8, 9]) (c3) ?_ | ((first | apply br_dec | apply br_ndec) <;> intro h <;> try (exfalso; (try dsimp only at h); omega)) | ((first | apply br_seq | apply br_nseq | apply br_not | apply br_intro) <;> intro h) | refine cond_a ?_)
          all_goals (conv => whnf)
          all_goals first
            | exact ret_out (l := [0, 1, 2, 3, 4, 5, 6, 7, 8, 9]) rfl rfl trivial allRw_nil
            | (exfalso; omega)
            | trace_state
        · rw [if_neg hx] at c3 ⊢
          refine fc_of mixed T_ok Try.func9 rfl (by kernel_rfl) (by kernel_rfl) (by kernel_rfl) ?_
          repeat' ((conv => whnf); first | (refine vcall_pure (c1) rfl rfl rfl ?_) | (refine vcallD_pure (c1) rfl rfl rfl ?_) | refine vcall_o (l := [0, 2, 3]) (c2) ?_ | refine vcallD_o (l := [0, 2, 3]) (c2) ?_ | refine vcall_o (l := [0, 1, 2, 3, 4, 5, 6, 7, 8, 9]) (c3) ?_ | refine vcallD_o (l := [0, 1, 2, 3, 4, 5, 6, 7, 8, 9]) (c3) ?_ | ((first | apply br_dec | apply br_ndec) <;> intro h <;> try (exfalso; (try dsimp only at h); omega)) | ((first | apply br_seq | apply br_nseq | apply br_not | apply br_intro) <;> intro h) | refine cond_a ?_)
          all_goals (conv => whnf)
          all_goals first
            | exact ret_out (l := [0, 1, 2, 3, 4, 5, 6, 7, 8, 9]) rfl rfl trivial allRw_nil
            | (exfalso; omega)
            | trace_state
    | false =>
      rw [hb] at c2
      rw [if_neg (fun w => by simp at w)]
      unfold ofV at c3 ⊢
      by_cases hx : nxI hs (d + 1) < 0
      · rw [if_pos hx] at c3 ⊢
        refine fc_of mixed T_ok Try.func9 rfl (by kernel_rfl) (by kernel_rfl) (by kernel_rfl) ?_
        repeat' ((conv => whnf); first | (refine vcall_pure (c1) rfl rfl rfl ?_) | (refine vcallD_pure (c1) rfl rfl rfl ?_) | refine vcall_o (l := [0, 2, 3]) (c2) ?_ | refine vcallD_o (l := [0, 2, 3]) (c2) ?_ | refine vcall_o (l := [0, 1, 2, 3, 4, 5, 6, 7, 8, 9]) (c3) ?_ | refine vcallD_o (l := [0, 1, 2, 3, 4, 5, 6, 7, 8, 9]) (c3) ?_ | ((first | apply br_dec | apply br_ndec) <;> intro h <;> try (exfalso; (try dsimp only at h); omega)) | ((first | apply br_seq | apply br_nseq | apply br_not | apply br_intro) <;> intro h) | refine cond_a ?_)
        all_goals (conv => whnf)
        all_goals first
          | exact ret_out (l := [0, 1, 2, 3, 4, 5, 6, 7, 8, 9]) rfl rfl trivial allRw_nil
          | (exfalso; omega)
          | trace_state
      · rw [if_neg hx] at c3 ⊢
        refine fc_of mixed T_ok Try.func9 rfl (by kernel_rfl) (by kernel_rfl) (by kernel_rfl) ?_
        repeat' ((conv => whnf); first | (refine vcall_pure (c1) rfl rfl rfl ?_) | (refine vcallD_pure (c1) rfl rfl rfl ?_) | refine vcall_o (l := [0, 2, 3]) (c2) ?_ | refine vcallD_o (l := [0, 2, 3]) (c2) ?_ | refine vcall_o (l := [0, 1, 2, 3, 4, 5, 6, 7, 8, 9]) (c3) ?_ | refine vcallD_o (l := [0, 1, 2, 3, 4, 5, 6, 7, 8, 9]) (c3) ?_ | ((first | apply br_dec | apply br_ndec) <;> intro h <;> try (exfalso; (try dsimp only at h); omega)) | ((first | apply br_seq | apply br_nseq | apply br_not | apply br_intro) <;> intro h) | refine cond_a ?_)
        all_goals (conv => whnf)
        all_goals first
          | exact ret_out (l := [0, 1, 2, 3, 4, 5, 6, 7, 8, 9]) rfl rfl trivial allRw_nil
          | (exfalso; omega)
          | trace_state
theorem cy_Closed (np m : Nat) (cut : Int) (cd : List Int) (hm : cd.length = m) (d : Int) : FC Try.prog 10 27 [.ptr 1 0 0 0, .int .i64 d] [(1, cyC true 2 4 5 6 np cut), (6, tmM true m cd)] (isOut (.bool (decide (d ∈ cd))) [] 10) := by
  have hg := tm_get hm d
  rw [← hg]
  refine fc_of mixed T_ok Try.func27 rfl (by kernel_rfl) (by kernel_rfl) (by kernel_rfl) ?_
  repeat' ((conv => whnf); first | ((first | apply br_dec | apply br_ndec) <;> intro h <;> try (exfalso; (try dsimp only at h); omega)) | ((first | apply br_seq | apply br_nseq | apply br_not | apply br_intro) <;> intro h) | refine cond_a ?_)
  all_goals (conv => whnf)
  all_goals first
    | exact ret_out (l := [0, 1, 2, 3, 4, 5, 6, 7, 8, 9]) rfl rfl trivial allRw_nil
    | (exfalso; omega)
    | trace_state
end Go.Proofs.Ytkdjnmcaifejjaa

/- Contracts of package cycle: open cycles, positions, closing. -/
namespace Go.Proofs.Ytkdjnmcaifejjaa
open Go.RowKit Go.Sy
attribute [local irreducible] vcall vloop vcallD retP sortI
set_option maxRecDepth 100000
set_option linter.unusedVariables false
set_option linter.unusedSimpArgs false

theorem int_Sort (n : Nat) (l : List Int) (hn : n < 4611686018427387904) : FC Try.prog 2 38 [.sl 1 0 0 n] [(1, some (.one false (.cols n [.sc (.ints .i64 l)])))] (isOut (.tup []) [(1, some (.one false (.cols n [.sc (.ints .i64 (sortI l))])))] 2) :=
  fc_sortI ⟨fun blk off cap ss W hH hblk hsz => AnyM.slices_Sort_int Try.sortI blk off cap ss W hH hblk hsz, fun p cap W => AnyM.slices_Sort_int_none Try.sortI p cap W⟩ (bodied_of Try.func38 (by kernel_rfl) (by kernel_rfl)) n l hn
/-- The open dates of the rows that were visited; all of them, in order. -/
def opL (ds cd : List Int) (sn : List Nat) : List Int := (sn.reverse.map (fun i => ds.getD i 0)).filter (fun t => !decide (t ∈ cd))
def openS (ds cd : List Int) : List Int := sortI (ds.filter (fun t => !decide (t ∈ cd)))
theorem opL_yes {ds cd : List Int} {i : Nat} {sn : List Nat} (h : decide (ds.getD i 0 ∈ cd) = false) : opL ds cd (i :: sn) = opL ds cd sn ++ [ds.getD i 0] := by
  unfold opL
  rw [List.reverse_cons, List.map_append, List.filter_append]
  simp only [List.map_cons, List.map_nil, List.filter_cons, List.filter_nil, h, Bool.not_false, if_true]
theorem opL_no {ds cd : List Int} {i : Nat} {sn : List Nat} (h : decide (ds.getD i 0 ∈ cd) = true) : opL ds cd (i :: sn) = opL ds cd sn := by
  unfold opL
  rw [List.reverse_cons, List.map_append, List.filter_append]
  simp only [List.map_cons, List.map_nil, List.filter_cons, List.filter_nil, h, Bool.not_true, Bool.false_eq_true, if_false, List.append_nil]
theorem opL_len (ds cd : List Int) (sn : List Nat) : (opL ds cd sn).length ≤ sn.length := by
  unfold opL
  refine Nat.le_trans (List.length_filter_le _ _) ?_
  simp
theorem opL_eq {m : Nat} {ds cd : List Int} {sn : List Nat} (hk : ds.length = m) (hd : sn.Nodup) (hl : ∀ i ∈ sn, i < m) (ha : ∀ i, i < m → i ∈ sn) : sortI (opL ds cd sn) = openS ds cd := by
  unfold openS opL
  refine sortI_congr (List.Perm.filter _ ?_)
  have := ((List.reverse_perm sn).trans (perm_range hd hl ha)).map (fun i => ds.getD i 0)
  rwa [← hk, map_range_getD] at this
abbrev opR (np m nc : Nat) (cut : Int) (ds cd : List Int) : Heap := [(1, cyC true 2 4 5 6 np cut), (5, cyB true 7 m ds), (6, tmM true nc cd)]
theorem cy_Open (np m nc : Nat) (cut : Int) (ds cd : List Int) (hds : ds.length = m) (hcd : cd.length = nc) (hm : m ≤ 100000) : FC Try.prog 10 26 [.ptr 1 0 0 0] (opR np m nc cut ds cd) (isOut (.sl 10 0 0 (openS ds cd).length) [(10, some (.one false (.cols (openS ds cd).length [.sc (.ints .i64 (openS ds cd))])))] 11) := by
  refine fc_of mixed T_ok Try.func26 rfl (by kernel_rfl) (by kernel_rfl) (by kernel_rfl) ?_
  repeat' ((conv => whnf); first | ((first | apply br_dec | apply br_ndec) <;> intro h <;> try (exfalso; (try dsimp only at h); omega)) | ((first | apply br_seq | apply br_nseq | apply br_not | apply br_intro) <;> intro h) | refine cond_a ?_)
  all_goals (conv => whnf)
  refine vloop_of (fun sn : List Nat => ⟨[(0, .ptr 1 0 0 0), (11, .ptr 10 0 0 0), (3, .sl 11 0 0 (opL ds cd sn).length)], (10, some (.one false (.obj (.iter 5 0 (List.range m) m sn)))) :: (11, some (.one false (.cols (opL ds cd sn).length [.sc (.ints .i64 (opL ds cd sn))]))) :: opR np m nc cut ds cd, 12⟩) (fun sn => sn.Nodup ∧ ∀ i ∈ sn, i < m) (fun sn => m - sn.length) [] [0, 1, 2, 3, 4, 5, 6, 7, 8, 9, 10, 11] [.slot 3 [.sc (.ints .i64 [])]] ⟨rfl, ⟨rfl, rfl, rfl, trivial⟩, ⟨rfl, rfl, rfl, rfl, rfl, trivial⟩⟩ ⟨List.nodup_nil, by simp⟩ ?_
  rintro sn ⟨hnd, hb⟩
  have hsl := nodup_len _ sn hnd hb
  have htl := opL_len ds cd sn
  have cs := int_Sort (opL ds cd sn).length (opL ds cd sn) (by omega)
  have hg : ∀ d, (List.replicate nc true).getD (iidx cd d) false = decide (d ∈ cd) := tm_get hcd
  repeat' ((conv => whnf); first | (refine ⟨⟨rfl, rfl⟩, fun i hi hni => ?_, fun hall => ?_⟩) | refine vcall_o (l := [0, 11]) (cs) ?_ | ((first | apply br_dec | apply br_ndec) <;> intro h <;> try (exfalso; (try dsimp only at h); omega)) | ((first | apply br_seq | apply br_nseq | apply br_not | apply br_intro) <;> intro h) | refine cond_a ?_)
  all_goals (conv => whnf)
  all_goals (try simp only [hg] at h)
  · have hlt := nodup_cons_lt hnd hb hi hni
    refine ⟨i :: sn, [0, 1, 2, 3, 4, 5, 6, 7, 8, 9, 10, 13], [], ⟨List.nodup_cons.2 ⟨hni, hnd⟩, fun x hx => ?_⟩, by simp only [List.length_cons]; omega, ?_⟩
    · rcases List.mem_cons.1 hx with rfl | hx
      · exact hi
      · exact hb x hx
    · rw [opL_yes (by simpa using h), List.length_append]
      exact ⟨rfl, ⟨rfl, rfl, rfl, trivial⟩, ⟨rfl, rfl, rfl, rfl, rfl, trivial⟩⟩
  · have hlt := nodup_cons_lt hnd hb hi hni
    refine ⟨i :: sn, [0, 1, 2, 3, 4, 5, 6, 7, 8, 9, 10, 11], [], ⟨List.nodup_cons.2 ⟨hni, hnd⟩, fun x hx => ?_⟩, by simp only [List.length_cons]; omega, ?_⟩
    · rcases List.mem_cons.1 hx with rfl | hx
      · exact hi
      · exact hb x hx
    · rw [opL_no (by simpa using h)]
      exact ⟨rfl, ⟨rfl, rfl, rfl, trivial⟩, ⟨rfl, rfl, rfl, rfl, rfl, trivial⟩⟩
  · have ed := opL_eq (cd := cd) hds hnd hb hall
    have el : (opL ds cd sn).length = (openS ds cd).length := by rw [← ed, sortI_length]
    rw [ed, el]
    exact ret_out (l := [0, 1, 2, 3, 4, 5, 6, 7, 8, 9, 11]) rfl rfl ⟨rfl, trivial⟩ (allRw_cons allRw_nil)
theorem pos_ListF {B : List Bk} {m i np : Nat} {sp : List ByteArray} (hi : i < m) (h : BkI (B.getD i bk0) 4503599627370496) (hn : (B.getD i bk0).n = np) (hp : (B.getD i bk0).ps = sp) (hm : (B.getD i bk0).m ≤ 100000) : FC Try.prog 4 30 [.ptr 1 i 0 0] [(1, fmB true m (f7 2 3 np)), (2, fmB true m (f8 np sp)), (3, fmB true m (f9 B))] (isOut (.sl 4 0 0 (B.getD i bk0).list.length) [(4, some (.one false (pxB (B.getD i bk0).list.length (pxOf (B.getD i bk0).list))))] 5) := by
  have c := fc_fam [(1, ⟨i, fun x => x < m, f7 2 3 np⟩), (2, ⟨i, fun x => x < m, f8 np sp⟩), (3, ⟨i, fun x => x < m, f9 B⟩)] (by
    refine ⟨⟨by decide, by decide, _, _, rfl, hi, ?_, .inl rfl⟩, ⟨by decide, by decide, _, _, rfl, hi, rfl, .inl rfl⟩, ⟨by decide, by decide, _, _, rfl, hi, rfl, .inl rfl⟩, trivial⟩
    show Blk.cells [.sl 2 i 0 np, .map 3 i] = .cells [.sl 2 (0 + i) 0 np, .map 3 (0 + i)]
    rw [Nat.zero_add]) (by exact ⟨rfl, rfl, rfl, trivial⟩) (by exact ⟨rfl, trivial⟩) (allRw_cons allRw_nil) (pos_ListX h hn hp hm)
  have e : SV.mems (fmu [(1, ⟨i, fun x => x < m, f7 2 3 np⟩), (2, ⟨i, fun x => x < m, f8 np sp⟩), (3, ⟨i, fun x => x < m, f9 B⟩)]) [.ptr 1 0 0 0] = [.ptr 1 i 0 0] := by
    show [SV.ptr 1 (0 + i) 0 0] = _
    rw [Nat.zero_add]
  rw [e] at c
  exact c
theorem pos_ListN : Pure Try.prog 30 [.nptr] .nsl := by
  refine fc_of mixed T_ok Try.func30 rfl (by kernel_rfl) (by kernel_rfl) (by kernel_rfl) ?_
  repeat' ((conv => whnf); first | ((first | apply br_dec | apply br_ndec) <;> intro h <;> try (exfalso; (try dsimp only at h); omega)) | ((first | apply br_seq | apply br_nseq | apply br_not | apply br_intro) <;> intro h) | refine cond_a ?_)
  all_goals (conv => whnf)
  all_goals exact ret_pure rfl
/-- The positions of a cycle. -/
def posL (ds : List Int) (B : List Bk) (d : Int) : List Px := if d ∈ ds then (B.getD (iidx ds d) bk0).list else []
/-- What is asked of the books. -/
structure BksI (ds : List Int) (B : List Bk) (m np : Nat) (sp : List ByteArray) : Prop where
  dl : ds.length = m
  bl : B.length = m
  nd : ds.Nodup
  I : ∀ i, i < m → BkI (B.getD i bk0) 4503599627370496 ∧ (B.getD i bk0).n = np ∧ (B.getD i bk0).ps = sp ∧ (B.getD i bk0).m ≤ 100000
abbrev psR (np m : Nat) (cut : Int) (ds : List Int) (B : List Bk) (sp : List ByteArray) : Heap := [(1, cyC true 2 4 5 6 np cut), (5, cyB true 7 m ds), (7, fmB true m (f7 8 9 np)), (8, fmB true m (f8 np sp)), (9, fmB true m (f9 B))]
theorem cy_Positions {np m : Nat} {ds : List Int} {B : List Bk} {sp : List ByteArray} (hb : BksI ds B m np sp) (cut : Int) (d : Int) : FC Try.prog 10 15 [.ptr 1 0 0 0, .int .i64 d] (psR np m cut ds B sp) (isOut (.sl 10 0 0 (posL ds B d).length) [(10, some (.one false (pxB (posL ds B d).length (pxOf (posL ds B d)))))] 11) := by
  unfold posL
  by_cases h : d ∈ ds
  · have hi : iidx ds d < m := by rw [← hb.dl]; exact iidx_lt.2 h
    obtain ⟨b1, b2, b3, b4⟩ := hb.I _ hi
    rw [if_pos h]
    have c := pos_ListF (B := B) hi b1 b2 b3 b4
    have hfd : foundS false m [.ptrs 7 m] (iidx ds d) = .ptr 7 (iidx ds d) 0 0 := by
      show (bif decide (iidx ds d < m) then SV.ptr 7 (iidx ds d) 0 0 else .nptr) = _
      rw [decide_eq_true hi]; rfl
    refine fc_of mixed T_ok Try.func15 rfl (by kernel_rfl) (by kernel_rfl) (by kernel_rfl) ?_
    repeat' ((conv => whnf); first | (rw [hfd]) | refine vcall_o (l := [0, 7, 8, 9]) (c) ?_ | ((first | apply br_dec | apply br_ndec) <;> intro h <;> try (exfalso; (try dsimp only at h); omega)) | ((first | apply br_seq | apply br_nseq | apply br_not | apply br_intro) <;> intro h) | refine cond_a ?_)
    all_goals (conv => whnf)
    all_goals first
      | exact ret_out (l := [0, 1, 2, 3, 4, 5, 6, 7, 8, 9, 10]) rfl rfl ⟨rfl, trivial⟩ (allRw_cons allRw_nil)
      | (exfalso; omega)
      | trace_state
  · have hi : ¬ iidx ds d < m := by rw [← hb.dl]; exact fun q => h (iidx_lt.1 q)
    rw [if_neg h]
    refine fc_nil rfl ?_
    have hfd : foundS false m [.ptrs 7 m] (iidx ds d) = .nptr := by
      show (bif decide (iidx ds d < m) then SV.ptr 7 (iidx ds d) 0 0 else .nptr) = _
      rw [decide_eq_false hi]; rfl
    have c := pos_ListN
    refine fc_of mixed T_ok Try.func15 rfl (by kernel_rfl) (by kernel_rfl) (by kernel_rfl) ?_
    repeat' ((conv => whnf); first | (rw [hfd]) | (refine vcall_pure (c) rfl rfl rfl ?_) | (refine vcallD_pure (c) rfl rfl rfl ?_) | ((first | apply br_dec | apply br_ndec) <;> intro h <;> try (exfalso; (try dsimp only at h); omega)) | ((first | apply br_seq | apply br_nseq | apply br_not | apply br_intro) <;> intro h) | refine cond_a ?_)
    all_goals (conv => whnf)
    all_goals first
      | exact retP_mono (fun _ _ _ h => .inl h) (ret_out (l := [0, 1, 2, 3, 4, 5, 6, 7, 8, 9]) rfl rfl trivial allRw_nil)
      | (exfalso; omega)
      | trace_state
end Go.Proofs.Ytkdjnmcaifejjaa

/- Contracts of package cycle: closing a cycle; a move in the book of a date. -/
namespace Go.Proofs.Ytkdjnmcaifejjaa
open Go.RowKit Go.Sy
attribute [local irreducible] vcall vloop vcallD retP sortI
set_option maxRecDepth 100000
set_option linter.unusedVariables false
set_option linter.unusedSimpArgs false

/-- The error of closing a date. -/
def clE (hs ds cd : List Int) (d : Int) : Int := if busB hs d = false then 14 else if d ∈ cd then 23 else if 0 < (openS ds cd).length ∧ (openS ds cd).getD 0 0 < d then 8 else 0
abbrev clH (np m hn nc : Nat) (cut : Int) (hs ds cd : List Int) (B : List Bk) (sp : List ByteArray) : Heap := [(1, cyC true 2 4 5 6 np cut), (2, calC true 3), (3, tmM true hn hs), (5, cyB true 7 m ds), (6, tmM false nc cd), (7, fmB true m (f7 8 9 np)), (8, fmB true m (f8 np sp)), (9, fmB true m (f9 B))]
def clO (hs ds cd : List Int) (B : List Bk) (d : Int) : SV → Heap → Nat → Prop := if clE hs ds cd d = 0 then isOut (.tup [.sl 10 0 0 (posL ds B d).length, .int .i64 0]) [(6, tmM false (cd ++ [d]).length (cd ++ [d])), (10, some (.one false (pxB (posL ds B d).length (pxOf (posL ds B d)))))] 11 else isOut (.tup [.nsl, .int .i64 (clE hs ds cd d)]) [(6, tmM false cd.length cd)] 10
theorem cy_Close {np m hn nc : Nat} {hs ds cd : List Int} {B : List Bk} {sp : List ByteArray} (hb : BksI ds B m np sp) (hh : hs.length = hn) (hc : cd.length = nc) (hm : m ≤ 100000) (cut d : Int) : FC Try.prog 10 16 [.ptr 1 0 0 0, .int .i64 d] (clH np m hn nc cut hs ds cd B sp) (clO hs ds cd B d) := by
  subst hc
  have c1 := cal_Business hn hs hh d
  have c2 := cy_Open np m cd.length cut ds cd hb.dl rfl hm
  have c3 := cy_Positions hb cut d
  have hg := tm_get (n := cd.length) (ks := cd) rfl d
  have hput := tmPut (s := cd) rfl d
  unfold clO clE
  cases hq : busB hs d with
  | false =>
    rw [hq] at c1
    rw [if_pos rfl, if_neg (by decide)]
    refine fc_of mixed T_ok Try.func16 rfl (by kernel_rfl) (by kernel_rfl) (by kernel_rfl) ?_
    repeat' ((conv => whnf); first | refine vcall_o (l := [0, 2, 3]) (c1) ?_ | ((first | apply br_dec | apply br_ndec) <;> intro h <;> try (exfalso; (try dsimp only at h); omega)) | ((first | apply br_seq | apply br_nseq | apply br_not | apply br_intro) <;> intro h) | refine cond_a ?_)
    all_goals (conv => whnf)
    all_goals first
      | exact ret_out (l := [0, 1, 2, 3, 4, 5, 6, 7, 8, 9]) rfl rfl ⟨rfl, trivial⟩ (allRw_cons allRw_nil)
      | (exfalso; omega)
      | trace_state
  | true =>
    rw [hq] at c1
    rw [if_neg (show ¬ true = false by simp)]
    by_cases hd : d ∈ cd
    · rw [decide_eq_true hd] at hg
      rw [if_pos hd, if_neg (by decide)]
      refine fc_of mixed T_ok Try.func16 rfl (by kernel_rfl) (by kernel_rfl) (by kernel_rfl) ?_
      repeat' ((conv => whnf); first | refine vcall_o (l := [0, 2, 3]) (c1) ?_ | ((first | apply br_dec | apply br_ndec) <;> intro h <;> try (exfalso; (try dsimp only at h); omega)) | ((first | apply br_seq | apply br_nseq | apply br_not | apply br_intro) <;> intro h) | refine cond_a ?_)
      all_goals (conv => whnf)
      all_goals first
        | exact ret_out (l := [0, 1, 2, 3, 4, 5, 6, 7, 8, 9]) rfl rfl ⟨rfl, trivial⟩ (allRw_cons allRw_nil)
        | (exfalso; rw [hg] at h; cases h; done)
        | trace_state
    · rw [decide_eq_false hd] at hg
      rw [if_neg hd] at hput ⊢
      have hol : (openS ds cd).length ≤ 100000 := by
        unfold openS
        rw [sortI_length]
        exact Nat.le_trans (List.length_filter_le _ _) (by rw [hb.dl]; exact hm)
      generalize openS ds cd = S at *
      by_cases hS : 0 < S.length ∧ S.getD 0 0 < d
      · rw [if_pos hS, if_neg (by decide)]
        refine fc_of mixed T_ok Try.func16 rfl (by kernel_rfl) (by kernel_rfl) (by kernel_rfl) ?_
        repeat' ((conv => whnf); first | refine vcall_o (l := [0, 2, 3]) (c1) ?_ | refine vcall_o (l := [0, 1, 2, 3, 4, 5, 6, 7, 8, 9]) (c2) ?_ | ((first | apply br_dec | apply br_ndec) <;> intro h <;> try (exfalso; (try dsimp only at h); omega)) | ((first | apply br_seq | apply br_nseq | apply br_not | apply br_intro) <;> intro h) | refine cond_a ?_)
        all_goals (conv => whnf)
        all_goals first
          | exact ret_out (l := [0, 1, 2, 3, 4, 5, 6, 7, 8, 9]) rfl rfl ⟨rfl, trivial⟩ (allRw_cons allRw_nil)
          | (exfalso; rw [hg] at h; cases h; done)
          | exact absurd hS.2 h
          | exact absurd ⟨by omega, h⟩ hS
          | (exfalso; omega)
          | trace_state
      · rw [if_neg hS, if_pos rfl]
        refine fc_of mixed T_ok Try.func16 rfl (by kernel_rfl) (by kernel_rfl) (by kernel_rfl) ?_
        repeat' ((conv => whnf); first | refine vcall_o (l := [0, 2, 3]) (c1) ?_ | refine vcall_o (l := [0, 1, 2, 3, 4, 5, 6, 7, 8, 9]) (c2) ?_ | refine vcall_o (l := [0, 1, 2, 3, 4, 5, 6, 7, 8, 9]) (c3) ?_ | ((first | apply br_dec | apply br_ndec) <;> intro h <;> try (exfalso; (try dsimp only at h); omega)) | ((first | apply br_seq | apply br_nseq | apply br_not | apply br_intro) <;> intro h) | refine cond_a ?_)
        all_goals (conv => whnf)
        all_goals first
          | exact ret_out (l := [0, 1, 2, 3, 4, 5, 6, 7, 8, 9, 10]) rfl rfl ⟨hput, rfl, trivial⟩ (allRw_cons (allRw_cons allRw_nil))
          | exact ret_out (l := [0, 1, 2, 3, 4, 5, 6, 7, 8, 9, 11]) rfl rfl ⟨hput, rfl, trivial⟩ (allRw_cons (allRw_cons allRw_nil))
          | (exfalso; rw [hg] at h; cases h; done)
          | exact absurd hS.2 h
          | exact absurd ⟨by omega, h⟩ hS
          | (exfalso; omega)
          | trace_state
end Go.Proofs.Ytkdjnmcaifejjaa

/- Contracts of package cycle: the book of a date, moves. -/
namespace Go.Proofs.Ytkdjnmcaifejjaa
open Go.RowKit Go.Sy
attribute [local irreducible] vcall vloop vcallD retP sortI
set_option maxRecDepth 100000
set_option linter.unusedVariables false
set_option linter.unusedSimpArgs false

theorem f9_set {B : List Bk} {i : Nat} (hi : i < B.length) (b : Bk) (x : Nat) : (if x = i then bkMb b else f9 B x) = f9 (B.set i b) x := by
  unfold f9
  by_cases e : x = i
  · subst e
    rw [if_pos rfl, List.getD, List.getElem?_set_self hi]; rfl
  · rw [if_neg e, List.getD, List.getD, List.getElem?_set_ne (fun q => e q.symm)]
theorem pos_MoveF {B : List Bk} {m i np : Nat} {sp : List ByteArray} (hi : i < m) (hB : B.length = m) (h : BkI (B.getD i bk0) 4503599627370496) (hn : (B.getD i bk0).n = np) (hp : (B.getD i bk0).ps = sp) (f t c : ByteArray) (a : Int) : FC Try.prog 4 32 [.ptr 1 i 0 0, .str f, .str t, .agg [.int .i64 a, .str c]] [(1, fmB true m (f7 2 3 np)), (2, fmB true m (f8 np sp)), (3, fmB false m (f9 B))] (isOut (.int .i64 (mvE (B.getD i bk0) f t c a)) [(3, fmB false m (f9 (B.set i ((B.getD i bk0).mv f t c a))))] 4) := by
  have c0 := fc_fam [(1, ⟨i, fun x => x < m, f7 2 3 np⟩), (2, ⟨i, fun x => x < m, f8 np sp⟩), (3, ⟨i, fun x => x < m, f9 B⟩)] (by
    refine ⟨⟨by decide, by decide, _, _, rfl, hi, ?_, .inl rfl⟩, ⟨by decide, by decide, _, _, rfl, hi, rfl, .inl rfl⟩, ⟨by decide, by decide, _, _, rfl, hi, rfl, .inr ⟨rfl, _, rfl⟩⟩, trivial⟩
    show Blk.cells [.sl 2 i 0 np, .map 3 i] = .cells [.sl 2 (0 + i) 0 np, .map 3 (0 + i)]
    rw [Nat.zero_add]) (by exact ⟨rfl, rfl, rfl, trivial⟩) (by exact ⟨rfl, trivial⟩) (allRw_cons allRw_nil) (pos_MoveX h hn hp f t c a)
  have e : SV.mems (fmu [(1, ⟨i, fun x => x < m, f7 2 3 np⟩), (2, ⟨i, fun x => x < m, f8 np sp⟩), (3, ⟨i, fun x => x < m, f9 B⟩)]) [.ptr 1 0 0 0, .str f, .str t, .agg [.int .i64 a, .str c]] = [.ptr 1 i 0 0, .str f, .str t, .agg [.int .i64 a, .str c]] := by
    show [SV.ptr 1 (0 + i) 0 0, .str f, .str t, .agg [.int .i64 a, .str c]] = _
    rw [Nat.zero_add]
  rw [e] at c0
  have e2 : f9 (B.set i ((B.getD i bk0).mv f t c a)) = fun x => if x = i then bkMb ((B.getD i bk0).mv f t c a) else f9 B x := funext fun x => (f9_set (by omega) _ x).symm
  rw [e2]
  exact c0
abbrev bksH (h5 h7 h8 h9 np m : Nat) (ds : List Int) (B : List Bk) (sp : List ByteArray) : Heap := [(h5, cyB false h7 m ds), (h7, fmB false m (f7 h8 h9 np)), (h8, fmB false m (f8 np sp)), (h9, fmB false m (f9 B))]
theorem cy_book_old {np m : Nat} {ds : List Int} (hds : ds.length = m) (cut d : Int) (h : d ∈ ds) : FC Try.prog 10 31 [.ptr 1 0 0 0, .int .i64 d] [(1, cyC true 2 4 5 6 np cut), (5, cyB true 7 m ds)] (isOut (.tup [.ptr 7 (iidx ds d) 0 0, .int .i64 0]) [] 10) := by
  have hi : iidx ds d < m := by rw [← hds]; exact iidx_lt.2 h
  have hfd : foundS false m [.ptrs 7 m] (iidx ds d) = .ptr 7 (iidx ds d) 0 0 := by
    show (bif decide (iidx ds d < m) then SV.ptr 7 (iidx ds d) 0 0 else .nptr) = _
    rw [decide_eq_true hi]; rfl
  have hdec : decide (iidx ds d < m) = true := decide_eq_true hi
  refine fc_of mixed T_ok Try.func31 rfl (by kernel_rfl) (by kernel_rfl) (by kernel_rfl) ?_
  repeat' ((conv => whnf); first | (rw [hfd, hdec]) | ((first | apply br_dec | apply br_ndec) <;> intro h <;> try (exfalso; (try dsimp only at h); omega)) | ((first | apply br_seq | apply br_nseq | apply br_not | apply br_intro) <;> intro h) | refine cond_a ?_)
  all_goals (conv => whnf)
  all_goals first
    | exact ret_out (l := [0, 1, 2, 3, 4, 5, 6, 7, 8, 9]) rfl rfl trivial allRw_nil
    | (exfalso; omega)
    | trace_state
theorem cy_book_new {np m : Nat} {ds : List Int} {pr : List ByteArray} (hds : ds.length = m) (hp : pr.length = np) (he : nwErr pr = 0) (cut d : Int) (h : ¬ d ∈ ds) : FC Try.prog 10 31 [.ptr 1 0 0 0, .int .i64 d] [(1, cyC true 2 4 5 6 np cut), (4, cyP true np pr), (5, cyB true 7 m ds)] (isOut (.tup [.ptr 10 0 0 0, .int .i64 0]) [(10, bkC false 11 12 np), (11, cyP false np (sortS pr)), (12, bkM false (nwB pr))] 13) := by
  subst hp
  have hi : ¬ iidx ds d < m := by rw [← hds]; exact fun q => h (iidx_lt.1 q)
  have hdec : decide (iidx ds d < m) = false := decide_eq_false hi
  have hfd : foundS false m [.ptrs 7 m] (iidx ds d) = .nptr := by
    show (bif decide (iidx ds d < m) then SV.ptr 7 (iidx ds d) 0 0 else .nptr) = _
    rw [hdec]; rfl
  have c := pos_NewA pr pr.length rfl
  unfold nwOut at c
  rw [if_neg (by rw [he]; simp)] at c
  refine fc_of mixed T_ok Try.func31 rfl (by kernel_rfl) (by kernel_rfl) (by kernel_rfl) ?_
  repeat' ((conv => whnf); first | (rw [hfd, hdec]) | refine vcall_o (l := [0, 4]) (c) ?_ | ((first | apply br_dec | apply br_ndec) <;> intro h <;> try (exfalso; (try dsimp only at h); omega)) | ((first | apply br_seq | apply br_nseq | apply br_not | apply br_intro) <;> intro h) | refine cond_a ?_)
  all_goals (conv => whnf)
  all_goals first
    | exact ret_out (l := [0, 1, 2, 3, 4, 5, 6, 7, 8, 9, 10, 11, 12]) rfl rfl ⟨rfl, rfl, rfl, trivial⟩ (allRw_cons (allRw_cons (allRw_cons allRw_nil)))
    | (exfalso; omega)
    | trace_state
end Go.Proofs.Ytkdjnmcaifejjaa

