/- Contracts of package money: scaled amounts, and the reference's. -/
import Derived.Test.YtakaafolanojkaaDoorMoneyC3
namespace Go.Proofs.YtakaafolanojkaaDoor
open Go.RowKit Go.Sy
attribute [local irreducible] vcall vloop vcallD retP
set_option maxRecDepth 100000
set_option linter.unusedVariables false
set_option linter.unusedSimpArgs false

theorem iand_one {x : Nat} (h : x < 9223372036854775808) : iand .i64 (x : Int) 1 = ((x % 2 : Nat) : Int) := by
  have h1 : (BitVec.ofInt 64 (x : Int) &&& BitVec.ofInt 64 1).toNat = x % 2 := by
    rw [BitVec.toNat_and, BitVec.toNat_ofInt, BitVec.toNat_ofInt]
    rw [show ((x : Int) % ((2 ^ 64 : Nat) : Int)).toNat = x by omega, show ((1 : Int) % ((2 ^ 64 : Nat) : Int)).toNat = 2 ^ 1 - 1 by decide, Nat.and_two_pow_sub_one_eq_mod]
  show IntKind.i64.wrap (((BitVec.ofInt 64 (x : Int) &&& BitVec.ofInt 64 1).toNat : Nat) : Int) = _
  rw [h1]
  exact w64_in (by omega) (by omega)
theorem ishr_i64 {x s : Nat} (h : s ≤ 64) : ishr .i64 (x : Int) (s : Int) = ((x / 2 ^ s : Nat) : Int) := by
  rw [ishr_lit (k := .i64) s h]
  simp

theorem dv_eq (a d N b : Nat) (hd : 1 ≤ d) : a * (2 * N + b) = d * (2 * (a * N / d)) + (2 * (a * N % d) + a * b) := by
  have h := Nat.div_add_mod (a * N) d
  rw [Nat.mul_add, Nat.mul_left_comm a 2 N, Nat.mul_left_comm d 2]
  omega
theorem dv_mod (a d N b : Nat) (hd : 1 ≤ d) : a * (2 * N + b) % d = (2 * (a * N % d) + a * b) % d := by
  rw [dv_eq a d N b hd, Nat.mul_add_mod]
theorem dv_div (a d N b L : Nat) (hd : 1 ≤ d) : min (a * (2 * N + b) / d) (L + 1) = if L < 2 * min (a * N / d) (L + 1) + (2 * (a * N % d) + a * b) / d then L + 1 else 2 * min (a * N / d) (L + 1) + (2 * (a * N % d) + a * b) / d := by
  rw [dv_eq a d N b hd, Nat.mul_add_div (by omega)]
  generalize a * N / d = Q
  generalize (2 * (a * N % d) + a * b) / d = X
  split <;> omega

/-- The magnitude of a product over a divisor: quotient, remainder, rounded. -/
def sclQ (a num den : Int) : Nat := a.natAbs * num.natAbs / den.toNat
def sclR (a num den : Int) : Nat := a.natAbs * num.natAbs % den.toNat
def sclN (a num den mode : Int) : Nat := rnd (sclQ a num den) (sclR a num den) den.toNat mode
/-- The error of a scaled amount. -/
def sclE (a : Int) (c : ByteArray) (num den mode : Int) : Int :=
  if mchk a c ≠ 0 then mchk a c else if den < 1 ∨ 1099511627776 < den ∨ num < -1099511627776 ∨ 1099511627776 < num ∨ mode < 1 ∨ 4 < mode then 4 else if 4503599627370496 < sclN a num den mode then 4 else 0
/-- The scaled amount. -/
def sclA (a num den mode : Int) : Int := if decide (a < 0) = decide (num < 0) then (sclN a num den mode : Int) else -(sclN a num den mode : Int)
/-- An amount, or nothing if there is an error. -/
def orS (e : Int) (c : ByteArray) : ByteArray := if e = 0 then c else ⟨#[]⟩
def orN (e : Int) (n : Int) : Int := if e = 0 then n else 0
def sclT (a : Int) (c : ByteArray) (num den mode : Int) : SV := .tup [.agg [.int .i64 (orN (sclE a c num den mode) (sclA a num den mode)), .str (orS (sclE a c num den mode) c)], .int .i64 (sclE a c num den mode)]
attribute [irreducible] sclN sclE sclA orS orN sclQ sclR

theorem money_total (n : Int) (c : ByteArray) : Pure Tryd.prog 32 [.int .i64 n, .str c] (.tup [.agg [.int .i64 (if -4503599627370496 ≤ n ∧ n ≤ 4503599627370496 then n else 0), .str (if -4503599627370496 ≤ n ∧ n ≤ 4503599627370496 then c else ⟨#[]⟩)], .int .i64 (if -4503599627370496 ≤ n ∧ n ≤ 4503599627370496 then 0 else 4)]) := by
  refine fc_of mixed T_ok Tryd.func32 rfl (by kernel_rfl) (by kernel_rfl) (by kernel_rfl) ?_
  repeat' ((conv => whnf); first | (refine vcall_pure (money_inTotal _) rfl rfl rfl ?_) | (refine br_dec (fun h => ?_) (fun h => ?_) <;> try (exfalso; (try dsimp only at h); omega)) | (refine br_ndec (fun h => ?_) (fun h => ?_) <;> try (exfalso; (try dsimp only at h); omega)) | refine br_seq (fun h => ?_) (fun h => ?_) | refine br_nseq (fun h => ?_) (fun h => ?_) | refine br_not (fun h => ?_) (fun h => ?_) | refine br_intro (fun h => ?_) (fun h => ?_) | refine cond_intro rfl ?_ | (refine cond_intro ⟨rfl, ?_⟩ ?_; (first | omega | (dsimp only; omega) | decide)) | (refine cond_intro ?_ ?_; (first | omega | (dsimp only; omega) | decide | (simp only [Nat.add_zero, Int.toNat_natCast, *]; omega))))
  all_goals (conv => whnf)
  all_goals refine ret_pure ?_
  · rw [if_neg (by assumption), if_neg (by assumption), if_neg (by assumption)]; rfl
  · rw [if_pos (by assumption), if_pos (by assumption), if_pos (by assumption)]; rfl

theorem sclT_err {a : Int} {c : ByteArray} {num den mode e : Int} (h : sclE a c num den mode = e) (he : e ≠ 0) : sclT a c num den mode = .tup [.agg [.int .i64 0, .str ⟨#[]⟩], .int .i64 e] := by
  unfold sclT; rw [h]; unfold orN orS; rw [if_neg he, if_neg he]
theorem sclT_ok {a : Int} {c : ByteArray} {num den mode : Int} (h : sclE a c num den mode = 0) : sclT a c num den mode = .tup [.agg [.int .i64 (sclA a num den mode), .str c], .int .i64 0] := by
  unfold sclT; rw [h]; unfold orN orS; rw [if_pos rfl, if_pos rfl]

theorem money_Scale (a : Int) (c : ByteArray) (num den mode : Int) (hn1 : -9223372036854775808 ≤ num) (hn2 : num ≤ 9223372036854775807) : Pure Tryd.prog 20 [.agg [.int .i64 a, .str c], .int .i64 num, .int .i64 den, .int .i64 mode] (sclT a c num den mode) := by
  have ck := money_Check a c
  refine fc_of mixed T_ok Tryd.func20 rfl (by kernel_rfl) (by kernel_rfl) (by kernel_rfl) ?_
  rcases mchk_or a c with hm | ⟨hm, hcur, ha1, ha2⟩
  · have he : sclE a c num den mode = mchk a c := by unfold sclE; rw [if_pos (by omega)]
    rw [sclT_err he (by omega)]
    repeat' ((conv => whnf); first | (refine vcall_pure (ck) rfl rfl rfl ?_) | (refine br_dec (fun h => ?_) (fun h => ?_) <;> try (exfalso; (try dsimp only at h); omega)) | (refine br_ndec (fun h => ?_) (fun h => ?_) <;> try (exfalso; (try dsimp only at h); omega)) | refine br_seq (fun h => ?_) (fun h => ?_) | refine br_nseq (fun h => ?_) (fun h => ?_) | refine br_not (fun h => ?_) (fun h => ?_) | refine br_intro (fun h => ?_) (fun h => ?_) | refine cond_intro rfl ?_ | (refine cond_intro ⟨rfl, ?_⟩ ?_; (first | omega | (dsimp only; omega) | decide)) | (refine cond_intro ?_ ?_; (first | omega | (dsimp only; omega) | decide | (simp only [Nat.add_zero, Int.toNat_natCast, *]; omega))))
    all_goals (conv => whnf)
    all_goals exact ret_pure rfl
  · rw [hm] at ck
    by_cases hp : den < 1 ∨ 1099511627776 < den ∨ num < -1099511627776 ∨ 1099511627776 < num ∨ mode < 1 ∨ 4 < mode
    · have he : sclE a c num den mode = 4 := by unfold sclE; rw [if_neg (by omega), if_pos hp]
      rw [sclT_err he (by omega)]
      repeat' ((conv => whnf); first | (refine vcall_pure (ck) rfl rfl rfl ?_) | (refine br_dec (fun h => ?_) (fun h => ?_) <;> try (exfalso; (try dsimp only at h); omega)) | (refine br_ndec (fun h => ?_) (fun h => ?_) <;> try (exfalso; (try dsimp only at h); omega)) | refine br_seq (fun h => ?_) (fun h => ?_) | refine br_nseq (fun h => ?_) (fun h => ?_) | refine br_not (fun h => ?_) (fun h => ?_) | refine br_intro (fun h => ?_) (fun h => ?_) | refine cond_intro rfl ?_ | (refine cond_intro ⟨rfl, ?_⟩ ?_; (first | omega | (dsimp only; omega) | decide)) | (refine cond_intro ?_ ?_; (first | omega | (dsimp only; omega) | decide | (simp only [Nat.add_zero, Int.toNat_natCast, *]; omega))))
      all_goals (conv => whnf)
      all_goals exact ret_pure rfl
    · have m1 := money_magnitude a (by omega) (by omega)
      have m2 := money_magnitude num hn1 hn2
      have mm := bits_Mul64 a.natAbs num.natAbs (by omega) (by omega)
      have hprod : a.natAbs * num.natAbs ≤ 4503599627370496 * 1099511627776 := Nat.mul_le_mul (by omega) (by omega)
      have ed : IntKind.u64.wrap den = (den.toNat : Int) := by rw [u64_in' (by omega) (by omega)]; omega
      have sq : sclQ a num den = a.natAbs * num.natAbs / den.toNat := by unfold sclQ; rfl
      have sr : sclR a num den = a.natAbs * num.natAbs % den.toNat := by unfold sclR; rfl
      have hR : sclR a num den < den.toNat := by rw [sr]; exact Nat.mod_lt _ (by omega)
      by_cases hh : den.toNat ≤ a.natAbs * num.natAbs / 18446744073709551616
      · have hq : 4503599627370496 < sclN a num den mode := by
          have h1 := (rnd_bd (sclQ a num den) (sclR a num den) den.toNat mode).1
          have h2 : 18446744073709551616 ≤ sclQ a num den := by
            rw [sq, Nat.le_div_iff_mul_le (by omega)]
            have := (Nat.le_div_iff_mul_le (by omega)).1 hh
            omega
          unfold sclN
          omega
        have he : sclE a c num den mode = 4 := by unfold sclE; rw [if_neg (by omega), if_neg hp, if_pos hq]
        rw [sclT_err he (by omega)]
        repeat' ((conv => whnf); first | (refine vcall_pure (ck) rfl rfl rfl ?_) | (refine vcall_pure (m1) rfl rfl rfl ?_) | (refine vcall_pure (m2) rfl rfl rfl ?_) | (refine vcall_pure (mm) rfl rfl rfl ?_) | (refine br_dec (fun h => ?_) (fun h => ?_) <;> try (exfalso; first | omega | (dsimp only at h; rw [ed] at h; omega))) | (refine br_dec (fun h => ?_) (fun h => ?_) <;> try (exfalso; (try dsimp only at h); omega)) | (refine br_ndec (fun h => ?_) (fun h => ?_) <;> try (exfalso; (try dsimp only at h); omega)) | refine br_seq (fun h => ?_) (fun h => ?_) | refine br_nseq (fun h => ?_) (fun h => ?_) | refine br_not (fun h => ?_) (fun h => ?_) | refine br_intro (fun h => ?_) (fun h => ?_) | refine cond_intro rfl ?_ | (refine cond_intro ⟨rfl, ?_⟩ ?_; (first | omega | (dsimp only; omega) | decide)) | (refine cond_intro ?_ ?_; (first | omega | (dsimp only; omega) | decide | (simp only [Nat.add_zero, Int.toNat_natCast, *]; omega))))
        all_goals (conv => whnf)
        all_goals exact ret_pure rfl
      · have dd := bits_Div64 (a.natAbs * num.natAbs / 18446744073709551616) (a.natAbs * num.natAbs % 18446744073709551616) den.toNat (by omega) (by omega) (by omega)
        rw [Nat.div_add_mod', ← sq, ← sr, ← ed] at dd
        by_cases hq : 4503599627370496 < sclQ a num den
        · have he : sclE a c num den mode = 4 := by
            have h1 := (rnd_bd (sclQ a num den) (sclR a num den) den.toNat mode).1
            unfold sclE; rw [if_neg (by omega), if_neg hp, if_pos (by unfold sclN; omega)]
          rw [sclT_err he (by omega)]
          repeat' ((conv => whnf); first | (refine vcall_pure (ck) rfl rfl rfl ?_) | (refine vcall_pure (m1) rfl rfl rfl ?_) | (refine vcall_pure (m2) rfl rfl rfl ?_) | (refine vcall_pure (mm) rfl rfl rfl ?_) | (refine vcall_pure (dd) rfl rfl rfl ?_) | (refine br_dec (fun h => ?_) (fun h => ?_) <;> try (exfalso; first | omega | (dsimp only at h; rw [ed] at h; omega))) | (refine br_dec (fun h => ?_) (fun h => ?_) <;> try (exfalso; (try dsimp only at h); omega)) | (refine br_ndec (fun h => ?_) (fun h => ?_) <;> try (exfalso; (try dsimp only at h); omega)) | refine br_seq (fun h => ?_) (fun h => ?_) | refine br_nseq (fun h => ?_) (fun h => ?_) | refine br_not (fun h => ?_) (fun h => ?_) | refine br_intro (fun h => ?_) (fun h => ?_) | refine cond_intro rfl ?_ | (refine cond_intro ⟨rfl, ?_⟩ ?_; (first | omega | (dsimp only; omega) | decide)) | (refine cond_intro ?_ ?_; (first | omega | (dsimp only; omega) | decide | (simp only [Nat.add_zero, Int.toNat_natCast, *]; omega))))
          all_goals (conv => whnf)
          all_goals exact ret_pure rfl
        · have rr := money_rounded (sclQ a num den) (sclR a num den) den.toNat mode (by omega) (by omega) hR
          have en : rnd (sclQ a num den) (sclR a num den) den.toNat mode = sclN a num den mode := by unfold sclN; rfl
          have bd := rnd_bd (sclQ a num den) (sclR a num den) den.toNat mode
          rw [en] at rr bd
          rw [← ed] at rr
          have ew : IntKind.i64.wrap (sclN a num den mode : Int) = (sclN a num den mode : Int) := w64_in (by omega) (by omega)
          have ew2 : IntKind.i64.wrap (0 - IntKind.i64.wrap (sclN a num den mode : Int)) = -(sclN a num den mode : Int) := by rw [ew, w64_in (by omega) (by omega)]; omega
          have t1 := money_total (IntKind.i64.wrap (sclN a num den mode : Int)) c
          have t2 := money_total (IntKind.i64.wrap (0 - IntKind.i64.wrap (sclN a num den mode : Int))) c
          by_cases hs : (decide (a < 0) == decide (num < 0)) = true
          · by_cases hN : 4503599627370496 < sclN a num den mode
            · have he : sclE a c num den mode = 4 := by unfold sclE; rw [if_neg (by omega), if_neg hp, if_pos hN]
              rw [sclT_err he (by omega)]
              rw [if_neg (by rw [ew]; omega), if_neg (by rw [ew]; omega), if_neg (by rw [ew]; omega)] at t1
              repeat' ((conv => whnf); first | (refine vcall_pure (ck) rfl rfl rfl ?_) | (refine vcall_pure (m1) rfl rfl rfl ?_) | (refine vcall_pure (m2) rfl rfl rfl ?_) | (refine vcall_pure (mm) rfl rfl rfl ?_) | (refine vcall_pure (dd) rfl rfl rfl ?_) | (refine vcall_pure (rr) rfl rfl rfl ?_) | (refine vcall_pure (t1) rfl rfl rfl ?_) | (refine br_not (fun h => ?_) (fun h => ?_) <;> try (exfalso; exact absurd (hs.symm.trans h) (by decide))) | (refine br_dec (fun h => ?_) (fun h => ?_) <;> try (exfalso; first | omega | (dsimp only at h; rw [ed] at h; omega))) | (refine br_dec (fun h => ?_) (fun h => ?_) <;> try (exfalso; (try dsimp only at h); omega)) | (refine br_ndec (fun h => ?_) (fun h => ?_) <;> try (exfalso; (try dsimp only at h); omega)) | refine br_seq (fun h => ?_) (fun h => ?_) | refine br_nseq (fun h => ?_) (fun h => ?_) | refine br_not (fun h => ?_) (fun h => ?_) | refine br_intro (fun h => ?_) (fun h => ?_) | refine cond_intro rfl ?_ | (refine cond_intro ⟨rfl, ?_⟩ ?_; (first | omega | (dsimp only; omega) | decide)) | (refine cond_intro ?_ ?_; (first | omega | (dsimp only; omega) | decide | (simp only [Nat.add_zero, Int.toNat_natCast, *]; omega))))
              all_goals (conv => whnf)
              all_goals exact ret_pure rfl
            · have he : sclE a c num den mode = 0 := by unfold sclE; rw [if_neg (by omega), if_neg hp, if_neg hN]
              have hA : sclA a num den mode = IntKind.i64.wrap (sclN a num den mode : Int) := by unfold sclA; rw [if_pos (by simpa using hs), ew]
              rw [sclT_ok he, hA]
              rw [if_pos (by rw [ew]; omega), if_pos (by rw [ew]; omega), if_pos (by rw [ew]; omega)] at t1
              repeat' ((conv => whnf); first | (refine vcall_pure (ck) rfl rfl rfl ?_) | (refine vcall_pure (m1) rfl rfl rfl ?_) | (refine vcall_pure (m2) rfl rfl rfl ?_) | (refine vcall_pure (mm) rfl rfl rfl ?_) | (refine vcall_pure (dd) rfl rfl rfl ?_) | (refine vcall_pure (rr) rfl rfl rfl ?_) | (refine vcall_pure (t1) rfl rfl rfl ?_) | (refine br_not (fun h => ?_) (fun h => ?_) <;> try (exfalso; exact absurd (hs.symm.trans h) (by decide))) | (refine br_dec (fun h => ?_) (fun h => ?_) <;> try (exfalso; first | omega | (dsimp only at h; rw [ed] at h; omega))) | (refine br_dec (fun h => ?_) (fun h => ?_) <;> try (exfalso; (try dsimp only at h); omega)) | (refine br_ndec (fun h => ?_) (fun h => ?_) <;> try (exfalso; (try dsimp only at h); omega)) | refine br_seq (fun h => ?_) (fun h => ?_) | refine br_nseq (fun h => ?_) (fun h => ?_) | refine br_not (fun h => ?_) (fun h => ?_) | refine br_intro (fun h => ?_) (fun h => ?_) | refine cond_intro rfl ?_ | (refine cond_intro ⟨rfl, ?_⟩ ?_; (first | omega | (dsimp only; omega) | decide)) | (refine cond_intro ?_ ?_; (first | omega | (dsimp only; omega) | decide | (simp only [Nat.add_zero, Int.toNat_natCast, *]; omega))))
              all_goals (conv => whnf)
              all_goals exact ret_pure rfl
          · have hs' : (decide (a < 0) == decide (num < 0)) = false := by simpa using hs
            by_cases hN : 4503599627370496 < sclN a num den mode
            · have he : sclE a c num den mode = 4 := by unfold sclE; rw [if_neg (by omega), if_neg hp, if_pos hN]
              rw [sclT_err he (by omega)]
              rw [if_neg (by rw [ew2]; omega), if_neg (by rw [ew2]; omega), if_neg (by rw [ew2]; omega)] at t2
              repeat' ((conv => whnf); first | (refine vcall_pure (ck) rfl rfl rfl ?_) | (refine vcall_pure (m1) rfl rfl rfl ?_) | (refine vcall_pure (m2) rfl rfl rfl ?_) | (refine vcall_pure (mm) rfl rfl rfl ?_) | (refine vcall_pure (dd) rfl rfl rfl ?_) | (refine vcall_pure (rr) rfl rfl rfl ?_) | (refine vcall_pure (t2) rfl rfl rfl ?_) | (refine br_not (fun h => ?_) (fun h => ?_) <;> try (exfalso; exact absurd (hs'.symm.trans h) (by decide))) | (refine br_dec (fun h => ?_) (fun h => ?_) <;> try (exfalso; first | omega | (dsimp only at h; rw [ed] at h; omega))) | (refine br_dec (fun h => ?_) (fun h => ?_) <;> try (exfalso; (try dsimp only at h); omega)) | (refine br_ndec (fun h => ?_) (fun h => ?_) <;> try (exfalso; (try dsimp only at h); omega)) | refine br_seq (fun h => ?_) (fun h => ?_) | refine br_nseq (fun h => ?_) (fun h => ?_) | refine br_not (fun h => ?_) (fun h => ?_) | refine br_intro (fun h => ?_) (fun h => ?_) | refine cond_intro rfl ?_ | (refine cond_intro ⟨rfl, ?_⟩ ?_; (first | omega | (dsimp only; omega) | decide)) | (refine cond_intro ?_ ?_; (first | omega | (dsimp only; omega) | decide | (simp only [Nat.add_zero, Int.toNat_natCast, *]; omega))))
              all_goals (conv => whnf)
              all_goals exact ret_pure rfl
            · have he : sclE a c num den mode = 0 := by unfold sclE; rw [if_neg (by omega), if_neg hp, if_neg hN]
              have hA : sclA a num den mode = IntKind.i64.wrap (0 - IntKind.i64.wrap (sclN a num den mode : Int)) := by unfold sclA; rw [if_neg (by simpa using hs), ew2]
              rw [sclT_ok he, hA]
              rw [if_pos (by rw [ew2]; omega), if_pos (by rw [ew2]; omega), if_pos (by rw [ew2]; omega)] at t2
              repeat' ((conv => whnf); first | (refine vcall_pure (ck) rfl rfl rfl ?_) | (refine vcall_pure (m1) rfl rfl rfl ?_) | (refine vcall_pure (m2) rfl rfl rfl ?_) | (refine vcall_pure (mm) rfl rfl rfl ?_) | (refine vcall_pure (dd) rfl rfl rfl ?_) | (refine vcall_pure (rr) rfl rfl rfl ?_) | (refine vcall_pure (t2) rfl rfl rfl ?_) | (refine br_not (fun h => ?_) (fun h => ?_) <;> try (exfalso; exact absurd (hs'.symm.trans h) (by decide))) | (refine br_dec (fun h => ?_) (fun h => ?_) <;> try (exfalso; first | omega | (dsimp only at h; rw [ed] at h; omega))) | (refine br_dec (fun h => ?_) (fun h => ?_) <;> try (exfalso; (try dsimp only at h); omega)) | (refine br_ndec (fun h => ?_) (fun h => ?_) <;> try (exfalso; (try dsimp only at h); omega)) | refine br_seq (fun h => ?_) (fun h => ?_) | refine br_nseq (fun h => ?_) (fun h => ?_) | refine br_not (fun h => ?_) (fun h => ?_) | refine br_intro (fun h => ?_) (fun h => ?_) | refine cond_intro rfl ?_ | (refine cond_intro ⟨rfl, ?_⟩ ?_; (first | omega | (dsimp only; omega) | decide)) | (refine cond_intro ?_ ?_; (first | omega | (dsimp only; omega) | decide | (simp only [Nat.add_zero, Int.toNat_natCast, *]; omega))))
              all_goals (conv => whnf)
              all_goals exact ret_pure rfl

end Go.Proofs.YtakaafolanojkaaDoor
