/- Contracts of package money: scaled amounts, and the reference's. -/
import Derived.Test.YtpmgaanpbbplbaaDoorMoneyC3
namespace Go.Proofs.YtpmgaanpbbplbaaDoor
open Go.RowKit Go.Sy
attribute [local irreducible] vcall vloop vcallD retP
set_option maxRecDepth 100000
set_option linter.unusedVariables false
set_option linter.unusedSimpArgs false

theorem iand_one {x : Nat} (h : x < 9223372036854775808) : iand .i64 (x : Int) 1 = ((x % 2 : Nat) : Int) := by
  have h1 : (BitVec.ofInt 64 (x : Int) &&& BitVec.ofInt 64 1).toNat = x % 2 := by
    rw [BitVec.toNat_and, BitVec.toNat_ofInt, BitVec.toNat_ofInt]
    rw [show ((x : Int) % ((2 ^ 64 : Nat) : Int)).toNat = x by omega, show ((1 : Int) % ((2 ^ 64 : Nat) : Int)).toNat = 2 ^ 1 - 1 by decide, Nat.and_two_pow_sub_one_eq_mod]
  show IntKind.i64.wrap (((BitVec.ofInt 64 (x : Int) &&& BitVec.ofInt 64 1).toNat : Nat) : Int) = _
  rw [h1]
  exact w64_in (by omega) (by omega)
theorem ishr_i64 {x s : Nat} (h : s ≤ 64) : ishr .i64 (x : Int) (s : Int) = ((x / 2 ^ s : Nat) : Int) := by
  rw [ishr_lit (k := .i64) s h]
  simp

theorem dv_eq (a d N b : Nat) (hd : 1 ≤ d) : a * (2 * N + b) = d * (2 * (a * N / d)) + (2 * (a * N % d) + a * b) := by
  have h := Nat.div_add_mod (a * N) d
  rw [Nat.mul_add, Nat.mul_left_comm a 2 N, Nat.mul_left_comm d 2]
  omega
theorem dv_mod (a d N b : Nat) (hd : 1 ≤ d) : a * (2 * N + b) % d = (2 * (a * N % d) + a * b) % d := by
  rw [dv_eq a d N b hd, Nat.mul_add_mod]
theorem dv_div (a d N b L : Nat) (hd : 1 ≤ d) : min (a * (2 * N + b) / d) (L + 1) = if L < 2 * min (a * N / d) (L + 1) + (2 * (a * N % d) + a * b) / d then L + 1 else 2 * min (a * N / d) (L + 1) + (2 * (a * N % d) + a * b) / d := by
  rw [dv_eq a d N b hd, Nat.mul_add_div (by omega)]
  generalize a * N / d = Q
  generalize (2 * (a * N % d) + a * b) / d = X
  split <;> omega

theorem ref01_Divide (a n d L : Nat) (ha : a ≤ 4503599627370496) (hn : n < 9007199254740992) (h1 : 1 ≤ d) (hd : d ≤ 70368744177664) (hL : L ≤ 4503599627370496) :
    Pure Tryd.prog 55 [.int .i64 a, .int .i64 n, .int .i64 d, .int .i64 L] (.tup [.int .i64 (min (a * n / d) (L + 1) : Nat), .int .i64 (a * n % d : Nat)]) := by
  refine fc_of mixed T_ok Tryd.func55 rfl (by kernel_rfl) (by kernel_rfl) (by kernel_rfl) ?_
  (conv => whnf)
  refine vloop_of (fun k : Nat => ⟨[(0, .int .i64 a), (1, .int .i64 n), (2, .int .i64 d), (3, .int .i64 L), (10, .int .i64 (min (a * (n / 2 ^ (53 - k)) / d) (L + 1) : Nat)), (11, .int .i64 (a * (n / 2 ^ (53 - k)) % d : Nat)), (12, .int .i64 (52 - (k : Int)))], [], 1⟩) (fun k => k ≤ 53) (fun k => 53 - k) 0 [0] [] ⟨rfl, ⟨rfl, rfl, rfl, rfl, ?_, ?_, rfl, trivial⟩, trivial⟩ (by omega) ?_
  · rw [show n / 2 ^ (53 - 0) = 0 from Nat.div_eq_of_lt (by simpa using hn), Nat.mul_zero, Nat.zero_div, Nat.zero_min]; rfl
  · rw [show n / 2 ^ (53 - 0) = 0 from Nat.div_eq_of_lt (by simpa using hn), Nat.mul_zero, Nat.zero_mod]; rfl
  intro k hk
  by_cases hlt : k < 53
  · obtain ⟨N, hN⟩ : ∃ N, N = n / 2 ^ (53 - k) := ⟨_, rfl⟩
    obtain ⟨b, hb⟩ : ∃ b, b = n / 2 ^ (53 - (k + 1)) % 2 := ⟨_, rfl⟩
    have hN' : n / 2 ^ (53 - (k + 1)) = 2 * N + b := by
      have e : 2 ^ (53 - k) = 2 ^ (53 - (k + 1)) * 2 := by rw [← Nat.pow_succ]; congr 1; omega
      rw [hN, e, ← Nat.div_div_eq_div_mul, hb]; omega
    have hlo : n / 2 ^ (53 - (k + 1)) ≤ n := Nat.div_le_self _ _
    rw [← hN]
    have es : IntKind.u64.wrap (52 - (k : Int)) = ((53 - (k + 1) : Nat) : Int) := by rw [u64_in' (by omega) (by omega)]; omega
    have ebit : iand .i64 (ishr .i64 (n : Int) (IntKind.u64.wrap (52 - (k : Int)))) 1 = (b : Int) := by
      rw [es, ishr_i64 (by omega), iand_one (by omega), hb]
    have hs : 0 ≤ IntKind.u64.wrap (52 - (k : Int)) := by rw [es]; omega
    have hr : a * N % d < d := Nat.mod_lt _ (by omega)
    have hq : min (a * N / d) (L + 1) ≤ 4503599627370497 := by omega
    have m := dv_mod a d N b h1
    have v := dv_div a d N b L h1
    have eb : b = 0 ∨ b = 1 := by omega
    have hX : (2 * (a * N % d) + a * b) / d ≤ 2 * (a * N % d) + a * b := Nat.div_le_self _ _
    generalize a * N % d = r at *
    generalize min (a * N / d) (L + 1) = q at *
    rw [← hN'] at m v
    rcases eb with eb | eb
    · rw [eb] at m v hX
      simp only [Nat.mul_zero, Nat.add_zero] at m v hX
      have q1 : IntKind.i64.wrap (2 * (q : Int)) = ((2 * q : Nat) : Int) := by rw [w64_in (by omega) (by omega)]; omega
      have q2 : IntKind.i64.wrap (2 * (r : Int)) = ((2 * r : Nat) : Int) := by rw [w64_in (by omega) (by omega)]; omega
      have q3 : IntKind.i64.wrap ((IntKind.i64.wrap (2 * (r : Int))).tdiv (d : Int)) = ((2 * r / d : Nat) : Int) := by
        rw [q2, show (((2 * r : Nat) : Int).tdiv (d : Int)) = ((2 * r / d : Nat) : Int) from rfl, w64_in (Int.le_trans (by decide) (Int.natCast_nonneg _)) (by omega)]
      have q4 : IntKind.i64.wrap (IntKind.i64.wrap (2 * (q : Int)) + IntKind.i64.wrap ((IntKind.i64.wrap (2 * (r : Int))).tdiv (d : Int))) = ((2 * q + 2 * r / d : Nat) : Int) := by
        rw [q1, q3, ← Int.natCast_add, w64_in (Int.le_trans (by decide) (Int.natCast_nonneg _)) (by omega)]
      have q5 : (IntKind.i64.wrap (2 * (r : Int))).tmod (d : Int) = ((2 * r % d : Nat) : Int) := by rw [q2]; rfl
      have q6 : IntKind.i64.wrap ((L : Int) + 1) = ((L + 1 : Nat) : Int) := by rw [w64_in (by omega) (by omega)]; rfl
      repeat' ((conv => whnf); first | refine cond_intro hs ?_ | (refine br_dec (fun h => ?_) (fun h => ?_) <;> try (exfalso; first | (rw [ebit] at h; omega) | omega)) | (refine br_dec (fun h => ?_) (fun h => ?_) <;> try (exfalso; omega)) | (refine br_ndec (fun h => ?_) (fun h => ?_) <;> try (exfalso; omega)) | refine br_seq (fun h => ?_) (fun h => ?_) | refine br_nseq (fun h => ?_) (fun h => ?_) | refine br_not (fun h => ?_) (fun h => ?_) | refine br_intro (fun h => ?_) (fun h => ?_) | refine cond_intro rfl ?_ | (refine cond_intro ⟨rfl, ?_⟩ ?_; (first | omega | (dsimp only; omega) | decide)) | (refine cond_intro ?_ ?_; (first | omega | (dsimp only; omega) | decide | (simp only [Nat.add_zero, Int.toNat_natCast, *]; omega))))
      all_goals (conv => whnf)
      all_goals refine ⟨k + 1, [0], [], by omega, by omega, ⟨rfl, ⟨rfl, rfl, rfl, rfl, ?_, ?_, ?_, trivial⟩, trivial⟩⟩
      all_goals first
        | (refine congrArg (fun z => some (SV.int .i64 z)) ?_; rw [w64_in (by omega) (by omega)]; omega)
        | (refine congrArg (fun z => some (SV.int .i64 z)) ?_; rw [m]; exact q5)
        | (refine congrArg (fun z => some (SV.int .i64 z)) ?_; rw [q4] at h; rw [v, if_pos (by omega)]; exact q6)
        | (refine congrArg (fun z => some (SV.int .i64 z)) ?_; rw [q4] at h; rw [v, if_neg (by omega)]; exact q4)
    · rw [eb] at m v hX
      simp only [Nat.mul_one] at m v hX
      have q1 : IntKind.i64.wrap (2 * (q : Int)) = ((2 * q : Nat) : Int) := by rw [w64_in (by omega) (by omega)]; omega
      have q2 : IntKind.i64.wrap (IntKind.i64.wrap (2 * (r : Int)) + (a : Int)) = ((2 * r + a : Nat) : Int) := by rw [w64_in (n := 2 * (r : Int)) (by omega) (by omega), w64_in (by omega) (by omega)]; omega
      have q3 : IntKind.i64.wrap ((IntKind.i64.wrap (IntKind.i64.wrap (2 * (r : Int)) + (a : Int))).tdiv (d : Int)) = (((2 * r + a) / d : Nat) : Int) := by
        rw [q2, show (((2 * r + a : Nat) : Int).tdiv (d : Int)) = (((2 * r + a) / d : Nat) : Int) from rfl, w64_in (Int.le_trans (by decide) (Int.natCast_nonneg _)) (by omega)]
      have q4 : IntKind.i64.wrap (IntKind.i64.wrap (2 * (q : Int)) + IntKind.i64.wrap ((IntKind.i64.wrap (IntKind.i64.wrap (2 * (r : Int)) + (a : Int))).tdiv (d : Int))) = ((2 * q + (2 * r + a) / d : Nat) : Int) := by
        rw [q1, q3, ← Int.natCast_add, w64_in (Int.le_trans (by decide) (Int.natCast_nonneg _)) (by omega)]
      have q5 : (IntKind.i64.wrap (IntKind.i64.wrap (2 * (r : Int)) + (a : Int))).tmod (d : Int) = (((2 * r + a) % d : Nat) : Int) := by rw [q2]; rfl
      have q6 : IntKind.i64.wrap ((L : Int) + 1) = ((L + 1 : Nat) : Int) := by rw [w64_in (by omega) (by omega)]; rfl
      repeat' ((conv => whnf); first | refine cond_intro hs ?_ | (refine br_dec (fun h => ?_) (fun h => ?_) <;> try (exfalso; first | (rw [ebit] at h; omega) | omega)) | (refine br_dec (fun h => ?_) (fun h => ?_) <;> try (exfalso; omega)) | (refine br_ndec (fun h => ?_) (fun h => ?_) <;> try (exfalso; omega)) | refine br_seq (fun h => ?_) (fun h => ?_) | refine br_nseq (fun h => ?_) (fun h => ?_) | refine br_not (fun h => ?_) (fun h => ?_) | refine br_intro (fun h => ?_) (fun h => ?_) | refine cond_intro rfl ?_ | (refine cond_intro ⟨rfl, ?_⟩ ?_; (first | omega | (dsimp only; omega) | decide)) | (refine cond_intro ?_ ?_; (first | omega | (dsimp only; omega) | decide | (simp only [Nat.add_zero, Int.toNat_natCast, *]; omega))))
      all_goals (conv => whnf)
      all_goals refine ⟨k + 1, [0], [], by omega, by omega, ⟨rfl, ⟨rfl, rfl, rfl, rfl, ?_, ?_, ?_, trivial⟩, trivial⟩⟩
      all_goals first
        | (refine congrArg (fun z => some (SV.int .i64 z)) ?_; rw [w64_in (by omega) (by omega)]; omega)
        | (refine congrArg (fun z => some (SV.int .i64 z)) ?_; rw [m]; exact q5)
        | (refine congrArg (fun z => some (SV.int .i64 z)) ?_; rw [q4] at h; rw [v, if_pos (by omega)]; exact q6)
        | (refine congrArg (fun z => some (SV.int .i64 z)) ?_; rw [q4] at h; rw [v, if_neg (by omega)]; exact q4)
  · have e : k = 53 := by omega
    subst e
    repeat' ((conv => whnf); first | (refine br_dec (fun h => ?_) (fun h => ?_) <;> try (exfalso; omega)) | (refine br_ndec (fun h => ?_) (fun h => ?_) <;> try (exfalso; omega)) | refine br_seq (fun h => ?_) (fun h => ?_) | refine br_nseq (fun h => ?_) (fun h => ?_) | refine br_not (fun h => ?_) (fun h => ?_) | refine br_intro (fun h => ?_) (fun h => ?_) | refine cond_intro rfl ?_ | (refine cond_intro ⟨rfl, ?_⟩ ?_; (first | omega | (dsimp only; omega) | decide)) | (refine cond_intro ?_ ?_; (first | omega | (dsimp only; omega) | decide | (simp only [Nat.add_zero, Int.toNat_natCast, *]; omega))))
    all_goals (conv => whnf)
    refine ret_pure ?_
    simp [oneOr]

theorem ref01_Round (q r d : Nat) (mode : Int) (hq : q ≤ 4503599627370497) (hd : d ≤ 1099511627776) (hr : r < d) : Pure Tryd.prog 56 [.int .i64 q, .int .i64 r, .int .i64 d, .int .i64 mode] (.int .i64 (rnd q r d mode : Nat)) := by
  have e2 : IntKind.i64.wrap (2 * (r : Int)) = 2 * (r : Int) := w64_in (by omega) (by omega)
  have e1 : IntKind.i64.wrap ((q : Int) + 1) = ((q + 1 : Nat) : Int) := by rw [w64_in (by omega) (by omega)]; rfl
  have em : ((q : Int).tmod 2) = ((q % 2 : Nat) : Int) := rfl
  refine fc_of mixed T_ok Tryd.func56 rfl (by kernel_rfl) (by kernel_rfl) (by kernel_rfl) ?_
  repeat' ((conv => whnf); first | (refine br_dec (fun h => ?_) (fun h => ?_) <;> try (exfalso; omega)) | (refine br_ndec (fun h => ?_) (fun h => ?_) <;> try (exfalso; omega)) | refine br_seq (fun h => ?_) (fun h => ?_) | refine br_nseq (fun h => ?_) (fun h => ?_) | refine br_not (fun h => ?_) (fun h => ?_) | refine br_intro (fun h => ?_) (fun h => ?_) | refine cond_intro rfl ?_ | (refine cond_intro ⟨rfl, ?_⟩ ?_; (first | omega | (dsimp only; omega) | decide)) | (refine cond_intro ?_ ?_; (first | omega | (dsimp only; omega) | decide | (simp only [Nat.add_zero, Int.toNat_natCast, *]; omega))))
  all_goals (conv => whnf)
  all_goals refine ret_pure (congrArg (SV.int .i64) ?_)
  all_goals simp only [e1, e2, em] at *
  all_goals unfold rnd
  all_goals first
    | (rw [if_pos (by omega)]; done)
    | (rw [if_neg (by omega)]; done)

/-- The magnitude of a product over a divisor: quotient, remainder, rounded. -/
def sclQ (a num den : Int) : Nat := a.natAbs * num.natAbs / den.toNat
def sclR (a num den : Int) : Nat := a.natAbs * num.natAbs % den.toNat
def sclN (a num den mode : Int) : Nat := rnd (sclQ a num den) (sclR a num den) den.toNat mode
/-- The error of a scaled amount. -/
def sclE (a : Int) (c : ByteArray) (num den mode : Int) : Int :=
  if mchk a c ≠ 0 then mchk a c else if den < 1 ∨ 1099511627776 < den ∨ num < -1099511627776 ∨ 1099511627776 < num ∨ mode < 1 ∨ 4 < mode then 4 else if 4503599627370496 < sclN a num den mode then 4 else 0
/-- The scaled amount. -/
def sclA (a num den mode : Int) : Int := if decide (a < 0) = decide (num < 0) then (sclN a num den mode : Int) else -(sclN a num den mode : Int)
/-- An amount, or nothing if there is an error. -/
def orS (e : Int) (c : ByteArray) : ByteArray := if e = 0 then c else ⟨#[]⟩
def orN (e : Int) (n : Int) : Int := if e = 0 then n else 0
def sclT (a : Int) (c : ByteArray) (num den mode : Int) : SV := .tup [.agg [.int .i64 (orN (sclE a c num den mode) (sclA a num den mode)), .str (orS (sclE a c num den mode) c)], .int .i64 (sclE a c num den mode)]
attribute [irreducible] sclN sclE sclA orS orN sclQ sclR

theorem money_total (n : Int) (c : ByteArray) : Pure Tryd.prog 52 [.int .i64 n, .str c] (.tup [.agg [.int .i64 (if -4503599627370496 ≤ n ∧ n ≤ 4503599627370496 then n else 0), .str (if -4503599627370496 ≤ n ∧ n ≤ 4503599627370496 then c else ⟨#[]⟩)], .int .i64 (if -4503599627370496 ≤ n ∧ n ≤ 4503599627370496 then 0 else 4)]) := by
  refine fc_of mixed T_ok Tryd.func52 rfl (by kernel_rfl) (by kernel_rfl) (by kernel_rfl) ?_
  repeat' ((conv => whnf); first | (refine vcall_pure (money_inTotal _) rfl rfl rfl ?_) | (refine br_dec (fun h => ?_) (fun h => ?_) <;> try (exfalso; omega)) | (refine br_ndec (fun h => ?_) (fun h => ?_) <;> try (exfalso; omega)) | refine br_seq (fun h => ?_) (fun h => ?_) | refine br_nseq (fun h => ?_) (fun h => ?_) | refine br_not (fun h => ?_) (fun h => ?_) | refine br_intro (fun h => ?_) (fun h => ?_) | refine cond_intro rfl ?_ | (refine cond_intro ⟨rfl, ?_⟩ ?_; (first | omega | (dsimp only; omega) | decide)) | (refine cond_intro ?_ ?_; (first | omega | (dsimp only; omega) | decide | (simp only [Nat.add_zero, Int.toNat_natCast, *]; omega))))
  all_goals (conv => whnf)
  all_goals refine ret_pure ?_
  · rw [if_neg (by assumption), if_neg (by assumption), if_neg (by assumption)]; rfl
  · rw [if_pos (by assumption), if_pos (by assumption), if_pos (by assumption)]; rfl

theorem sclT_err {a : Int} {c : ByteArray} {num den mode e : Int} (h : sclE a c num den mode = e) (he : e ≠ 0) : sclT a c num den mode = .tup [.agg [.int .i64 0, .str ⟨#[]⟩], .int .i64 e] := by
  unfold sclT; rw [h]; unfold orN orS; rw [if_neg he, if_neg he]
theorem sclT_ok {a : Int} {c : ByteArray} {num den mode : Int} (h : sclE a c num den mode = 0) : sclT a c num den mode = .tup [.agg [.int .i64 (sclA a num den mode), .str c], .int .i64 0] := by
  unfold sclT; rw [h]; unfold orN orS; rw [if_pos rfl, if_pos rfl]

theorem money_Scale (a : Int) (c : ByteArray) (num den mode : Int) (hn1 : -9223372036854775808 ≤ num) (hn2 : num ≤ 9223372036854775807) : Pure Tryd.prog 35 [.agg [.int .i64 a, .str c], .int .i64 num, .int .i64 den, .int .i64 mode] (sclT a c num den mode) := by
  have ck := money_Check a c
  refine fc_of mixed T_ok Tryd.func35 rfl (by kernel_rfl) (by kernel_rfl) (by kernel_rfl) ?_
  rcases mchk_or a c with hm | ⟨hm, hcur, ha1, ha2⟩
  · have he : sclE a c num den mode = mchk a c := by unfold sclE; rw [if_pos (by omega)]
    rw [sclT_err he (by omega)]
    repeat' ((conv => whnf); first | (refine vcall_pure (ck) rfl rfl rfl ?_) | (refine br_dec (fun h => ?_) (fun h => ?_) <;> try (exfalso; omega)) | (refine br_ndec (fun h => ?_) (fun h => ?_) <;> try (exfalso; omega)) | refine br_seq (fun h => ?_) (fun h => ?_) | refine br_nseq (fun h => ?_) (fun h => ?_) | refine br_not (fun h => ?_) (fun h => ?_) | refine br_intro (fun h => ?_) (fun h => ?_) | refine cond_intro rfl ?_ | (refine cond_intro ⟨rfl, ?_⟩ ?_; (first | omega | (dsimp only; omega) | decide)) | (refine cond_intro ?_ ?_; (first | omega | (dsimp only; omega) | decide | (simp only [Nat.add_zero, Int.toNat_natCast, *]; omega))))
    all_goals (conv => whnf)
    all_goals exact ret_pure rfl
  · rw [hm] at ck
    by_cases hp : den < 1 ∨ 1099511627776 < den ∨ num < -1099511627776 ∨ 1099511627776 < num ∨ mode < 1 ∨ 4 < mode
    · have he : sclE a c num den mode = 4 := by unfold sclE; rw [if_neg (by omega), if_pos hp]
      rw [sclT_err he (by omega)]
      repeat' ((conv => whnf); first | (refine vcall_pure (ck) rfl rfl rfl ?_) | (refine br_dec (fun h => ?_) (fun h => ?_) <;> try (exfalso; omega)) | (refine br_ndec (fun h => ?_) (fun h => ?_) <;> try (exfalso; omega)) | refine br_seq (fun h => ?_) (fun h => ?_) | refine br_nseq (fun h => ?_) (fun h => ?_) | refine br_not (fun h => ?_) (fun h => ?_) | refine br_intro (fun h => ?_) (fun h => ?_) | refine cond_intro rfl ?_ | (refine cond_intro ⟨rfl, ?_⟩ ?_; (first | omega | (dsimp only; omega) | decide)) | (refine cond_intro ?_ ?_; (first | omega | (dsimp only; omega) | decide | (simp only [Nat.add_zero, Int.toNat_natCast, *]; omega))))
      all_goals (conv => whnf)
      all_goals exact ret_pure rfl
    · have m1 := money_magnitude a (by omega) (by omega)
      have m2 := money_magnitude num hn1 hn2
      have mm := bits_Mul64 a.natAbs num.natAbs (by omega) (by omega)
      have hprod : a.natAbs * num.natAbs ≤ 4503599627370496 * 1099511627776 := Nat.mul_le_mul (by omega) (by omega)
      have ed : IntKind.u64.wrap den = (den.toNat : Int) := by rw [u64_in' (by omega) (by omega)]; omega
      have sq : sclQ a num den = a.natAbs * num.natAbs / den.toNat := by unfold sclQ; rfl
      have sr : sclR a num den = a.natAbs * num.natAbs % den.toNat := by unfold sclR; rfl
      have hR : sclR a num den < den.toNat := by rw [sr]; exact Nat.mod_lt _ (by omega)
      by_cases hh : den.toNat ≤ a.natAbs * num.natAbs / 18446744073709551616
      · have hq : 4503599627370496 < sclN a num den mode := by
          have h1 := (rnd_bd (sclQ a num den) (sclR a num den) den.toNat mode).1
          have h2 : 18446744073709551616 ≤ sclQ a num den := by
            rw [sq, Nat.le_div_iff_mul_le (by omega)]
            have := (Nat.le_div_iff_mul_le (by omega)).1 hh
            omega
          unfold sclN
          omega
        have he : sclE a c num den mode = 4 := by unfold sclE; rw [if_neg (by omega), if_neg hp, if_pos hq]
        rw [sclT_err he (by omega)]
        repeat' ((conv => whnf); first | (refine vcall_pure (ck) rfl rfl rfl ?_) | (refine vcall_pure (m1) rfl rfl rfl ?_) | (refine vcall_pure (m2) rfl rfl rfl ?_) | (refine vcall_pure (mm) rfl rfl rfl ?_) | (refine br_dec (fun h => ?_) (fun h => ?_) <;> try (exfalso; first | omega | (dsimp only at h; rw [ed] at h; omega))) | (refine br_dec (fun h => ?_) (fun h => ?_) <;> try (exfalso; omega)) | (refine br_ndec (fun h => ?_) (fun h => ?_) <;> try (exfalso; omega)) | refine br_seq (fun h => ?_) (fun h => ?_) | refine br_nseq (fun h => ?_) (fun h => ?_) | refine br_not (fun h => ?_) (fun h => ?_) | refine br_intro (fun h => ?_) (fun h => ?_) | refine cond_intro rfl ?_ | (refine cond_intro ⟨rfl, ?_⟩ ?_; (first | omega | (dsimp only; omega) | decide)) | (refine cond_intro ?_ ?_; (first | omega | (dsimp only; omega) | decide | (simp only [Nat.add_zero, Int.toNat_natCast, *]; omega))))
        all_goals (conv => whnf)
        all_goals exact ret_pure rfl
      · have dd := bits_Div64 (a.natAbs * num.natAbs / 18446744073709551616) (a.natAbs * num.natAbs % 18446744073709551616) den.toNat (by omega) (by omega) (by omega)
        rw [Nat.div_add_mod', ← sq, ← sr, ← ed] at dd
        by_cases hq : 4503599627370496 < sclQ a num den
        · have he : sclE a c num den mode = 4 := by
            have h1 := (rnd_bd (sclQ a num den) (sclR a num den) den.toNat mode).1
            unfold sclE; rw [if_neg (by omega), if_neg hp, if_pos (by unfold sclN; omega)]
          rw [sclT_err he (by omega)]
          repeat' ((conv => whnf); first | (refine vcall_pure (ck) rfl rfl rfl ?_) | (refine vcall_pure (m1) rfl rfl rfl ?_) | (refine vcall_pure (m2) rfl rfl rfl ?_) | (refine vcall_pure (mm) rfl rfl rfl ?_) | (refine vcall_pure (dd) rfl rfl rfl ?_) | (refine br_dec (fun h => ?_) (fun h => ?_) <;> try (exfalso; first | omega | (dsimp only at h; rw [ed] at h; omega))) | (refine br_dec (fun h => ?_) (fun h => ?_) <;> try (exfalso; omega)) | (refine br_ndec (fun h => ?_) (fun h => ?_) <;> try (exfalso; omega)) | refine br_seq (fun h => ?_) (fun h => ?_) | refine br_nseq (fun h => ?_) (fun h => ?_) | refine br_not (fun h => ?_) (fun h => ?_) | refine br_intro (fun h => ?_) (fun h => ?_) | refine cond_intro rfl ?_ | (refine cond_intro ⟨rfl, ?_⟩ ?_; (first | omega | (dsimp only; omega) | decide)) | (refine cond_intro ?_ ?_; (first | omega | (dsimp only; omega) | decide | (simp only [Nat.add_zero, Int.toNat_natCast, *]; omega))))
          all_goals (conv => whnf)
          all_goals exact ret_pure rfl
        · have rr := money_rounded (sclQ a num den) (sclR a num den) den.toNat mode (by omega) (by omega) hR
          have en : rnd (sclQ a num den) (sclR a num den) den.toNat mode = sclN a num den mode := by unfold sclN; rfl
          have bd := rnd_bd (sclQ a num den) (sclR a num den) den.toNat mode
          rw [en] at rr bd
          rw [← ed] at rr
          have ew : IntKind.i64.wrap (sclN a num den mode : Int) = (sclN a num den mode : Int) := w64_in (by omega) (by omega)
          have ew2 : IntKind.i64.wrap (0 - IntKind.i64.wrap (sclN a num den mode : Int)) = -(sclN a num den mode : Int) := by rw [ew, w64_in (by omega) (by omega)]; omega
          have t1 := money_total (IntKind.i64.wrap (sclN a num den mode : Int)) c
          have t2 := money_total (IntKind.i64.wrap (0 - IntKind.i64.wrap (sclN a num den mode : Int))) c
          by_cases hs : (decide (a < 0) == decide (num < 0)) = true
          · by_cases hN : 4503599627370496 < sclN a num den mode
            · have he : sclE a c num den mode = 4 := by unfold sclE; rw [if_neg (by omega), if_neg hp, if_pos hN]
              rw [sclT_err he (by omega)]
              rw [if_neg (by rw [ew]; omega), if_neg (by rw [ew]; omega), if_neg (by rw [ew]; omega)] at t1
              repeat' ((conv => whnf); first | (refine vcall_pure (ck) rfl rfl rfl ?_) | (refine vcall_pure (m1) rfl rfl rfl ?_) | (refine vcall_pure (m2) rfl rfl rfl ?_) | (refine vcall_pure (mm) rfl rfl rfl ?_) | (refine vcall_pure (dd) rfl rfl rfl ?_) | (refine vcall_pure (rr) rfl rfl rfl ?_) | (refine vcall_pure (t1) rfl rfl rfl ?_) | (refine br_not (fun h => ?_) (fun h => ?_) <;> try (exfalso; exact absurd (hs.symm.trans h) (by decide))) | (refine br_dec (fun h => ?_) (fun h => ?_) <;> try (exfalso; first | omega | (dsimp only at h; rw [ed] at h; omega))) | (refine br_dec (fun h => ?_) (fun h => ?_) <;> try (exfalso; omega)) | (refine br_ndec (fun h => ?_) (fun h => ?_) <;> try (exfalso; omega)) | refine br_seq (fun h => ?_) (fun h => ?_) | refine br_nseq (fun h => ?_) (fun h => ?_) | refine br_not (fun h => ?_) (fun h => ?_) | refine br_intro (fun h => ?_) (fun h => ?_) | refine cond_intro rfl ?_ | (refine cond_intro ⟨rfl, ?_⟩ ?_; (first | omega | (dsimp only; omega) | decide)) | (refine cond_intro ?_ ?_; (first | omega | (dsimp only; omega) | decide | (simp only [Nat.add_zero, Int.toNat_natCast, *]; omega))))
              all_goals (conv => whnf)
              all_goals exact ret_pure rfl
            · have he : sclE a c num den mode = 0 := by unfold sclE; rw [if_neg (by omega), if_neg hp, if_neg hN]
              have hA : sclA a num den mode = IntKind.i64.wrap (sclN a num den mode : Int) := by unfold sclA; rw [if_pos (by simpa using hs), ew]
              rw [sclT_ok he, hA]
              rw [if_pos (by rw [ew]; omega), if_pos (by rw [ew]; omega), if_pos (by rw [ew]; omega)] at t1
              repeat' ((conv => whnf); first | (refine vcall_pure (ck) rfl rfl rfl ?_) | (refine vcall_pure (m1) rfl rfl rfl ?_) | (refine vcall_pure (m2) rfl rfl rfl ?_) | (refine vcall_pure (mm) rfl rfl rfl ?_) | (refine vcall_pure (dd) rfl rfl rfl ?_) | (refine vcall_pure (rr) rfl rfl rfl ?_) | (refine vcall_pure (t1) rfl rfl rfl ?_) | (refine br_not (fun h => ?_) (fun h => ?_) <;> try (exfalso; exact absurd (hs.symm.trans h) (by decide))) | (refine br_dec (fun h => ?_) (fun h => ?_) <;> try (exfalso; first | omega | (dsimp only at h; rw [ed] at h; omega))) | (refine br_dec (fun h => ?_) (fun h => ?_) <;> try (exfalso; omega)) | (refine br_ndec (fun h => ?_) (fun h => ?_) <;> try (exfalso; omega)) | refine br_seq (fun h => ?_) (fun h => ?_) | refine br_nseq (fun h => ?_) (fun h => ?_) | refine br_not (fun h => ?_) (fun h => ?_) | refine br_intro (fun h => ?_) (fun h => ?_) | refine cond_intro rfl ?_ | (refine cond_intro ⟨rfl, ?_⟩ ?_; (first | omega | (dsimp only; omega) | decide)) | (refine cond_intro ?_ ?_; (first | omega | (dsimp only; omega) | decide | (simp only [Nat.add_zero, Int.toNat_natCast, *]; omega))))
              all_goals (conv => whnf)
              all_goals exact ret_pure rfl
          · have hs' : (decide (a < 0) == decide (num < 0)) = false := by simpa using hs
            by_cases hN : 4503599627370496 < sclN a num den mode
            · have he : sclE a c num den mode = 4 := by unfold sclE; rw [if_neg (by omega), if_neg hp, if_pos hN]
              rw [sclT_err he (by omega)]
              rw [if_neg (by rw [ew2]; omega), if_neg (by rw [ew2]; omega), if_neg (by rw [ew2]; omega)] at t2
              repeat' ((conv => whnf); first | (refine vcall_pure (ck) rfl rfl rfl ?_) | (refine vcall_pure (m1) rfl rfl rfl ?_) | (refine vcall_pure (m2) rfl rfl rfl ?_) | (refine vcall_pure (mm) rfl rfl rfl ?_) | (refine vcall_pure (dd) rfl rfl rfl ?_) | (refine vcall_pure (rr) rfl rfl rfl ?_) | (refine vcall_pure (t2) rfl rfl rfl ?_) | (refine br_not (fun h => ?_) (fun h => ?_) <;> try (exfalso; exact absurd (hs'.symm.trans h) (by decide))) | (refine br_dec (fun h => ?_) (fun h => ?_) <;> try (exfalso; first | omega | (dsimp only at h; rw [ed] at h; omega))) | (refine br_dec (fun h => ?_) (fun h => ?_) <;> try (exfalso; omega)) | (refine br_ndec (fun h => ?_) (fun h => ?_) <;> try (exfalso; omega)) | refine br_seq (fun h => ?_) (fun h => ?_) | refine br_nseq (fun h => ?_) (fun h => ?_) | refine br_not (fun h => ?_) (fun h => ?_) | refine br_intro (fun h => ?_) (fun h => ?_) | refine cond_intro rfl ?_ | (refine cond_intro ⟨rfl, ?_⟩ ?_; (first | omega | (dsimp only; omega) | decide)) | (refine cond_intro ?_ ?_; (first | omega | (dsimp only; omega) | decide | (simp only [Nat.add_zero, Int.toNat_natCast, *]; omega))))
              all_goals (conv => whnf)
              all_goals exact ret_pure rfl
            · have he : sclE a c num den mode = 0 := by unfold sclE; rw [if_neg (by omega), if_neg hp, if_neg hN]
              have hA : sclA a num den mode = IntKind.i64.wrap (0 - IntKind.i64.wrap (sclN a num den mode : Int)) := by unfold sclA; rw [if_neg (by simpa using hs), ew2]
              rw [sclT_ok he, hA]
              rw [if_pos (by rw [ew2]; omega), if_pos (by rw [ew2]; omega), if_pos (by rw [ew2]; omega)] at t2
              repeat' ((conv => whnf); first | (refine vcall_pure (ck) rfl rfl rfl ?_) | (refine vcall_pure (m1) rfl rfl rfl ?_) | (refine vcall_pure (m2) rfl rfl rfl ?_) | (refine vcall_pure (mm) rfl rfl rfl ?_) | (refine vcall_pure (dd) rfl rfl rfl ?_) | (refine vcall_pure (rr) rfl rfl rfl ?_) | (refine vcall_pure (t2) rfl rfl rfl ?_) | (refine br_not (fun h => ?_) (fun h => ?_) <;> try (exfalso; exact absurd (hs'.symm.trans h) (by decide))) | (refine br_dec (fun h => ?_) (fun h => ?_) <;> try (exfalso; first | omega | (dsimp only at h; rw [ed] at h; omega))) | (refine br_dec (fun h => ?_) (fun h => ?_) <;> try (exfalso; omega)) | (refine br_ndec (fun h => ?_) (fun h => ?_) <;> try (exfalso; omega)) | refine br_seq (fun h => ?_) (fun h => ?_) | refine br_nseq (fun h => ?_) (fun h => ?_) | refine br_not (fun h => ?_) (fun h => ?_) | refine br_intro (fun h => ?_) (fun h => ?_) | refine cond_intro rfl ?_ | (refine cond_intro ⟨rfl, ?_⟩ ?_; (first | omega | (dsimp only; omega) | decide)) | (refine cond_intro ?_ ?_; (first | omega | (dsimp only; omega) | decide | (simp only [Nat.add_zero, Int.toNat_natCast, *]; omega))))
              all_goals (conv => whnf)
              all_goals exact ret_pure rfl

theorem ref01_Scale (a : Int) (c : ByteArray) (num den mode : Int) (hn1 : -9223372036854775808 ≤ num) (hn2 : num ≤ 9223372036854775807) : Pure Tryd.prog 37 [.agg [.int .i64 a, .str c], .int .i64 num, .int .i64 den, .int .i64 mode] (sclT a c num den mode) := by
  have ck := ref01_Check a c
  refine fc_of mixed T_ok Tryd.func37 rfl (by kernel_rfl) (by kernel_rfl) (by kernel_rfl) ?_
  rcases mchk_or a c with hm | ⟨hm, hcur, ha1, ha2⟩
  · have he : sclE a c num den mode = mchk a c := by unfold sclE; rw [if_pos (by omega)]
    rw [sclT_err he (by omega)]
    repeat' ((conv => whnf); first | (refine vcall_pure (ck) rfl rfl rfl ?_) | (refine br_dec (fun h => ?_) (fun h => ?_) <;> try (exfalso; omega)) | (refine br_ndec (fun h => ?_) (fun h => ?_) <;> try (exfalso; omega)) | refine br_seq (fun h => ?_) (fun h => ?_) | refine br_nseq (fun h => ?_) (fun h => ?_) | refine br_not (fun h => ?_) (fun h => ?_) | refine br_intro (fun h => ?_) (fun h => ?_) | refine cond_intro rfl ?_ | (refine cond_intro ⟨rfl, ?_⟩ ?_; (first | omega | (dsimp only; omega) | decide)) | (refine cond_intro ?_ ?_; (first | omega | (dsimp only; omega) | decide | (simp only [Nat.add_zero, Int.toNat_natCast, *]; omega))))
    all_goals (conv => whnf)
    all_goals exact ret_pure rfl
  · rw [hm] at ck
    by_cases hp : den < 1 ∨ 1099511627776 < den ∨ num < -1099511627776 ∨ 1099511627776 < num ∨ mode < 1 ∨ 4 < mode
    · have he : sclE a c num den mode = 4 := by unfold sclE; rw [if_neg (by omega), if_pos hp]
      rw [sclT_err he (by omega)]
      repeat' ((conv => whnf); first | (refine vcall_pure (ck) rfl rfl rfl ?_) | (refine br_dec (fun h => ?_) (fun h => ?_) <;> try (exfalso; omega)) | (refine br_ndec (fun h => ?_) (fun h => ?_) <;> try (exfalso; omega)) | refine br_seq (fun h => ?_) (fun h => ?_) | refine br_nseq (fun h => ?_) (fun h => ?_) | refine br_not (fun h => ?_) (fun h => ?_) | refine br_intro (fun h => ?_) (fun h => ?_) | refine cond_intro rfl ?_ | (refine cond_intro ⟨rfl, ?_⟩ ?_; (first | omega | (dsimp only; omega) | decide)) | (refine cond_intro ?_ ?_; (first | omega | (dsimp only; omega) | decide | (simp only [Nat.add_zero, Int.toNat_natCast, *]; omega))))
      all_goals (conv => whnf)
      all_goals exact ret_pure rfl
    · have ea : max a (IntKind.i64.wrap (0 - a)) = (a.natAbs : Int) := by rw [w64_in (by omega) (by omega)]; omega
      have en0 : max num (IntKind.i64.wrap (0 - num)) = (num.natAbs : Int) := by rw [w64_in (by omega) (by omega)]; omega
      have ed : den = (den.toNat : Int) := by omega
      have hprod : a.natAbs * num.natAbs ≤ 4503599627370496 * 1099511627776 := Nat.mul_le_mul (by omega) (by omega)
      have sq : sclQ a num den = a.natAbs * num.natAbs / den.toNat := by unfold sclQ; rfl
      have sr : sclR a num den = a.natAbs * num.natAbs % den.toNat := by unfold sclR; rfl
      have hR : sclR a num den < den.toNat := by rw [sr]; exact Nat.mod_lt _ (by omega)
      have dd := ref01_Divide a.natAbs num.natAbs den.toNat 4503599627370496 (by omega) (by omega) (by omega) (by omega) (by omega)
      rw [← sq, ← sr, ← ea, ← en0, ← ed] at dd
      have rr := ref01_Round (min (sclQ a num den) (4503599627370496 + 1)) (sclR a num den) den.toNat mode (by omega) (by omega) hR
      rw [← ed] at rr
      have bd := rnd_bd (min (sclQ a num den) (4503599627370496 + 1)) (sclR a num den) den.toNat mode
      have bd2 := rnd_bd (sclQ a num den) (sclR a num den) den.toNat mode
      have en : sclN a num den mode = rnd (sclQ a num den) (sclR a num den) den.toNat mode := by unfold sclN; rfl
      by_cases hN : 4503599627370496 < sclN a num den mode
      · have he : sclE a c num den mode = 4 := by unfold sclE; rw [if_neg (by omega), if_neg hp, if_pos hN]
        have hbig : 4503599627370496 < rnd (min (sclQ a num den) (4503599627370496 + 1)) (sclR a num den) den.toNat mode := by
          by_cases hq : sclQ a num den ≤ 4503599627370496
          · rw [Nat.min_eq_left (by omega), ← en]; exact hN
          · omega
        rw [sclT_err he (by omega)]
        repeat' ((conv => whnf); first | (refine vcall_pure (ck) rfl rfl rfl ?_) | (refine vcall_pure (dd) rfl rfl rfl ?_) | (refine vcall_pure (rr) rfl rfl rfl ?_) | (refine br_dec (fun h => ?_) (fun h => ?_) <;> try (exfalso; omega)) | (refine br_ndec (fun h => ?_) (fun h => ?_) <;> try (exfalso; omega)) | refine br_seq (fun h => ?_) (fun h => ?_) | refine br_nseq (fun h => ?_) (fun h => ?_) | refine br_not (fun h => ?_) (fun h => ?_) | refine br_intro (fun h => ?_) (fun h => ?_) | refine cond_intro rfl ?_ | (refine cond_intro ⟨rfl, ?_⟩ ?_; (first | omega | (dsimp only; omega) | decide)) | (refine cond_intro ?_ ?_; (first | omega | (dsimp only; omega) | decide | (simp only [Nat.add_zero, Int.toNat_natCast, *]; omega))))
        all_goals (conv => whnf)
        all_goals exact ret_pure rfl
      · have he : sclE a c num den mode = 0 := by unfold sclE; rw [if_neg (by omega), if_neg hp, if_neg hN]
        have hsm : rnd (min (sclQ a num den) (4503599627370496 + 1)) (sclR a num den) den.toNat mode = sclN a num den mode := by
          rw [Nat.min_eq_left (by omega), ← en]
        rw [hsm] at rr bd
        have ew2 : IntKind.i64.wrap (0 - (sclN a num den mode : Int)) = -(sclN a num den mode : Int) := by rw [w64_in (by omega) (by omega)]; omega
        rw [sclT_ok he]
        by_cases hs : (decide (a < 0) == decide (num < 0)) = true
        · have hA : sclA a num den mode = (sclN a num den mode : Int) := by unfold sclA; rw [if_pos (by simpa using hs)]
          rw [hA]
          repeat' ((conv => whnf); first | (refine vcall_pure (ck) rfl rfl rfl ?_) | (refine vcall_pure (dd) rfl rfl rfl ?_) | (refine vcall_pure (rr) rfl rfl rfl ?_) | (refine br_not (fun h => ?_) (fun h => ?_) <;> try (exfalso; exact absurd (hs.symm.trans h) (by decide))) | (refine br_dec (fun h => ?_) (fun h => ?_) <;> try (exfalso; omega)) | (refine br_ndec (fun h => ?_) (fun h => ?_) <;> try (exfalso; omega)) | refine br_seq (fun h => ?_) (fun h => ?_) | refine br_nseq (fun h => ?_) (fun h => ?_) | refine br_not (fun h => ?_) (fun h => ?_) | refine br_intro (fun h => ?_) (fun h => ?_) | refine cond_intro rfl ?_ | (refine cond_intro ⟨rfl, ?_⟩ ?_; (first | omega | (dsimp only; omega) | decide)) | (refine cond_intro ?_ ?_; (first | omega | (dsimp only; omega) | decide | (simp only [Nat.add_zero, Int.toNat_natCast, *]; omega))))
          all_goals (conv => whnf)
          all_goals exact ret_pure rfl
        · have hs' : (decide (a < 0) == decide (num < 0)) = false := by simpa using hs
          have hA : sclA a num den mode = IntKind.i64.wrap (0 - (sclN a num den mode : Int)) := by unfold sclA; rw [if_neg (by simpa using hs), ew2]
          rw [hA]
          repeat' ((conv => whnf); first | (refine vcall_pure (ck) rfl rfl rfl ?_) | (refine vcall_pure (dd) rfl rfl rfl ?_) | (refine vcall_pure (rr) rfl rfl rfl ?_) | (refine br_not (fun h => ?_) (fun h => ?_) <;> try (exfalso; exact absurd (hs'.symm.trans h) (by decide))) | (refine br_dec (fun h => ?_) (fun h => ?_) <;> try (exfalso; omega)) | (refine br_ndec (fun h => ?_) (fun h => ?_) <;> try (exfalso; omega)) | refine br_seq (fun h => ?_) (fun h => ?_) | refine br_nseq (fun h => ?_) (fun h => ?_) | refine br_not (fun h => ?_) (fun h => ?_) | refine br_intro (fun h => ?_) (fun h => ?_) | refine cond_intro rfl ?_ | (refine cond_intro ⟨rfl, ?_⟩ ?_; (first | omega | (dsimp only; omega) | decide)) | (refine cond_intro ?_ ?_; (first | omega | (dsimp only; omega) | decide | (simp only [Nat.add_zero, Int.toNat_natCast, *]; omega))))
          all_goals (conv => whnf)
          all_goals exact ret_pure rfl
end Go.Proofs.YtpmgaanpbbplbaaDoor
