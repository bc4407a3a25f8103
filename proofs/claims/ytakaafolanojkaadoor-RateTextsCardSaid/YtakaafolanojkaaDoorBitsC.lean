/- Contracts of the library: long multiplication and long division. -/
import Derived.Test.YtakaafolanojkaaDoorBitsP
import Derived.Test.YtakaafolanojkaaDoorFmtC
namespace Go.Proofs.YtakaafolanojkaaDoor
open Go.RowKit Go.Sy
attribute [local irreducible] vcall vloop vcallD retP
set_option maxRecDepth 100000
set_option linter.unusedVariables false
set_option linter.unusedSimpArgs false

theorem ishr32 {x : Nat} : ishr .u64 (x : Int) 32 = ((x / 4294967296 : Nat) : Int) := ishr_nat (s := 32) (by omega)
theorem wmul {a b : Nat} (h : a * b < 18446744073709551616) : IntKind.u64.wrap ((a : Int) * (b : Int)) = ((a * b : Nat) : Int) := by
  rw [← Int.natCast_mul]; exact u64_in' (by omega) (by omega)
theorem wadd {a b : Nat} (h : a + b < 18446744073709551616) : IntKind.u64.wrap ((a : Int) + (b : Int)) = ((a + b : Nat) : Int) := by
  rw [← Int.natCast_add]; exact u64_in' (by omega) (by omega)

theorem tup2 {k j : IntKind} {a b c d : Int} (h : a = c) (h' : b = d) : SV.tup [.int k a, .int j b] = SV.tup [.int k c, .int j d] := by rw [h, h']
theorem bits_Mul64 (x y : Nat) (hx : x < 18446744073709551616) (hy : y < 18446744073709551616) : Pure Tryd.prog 28 [.int .u64 x, .int .u64 y] (.tup [.int .u64 (x * y / 18446744073709551616 : Nat), .int .u64 (x * y % 18446744073709551616 : Nat)]) := by
  refine fc_of mixed T_ok Tryd.func28 rfl (by kernel_rfl) (by kernel_rfl) (by kernel_rfl) ?_
  repeat' ((conv => whnf); first | (refine br_dec (fun h => ?_) (fun h => ?_) <;> try (exfalso; (try dsimp only at h); omega)) | (refine br_ndec (fun h => ?_) (fun h => ?_) <;> try (exfalso; (try dsimp only at h); omega)) | refine br_seq (fun h => ?_) (fun h => ?_) | refine br_nseq (fun h => ?_) (fun h => ?_) | refine br_not (fun h => ?_) (fun h => ?_) | refine br_intro (fun h => ?_) (fun h => ?_) | refine cond_intro rfl ?_ | (refine cond_intro ⟨rfl, ?_⟩ ?_; (first | omega | (dsimp only; omega) | decide)) | (refine cond_intro ?_ ?_; (first | omega | (dsimp only; omega) | decide | (simp only [Nat.add_zero, Int.toNat_natCast, *]; omega))))
  all_goals (conv => whnf)
  refine ret_pure ?_
  have e1 := iand_mask hx
  have e3 := iand_mask hy
  have k := mul_hi (x := x) (y := y) (x0 := x % 4294967296) (x1 := x / 4294967296) (y0 := y % 4294967296) (y1 := y / 4294967296) (by omega) (by omega)
  have w : IntKind.u64.wrap ((x : Int) * (y : Int)) = ((x * y % 18446744073709551616 : Nat) : Int) := by rw [← Int.natCast_mul, u64_wrap_nat]
  have a0 : x % 4294967296 < 4294967296 := by omega
  have a1 : x / 4294967296 < 4294967296 := by omega
  have b0 : y % 4294967296 < 4294967296 := by omega
  have b1 : y / 4294967296 < 4294967296 := by omega
  simp only [oneOr, e1, e3, ishr32, w]
  generalize x % 4294967296 = x0 at *
  generalize x / 4294967296 = x1 at *
  generalize y % 4294967296 = y0 at *
  generalize y / 4294967296 = y1 at *
  have m00 := mul_lt a0 b0
  have m10 := mul_lt a1 b0
  have m01 := mul_lt a0 b1
  have m11 := mul_lt a1 b1
  rw [wmul (a := x0) (b := y0) (by omega), wmul (a := x1) (b := y0) (by omega), wmul (a := x0) (b := y1) (by omega), wmul (a := x1) (b := y1) (by omega), k]
  generalize x0 * y0 = S at *
  generalize x1 * y0 = Q at *
  generalize x0 * y1 = R at *
  generalize x1 * y1 = T at *
  rw [ishr32, wadd (by omega), ishr32, iand_mask (by omega), wadd (by omega), wadd (by omega), ishr32, wadd (by omega)]
  refine tup2 ?_ rfl
  omega

theorem bits_LeadingZeros64 (u : Nat) (hu : u < 18446744073709551616) : Pure Tryd.prog 40 [.int .u64 u] (.int .i64 (64 - blen u : Nat)) := by
  have c := bits_Len64 u hu
  have hb := blen_le64 (u := u) hu
  refine fc_of mixed T_ok Tryd.func40 rfl (by kernel_rfl) (by kernel_rfl) (by kernel_rfl) ?_
  repeat' ((conv => whnf); first | (refine vcall_pure (c) rfl rfl rfl ?_) | (refine br_dec (fun h => ?_) (fun h => ?_) <;> try (exfalso; (try dsimp only at h); omega)) | (refine br_ndec (fun h => ?_) (fun h => ?_) <;> try (exfalso; (try dsimp only at h); omega)) | refine br_seq (fun h => ?_) (fun h => ?_) | refine br_nseq (fun h => ?_) (fun h => ?_) | refine br_not (fun h => ?_) (fun h => ?_) | refine br_intro (fun h => ?_) (fun h => ?_) | refine cond_intro rfl ?_ | (refine cond_intro ⟨rfl, ?_⟩ ?_; (first | omega | (dsimp only; omega) | decide)) | (refine cond_intro ?_ ?_; (first | omega | (dsimp only; omega) | decide | (simp only [Nat.add_zero, Int.toNat_natCast, *]; omega))))
  all_goals (conv => whnf)
  refine ret_pure (congrArg (SV.int .i64) ?_)
  (try simp (disch := omega) only [w64_in, u32_in', u64_in', u8_in', ishr_lit8, ishr_lit16, ishr_lit32, ishr_lit18, Int.tmod_eq_emod_of_nonneg, Int.tdiv_eq_ediv_of_nonneg, Int.toNat_natCast, Nat.add_zero])
  omega

theorem wmulc {a : Nat} (h : a * 4294967296 < 18446744073709551616) : IntKind.u64.wrap ((a : Int) * 4294967296) = ((a * 4294967296 : Nat) : Int) := wmul (b := 4294967296) h
theorem wcmul {a : Nat} (h : 4294967296 * a < 18446744073709551616) : IntKind.u64.wrap (4294967296 * (a : Int)) = ((4294967296 * a : Nat) : Int) := wmul (a := 4294967296) h
/-- A difference that is there, of numbers that may have lost their upper bits. -/
theorem wsub_mod {a b c d m : Nat} (h1 : a = c % 18446744073709551616) (h2 : b = d % 18446744073709551616) (h3 : d ≤ c) (h4 : c - d = m) (h5 : m < 18446744073709551616) : IntKind.u64.wrap ((a : Int) - (b : Int)) = (m : Int) := by
  subst h1; subst h2; subst h4
  simp only [IntKind.wrap, IntKind.bits, IntKind.signed]; simp; omega

theorem whole_eq {u32 u10 Q1 Q0 Y R1 R0 : Nat} (l1 : Q1 * Y ≤ u32 * 4294967296 + u10 / 4294967296) (r1 : u32 * 4294967296 + u10 / 4294967296 - Q1 * Y = R1) (z2 : Q0 * Y + R0 = R1 * 4294967296 + u10 % 4294967296) : u32 * 18446744073709551616 + u10 = Q1 * Y * 4294967296 + Q0 * Y + R0 := by
  generalize Q1 * Y = a at *
  generalize Q0 * Y = b at *
  omega

set_option maxHeartbeats 4000000 in
theorem bits_Div64 (hi lo y : Nat) (hlo : lo < 18446744073709551616) (hy : y < 18446744073709551616) (hhi : hi < y) : Pure Tryd.prog 30 [.int .u64 hi, .int .u64 lo, .int .u64 y] (.tup [.int .u64 ((hi * 18446744073709551616 + lo) / y : Nat), .int .u64 ((hi * 18446744073709551616 + lo) % y : Nat)]) := by
  have c := bits_LeadingZeros64 y hy
  by_cases h0 : hi = 0
  · subst h0
    refine fc_of mixed T_ok Tryd.func30 rfl (by kernel_rfl) (by kernel_rfl) (by kernel_rfl) ?_
    repeat' ((conv => whnf); first | (refine vcall_pure (c) rfl rfl rfl ?_) | (refine br_dec (fun h => ?_) (fun h => ?_) <;> try (exfalso; (try dsimp only at h); omega)) | (refine br_ndec (fun h => ?_) (fun h => ?_) <;> try (exfalso; (try dsimp only at h); omega)) | refine br_seq (fun h => ?_) (fun h => ?_) | refine br_nseq (fun h => ?_) (fun h => ?_) | refine br_not (fun h => ?_) (fun h => ?_) | refine br_intro (fun h => ?_) (fun h => ?_) | refine cond_intro rfl ?_ | (refine cond_intro ⟨rfl, ?_⟩ ?_; (first | omega | (dsimp only; omega) | decide)) | (refine cond_intro ?_ ?_; (first | omega | (dsimp only; omega) | decide | (simp only [Nat.add_zero, Int.toNat_natCast, *]; omega))))
    all_goals (conv => whnf)
    refine ret_pure ?_
    simp only [oneOr, Nat.zero_mul, Nat.zero_add]
    refine tup2 ?_ ?_
    · rw [show ((lo : Int).tdiv (y : Int)) = ((lo / y : Nat) : Int) from rfl]
      exact u64_in' (Int.natCast_nonneg _) (by have := Nat.div_le_self lo y; omega)
    · rfl
  · obtain ⟨Y, u32, u10, hY, Y1, Y2, h32, h10, hlt, k1, k2, k3, k4, k5⟩ := div_parts hy hlo hhi rfl
    refine fc_of mixed T_ok Tryd.func30 rfl (by kernel_rfl) (by kernel_rfl) (by kernel_rfl) ?_
    generalize 64 - blen y = s at *
    have es : IntKind.u64.wrap (s : Int) = (s : Int) := u64_in' (by omega) (by omega)
    have e64 : IntKind.u64.wrap (64 - (s : Int)) = ((64 - s : Nat) : Int) := by rw [u64_in' (by omega) (by omega)]; omega
    have eY : ishl .u64 (y : Int) (IntKind.u64.wrap (s : Int)) = (Y : Int) := by rw [es, ishl_nat (by omega), hY, Nat.mod_eq_of_lt (by omega)]
    have e32 : ior .u64 (ishl .u64 (hi : Int) (IntKind.u64.wrap (s : Int))) (ishr .u64 (lo : Int) (IntKind.u64.wrap (64 - IntKind.u64.wrap (s : Int)))) = (u32 : Int) := by
      rw [es, e64, ishl_nat (by omega), ishr_nat (by omega), Nat.mod_eq_of_lt k1, h32]
      exact ior_disj k1 k2 k3 (by have := Nat.div_le_self lo (2 ^ (64 - s)); omega)
    have e10 : ishl .u64 (lo : Int) (IntKind.u64.wrap (s : Int)) = (u10 : Int) := by rw [es, ishl_nat (by omega), h10]
    have hu10 : u10 < 18446744073709551616 := by omega
    have c0 : 0 ≤ IntKind.u64.wrap (s : Int) := by rw [es]; omega
    have c1 : 0 ≤ IntKind.u64.wrap (64 - IntKind.u64.wrap (s : Int)) := by rw [es, e64]; omega
    have c2 : ishr .u64 (ishl .u64 (y : Int) (IntKind.u64.wrap (s : Int))) 32 ≠ 0 := by rw [eY, ishr32]; omega
    repeat' ((conv => whnf); first | (refine vcall_pure (c) rfl rfl rfl ?_) | refine cond_intro c0 ?_ | refine cond_intro c1 ?_ | refine cond_intro c2 ?_ | (refine br_dec (fun h => ?_) (fun h => ?_) <;> try (exfalso; (try dsimp only at h); omega)) | (refine br_ndec (fun h => ?_) (fun h => ?_) <;> try (exfalso; (try dsimp only at h); omega)) | refine br_seq (fun h => ?_) (fun h => ?_) | refine br_nseq (fun h => ?_) (fun h => ?_) | refine br_not (fun h => ?_) (fun h => ?_) | refine br_intro (fun h => ?_) (fun h => ?_) | refine cond_intro rfl ?_ | (refine cond_intro ⟨rfl, ?_⟩ ?_; (first | omega | (dsimp only; omega) | decide)) | (refine cond_intro ?_ ?_; (first | omega | (dsimp only; omega) | decide | (simp only [Nat.add_zero, Int.toNat_natCast, *]; omega))))
    all_goals (conv => whnf)
    have e9 : ishr .u64 (ishl .u64 (y : Int) (IntKind.u64.wrap (s : Int))) 32 = ((Y / 4294967296 : Nat) : Int) := by rw [eY, ishr32]
    have eA : iand .u64 (ishl .u64 (y : Int) (IntKind.u64.wrap (s : Int))) 4294967295 = ((Y % 4294967296 : Nat) : Int) := by rw [eY, iand_mask (by omega)]
    have e13 : ishr .u64 (ishl .u64 (lo : Int) (IntKind.u64.wrap (s : Int))) 32 = ((u10 / 4294967296 : Nat) : Int) := by rw [e10, ishr32]
    have e14 : iand .u64 (ishl .u64 (lo : Int) (IntKind.u64.wrap (s : Int))) 4294967295 = ((u10 % 4294967296 : Nat) : Int) := by rw [e10, iand_mask (by omega)]
    have tdq : ∀ a b : Nat, a < 18446744073709551616 → IntKind.u64.wrap ((a : Int).tdiv (b : Int)) = ((a / b : Nat) : Int) := fun a b h => by
      rw [show ((a : Int).tdiv (b : Int)) = ((a / b : Nat) : Int) from rfl]
      exact u64_in' (Int.natCast_nonneg _) (by have := Nat.div_le_self a b; omega)
    have tdr : ∀ a b : Nat, a < 18446744073709551616 → IntKind.u64.wrap ((a : Int) - IntKind.u64.wrap (((a / b : Nat) : Int) * (b : Int))) = ((a % b : Nat) : Int) := fun a b h => by
      have h1 := Nat.div_add_mod a b
      rw [Nat.mul_comm] at h1
      rw [wmul (by omega)]
      rw [u64_in' (by omega) (by omega)]; omega
    have e15 : IntKind.u64.wrap ((ior .u64 (ishl .u64 (hi : Int) (IntKind.u64.wrap (s : Int))) (ishr .u64 (lo : Int) (IntKind.u64.wrap (64 - IntKind.u64.wrap (s : Int))))).tdiv (ishr .u64 (ishl .u64 (y : Int) (IntKind.u64.wrap (s : Int))) 32)) = ((u32 / (Y / 4294967296) : Nat) : Int) := by
      rw [e32, e9, tdq _ _ (by omega)]
    have e16 : IntKind.u64.wrap (ior .u64 (ishl .u64 (hi : Int) (IntKind.u64.wrap (s : Int))) (ishr .u64 (lo : Int) (IntKind.u64.wrap (64 - IntKind.u64.wrap (s : Int)))) - IntKind.u64.wrap (IntKind.u64.wrap ((ior .u64 (ishl .u64 (hi : Int) (IntKind.u64.wrap (s : Int))) (ishr .u64 (lo : Int) (IntKind.u64.wrap (64 - IntKind.u64.wrap (s : Int))))).tdiv (ishr .u64 (ishl .u64 (y : Int) (IntKind.u64.wrap (s : Int))) 32)) * ishr .u64 (ishl .u64 (y : Int) (IntKind.u64.wrap (s : Int))) 32)) = ((u32 % (Y / 4294967296) : Nat) : Int) := by
      rw [e15, e32, e9, tdr _ _ (by omega)]
    have eYY : Y / 4294967296 * 4294967296 + Y % 4294967296 = Y := Nat.div_add_mod' _ _
    obtain ⟨Q1, hQ1⟩ : ∃ Q1, Q1 = (u32 * 4294967296 + u10 / 4294967296) / (Y / 4294967296 * 4294967296 + Y % 4294967296) := ⟨_, rfl⟩
    have K1 : KD u32 (u10 / 4294967296) (Y / 4294967296) (Y % 4294967296) Q1 := ⟨by omega, by omega, by omega, by omega, by omega, hQ1⟩
    obtain ⟨R1, hR1⟩ : ∃ R1, R1 = (u32 * 4294967296 + u10 / 4294967296) % Y := ⟨_, rfl⟩
    have hR1lt : R1 < Y := by rw [hR1]; exact Nat.mod_lt _ (by omega)
    obtain ⟨Q0, hQ0⟩ : ∃ Q0, Q0 = (R1 * 4294967296 + u10 % 4294967296) / (Y / 4294967296 * 4294967296 + Y % 4294967296) := ⟨_, rfl⟩
    have K0 : KD R1 (u10 % 4294967296) (Y / 4294967296) (Y % 4294967296) Q0 := ⟨by omega, by omega, by omega, by omega, by omega, hQ0⟩
    have qQ1 := K1.qlt
    have qQ0 := K0.qlt
    have r1 := K1.rem
    have r0 := K0.rem
    rw [eYY] at r1 r0 hQ1 hQ0
    rw [← hR1] at r1
    have l1 : Q1 * Y ≤ u32 * 4294967296 + u10 / 4294967296 := by rw [hQ1]; exact Nat.div_mul_le_self _ _
    have l0 : Q0 * Y ≤ R1 * 4294967296 + u10 % 4294967296 := by rw [hQ0]; exact Nat.div_mul_le_self _ _
    have e17 : IntKind.u64.wrap (IntKind.u64.wrap (IntKind.u64.wrap ((u32 : Int) * 4294967296) + ((u10 / 4294967296 : Nat) : Int)) - IntKind.u64.wrap ((Q1 : Int) * (Y : Int))) = (R1 : Int) := by
      have x1 : IntKind.u64.wrap ((u32 : Int) * 4294967296) = ((u32 * 4294967296 % 18446744073709551616 : Nat) : Int) := by rw [← u64_wrap_nat]; rfl
      have x2 : IntKind.u64.wrap (((u32 * 4294967296 % 18446744073709551616 : Nat) : Int) + ((u10 / 4294967296 : Nat) : Int)) = (((u32 * 4294967296 + u10 / 4294967296) % 18446744073709551616 : Nat) : Int) := by
        rw [← Int.natCast_add, u64_wrap_nat]; congr 1; omega
      have x3 : IntKind.u64.wrap ((Q1 : Int) * (Y : Int)) = ((Q1 * Y % 18446744073709551616 : Nat) : Int) := by rw [← u64_wrap_nat]; rfl
      rw [x1, x2, x3]
      exact wsub_mod rfl rfl l1 r1 (by omega)
    have e18 : IntKind.u64.wrap ((IntKind.u64.wrap (IntKind.u64.wrap (IntKind.u64.wrap ((u32 : Int) * 4294967296) + ((u10 / 4294967296 : Nat) : Int)) - IntKind.u64.wrap ((Q1 : Int) * (Y : Int)))).tdiv ((Y / 4294967296 : Nat) : Int)) = ((R1 / (Y / 4294967296) : Nat) : Int) := by
      rw [e17, tdq _ _ (by omega)]
    have e16' : IntKind.u64.wrap (IntKind.u64.wrap (IntKind.u64.wrap (IntKind.u64.wrap ((u32 : Int) * 4294967296) + ((u10 / 4294967296 : Nat) : Int)) - IntKind.u64.wrap ((Q1 : Int) * (Y : Int))) - IntKind.u64.wrap (IntKind.u64.wrap ((IntKind.u64.wrap (IntKind.u64.wrap (IntKind.u64.wrap ((u32 : Int) * 4294967296) + ((u10 / 4294967296 : Nat) : Int)) - IntKind.u64.wrap ((Q1 : Int) * (Y : Int)))).tdiv ((Y / 4294967296 : Nat) : Int)) * ((Y / 4294967296 : Nat) : Int))) = ((R1 % (Y / 4294967296) : Nat) : Int) := by
      rw [e18, e17, tdr _ _ (by omega)]
    obtain ⟨R0, hR0⟩ : ∃ R0, R0 = (R1 * 4294967296 + u10 % 4294967296) % Y := ⟨_, rfl⟩
    have hR0lt : R0 < Y := by rw [hR0]; exact Nat.mod_lt _ (by omega)
    have p0 : 0 < 2 ^ s := Nat.two_pow_pos s
    -- the whole
    have whole : (hi * 18446744073709551616 + lo) * 2 ^ s = (Q1 * 4294967296 + Q0) * Y + R0 := by
      rw [← k5, Nat.add_mul]
      have z1 : Q1 * 4294967296 * Y = (Q1 * Y) * 4294967296 := Nat.mul_right_comm _ _ _
      have z2 := Nat.div_add_mod (R1 * 4294967296 + u10 % 4294967296) Y
      rw [← hQ0, ← hR0, Nat.mul_comm Y] at z2
      rw [z1]
      exact whole_eq l1 r1 z2
    have quot : (hi * 18446744073709551616 + lo) / y = Q1 * 4294967296 + Q0 := by
      rw [← Nat.mul_div_mul_right _ _ p0, whole, ← hY, Nat.add_comm, Nat.add_mul_div_right _ _ (by omega), Nat.div_eq_of_lt hR0lt, Nat.zero_add]
    have rest : (hi * 18446744073709551616 + lo) % y = R0 / 2 ^ s := by
      have z := Nat.mul_mod_mul_right (2 ^ s) (hi * 18446744073709551616 + lo) y
      rw [whole, ← hY, Nat.add_comm, Nat.add_mul_mod_self_right, Nat.mod_eq_of_lt hR0lt] at z
      rw [z, Nat.mul_div_cancel _ p0]
    have eq : IntKind.u64.wrap (IntKind.u64.wrap ((Q1 : Int) * 4294967296) + (Q0 : Int)) = (((hi * 18446744073709551616 + lo) / y : Nat) : Int) := by
      rw [wmulc (by omega), wadd (by omega), quot]
    have er : ishr .u64 (IntKind.u64.wrap (IntKind.u64.wrap (IntKind.u64.wrap ((R1 : Int) * 4294967296) + ((u10 % 4294967296 : Nat) : Int)) - IntKind.u64.wrap ((Q0 : Int) * (Y : Int)))) (s : Int) = (((hi * 18446744073709551616 + lo) % y : Nat) : Int) := by
      have x1 : IntKind.u64.wrap ((R1 : Int) * 4294967296) = ((R1 * 4294967296 % 18446744073709551616 : Nat) : Int) := by rw [← u64_wrap_nat]; rfl
      have x2 : IntKind.u64.wrap (((R1 * 4294967296 % 18446744073709551616 : Nat) : Int) + ((u10 % 4294967296 : Nat) : Int)) = (((R1 * 4294967296 + u10 % 4294967296) % 18446744073709551616 : Nat) : Int) := by
        rw [← Int.natCast_add, u64_wrap_nat]; congr 1; omega
      have x3 : IntKind.u64.wrap ((Q0 : Int) * (Y : Int)) = ((Q0 * Y % 18446744073709551616 : Nat) : Int) := by rw [← u64_wrap_nat]; rfl
      rw [x1, x2, x3, wsub_mod rfl rfl l0 (r0.trans hR0.symm) (by omega), ishr_nat (by omega), rest]
    refine vloop_of (fun x : Nat × Nat => ⟨[(2, .int .u64 Y), (8, .int .u64 s), (9, .int .u64 (Y / 4294967296 : Nat)), (10, .int .u64 (Y % 4294967296 : Nat)), (11, .int .u64 u32), (13, .int .u64 (u10 / 4294967296 : Nat)), (14, .int .u64 (u10 % 4294967296 : Nat)), (15, .int .u64 x.1), (16, .int .u64 x.2)], [], 1⟩) (fun x => x.2 + x.1 * (Y / 4294967296) = u32 ∧ Q1 ≤ x.1 ∧ x.1 ≤ 4294967297 ∧ x.2 < 4294967296) (fun x => x.1) (u32 / (Y / 4294967296), u32 % (Y / 4294967296)) [0] []
      ⟨rfl, ⟨congrArg (fun z => some (SV.int .u64 z)) eY, congrArg (fun z => some (SV.int .u64 z)) es, congrArg (fun z => some (SV.int .u64 z)) e9, congrArg (fun z => some (SV.int .u64 z)) eA, congrArg (fun z => some (SV.int .u64 z)) e32, congrArg (fun z => some (SV.int .u64 z)) e13, congrArg (fun z => some (SV.int .u64 z)) e14, congrArg (fun z => some (SV.int .u64 z)) e15, congrArg (fun z => some (SV.int .u64 z)) e16, trivial⟩, trivial⟩
      ⟨by dsimp only; have := Nat.div_add_mod u32 (Y / 4294967296); rw [Nat.mul_comm] at this; omega, K1.le, K1.init, by dsimp only; have := Nat.mod_lt u32 (y := Y / 4294967296) (by omega); omega⟩ ?_
    clear e9 eA e13 e14 e15 e16 eY e32 e10 es e64 c0 c1 c2 c
    rintro ⟨q, r⟩ ⟨i1, i2, i3, i4⟩
    dsimp only at *
    have w1 : q < 4294967296 → IntKind.u64.wrap ((q : Int) * ((Y % 4294967296 : Nat) : Int)) = ((q * (Y % 4294967296) : Nat) : Int) := fun h => wmul (by have := mul_lt h (show Y % 4294967296 < 4294967296 by omega); omega)
    have w2 : IntKind.u64.wrap (4294967296 * (r : Int)) = ((4294967296 * r : Nat) : Int) := wcmul (by omega)
    have w3 : IntKind.u64.wrap (((4294967296 * r : Nat) : Int) + ((u10 / 4294967296 : Nat) : Int)) = ((4294967296 * r + u10 / 4294967296 : Nat) : Int) := wadd (by omega)
    have w4 : 1 ≤ q → IntKind.u64.wrap ((q : Int) - 1) = ((q - 1 : Nat) : Int) := fun h => by rw [u64_in' (by omega) (by omega)]; omega
    have w5 : IntKind.u64.wrap ((r : Int) + ((Y / 4294967296 : Nat) : Int)) = ((r + Y / 4294967296 : Nat) : Int) := wadd (by omega)
    have w6 : 1 ≤ q → (r + Y / 4294967296) + (q - 1) * (Y / 4294967296) = u32 := fun h => by
      have : (q - 1 + 1) * (Y / 4294967296) = q * (Y / 4294967296) := by rw [Nat.sub_add_cancel h]
      rw [Nat.add_mul] at this; omega
    by_cases hc : 4294967296 ≤ q ∨ 4294967296 * r + u10 / 4294967296 < q * (Y % 4294967296)
    · have g1 := K1.gt i1 hc
      have v6 := w6 (by omega)
      have v4 := w4 (by omega)
      by_cases hb : 4294967296 ≤ r + Y / 4294967296
      · have hq := K1.eqB v6 (by omega) (by omega) hb
        rw [hq] at v4
        repeat' ((conv => whnf); first | (refine br_dec (fun h => ?_) (fun h => ?_) <;> try (exfalso; first | omega | (rw [w2, w3, w1 (by omega)] at h; omega) | (rw [w5] at h; omega))) | (refine br_dec (fun h => ?_) (fun h => ?_) <;> try (exfalso; (try dsimp only at h); omega)) | (refine br_ndec (fun h => ?_) (fun h => ?_) <;> try (exfalso; (try dsimp only at h); omega)) | refine br_seq (fun h => ?_) (fun h => ?_) | refine br_nseq (fun h => ?_) (fun h => ?_) | refine br_not (fun h => ?_) (fun h => ?_) | refine br_intro (fun h => ?_) (fun h => ?_) | refine cond_intro rfl ?_ | (refine cond_intro ⟨rfl, ?_⟩ ?_; (first | omega | (dsimp only; omega) | decide)) | (refine cond_intro ?_ ?_; (first | omega | (dsimp only; omega) | decide | (simp only [Nat.add_zero, Int.toNat_natCast, *]; omega))))
        all_goals (conv => whnf)
        all_goals simp only [v4]
        all_goals
          refine vloop_of (fun x : Nat × Nat => ⟨[(2, .int .u64 Y), (8, .int .u64 s), (9, .int .u64 (Y / 4294967296 : Nat)), (10, .int .u64 (Y % 4294967296 : Nat)), (14, .int .u64 (u10 % 4294967296 : Nat)), (15, .int .u64 Q1), (17, .int .u64 R1), (18, .int .u64 x.1), (16, .int .u64 x.2)], [], 1⟩) (fun x => x.2 + x.1 * (Y / 4294967296) = R1 ∧ Q0 ≤ x.1 ∧ x.1 ≤ 4294967297 ∧ x.2 < 4294967296) (fun x => x.1) (R1 / (Y / 4294967296), R1 % (Y / 4294967296)) [0] []
            ⟨rfl, ⟨rfl, rfl, rfl, rfl, rfl, rfl, congrArg (fun z => some (SV.int .u64 z)) e17, congrArg (fun z => some (SV.int .u64 z)) e18, congrArg (fun z => some (SV.int .u64 z)) e16', trivial⟩, trivial⟩
            ⟨by dsimp only; have := Nat.div_add_mod R1 (Y / 4294967296); rw [Nat.mul_comm] at this; omega, K0.le, K0.init, by dsimp only; have := Nat.mod_lt R1 (y := Y / 4294967296) (by omega); omega⟩ ?_
          rintro ⟨q', r'⟩ ⟨i1', i2', i3', i4'⟩
          dsimp only at *
          have w1' : q' < 4294967296 → IntKind.u64.wrap ((q' : Int) * ((Y % 4294967296 : Nat) : Int)) = ((q' * (Y % 4294967296) : Nat) : Int) := fun h => wmul (by have := mul_lt h (show Y % 4294967296 < 4294967296 by omega); omega)
          have w2' : IntKind.u64.wrap (4294967296 * (r' : Int)) = ((4294967296 * r' : Nat) : Int) := wcmul (by omega)
          have w3' : IntKind.u64.wrap (((4294967296 * r' : Nat) : Int) + ((u10 % 4294967296 : Nat) : Int)) = ((4294967296 * r' + u10 % 4294967296 : Nat) : Int) := wadd (by omega)
          have w4' : 1 ≤ q' → IntKind.u64.wrap ((q' : Int) - 1) = ((q' - 1 : Nat) : Int) := fun h => by rw [u64_in' (by omega) (by omega)]; omega
          have w5' : IntKind.u64.wrap ((r' : Int) + ((Y / 4294967296 : Nat) : Int)) = ((r' + Y / 4294967296 : Nat) : Int) := wadd (by omega)
          have w6' : 1 ≤ q' → (r' + Y / 4294967296) + (q' - 1) * (Y / 4294967296) = R1 := fun h => by
            have : (q' - 1 + 1) * (Y / 4294967296) = q' * (Y / 4294967296) := by rw [Nat.sub_add_cancel h]
            rw [Nat.add_mul] at this; omega
          have fin : SV.tup [.int .u64 (IntKind.u64.wrap (IntKind.u64.wrap ((Q1 : Int) * 4294967296) + (Q0 : Int))), .int .u64 (ishr .u64 (IntKind.u64.wrap (IntKind.u64.wrap (IntKind.u64.wrap ((R1 : Int) * 4294967296) + ((u10 % 4294967296 : Nat) : Int)) - IntKind.u64.wrap ((Q0 : Int) * (Y : Int)))) (s : Int))] = SV.tup [.int .u64 ((hi * 18446744073709551616 + lo) / y : Nat), .int .u64 ((hi * 18446744073709551616 + lo) % y : Nat)] := tup2 eq er
          by_cases hc' : 4294967296 ≤ q' ∨ 4294967296 * r' + u10 % 4294967296 < q' * (Y % 4294967296)
          · have g1' := K0.gt i1' hc'
            have v6' := w6' (by omega)
            have v4' := w4' (by omega)
            by_cases hb' : 4294967296 ≤ r' + Y / 4294967296
            · have hq' := K0.eqB v6' (by omega) (by omega) hb'
              rw [hq'] at v4'
              repeat' ((conv => whnf); first | (refine br_dec (fun h => ?_) (fun h => ?_) <;> try (exfalso; first | omega | (rw [w2', w3', w1' (by omega)] at h; omega) | (rw [w5'] at h; omega))) | (refine br_dec (fun h => ?_) (fun h => ?_) <;> try (exfalso; (try dsimp only at h); omega)) | (refine br_ndec (fun h => ?_) (fun h => ?_) <;> try (exfalso; (try dsimp only at h); omega)) | refine br_seq (fun h => ?_) (fun h => ?_) | refine br_nseq (fun h => ?_) (fun h => ?_) | refine br_not (fun h => ?_) (fun h => ?_) | refine br_intro (fun h => ?_) (fun h => ?_) | refine cond_intro rfl ?_ | (refine cond_intro ⟨rfl, ?_⟩ ?_; (first | omega | (dsimp only; omega) | decide)) | (refine cond_intro ?_ ?_; (first | omega | (dsimp only; omega) | decide | (simp only [Nat.add_zero, Int.toNat_natCast, *]; omega))))
              all_goals (conv => whnf)
              all_goals refine ret_pure ?_
              all_goals simp only [v4']
              all_goals exact fin
            · repeat' ((conv => whnf); first | (refine br_dec (fun h => ?_) (fun h => ?_) <;> try (exfalso; first | omega | (rw [w2', w3', w1' (by omega)] at h; omega) | (rw [w5'] at h; omega))) | (refine br_dec (fun h => ?_) (fun h => ?_) <;> try (exfalso; (try dsimp only at h); omega)) | (refine br_ndec (fun h => ?_) (fun h => ?_) <;> try (exfalso; (try dsimp only at h); omega)) | refine br_seq (fun h => ?_) (fun h => ?_) | refine br_nseq (fun h => ?_) (fun h => ?_) | refine br_not (fun h => ?_) (fun h => ?_) | refine br_intro (fun h => ?_) (fun h => ?_) | refine cond_intro rfl ?_ | (refine cond_intro ⟨rfl, ?_⟩ ?_; (first | omega | (dsimp only; omega) | decide)) | (refine cond_intro ?_ ?_; (first | omega | (dsimp only; omega) | decide | (simp only [Nat.add_zero, Int.toNat_natCast, *]; omega))))
              all_goals (conv => whnf)
              all_goals exact ⟨(q' - 1, r' + Y / 4294967296), [0], [], ⟨v6', by dsimp only; omega, by dsimp only; omega, by dsimp only; omega⟩, by dsimp only; omega, ⟨rfl, ⟨rfl, rfl, rfl, rfl, rfl, rfl, rfl, congrArg (fun z => some (SV.int .u64 z)) v4', congrArg (fun z => some (SV.int .u64 z)) w5', trivial⟩, trivial⟩⟩
          · have hq' := K0.eq i1' i2' (by omega)
            subst hq'
            repeat' ((conv => whnf); first | (refine br_dec (fun h => ?_) (fun h => ?_) <;> try (exfalso; first | omega | (rw [w2', w3', w1' (by omega)] at h; omega) | (rw [w5'] at h; omega))) | (refine br_dec (fun h => ?_) (fun h => ?_) <;> try (exfalso; (try dsimp only at h); omega)) | (refine br_ndec (fun h => ?_) (fun h => ?_) <;> try (exfalso; (try dsimp only at h); omega)) | refine br_seq (fun h => ?_) (fun h => ?_) | refine br_nseq (fun h => ?_) (fun h => ?_) | refine br_not (fun h => ?_) (fun h => ?_) | refine br_intro (fun h => ?_) (fun h => ?_) | refine cond_intro rfl ?_ | (refine cond_intro ⟨rfl, ?_⟩ ?_; (first | omega | (dsimp only; omega) | decide)) | (refine cond_intro ?_ ?_; (first | omega | (dsimp only; omega) | decide | (simp only [Nat.add_zero, Int.toNat_natCast, *]; omega))))
            all_goals (conv => whnf)
            all_goals exact ret_pure fin
      · repeat' ((conv => whnf); first | (refine br_dec (fun h => ?_) (fun h => ?_) <;> try (exfalso; first | omega | (rw [w2, w3, w1 (by omega)] at h; omega) | (rw [w5] at h; omega))) | (refine br_dec (fun h => ?_) (fun h => ?_) <;> try (exfalso; (try dsimp only at h); omega)) | (refine br_ndec (fun h => ?_) (fun h => ?_) <;> try (exfalso; (try dsimp only at h); omega)) | refine br_seq (fun h => ?_) (fun h => ?_) | refine br_nseq (fun h => ?_) (fun h => ?_) | refine br_not (fun h => ?_) (fun h => ?_) | refine br_intro (fun h => ?_) (fun h => ?_) | refine cond_intro rfl ?_ | (refine cond_intro ⟨rfl, ?_⟩ ?_; (first | omega | (dsimp only; omega) | decide)) | (refine cond_intro ?_ ?_; (first | omega | (dsimp only; omega) | decide | (simp only [Nat.add_zero, Int.toNat_natCast, *]; omega))))
        all_goals (conv => whnf)
        all_goals exact ⟨(q - 1, r + Y / 4294967296), [0], [], ⟨v6, by dsimp only; omega, by dsimp only; omega, by dsimp only; omega⟩, by dsimp only; omega, ⟨rfl, ⟨rfl, rfl, rfl, rfl, rfl, rfl, rfl, congrArg (fun z => some (SV.int .u64 z)) v4, congrArg (fun z => some (SV.int .u64 z)) w5, trivial⟩, trivial⟩⟩
    · have hq := (K1.eq i1 i2 (by omega)).symm
      subst hq
      repeat' ((conv => whnf); first | (refine br_dec (fun h => ?_) (fun h => ?_) <;> try (exfalso; first | omega | (rw [w2, w3, w1 (by omega)] at h; omega) | (rw [w5] at h; omega))) | (refine br_dec (fun h => ?_) (fun h => ?_) <;> try (exfalso; (try dsimp only at h); omega)) | (refine br_ndec (fun h => ?_) (fun h => ?_) <;> try (exfalso; (try dsimp only at h); omega)) | refine br_seq (fun h => ?_) (fun h => ?_) | refine br_nseq (fun h => ?_) (fun h => ?_) | refine br_not (fun h => ?_) (fun h => ?_) | refine br_intro (fun h => ?_) (fun h => ?_) | refine cond_intro rfl ?_ | (refine cond_intro ⟨rfl, ?_⟩ ?_; (first | omega | (dsimp only; omega) | decide)) | (refine cond_intro ?_ ?_; (first | omega | (dsimp only; omega) | decide | (simp only [Nat.add_zero, Int.toNat_natCast, *]; omega))))
      all_goals (conv => whnf)
      refine vloop_of (fun x : Nat × Nat => ⟨[(2, .int .u64 Y), (8, .int .u64 s), (9, .int .u64 (Y / 4294967296 : Nat)), (10, .int .u64 (Y % 4294967296 : Nat)), (14, .int .u64 (u10 % 4294967296 : Nat)), (15, .int .u64 Q1), (17, .int .u64 R1), (18, .int .u64 x.1), (16, .int .u64 x.2)], [], 1⟩) (fun x => x.2 + x.1 * (Y / 4294967296) = R1 ∧ Q0 ≤ x.1 ∧ x.1 ≤ 4294967297 ∧ x.2 < 4294967296) (fun x => x.1) (R1 / (Y / 4294967296), R1 % (Y / 4294967296)) [0] []
        ⟨rfl, ⟨rfl, rfl, rfl, rfl, rfl, rfl, congrArg (fun z => some (SV.int .u64 z)) e17, congrArg (fun z => some (SV.int .u64 z)) e18, congrArg (fun z => some (SV.int .u64 z)) e16', trivial⟩, trivial⟩
        ⟨by dsimp only; have := Nat.div_add_mod R1 (Y / 4294967296); rw [Nat.mul_comm] at this; omega, K0.le, K0.init, by dsimp only; have := Nat.mod_lt R1 (y := Y / 4294967296) (by omega); omega⟩ ?_
      rintro ⟨q', r'⟩ ⟨i1', i2', i3', i4'⟩
      dsimp only at *
      have w1' : q' < 4294967296 → IntKind.u64.wrap ((q' : Int) * ((Y % 4294967296 : Nat) : Int)) = ((q' * (Y % 4294967296) : Nat) : Int) := fun h => wmul (by have := mul_lt h (show Y % 4294967296 < 4294967296 by omega); omega)
      have w2' : IntKind.u64.wrap (4294967296 * (r' : Int)) = ((4294967296 * r' : Nat) : Int) := wcmul (by omega)
      have w3' : IntKind.u64.wrap (((4294967296 * r' : Nat) : Int) + ((u10 % 4294967296 : Nat) : Int)) = ((4294967296 * r' + u10 % 4294967296 : Nat) : Int) := wadd (by omega)
      have w4' : 1 ≤ q' → IntKind.u64.wrap ((q' : Int) - 1) = ((q' - 1 : Nat) : Int) := fun h => by rw [u64_in' (by omega) (by omega)]; omega
      have w5' : IntKind.u64.wrap ((r' : Int) + ((Y / 4294967296 : Nat) : Int)) = ((r' + Y / 4294967296 : Nat) : Int) := wadd (by omega)
      have w6' : 1 ≤ q' → (r' + Y / 4294967296) + (q' - 1) * (Y / 4294967296) = R1 := fun h => by
        have : (q' - 1 + 1) * (Y / 4294967296) = q' * (Y / 4294967296) := by rw [Nat.sub_add_cancel h]
        rw [Nat.add_mul] at this; omega
      have fin : SV.tup [.int .u64 (IntKind.u64.wrap (IntKind.u64.wrap ((Q1 : Int) * 4294967296) + (Q0 : Int))), .int .u64 (ishr .u64 (IntKind.u64.wrap (IntKind.u64.wrap (IntKind.u64.wrap ((R1 : Int) * 4294967296) + ((u10 % 4294967296 : Nat) : Int)) - IntKind.u64.wrap ((Q0 : Int) * (Y : Int)))) (s : Int))] = SV.tup [.int .u64 ((hi * 18446744073709551616 + lo) / y : Nat), .int .u64 ((hi * 18446744073709551616 + lo) % y : Nat)] := tup2 eq er
      by_cases hc' : 4294967296 ≤ q' ∨ 4294967296 * r' + u10 % 4294967296 < q' * (Y % 4294967296)
      · have g1' := K0.gt i1' hc'
        have v6' := w6' (by omega)
        have v4' := w4' (by omega)
        by_cases hb' : 4294967296 ≤ r' + Y / 4294967296
        · have hq' := K0.eqB v6' (by omega) (by omega) hb'
          rw [hq'] at v4'
          repeat' ((conv => whnf); first | (refine br_dec (fun h => ?_) (fun h => ?_) <;> try (exfalso; first | omega | (rw [w2', w3', w1' (by omega)] at h; omega) | (rw [w5'] at h; omega))) | (refine br_dec (fun h => ?_) (fun h => ?_) <;> try (exfalso; (try dsimp only at h); omega)) | (refine br_ndec (fun h => ?_) (fun h => ?_) <;> try (exfalso; (try dsimp only at h); omega)) | refine br_seq (fun h => ?_) (fun h => ?_) | refine br_nseq (fun h => ?_) (fun h => ?_) | refine br_not (fun h => ?_) (fun h => ?_) | refine br_intro (fun h => ?_) (fun h => ?_) | refine cond_intro rfl ?_ | (refine cond_intro ⟨rfl, ?_⟩ ?_; (first | omega | (dsimp only; omega) | decide)) | (refine cond_intro ?_ ?_; (first | omega | (dsimp only; omega) | decide | (simp only [Nat.add_zero, Int.toNat_natCast, *]; omega))))
          all_goals (conv => whnf)
          all_goals refine ret_pure ?_
          all_goals simp only [v4']
          all_goals exact fin
        · repeat' ((conv => whnf); first | (refine br_dec (fun h => ?_) (fun h => ?_) <;> try (exfalso; first | omega | (rw [w2', w3', w1' (by omega)] at h; omega) | (rw [w5'] at h; omega))) | (refine br_dec (fun h => ?_) (fun h => ?_) <;> try (exfalso; (try dsimp only at h); omega)) | (refine br_ndec (fun h => ?_) (fun h => ?_) <;> try (exfalso; (try dsimp only at h); omega)) | refine br_seq (fun h => ?_) (fun h => ?_) | refine br_nseq (fun h => ?_) (fun h => ?_) | refine br_not (fun h => ?_) (fun h => ?_) | refine br_intro (fun h => ?_) (fun h => ?_) | refine cond_intro rfl ?_ | (refine cond_intro ⟨rfl, ?_⟩ ?_; (first | omega | (dsimp only; omega) | decide)) | (refine cond_intro ?_ ?_; (first | omega | (dsimp only; omega) | decide | (simp only [Nat.add_zero, Int.toNat_natCast, *]; omega))))
          all_goals (conv => whnf)
          all_goals exact ⟨(q' - 1, r' + Y / 4294967296), [0], [], ⟨v6', by dsimp only; omega, by dsimp only; omega, by dsimp only; omega⟩, by dsimp only; omega, ⟨rfl, ⟨rfl, rfl, rfl, rfl, rfl, rfl, rfl, congrArg (fun z => some (SV.int .u64 z)) v4', congrArg (fun z => some (SV.int .u64 z)) w5', trivial⟩, trivial⟩⟩
      · have hq' := K0.eq i1' i2' (by omega)
        subst hq'
        repeat' ((conv => whnf); first | (refine br_dec (fun h => ?_) (fun h => ?_) <;> try (exfalso; first | omega | (rw [w2', w3', w1' (by omega)] at h; omega) | (rw [w5'] at h; omega))) | (refine br_dec (fun h => ?_) (fun h => ?_) <;> try (exfalso; (try dsimp only at h); omega)) | (refine br_ndec (fun h => ?_) (fun h => ?_) <;> try (exfalso; (try dsimp only at h); omega)) | refine br_seq (fun h => ?_) (fun h => ?_) | refine br_nseq (fun h => ?_) (fun h => ?_) | refine br_not (fun h => ?_) (fun h => ?_) | refine br_intro (fun h => ?_) (fun h => ?_) | refine cond_intro rfl ?_ | (refine cond_intro ⟨rfl, ?_⟩ ?_; (first | omega | (dsimp only; omega) | decide)) | (refine cond_intro ?_ ?_; (first | omega | (dsimp only; omega) | decide | (simp only [Nat.add_zero, Int.toNat_natCast, *]; omega))))
        all_goals (conv => whnf)
        all_goals exact ret_pure fin
end Go.Proofs.YtakaafolanojkaaDoor
