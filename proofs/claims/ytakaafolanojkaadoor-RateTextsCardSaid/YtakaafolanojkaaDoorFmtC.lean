/- Contracts of the library: numbers in decimal. -/
import Derived.Test.YtakaafolanojkaaDoorTab
import Derived.Test.YtakaafolanojkaaDoorNum
namespace Go.Proofs.YtakaafolanojkaaDoor
open Go.RowKit Go.Sy
attribute [local irreducible] vcall vloop vcallD retP
set_option maxRecDepth 100000
set_option linter.unusedVariables false
set_option linter.unusedSimpArgs false

theorem blen_shift' {u k : Nat} (h : 2 ^ k ≤ u) {v : Nat} (hv : v = u / 2 ^ k) : blen u = k + blen v := by rw [hv]; exact blen_shift u k h
theorem l8_at {s : ByteArray} (h : tabB s 256 blen = true) {x : Int} (h0 : 0 ≤ x) (h1 : x < 256) : byteAt s x = (blen x.toNat : Int) := by
  have := tabB_at h (i := x.toNat) (by omega)
  rw [← this, Int.toNat_of_nonneg h0]
theorem blen_small {u : Nat} (h : u < 256) : blen u ≤ 8 := by
  rcases Nat.lt_or_ge 8 (blen u) with h1 | h1
  · have hu : 1 ≤ u := by
      rcases Nat.eq_zero_or_pos u with e | e
      · subst e; simp [blen] at h1
      · exact e
    have a := blen_ge u hu
    have : 2 ^ 8 ≤ 2 ^ (blen u - 1) := Nat.pow_le_pow_right (by omega) (by omega)
    omega
  · exact h1

theorem len_fin {u c : Nat} {x : Int} (hx : x = ((u / 2 ^ c : Nat) : Int)) (h : c = 0 ∨ 2 ^ c ≤ u) : (c : Int) + (blen x.toNat : Int) = (blen u : Int) := by
  subst hx
  rw [Int.toNat_natCast]
  rcases h with rfl | h
  · simp
  · rw [blen_shift u c h]; omega

theorem len_fin' {u c : Nat} {x n : Int} (hn : n = (c : Int)) (hc : c ≤ 56) (hx : x = ((u / 2 ^ c : Nat) : Int)) (h : c = 0 ∨ 2 ^ c ≤ u) (h1 : x < 256) : IntKind.i64.wrap (n + IntKind.i64.wrap (blen x.toNat : Int)) = (blen u : Int) := by
  have hb := blen_small (u := x.toNat) (by omega)
  rw [w64_in (n := (blen x.toNat : Int)) (by omega) (by omega), w64_in (by omega) (by omega), hn]
  exact len_fin hx h

theorem bits_Len64 (u : Nat) (hu : u < 18446744073709551616) : Pure Tryd.prog 51 [.int .u64 u] (.int .i64 (blen u)) := by
  refine fc_of mixed T_ok Tryd.func51 rfl (by kernel_rfl) (by kernel_rfl) (by kernel_rfl) ?_
  repeat' ((conv => whnf); first | (refine cond_intro ⟨by (try simp only [ishr_lit8, ishr_lit16, ishr_lit32, ishr_lit18] at *); (try simp (disch := omega) only [w64_in, u32_in', u64_in', u8_in', ishr_lit8, ishr_lit16, ishr_lit32, ishr_lit18, Int.tmod_eq_emod_of_nonneg, Int.tdiv_eq_ediv_of_nonneg, Int.toNat_natCast, Nat.add_zero]); omega, sz_lt (n := 256) (by kernel_rfl) (by (try simp only [ishr_lit8, ishr_lit16, ishr_lit32, ishr_lit18] at *); (try simp (disch := omega) only [w64_in, u32_in', u64_in', u8_in', ishr_lit8, ishr_lit16, ishr_lit32, ishr_lit18, Int.tmod_eq_emod_of_nonneg, Int.tdiv_eq_ediv_of_nonneg, Int.toNat_natCast, Nat.add_zero]); omega)⟩ ?_) | (refine br_dec (fun h => ?_) (fun h => ?_) <;> try (exfalso; (try dsimp only at h); omega)) | (refine br_ndec (fun h => ?_) (fun h => ?_) <;> try (exfalso; (try dsimp only at h); omega)) | refine br_seq (fun h => ?_) (fun h => ?_) | refine br_nseq (fun h => ?_) (fun h => ?_) | refine br_not (fun h => ?_) (fun h => ?_) | refine br_intro (fun h => ?_) (fun h => ?_) | refine cond_intro rfl ?_ | (refine cond_intro ⟨rfl, ?_⟩ ?_; (first | omega | (dsimp only; omega) | decide)) | (refine cond_intro ?_ ?_; (first | omega | (dsimp only; omega) | decide | (simp only [Nat.add_zero, Int.toNat_natCast, *]; omega))))
  all_goals (conv => whnf)
  all_goals refine ret_pure ?_
  all_goals simp only [oneOr]
  all_goals (try simp only [ishr_lit8, ishr_lit16, ishr_lit32, ishr_lit18] at *)
  all_goals rw [l8_at (by kernel_rfl) (by (try simp (disch := omega) only [w64_in, u32_in', u64_in', u8_in', ishr_lit8, ishr_lit16, ishr_lit32, ishr_lit18, Int.tmod_eq_emod_of_nonneg, Int.tdiv_eq_ediv_of_nonneg, Int.toNat_natCast, Nat.add_zero]); omega) (by (try simp (disch := omega) only [w64_in, u32_in', u64_in', u8_in', ishr_lit8, ishr_lit16, ishr_lit32, ishr_lit18, Int.tmod_eq_emod_of_nonneg, Int.tdiv_eq_ediv_of_nonneg, Int.toNat_natCast, Nat.add_zero]); omega)]
  all_goals refine congrArg (SV.int .i64) ?_
  · exact len_fin' (c := 56) (by first | rfl | ((try simp (disch := omega) only [w64_in, u32_in', u64_in', u8_in', ishr_lit8, ishr_lit16, ishr_lit32, ishr_lit18, Int.tmod_eq_emod_of_nonneg, Int.tdiv_eq_ediv_of_nonneg, Int.toNat_natCast, Nat.add_zero]); omega)) (by omega) (by (try simp (disch := omega) only [w64_in, u32_in', u64_in', u8_in', ishr_lit8, ishr_lit16, ishr_lit32, ishr_lit18, Int.tmod_eq_emod_of_nonneg, Int.tdiv_eq_ediv_of_nonneg, Int.toNat_natCast, Nat.add_zero]); omega) (by omega) (by (try simp (disch := omega) only [w64_in, u32_in', u64_in', u8_in', ishr_lit8, ishr_lit16, ishr_lit32, ishr_lit18, Int.tmod_eq_emod_of_nonneg, Int.tdiv_eq_ediv_of_nonneg, Int.toNat_natCast, Nat.add_zero]); omega)
  · exact len_fin' (c := 48) (by first | rfl | ((try simp (disch := omega) only [w64_in, u32_in', u64_in', u8_in', ishr_lit8, ishr_lit16, ishr_lit32, ishr_lit18, Int.tmod_eq_emod_of_nonneg, Int.tdiv_eq_ediv_of_nonneg, Int.toNat_natCast, Nat.add_zero]); omega)) (by omega) (by (try simp (disch := omega) only [w64_in, u32_in', u64_in', u8_in', ishr_lit8, ishr_lit16, ishr_lit32, ishr_lit18, Int.tmod_eq_emod_of_nonneg, Int.tdiv_eq_ediv_of_nonneg, Int.toNat_natCast, Nat.add_zero]); omega) (by omega) (by (try simp (disch := omega) only [w64_in, u32_in', u64_in', u8_in', ishr_lit8, ishr_lit16, ishr_lit32, ishr_lit18, Int.tmod_eq_emod_of_nonneg, Int.tdiv_eq_ediv_of_nonneg, Int.toNat_natCast, Nat.add_zero]); omega)
  · exact len_fin' (c := 40) (by first | rfl | ((try simp (disch := omega) only [w64_in, u32_in', u64_in', u8_in', ishr_lit8, ishr_lit16, ishr_lit32, ishr_lit18, Int.tmod_eq_emod_of_nonneg, Int.tdiv_eq_ediv_of_nonneg, Int.toNat_natCast, Nat.add_zero]); omega)) (by omega) (by (try simp (disch := omega) only [w64_in, u32_in', u64_in', u8_in', ishr_lit8, ishr_lit16, ishr_lit32, ishr_lit18, Int.tmod_eq_emod_of_nonneg, Int.tdiv_eq_ediv_of_nonneg, Int.toNat_natCast, Nat.add_zero]); omega) (by omega) (by (try simp (disch := omega) only [w64_in, u32_in', u64_in', u8_in', ishr_lit8, ishr_lit16, ishr_lit32, ishr_lit18, Int.tmod_eq_emod_of_nonneg, Int.tdiv_eq_ediv_of_nonneg, Int.toNat_natCast, Nat.add_zero]); omega)
  · exact len_fin' (c := 32) (by first | rfl | ((try simp (disch := omega) only [w64_in, u32_in', u64_in', u8_in', ishr_lit8, ishr_lit16, ishr_lit32, ishr_lit18, Int.tmod_eq_emod_of_nonneg, Int.tdiv_eq_ediv_of_nonneg, Int.toNat_natCast, Nat.add_zero]); omega)) (by omega) (by (try simp (disch := omega) only [w64_in, u32_in', u64_in', u8_in', ishr_lit8, ishr_lit16, ishr_lit32, ishr_lit18, Int.tmod_eq_emod_of_nonneg, Int.tdiv_eq_ediv_of_nonneg, Int.toNat_natCast, Nat.add_zero]); omega) (by omega) (by (try simp (disch := omega) only [w64_in, u32_in', u64_in', u8_in', ishr_lit8, ishr_lit16, ishr_lit32, ishr_lit18, Int.tmod_eq_emod_of_nonneg, Int.tdiv_eq_ediv_of_nonneg, Int.toNat_natCast, Nat.add_zero]); omega)
  · exact len_fin' (c := 24) (by first | rfl | ((try simp (disch := omega) only [w64_in, u32_in', u64_in', u8_in', ishr_lit8, ishr_lit16, ishr_lit32, ishr_lit18, Int.tmod_eq_emod_of_nonneg, Int.tdiv_eq_ediv_of_nonneg, Int.toNat_natCast, Nat.add_zero]); omega)) (by omega) (by (try simp (disch := omega) only [w64_in, u32_in', u64_in', u8_in', ishr_lit8, ishr_lit16, ishr_lit32, ishr_lit18, Int.tmod_eq_emod_of_nonneg, Int.tdiv_eq_ediv_of_nonneg, Int.toNat_natCast, Nat.add_zero]); omega) (by omega) (by (try simp (disch := omega) only [w64_in, u32_in', u64_in', u8_in', ishr_lit8, ishr_lit16, ishr_lit32, ishr_lit18, Int.tmod_eq_emod_of_nonneg, Int.tdiv_eq_ediv_of_nonneg, Int.toNat_natCast, Nat.add_zero]); omega)
  · exact len_fin' (c := 16) (by first | rfl | ((try simp (disch := omega) only [w64_in, u32_in', u64_in', u8_in', ishr_lit8, ishr_lit16, ishr_lit32, ishr_lit18, Int.tmod_eq_emod_of_nonneg, Int.tdiv_eq_ediv_of_nonneg, Int.toNat_natCast, Nat.add_zero]); omega)) (by omega) (by (try simp (disch := omega) only [w64_in, u32_in', u64_in', u8_in', ishr_lit8, ishr_lit16, ishr_lit32, ishr_lit18, Int.tmod_eq_emod_of_nonneg, Int.tdiv_eq_ediv_of_nonneg, Int.toNat_natCast, Nat.add_zero]); omega) (by omega) (by (try simp (disch := omega) only [w64_in, u32_in', u64_in', u8_in', ishr_lit8, ishr_lit16, ishr_lit32, ishr_lit18, Int.tmod_eq_emod_of_nonneg, Int.tdiv_eq_ediv_of_nonneg, Int.toNat_natCast, Nat.add_zero]); omega)
  · exact len_fin' (c := 8) (by first | rfl | ((try simp (disch := omega) only [w64_in, u32_in', u64_in', u8_in', ishr_lit8, ishr_lit16, ishr_lit32, ishr_lit18, Int.tmod_eq_emod_of_nonneg, Int.tdiv_eq_ediv_of_nonneg, Int.toNat_natCast, Nat.add_zero]); omega)) (by omega) (by (try simp (disch := omega) only [w64_in, u32_in', u64_in', u8_in', ishr_lit8, ishr_lit16, ishr_lit32, ishr_lit18, Int.tmod_eq_emod_of_nonneg, Int.tdiv_eq_ediv_of_nonneg, Int.toNat_natCast, Nat.add_zero]); omega) (by omega) (by (try simp (disch := omega) only [w64_in, u32_in', u64_in', u8_in', ishr_lit8, ishr_lit16, ishr_lit32, ishr_lit18, Int.tmod_eq_emod_of_nonneg, Int.tdiv_eq_ediv_of_nonneg, Int.toNat_natCast, Nat.add_zero]); omega)
  · exact len_fin' (c := 0) (by first | rfl | ((try simp (disch := omega) only [w64_in, u32_in', u64_in', u8_in', ishr_lit8, ishr_lit16, ishr_lit32, ishr_lit18, Int.tmod_eq_emod_of_nonneg, Int.tdiv_eq_ediv_of_nonneg, Int.toNat_natCast, Nat.add_zero]); omega)) (by omega) (by (try simp (disch := omega) only [w64_in, u32_in', u64_in', u8_in', ishr_lit8, ishr_lit16, ishr_lit32, ishr_lit18, Int.tmod_eq_emod_of_nonneg, Int.tdiv_eq_ediv_of_nonneg, Int.toNat_natCast, Nat.add_zero]); omega) (by omega) (by (try simp (disch := omega) only [w64_in, u32_in', u64_in', u8_in', ishr_lit8, ishr_lit16, ishr_lit32, ishr_lit18, Int.tmod_eq_emod_of_nonneg, Int.tdiv_eq_ediv_of_nonneg, Int.toNat_natCast, Nat.add_zero]); omega)

theorem conv_log10Pow2 (n : Nat) (hn : n ≤ 64) : Pure Tryd.prog 50 [.int .i64 n] (.int .i64 (n * 78913 / 262144 : Nat)) := by
  refine fc_of mixed T_ok Tryd.func50 rfl (by kernel_rfl) (by kernel_rfl) (by kernel_rfl) ?_
  repeat' ((conv => whnf); first | (refine br_dec (fun h => ?_) (fun h => ?_) <;> try (exfalso; (try dsimp only at h); omega)) | (refine br_ndec (fun h => ?_) (fun h => ?_) <;> try (exfalso; (try dsimp only at h); omega)) | refine br_seq (fun h => ?_) (fun h => ?_) | refine br_nseq (fun h => ?_) (fun h => ?_) | refine br_not (fun h => ?_) (fun h => ?_) | refine br_intro (fun h => ?_) (fun h => ?_) | refine cond_intro rfl ?_ | (refine cond_intro ⟨rfl, ?_⟩ ?_; (first | omega | (dsimp only; omega) | decide)) | (refine cond_intro ?_ ?_; (first | omega | (dsimp only; omega) | decide | (simp only [Nat.add_zero, Int.toNat_natCast, *]; omega))))
  all_goals (conv => whnf)
  all_goals refine ret_pure ?_
  all_goals simp only [oneOr]
  all_goals (try simp (disch := omega) only [w64_in, u32_in', u64_in', u8_in', ishr_lit8, ishr_lit16, ishr_lit32, ishr_lit18, Int.tmod_eq_emod_of_nonneg, Int.tdiv_eq_ediv_of_nonneg, Int.toNat_natCast, Nat.add_zero])
  all_goals rfl

theorem conv_bool2 (b : Bool) : Pure Tryd.prog 52 [.bool b] (.int .i64 (if b = true then 1 else 0)) := by
  refine fc_of mixed T_ok Tryd.func52 rfl (by kernel_rfl) (by kernel_rfl) (by kernel_rfl) ?_
  repeat' ((conv => whnf); first | (refine br_dec (fun h => ?_) (fun h => ?_) <;> try (exfalso; (try dsimp only at h); omega)) | (refine br_ndec (fun h => ?_) (fun h => ?_) <;> try (exfalso; (try dsimp only at h); omega)) | refine br_seq (fun h => ?_) (fun h => ?_) | refine br_nseq (fun h => ?_) (fun h => ?_) | refine br_not (fun h => ?_) (fun h => ?_) | refine br_intro (fun h => ?_) (fun h => ?_) | refine cond_intro rfl ?_ | (refine cond_intro ⟨rfl, ?_⟩ ?_; (first | omega | (dsimp only; omega) | decide)) | (refine cond_intro ?_ ?_; (first | omega | (dsimp only; omega) | decide | (simp only [Nat.add_zero, Int.toNat_natCast, *]; omega))))
  all_goals (conv => whnf)
  all_goals exact ret_pure (by simp [oneOr, h, cv])
end Go.Proofs.YtakaafolanojkaaDoor
