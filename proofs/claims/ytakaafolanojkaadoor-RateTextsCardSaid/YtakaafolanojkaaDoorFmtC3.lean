/- Contracts of the library: FormatInt. -/
import Derived.Test.YtakaafolanojkaaDoorFmtC2
namespace Go.Proofs.YtakaafolanojkaaDoor
open Go.RowKit Go.Sy
attribute [local irreducible] vcall vloop vcallD retP
set_option maxRecDepth 100000
set_option linter.unusedVariables false
set_option linter.unusedSimpArgs false

theorem ndig_le {u : Nat} (h : u < 18446744073709551616) : ndig u ≤ 20 := by
  rcases Nat.lt_or_ge 20 (ndig u) with h1 | h1
  · have hu : 1 ≤ u := by
      rcases Nat.eq_zero_or_pos u with e | e
      · subst e; rw [ndig, if_pos (by omega)] at h1; omega
      · exact e
    have a := ndig_ge u hu
    have : 10 ^ 20 ≤ 10 ^ (ndig u - 1) := Nat.pow_le_pow_right (by omega) (by omega)
    omega
  · exact h1

theorem iconv_FormatInt (i : Int) (h1 : -9223372036854775808 ≤ i) (h2 : i ≤ 9223372036854775807) : Glob Tryd.prog glT 25 [.int .i64 i, .int .i64 10] (.str (decI i)) := by
  refine fc_of mixed T_ok Tryd.func25 rfl (by kernel_rfl) (by kernel_rfl) (by kernel_rfl) ?_
  by_cases hs : 0 ≤ i ∧ i < 100
  · have c := conv_small i.toNat (by omega)
    rw [Int.toNat_of_nonneg hs.1] at c
    repeat' ((conv => whnf); first | (refine vcall_pure (c) rfl rfl rfl ?_) | (refine br_dec (fun h => ?_) (fun h => ?_) <;> try (exfalso; (try dsimp only at h); omega)) | (refine br_ndec (fun h => ?_) (fun h => ?_) <;> try (exfalso; (try dsimp only at h); omega)) | refine br_seq (fun h => ?_) (fun h => ?_) | refine br_nseq (fun h => ?_) (fun h => ?_) | refine br_not (fun h => ?_) (fun h => ?_) | refine br_intro (fun h => ?_) (fun h => ?_) | refine cond_intro rfl ?_ | (refine cond_intro ⟨rfl, ?_⟩ ?_; (first | omega | (dsimp only; omega) | decide)) | (refine cond_intro ?_ ?_; (first | omega | (dsimp only; omega) | decide | (simp only [Nat.add_zero, Int.toNat_natCast, *]; omega))))
    all_goals (conv => whnf)
    all_goals refine ret_pure ?_
    unfold decI
    rw [if_neg (by omega)]; rfl
  · by_cases hi : i < 0
    · have e : IntKind.u64.wrap (0 - IntKind.u64.wrap i) = (i.natAbs : Int) := by
        simp only [IntKind.wrap, IntKind.bits, IntKind.signed]; simp; omega
      have hb : i.natAbs < 18446744073709551616 := by omega
      have hn := ndig_le hb
      have hp := ndig_pos i.natAbs
      have c2 := conv_numDigits i.natAbs (by omega) hb
      rw [← e] at c2
      have en : (IntKind.i64.wrap (1 + (ndig i.natAbs : Int))).toNat = 1 + ndig i.natAbs := by (try simp (disch := omega) only [w64_in, u32_in', u64_in', u8_in', ishr_lit8, ishr_lit16, ishr_lit32, ishr_lit18, Int.tmod_eq_emod_of_nonneg, Int.tdiv_eq_ediv_of_nonneg, Int.toNat_natCast, Nat.add_zero]); omega
      have en' : (IntKind.i64.wrap (1 + (ndig i.natAbs : Int))).toNat - Int.toNat 1 = ndig i.natAbs := by rw [en]; simp
      have c3 := conv_formatBase10 (List.replicate 24 0) 24 (Int.toNat 1) ((IntKind.i64.wrap (1 + (ndig i.natAbs : Int))).toNat - Int.toNat 1) i.natAbs rfl (by rw [en']; show 1 + _ ≤ 24; omega) (by omega) (by rw [en']; exact ndig_lt _) hb
      rw [← e] at c3
      repeat' ((conv => whnf); first | (refine vcall_glob (c2) rfl rfl rfl rfl ?_) | (refine vcall_out (l :=  [0, 1]) (c3 ) ⟨rfl, rfl, rfl, rfl, (by (repeat' (first | exact trivial | exact GB_wf | exact fun _ _ => rfl | constructor)); first | done | fail), (by (repeat' (first | exact trivial | exact GB_fits rfl | constructor)); first | done | fail)⟩ ?_) | (refine cond_intro ⟨by (try simp (disch := omega) only [w64_in, u32_in', u64_in', u8_in', ishr_lit8, ishr_lit16, ishr_lit32, ishr_lit18, Int.tmod_eq_emod_of_nonneg, Int.tdiv_eq_ediv_of_nonneg, Int.toNat_natCast, Nat.add_zero]); omega, by (try simp (disch := omega) only [w64_in, u32_in', u64_in', u8_in', ishr_lit8, ishr_lit16, ishr_lit32, ishr_lit18, Int.tmod_eq_emod_of_nonneg, Int.tdiv_eq_ediv_of_nonneg, Int.toNat_natCast, Nat.add_zero]); omega, by (try simp (disch := omega) only [w64_in, u32_in', u64_in', u8_in', ishr_lit8, ishr_lit16, ishr_lit32, ishr_lit18, Int.tmod_eq_emod_of_nonneg, Int.tdiv_eq_ediv_of_nonneg, Int.toNat_natCast, Nat.add_zero]); omega⟩ ?_) | (refine cond_intro (by (try simp (disch := omega) only [w64_in, u32_in', u64_in', u8_in', ishr_lit8, ishr_lit16, ishr_lit32, ishr_lit18, Int.tmod_eq_emod_of_nonneg, Int.tdiv_eq_ediv_of_nonneg, Int.toNat_natCast, Nat.add_zero]); omega) ?_) | (refine br_dec (fun h => ?_) (fun h => ?_) <;> try (exfalso; (try dsimp only at h); omega)) | (refine br_ndec (fun h => ?_) (fun h => ?_) <;> try (exfalso; (try dsimp only at h); omega)) | refine br_seq (fun h => ?_) (fun h => ?_) | refine br_nseq (fun h => ?_) (fun h => ?_) | refine br_not (fun h => ?_) (fun h => ?_) | refine br_intro (fun h => ?_) (fun h => ?_) | refine cond_intro rfl ?_ | (refine cond_intro ⟨rfl, ?_⟩ ?_; (first | omega | (dsimp only; omega) | decide)) | (refine cond_intro ?_ ?_; (first | omega | (dsimp only; omega) | decide | (simp only [Nat.add_zero, Int.toNat_natCast, *]; omega))))
      all_goals (conv => whnf)
      all_goals refine ret_pure ?_
      unfold decI
      rw [if_pos hi]
      refine congrArg SV.str (congrArg bytesOf ?_)
      rw [en', en]
      refine Eq.trans (seg_head (n := ndig i.natAbs) (by rw [dtab_length]; omega)) ?_
      rw [show Int.toNat 1 = 1 from rfl, dtab_seg (by omega)]
    · have e : IntKind.u64.wrap i = (i.toNat : Int) := by (try simp (disch := omega) only [w64_in, u32_in', u64_in', u8_in', ishr_lit8, ishr_lit16, ishr_lit32, ishr_lit18, Int.tmod_eq_emod_of_nonneg, Int.tdiv_eq_ediv_of_nonneg, Int.toNat_natCast, Nat.add_zero]); omega
      have hb : i.toNat < 18446744073709551616 := by omega
      have hn := ndig_le hb
      have hp := ndig_pos i.toNat
      have c2 := conv_numDigits i.toNat (by omega) hb
      rw [← e] at c2
      have en : (IntKind.i64.wrap (1 + (ndig i.toNat : Int))).toNat = 1 + ndig i.toNat := by (try simp (disch := omega) only [w64_in, u32_in', u64_in', u8_in', ishr_lit8, ishr_lit16, ishr_lit32, ishr_lit18, Int.tmod_eq_emod_of_nonneg, Int.tdiv_eq_ediv_of_nonneg, Int.toNat_natCast, Nat.add_zero]); omega
      have en' : (IntKind.i64.wrap (1 + (ndig i.toNat : Int))).toNat - Int.toNat 1 = ndig i.toNat := by rw [en]; simp
      have c3 := conv_formatBase10 (List.replicate 24 0) 24 (Int.toNat 1) ((IntKind.i64.wrap (1 + (ndig i.toNat : Int))).toNat - Int.toNat 1) i.toNat rfl (by rw [en']; show 1 + _ ≤ 24; omega) (by omega) (by rw [en']; exact ndig_lt _) hb
      rw [← e] at c3
      repeat' ((conv => whnf); first | (refine vcall_glob (c2) rfl rfl rfl rfl ?_) | (refine vcall_out (l :=  [0, 1]) (c3 ) ⟨rfl, rfl, rfl, rfl, (by (repeat' (first | exact trivial | exact GB_wf | exact fun _ _ => rfl | constructor)); first | done | fail), (by (repeat' (first | exact trivial | exact GB_fits rfl | constructor)); first | done | fail)⟩ ?_) | (refine cond_intro ⟨by (try simp (disch := omega) only [w64_in, u32_in', u64_in', u8_in', ishr_lit8, ishr_lit16, ishr_lit32, ishr_lit18, Int.tmod_eq_emod_of_nonneg, Int.tdiv_eq_ediv_of_nonneg, Int.toNat_natCast, Nat.add_zero]); omega, by (try simp (disch := omega) only [w64_in, u32_in', u64_in', u8_in', ishr_lit8, ishr_lit16, ishr_lit32, ishr_lit18, Int.tmod_eq_emod_of_nonneg, Int.tdiv_eq_ediv_of_nonneg, Int.toNat_natCast, Nat.add_zero]); omega, by (try simp (disch := omega) only [w64_in, u32_in', u64_in', u8_in', ishr_lit8, ishr_lit16, ishr_lit32, ishr_lit18, Int.tmod_eq_emod_of_nonneg, Int.tdiv_eq_ediv_of_nonneg, Int.toNat_natCast, Nat.add_zero]); omega⟩ ?_) | (refine cond_intro (by (try simp (disch := omega) only [w64_in, u32_in', u64_in', u8_in', ishr_lit8, ishr_lit16, ishr_lit32, ishr_lit18, Int.tmod_eq_emod_of_nonneg, Int.tdiv_eq_ediv_of_nonneg, Int.toNat_natCast, Nat.add_zero]); omega) ?_) | (refine br_dec (fun h => ?_) (fun h => ?_) <;> try (exfalso; (try dsimp only at h); omega)) | (refine br_ndec (fun h => ?_) (fun h => ?_) <;> try (exfalso; (try dsimp only at h); omega)) | refine br_seq (fun h => ?_) (fun h => ?_) | refine br_nseq (fun h => ?_) (fun h => ?_) | refine br_not (fun h => ?_) (fun h => ?_) | refine br_intro (fun h => ?_) (fun h => ?_) | refine cond_intro rfl ?_ | (refine cond_intro ⟨rfl, ?_⟩ ?_; (first | omega | (dsimp only; omega) | decide)) | (refine cond_intro ?_ ?_; (first | omega | (dsimp only; omega) | decide | (simp only [Nat.add_zero, Int.toNat_natCast, *]; omega))))
      all_goals (conv => whnf)
      all_goals refine ret_pure ?_
      unfold decI dec
      rw [if_neg hi]
      refine congrArg SV.str (congrArg bytesOf ?_)
      rw [en', show Int.toNat 1 = 1 from rfl, dtab_seg (by omega)]

theorem conv_FormatInt (i : Int) (h1 : -9223372036854775808 ≤ i) (h2 : i ≤ 9223372036854775807) : Glob Tryd.prog glT 17 [.int .i64 i, .int .i64 10] (.str (decI i)) := by
  have c := iconv_FormatInt i h1 h2
  refine fc_of mixed T_ok Tryd.func17 rfl (by kernel_rfl) (by kernel_rfl) (by kernel_rfl) ?_
  repeat' ((conv => whnf); first | (refine vcall_glob (c) rfl rfl rfl rfl ?_) | (refine br_dec (fun h => ?_) (fun h => ?_) <;> try (exfalso; (try dsimp only at h); omega)) | (refine br_ndec (fun h => ?_) (fun h => ?_) <;> try (exfalso; (try dsimp only at h); omega)) | refine br_seq (fun h => ?_) (fun h => ?_) | refine br_nseq (fun h => ?_) (fun h => ?_) | refine br_not (fun h => ?_) (fun h => ?_) | refine br_intro (fun h => ?_) (fun h => ?_) | refine cond_intro rfl ?_ | (refine cond_intro ⟨rfl, ?_⟩ ?_; (first | omega | (dsimp only; omega) | decide)) | (refine cond_intro ?_ ?_; (first | omega | (dsimp only; omega) | decide | (simp only [Nat.add_zero, Int.toNat_natCast, *]; omega))))
  all_goals (conv => whnf)
  all_goals exact ret_pure rfl

theorem decI_size (i : Int) (h1 : -9223372036854775808 ≤ i) (h2 : i ≤ 9223372036854775807) : (decI i).size ≤ 21 := by
  have h3 := ndig_le (u := i.natAbs) (by omega)
  have h4 := ndig_le (u := i.toNat) (by omega)
  unfold decI dec
  split
  · simp [bytesOf, ByteArray.size, digs_length]; omega
  · simp [bytesOf, ByteArray.size, digs_length]; omega
end Go.Proofs.YtakaafolanojkaaDoor
