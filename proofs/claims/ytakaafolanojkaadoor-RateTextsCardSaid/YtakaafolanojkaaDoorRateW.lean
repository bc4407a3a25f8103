/- The law RateTexts: rates are read back from their texts, and inverting twice reduces. -/
import Derived.Test.YtakaafolanojkaaDoorRateZ
namespace Go.Proofs.YtakaafolanojkaaDoor
open Go.RowKit Go.Sy
attribute [local irreducible] vcall vloop vcallD retP ByteArray.extract paE paN paD
set_option maxRecDepth 100000
set_option linter.unusedVariables false
set_option linter.unusedSimpArgs false

theorem rchk_swap {f t : ByteArray} {n d : Int} (h : rchk f t n d = 0) : rchk t f (redN d n) (redD d n) = 0 := by
  obtain ⟨k1, k2, k3, b1, b2, b3, b4⟩ := rchk_ok h
  obtain ⟨r1, r2, r3, r4⟩ := red_bd b3 b1
  unfold rchk
  rw [if_neg, if_neg]
  · omega
  · rintro (q | q | q)
    · rw [k2] at q; cases q
    · rw [k1] at q; cases q
    · exact k3 q.symm
theorem rateTexts_fc (x0_0 : ByteArray) (hx0_0 : x0_0.size ≤ maxLen) (x0_1 : ByteArray) (hx0_1 : x0_1.size ≤ maxLen) (x0_2 : Int) (hx0_2 : (Lit.int .i64 x0_2).wf = true) (x0_3 : Int) (hx0_3 : (Lit.int .i64 x0_3).wf = true) (s1 : ByteArray) (hs1 : s1.size ≤ maxLen) :
    FC Tryd.prog 1 3 [.agg [.str x0_0, .str x0_1, .int .i64 x0_2, .int .i64 x0_3], .str s1] [(0, some (GB glT))] (isOut (.bool true) [] 1) := by
  have w2 := wf_i64 hx0_2
  have w3 := wf_i64 hx0_3
  have c0 := law_small x0_0 x0_1 x0_2 x0_3
  have cw := law_awake
  by_cases hs : (x0_0.size ≤ 20 ∧ x0_1.size ≤ 20) ∧ s1.size ≤ 200
  · rw [decide_eq_true hs.1] at c0
    obtain ⟨_, hs2⟩ := hs
    have c1 := rate_Check x0_0 x0_1 x0_2 x0_3
    have c2 := rate_Format x0_0 x0_1 x0_2 x0_3
    have d1 := rate_Parse s1 (by omega)
    have d2 := rate_Format (s1.extract 0 3) (s1.extract 4 7) (paN s1) (paD s1)
    have d3 := fmt_pa (s := s1)
    unfold paR at d1
    by_cases hc : rchk x0_0 x0_1 x0_2 x0_3 = 0
    · obtain ⟨p1, p2, p3, p4, p5, p6⟩ := pa_fmt hc
      obtain ⟨_, _, _, b1, b2, b3, b4⟩ := rchk_ok hc
      have c3 := rate_Parse (rtxt x0_0 x0_1 x0_2 x0_3) p6
      unfold paR at c3
      rw [p1, p2, p3, p4, p5, rT_ok] at c3
      have c4 := rate_Inverse x0_0 x0_1 x0_2 x0_3
      have c5 := rate_Inverse x0_1 x0_0 (redN x0_3 x0_2) (redD x0_3 x0_2)
      have c6 := rate_Reduce x0_2 x0_3 (by omega) (by omega)
      obtain ⟨r1, r2⟩ := red_twice b1 b3
      rw [rchk_swap hc, r1, r2, rT_ok] at c5
      rw [hc] at c1
      rw [hc, rT_ok] at c4
      generalize rtxt x0_0 x0_1 x0_2 x0_3 = S at *
      by_cases he : paE s1 = 0
      · rw [he, rT_ok] at d1
        rw [d3 he] at d2
        refine fc_of mixed T_ok Tryd.func3 rfl (by kernel_rfl) (by kernel_rfl) (by kernel_rfl) ?_
        repeat' ((conv => whnf); first | (refine vcall_pure (c0) rfl rfl rfl ?_) | (refine vcallD_pure (c0) rfl rfl rfl ?_) | (refine vcall_glob (c1) rfl rfl rfl rfl ?_) | (refine vcallD_glob (c1) rfl rfl rfl rfl ?_) | (refine vcall_glob (c2) rfl rfl rfl rfl ?_) | (refine vcallD_glob (c2) rfl rfl rfl rfl ?_) | (refine vcall_glob (c3) rfl rfl rfl rfl ?_) | (refine vcallD_glob (c3) rfl rfl rfl rfl ?_) | (refine vcall_glob (c4) rfl rfl rfl rfl ?_) | (refine vcall_glob (c5) rfl rfl rfl rfl ?_) | (refine vcall_pure (c6) rfl rfl rfl ?_) | (refine vcall_glob (d1) rfl rfl rfl rfl ?_) | (refine vcall_glob (d2) rfl rfl rfl rfl ?_) | (refine vcallD_glob (d2) rfl rfl rfl rfl ?_) | (refine vcall_glob (cw) rfl rfl rfl rfl ?_) | (refine vcallD_glob (cw) rfl rfl rfl rfl ?_) | (refine br_dec (fun h => ?_) (fun h => ?_) <;> try (exfalso; (try dsimp only at h); omega)) | (refine br_ndec (fun h => ?_) (fun h => ?_) <;> try (exfalso; (try dsimp only at h); omega)) | refine br_seq (fun h => ?_) (fun h => ?_) | refine br_nseq (fun h => ?_) (fun h => ?_) | refine br_not (fun h => ?_) (fun h => ?_) | refine br_intro (fun h => ?_) (fun h => ?_) | refine cond_intro rfl ?_ | (refine cond_intro ⟨rfl, ?_⟩ ?_; (first | omega | (dsimp only; omega) | decide)) | (refine cond_intro ?_ ?_; (first | omega | (dsimp only; omega) | decide | (simp only [Nat.add_zero, Int.toNat_natCast, *]; omega))))
        all_goals (conv => whnf)
        all_goals first
          | exact ret_pure rfl
          | (exfalso; first | omega | contradiction | (simp_all [seq]; done))
          | trace_state
      · rw [rT_err he] at d1
        generalize paE s1 = pe at *
        refine fc_of mixed T_ok Tryd.func3 rfl (by kernel_rfl) (by kernel_rfl) (by kernel_rfl) ?_
        repeat' ((conv => whnf); first | (refine vcall_pure (c0) rfl rfl rfl ?_) | (refine vcallD_pure (c0) rfl rfl rfl ?_) | (refine vcall_glob (c1) rfl rfl rfl rfl ?_) | (refine vcallD_glob (c1) rfl rfl rfl rfl ?_) | (refine vcall_glob (c2) rfl rfl rfl rfl ?_) | (refine vcallD_glob (c2) rfl rfl rfl rfl ?_) | (refine vcall_glob (c3) rfl rfl rfl rfl ?_) | (refine vcallD_glob (c3) rfl rfl rfl rfl ?_) | (refine vcall_glob (c4) rfl rfl rfl rfl ?_) | (refine vcall_glob (c5) rfl rfl rfl rfl ?_) | (refine vcall_pure (c6) rfl rfl rfl ?_) | (refine vcall_glob (d1) rfl rfl rfl rfl ?_) | (refine vcall_glob (cw) rfl rfl rfl rfl ?_) | (refine vcallD_glob (cw) rfl rfl rfl rfl ?_) | (refine br_dec (fun h => ?_) (fun h => ?_) <;> try (exfalso; (try dsimp only at h); omega)) | (refine br_ndec (fun h => ?_) (fun h => ?_) <;> try (exfalso; (try dsimp only at h); omega)) | refine br_seq (fun h => ?_) (fun h => ?_) | refine br_nseq (fun h => ?_) (fun h => ?_) | refine br_not (fun h => ?_) (fun h => ?_) | refine br_intro (fun h => ?_) (fun h => ?_) | refine cond_intro rfl ?_ | (refine cond_intro ⟨rfl, ?_⟩ ?_; (first | omega | (dsimp only; omega) | decide)) | (refine cond_intro ?_ ?_; (first | omega | (dsimp only; omega) | decide | (simp only [Nat.add_zero, Int.toNat_natCast, *]; omega))))
        all_goals (conv => whnf)
        all_goals first
          | exact ret_pure rfl
          | (exfalso; first | omega | contradiction | (simp_all [seq]; done))
          | trace_state
    · have ht : rtxt x0_0 x0_1 x0_2 x0_3 = ⟨#[]⟩ := by unfold rtxt; rw [if_neg hc]
      rw [ht] at c2
      generalize rchk x0_0 x0_1 x0_2 x0_3 = ck at *
      by_cases he : paE s1 = 0
      · rw [he, rT_ok] at d1
        rw [d3 he] at d2
        refine fc_of mixed T_ok Tryd.func3 rfl (by kernel_rfl) (by kernel_rfl) (by kernel_rfl) ?_
        repeat' ((conv => whnf); first | (refine vcall_pure (c0) rfl rfl rfl ?_) | (refine vcallD_pure (c0) rfl rfl rfl ?_) | (refine vcall_glob (c1) rfl rfl rfl rfl ?_) | (refine vcallD_glob (c1) rfl rfl rfl rfl ?_) | (refine vcall_glob (c2) rfl rfl rfl rfl ?_) | (refine vcallD_glob (c2) rfl rfl rfl rfl ?_) | (refine vcall_glob (d1) rfl rfl rfl rfl ?_) | (refine vcall_glob (d2) rfl rfl rfl rfl ?_) | (refine vcallD_glob (d2) rfl rfl rfl rfl ?_) | (refine vcall_glob (cw) rfl rfl rfl rfl ?_) | (refine vcallD_glob (cw) rfl rfl rfl rfl ?_) | (refine br_dec (fun h => ?_) (fun h => ?_) <;> try (exfalso; (try dsimp only at h); omega)) | (refine br_ndec (fun h => ?_) (fun h => ?_) <;> try (exfalso; (try dsimp only at h); omega)) | refine br_seq (fun h => ?_) (fun h => ?_) | refine br_nseq (fun h => ?_) (fun h => ?_) | refine br_not (fun h => ?_) (fun h => ?_) | refine br_intro (fun h => ?_) (fun h => ?_) | refine cond_intro rfl ?_ | (refine cond_intro ⟨rfl, ?_⟩ ?_; (first | omega | (dsimp only; omega) | decide)) | (refine cond_intro ?_ ?_; (first | omega | (dsimp only; omega) | decide | (simp only [Nat.add_zero, Int.toNat_natCast, *]; omega))))
        all_goals (conv => whnf)
        all_goals first
          | exact ret_pure rfl
          | (exfalso; first | omega | contradiction | (simp_all [seq]; done))
          | trace_state
      · rw [rT_err he] at d1
        generalize paE s1 = pe at *
        refine fc_of mixed T_ok Tryd.func3 rfl (by kernel_rfl) (by kernel_rfl) (by kernel_rfl) ?_
        repeat' ((conv => whnf); first | (refine vcall_pure (c0) rfl rfl rfl ?_) | (refine vcallD_pure (c0) rfl rfl rfl ?_) | (refine vcall_glob (c1) rfl rfl rfl rfl ?_) | (refine vcallD_glob (c1) rfl rfl rfl rfl ?_) | (refine vcall_glob (c2) rfl rfl rfl rfl ?_) | (refine vcallD_glob (c2) rfl rfl rfl rfl ?_) | (refine vcall_glob (d1) rfl rfl rfl rfl ?_) | (refine vcall_glob (cw) rfl rfl rfl rfl ?_) | (refine vcallD_glob (cw) rfl rfl rfl rfl ?_) | (refine br_dec (fun h => ?_) (fun h => ?_) <;> try (exfalso; (try dsimp only at h); omega)) | (refine br_ndec (fun h => ?_) (fun h => ?_) <;> try (exfalso; (try dsimp only at h); omega)) | refine br_seq (fun h => ?_) (fun h => ?_) | refine br_nseq (fun h => ?_) (fun h => ?_) | refine br_not (fun h => ?_) (fun h => ?_) | refine br_intro (fun h => ?_) (fun h => ?_) | refine cond_intro rfl ?_ | (refine cond_intro ⟨rfl, ?_⟩ ?_; (first | omega | (dsimp only; omega) | decide)) | (refine cond_intro ?_ ?_; (first | omega | (dsimp only; omega) | decide | (simp only [Nat.add_zero, Int.toNat_natCast, *]; omega))))
        all_goals (conv => whnf)
        all_goals first
          | exact ret_pure rfl
          | (exfalso; first | omega | contradiction | (simp_all [seq]; done))
          | trace_state
  · by_cases h1 : x0_0.size ≤ 20 ∧ x0_1.size ≤ 20
    · rw [decide_eq_true h1] at c0
      have h2 : ¬ s1.size ≤ 200 := fun q => hs ⟨h1, q⟩
      refine fc_of mixed T_ok Tryd.func3 rfl (by kernel_rfl) (by kernel_rfl) (by kernel_rfl) ?_
      repeat' ((conv => whnf); first | (refine vcall_pure (c0) rfl rfl rfl ?_) | (refine vcallD_pure (c0) rfl rfl rfl ?_) | (refine vcall_glob (cw) rfl rfl rfl rfl ?_) | (refine vcallD_glob (cw) rfl rfl rfl rfl ?_) | (refine br_dec (fun h => ?_) (fun h => ?_) <;> try (exfalso; (try dsimp only at h); omega)) | (refine br_ndec (fun h => ?_) (fun h => ?_) <;> try (exfalso; (try dsimp only at h); omega)) | refine br_seq (fun h => ?_) (fun h => ?_) | refine br_nseq (fun h => ?_) (fun h => ?_) | refine br_not (fun h => ?_) (fun h => ?_) | refine br_intro (fun h => ?_) (fun h => ?_) | refine cond_intro rfl ?_ | (refine cond_intro ⟨rfl, ?_⟩ ?_; (first | omega | (dsimp only; omega) | decide)) | (refine cond_intro ?_ ?_; (first | omega | (dsimp only; omega) | decide | (simp only [Nat.add_zero, Int.toNat_natCast, *]; omega))))
      all_goals (conv => whnf)
      all_goals first
        | exact ret_pure rfl
        | (exfalso; first | omega | contradiction | (simp_all [seq]; done))
        | trace_state
    · rw [decide_eq_false h1] at c0
      refine fc_of mixed T_ok Tryd.func3 rfl (by kernel_rfl) (by kernel_rfl) (by kernel_rfl) ?_
      repeat' ((conv => whnf); first | (refine vcall_pure (c0) rfl rfl rfl ?_) | (refine vcallD_pure (c0) rfl rfl rfl ?_) | (refine vcall_glob (cw) rfl rfl rfl rfl ?_) | (refine vcallD_glob (cw) rfl rfl rfl rfl ?_) | (refine br_dec (fun h => ?_) (fun h => ?_) <;> try (exfalso; (try dsimp only at h); omega)) | (refine br_ndec (fun h => ?_) (fun h => ?_) <;> try (exfalso; (try dsimp only at h); omega)) | refine br_seq (fun h => ?_) (fun h => ?_) | refine br_nseq (fun h => ?_) (fun h => ?_) | refine br_not (fun h => ?_) (fun h => ?_) | refine br_intro (fun h => ?_) (fun h => ?_) | refine cond_intro rfl ?_ | (refine cond_intro ⟨rfl, ?_⟩ ?_; (first | omega | (dsimp only; omega) | decide)) | (refine cond_intro ?_ ?_; (first | omega | (dsimp only; omega) | decide | (simp only [Nat.add_zero, Int.toNat_natCast, *]; omega))))
      all_goals (conv => whnf)
      all_goals first
        | exact ret_pure rfl
        | (exfalso; first | omega | contradiction | (simp_all [seq]; done))
        | trace_state
end Go.Proofs.YtakaafolanojkaaDoor
