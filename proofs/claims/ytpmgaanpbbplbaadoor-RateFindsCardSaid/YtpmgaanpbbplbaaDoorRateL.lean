/- The laws of package rate: checks, conversions. -/
import Derived.Test.YtpmgaanpbbplbaaDoorRateC4
namespace Go.Proofs.YtpmgaanpbbplbaaDoor
open Go.RowKit Go.Sy
attribute [local irreducible] vcall vloop vcallD retP
set_option maxRecDepth 100000
set_option linter.unusedVariables false
set_option linter.unusedSimpArgs false

theorem wf_i64 {n : Int} (h : (Lit.int .i64 n).wf = true) : -9223372036854775808 ≤ n ∧ n ≤ 9223372036854775807 := by
  simp only [Lit.wf, Bool.and_eq_true, decide_eq_true_eq] at h
  exact h

theorem law_small (f t : ByteArray) (n d : Int) : Pure Tryd.prog 9 [.agg [.str f, .str t, .int .i64 n, .int .i64 d]] (.bool (decide (f.size ≤ 20 ∧ t.size ≤ 20))) := by
  refine fc_of mixed T_ok Tryd.func9 rfl (by kernel_rfl) (by kernel_rfl) (by kernel_rfl) ?_
  repeat' ((conv => whnf); first | (refine br_dec (fun h => ?_) (fun h => ?_) <;> try (exfalso; omega)) | (refine br_ndec (fun h => ?_) (fun h => ?_) <;> try (exfalso; omega)) | refine br_seq (fun h => ?_) (fun h => ?_) | refine br_nseq (fun h => ?_) (fun h => ?_) | refine br_not (fun h => ?_) (fun h => ?_) | refine br_intro (fun h => ?_) (fun h => ?_) | refine cond_intro rfl ?_ | (refine cond_intro ⟨rfl, ?_⟩ ?_; (first | omega | (dsimp only; omega) | decide)) | (refine cond_intro ?_ ?_; (first | omega | (dsimp only; omega) | decide | (simp only [Nat.add_zero, Int.toNat_natCast, *]; omega))))
  all_goals (conv => whnf)
  · exact ret_pure (congrArg SV.bool (by rw [decide_eq_decide]; omega))
  · exact ret_pure (congrArg SV.bool (by rw [eq_comm, decide_eq_false_iff_not]; omega))

theorem rateConverts_fc (x0_0 : Int) (hx0_0 : (Lit.int .i64 x0_0).wf = true) (x0_1 : ByteArray) (hx0_1 : x0_1.size ≤ maxLen) (x1_0 : ByteArray) (hx1_0 : x1_0.size ≤ maxLen) (x1_1 : ByteArray) (hx1_1 : x1_1.size ≤ maxLen) (x1_2 : Int) (hx1_2 : (Lit.int .i64 x1_2).wf = true) (x1_3 : Int) (hx1_3 : (Lit.int .i64 x1_3).wf = true) (n2 : Int) (hw2 : (Lit.int .i64 n2).wf = true) :
    FC Tryd.prog 1 4 [.agg [.int .i64 x0_0, .str x0_1], .agg [.str x1_0, .str x1_1, .int .i64 x1_2, .int .i64 x1_3], .int .i64 n2] [(0, some (GB glT))] (isOut (.bool true) [] 1) := by
  have w2 := wf_i64 hx1_2
  have c0 := law_small x1_0 x1_1 x1_2 x1_3
  have c1 := rate_Convert x0_0 x0_1 x1_0 x1_1 x1_2 x1_3 n2 w2.1 w2.2
  have c2 := fun h1 h2 => ref02_Convert x0_0 x0_1 x1_0 x1_1 x1_2 x1_3 n2 w2.1 w2.2 h1 h2
  have c3 := law_awake
  refine fc_of mixed T_ok Tryd.func4 rfl (by kernel_rfl) (by kernel_rfl) (by kernel_rfl) ?_
  repeat' ((conv => whnf); first | (refine vcall_pure (c0) rfl rfl rfl ?_) | (refine vcall_glob (c1) rfl rfl rfl rfl ?_) | (refine vcall_pure (c2 (by omega) (by omega)) rfl rfl rfl ?_) | (refine vcall_glob (c3) rfl rfl rfl rfl ?_) | (refine br_dec (fun h => ?_) (fun h => ?_) <;> try (exfalso; omega)) | (refine br_ndec (fun h => ?_) (fun h => ?_) <;> try (exfalso; omega)) | refine br_seq (fun h => ?_) (fun h => ?_) | refine br_nseq (fun h => ?_) (fun h => ?_) | refine br_not (fun h => ?_) (fun h => ?_) | refine br_intro (fun h => ?_) (fun h => ?_) | refine cond_intro rfl ?_ | (refine cond_intro ⟨rfl, ?_⟩ ?_; (first | omega | (dsimp only; omega) | decide)) | (refine cond_intro ?_ ?_; (first | omega | (dsimp only; omega) | decide | (simp only [Nat.add_zero, Int.toNat_natCast, *]; omega))))
  all_goals (conv => whnf)
  all_goals first | exact ret_pure rfl | (exfalso; simp_all [seq]; done)

theorem rateChecks_fc (x0_0 : ByteArray) (hx0_0 : x0_0.size ≤ maxLen) (x0_1 : ByteArray) (hx0_1 : x0_1.size ≤ maxLen) (x0_2 : Int) (hx0_2 : (Lit.int .i64 x0_2).wf = true) (x0_3 : Int) (hx0_3 : (Lit.int .i64 x0_3).wf = true) (n1 : Int) (hw1 : (Lit.int .i64 n1).wf = true) (n2 : Int) (hw2 : (Lit.int .i64 n2).wf = true) :
    FC Tryd.prog 1 3 [.agg [.str x0_0, .str x0_1, .int .i64 x0_2, .int .i64 x0_3], .int .i64 n1, .int .i64 n2] [(0, some (GB glT))] (isOut (.bool true) [] 1) := by
  have w1 := wf_i64 hw1
  have w2 := wf_i64 hw2
  have c0 := law_small x0_0 x0_1 x0_2 x0_3
  have c1 := rate_Reduce n1 n2 w1.2 w2.2
  have c2 := ref02_Reduce n1 n2 w1.2 w2.2
  have c3 := rate_Check x0_0 x0_1 x0_2 x0_3
  have c4 := fun h1 h2 => ref02_Check x0_0 x0_1 x0_2 x0_3 h1 h2
  have c5 := rate_Format x0_0 x0_1 x0_2 x0_3
  have c6 := fun h1 h2 => ref02_Format x0_0 x0_1 x0_2 x0_3 h1 h2
  have c7 := law_awake
  refine fc_of mixed T_ok Tryd.func3 rfl (by kernel_rfl) (by kernel_rfl) (by kernel_rfl) ?_
  repeat' ((conv => whnf); first | (refine vcall_pure (c0) rfl rfl rfl ?_) | (refine vcallD_pure (c0) rfl rfl rfl ?_) | (refine vcall_pure (c1) rfl rfl rfl ?_) | (refine vcallD_pure (c1) rfl rfl rfl ?_) | (refine vcall_pure (c2) rfl rfl rfl ?_) | (refine vcallD_pure (c2) rfl rfl rfl ?_) | (refine vcall_glob (c3) rfl rfl rfl rfl ?_) | (refine vcallD_glob (c3) rfl rfl rfl rfl ?_) | (refine vcall_pure (c4 (by omega) (by omega)) rfl rfl rfl ?_) | (refine vcallD_pure (c4 (by omega) (by omega)) rfl rfl rfl ?_) | (refine vcall_glob (c5) rfl rfl rfl rfl ?_) | (refine vcallD_glob (c5) rfl rfl rfl rfl ?_) | (refine vcall_glob (c6 (by omega) (by omega)) rfl rfl rfl rfl ?_) | (refine vcallD_glob (c6 (by omega) (by omega)) rfl rfl rfl rfl ?_) | (refine vcall_glob (c7) rfl rfl rfl rfl ?_) | (refine vcallD_glob (c7) rfl rfl rfl rfl ?_) | (refine br_dec (fun h => ?_) (fun h => ?_) <;> try (exfalso; omega)) | (refine br_ndec (fun h => ?_) (fun h => ?_) <;> try (exfalso; omega)) | refine br_seq (fun h => ?_) (fun h => ?_) | refine br_nseq (fun h => ?_) (fun h => ?_) | refine br_not (fun h => ?_) (fun h => ?_) | refine br_intro (fun h => ?_) (fun h => ?_) | refine cond_intro rfl ?_ | (refine cond_intro ⟨rfl, ?_⟩ ?_; (first | omega | (dsimp only; omega) | decide)) | (refine cond_intro ?_ ?_; (first | omega | (dsimp only; omega) | decide | (simp only [Nat.add_zero, Int.toNat_natCast, *]; omega))))
  all_goals (conv => whnf)
  all_goals first | exact ret_pure rfl | (exfalso; simp_all [seq]; done)
end Go.Proofs.YtpmgaanpbbplbaaDoor
