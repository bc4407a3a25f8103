/- A nil router has no parties. -/
import Derived.Test.YtkmbnniikncaiaaRtA
namespace Go.Proofs.Ytkmbnniikncaiaa
open Go.RowKit Go.Sy
attribute [local irreducible] vcall vloop vcallD retP
set_option maxRecDepth 100000
set_option linter.unusedVariables false
set_option linter.unusedSimpArgs false

theorem routeNobody_fc (s0 : ByteArray) (hs0 : s0.size ≤ maxLen) (x1_0 : ByteArray) (hx1_0 : x1_0.size ≤ maxLen) (x1_1 : ByteArray) (hx1_1 : x1_1.size ≤ maxLen) (x1_2 : ByteArray) (hx1_2 : x1_2.size ≤ maxLen) (x1_3 : Int) (hx1_3 : (Lit.int .i64 x1_3).wf = true) :
    FC Try.prog 1 5 [.str s0, .agg [.str x1_0, .str x1_1, .str x1_2, .int .i64 x1_3]] [] (isOut (.bool true) [] 1) := by
  have aw := rt_awake
  have c1 := rt_ChooseN s0
  have c2 := rt_AfterN x1_0 x1_1 x1_2 x1_3
  have c3 := rt_FailN s0
  have c4 := rt_GoodN s0
  have c5 := rt_DownN s0
  have c6 := rt_PartiesN
  refine fc_of mixed T_ok Try.func5 rfl (by kernel_rfl) (by kernel_rfl) (by kernel_rfl) ?_
  repeat' ((conv => whnf); first | (refine vcall_pure (aw) rfl rfl rfl ?_) | (refine vcallD_pure (aw) rfl rfl rfl ?_) | (refine vcall_pure (c1) rfl rfl rfl ?_) | (refine vcallD_pure (c1) rfl rfl rfl ?_) | (refine vcall_pure (c2) rfl rfl rfl ?_) | (refine vcallD_pure (c2) rfl rfl rfl ?_) | (refine vcall_pure (c3) rfl rfl rfl ?_) | (refine vcallD_pure (c3) rfl rfl rfl ?_) | (refine vcall_pure (c4) rfl rfl rfl ?_) | (refine vcallD_pure (c4) rfl rfl rfl ?_) | (refine vcall_pure (c5) rfl rfl rfl ?_) | (refine vcallD_pure (c5) rfl rfl rfl ?_) | (refine vcall_pure (c6) rfl rfl rfl ?_) | (refine vcallD_pure (c6) rfl rfl rfl ?_) | (refine br_dec (fun h => ?_) (fun h => ?_) <;> try (exfalso; omega)) | (refine br_ndec (fun h => ?_) (fun h => ?_) <;> try (exfalso; omega)) | refine br_seq (fun h => ?_) (fun h => ?_) | refine br_nseq (fun h => ?_) (fun h => ?_) | refine br_not (fun h => ?_) (fun h => ?_) | refine br_intro (fun h => ?_) (fun h => ?_) | refine cond_intro rfl ?_ | (refine cond_intro ⟨rfl, ?_⟩ ?_; (first | omega | (dsimp only; omega) | decide)) | (refine cond_intro ?_ ?_; (first | omega | (dsimp only; omega) | decide | (simp only [Nat.add_zero, Int.toNat_natCast, *]; omega))))
  all_goals (conv => whnf)
  all_goals exact ret_pure rfl
end Go.Proofs.Ytkmbnniikncaiaa
