/- A nil account has nothing. -/
import Derived.Test.YthnmooholhellaaDoorAccA
import Derived.Test.YthnmooholhellaaDoorYLaid
namespace Go.Proofs.YthnmooholhellaaDoor
open Go.RowKit Go.Sy
attribute [local irreducible] vcall vloop vcallD retP
set_option maxRecDepth 100000
set_option linter.unusedVariables false
set_option linter.unusedSimpArgs false

theorem accountNobody_fc (x0_0 : Int) (hx0_0 : (Lit.int .i64 x0_0).wf = true) (x0_1 : ByteArray) (hx0_1 : x0_1.size ≤ maxLen) (x0_2 : Int) (hx0_2 : (Lit.int .i64 x0_2).wf = true) (x0_3 : Int) (hx0_3 : (Lit.int .i64 x0_3).wf = true) :
    FC Tryd.prog 1 8 [.agg [.int .i64 x0_0, .str x0_1, .int .i64 x0_2, .int .i64 x0_3]] [(0, some (GB glT))] (isOut (.bool true) [] 1) := by
  have a := acc_awake
  refine fc_of mixed T_ok Tryd.func8 rfl (by kernel_rfl) (by kernel_rfl) (by kernel_rfl) ?_
  repeat' ((conv => whnf); first | (refine vcall_pure (nil_apply _ _ _ _) rfl rfl rfl ?_) | (refine vcallD_pure (nil_apply _ _ _ _) rfl rfl rfl ?_) | (refine vcall_pure (nil_Open _) rfl rfl rfl ?_) | (refine vcallD_pure (nil_Open _) rfl rfl rfl ?_) | (refine vcall_pure (nil_Balance) rfl rfl rfl ?_) | (refine vcallD_pure (nil_Balance) rfl rfl rfl ?_) | (refine vcall_pure (nil_Held) rfl rfl rfl ?_) | (refine vcallD_pure (nil_Held) rfl rfl rfl ?_) | (refine vcall_pure (nil_Available) rfl rfl rfl ?_) | (refine vcallD_pure (nil_Available) rfl rfl rfl ?_) | (refine vcall_pure (nil_Holds) rfl rfl rfl ?_) | (refine vcallD_pure (nil_Holds) rfl rfl rfl ?_) | (refine vcall_out (l :=  [0]) (a ) ⟨rfl, rfl, rfl, rfl, (by (repeat' (first | exact trivial | exact GB_wf | constructor)); first | done | fail), (by (repeat' (first | exact trivial | exact GB_fits rfl | constructor)); first | done | fail)⟩ ?_) | (refine vcallD_out (l :=  [0]) (a ) ⟨rfl, rfl, rfl, rfl, (by (repeat' (first | exact trivial | exact GB_wf | constructor)); first | done | fail), (by (repeat' (first | exact trivial | exact GB_fits rfl | constructor)); first | done | fail)⟩ ?_) | (refine br_dec (fun h => ?_) (fun h => ?_) <;> try (exfalso; omega)) | (refine br_ndec (fun h => ?_) (fun h => ?_) <;> try (exfalso; omega)) | refine br_seq (fun h => ?_) (fun h => ?_) | refine br_nseq (fun h => ?_) (fun h => ?_) | refine br_not (fun h => ?_) (fun h => ?_) | refine br_intro (fun h => ?_) (fun h => ?_) | refine cond_intro rfl ?_ | (refine cond_intro ⟨rfl, ?_⟩ ?_; (first | omega | (dsimp only; omega) | decide)) | (refine cond_intro ?_ ?_; (first | omega | (dsimp only; omega) | decide | (simp only [Nat.add_zero, Int.toNat_natCast, *]; omega))))
  all_goals (conv => whnf)
  all_goals exact ret_pure rfl
end Go.Proofs.YthnmooholhellaaDoor
