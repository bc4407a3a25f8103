/- The law on all calls of an account, against the reference. -/
import Derived.Test.YthnmooholhellaaDoorAccT
import Derived.Test.YthnmooholhellaaDoorAccO
namespace Go.Proofs.YthnmooholhellaaDoor
open Go.RowKit Go.Sy
attribute [local irreducible] vcall vloop vcallD retP
set_option maxRecDepth 100000
set_option linter.unusedVariables false
set_option linter.unusedSimpArgs false
attribute [local irreducible] Acc.avail Acc.held Acc.opE Acc.opA Acc.opV sortS Acc.am nwE Acc.has

set_option maxHeartbeats 4000000 in
theorem accountCalls_fc (x0_0 : ByteArray) (hx0_0 : x0_0.size ≤ maxLen) (x0_1 : Int) (hx0_1 : (Lit.int .i64 x0_1).wf = true) (x0_2 : Int) (hx0_2 : (Lit.int .i64 x0_2).wf = true) (l1 : Nat) (hl1 : l1 ≤ maxLen) (q1_0 : List Int) (eq1_0 : q1_0.length = l1) (wq1_0 : ∀ x ∈ q1_0, (Lit.int .i64 x).wf = true) (q1_1 : List ByteArray) (eq1_1 : q1_1.length = l1) (wq1_1 : ∀ x ∈ q1_1, x.size ≤ maxLen) (q1_2 : List Int) (eq1_2 : q1_2.length = l1) (wq1_2 : ∀ x ∈ q1_2, (Lit.int .i64 x).wf = true) (q1_3 : List Int) (eq1_3 : q1_3.length = l1) (wq1_3 : ∀ x ∈ q1_3, (Lit.int .i64 x).wf = true) :
    FC Tryd.prog 2 6 [.agg [.str x0_0, .int .i64 x0_1, .int .i64 x0_2], .sl 1 0 0 l1] [(0, some (GB glT)), (1, some (.one true (.cols l1 [.sc (.ints .i64 q1_0), .sc (.strs q1_1), .sc (.ints .i64 q1_2), .sc (.ints .i64 q1_3)])))] (isOut (.bool true) [] 2) := by
  have aw0 := acc_awake
  by_cases h0 : nwE x0_0 x0_1 x0_2 = 0
  case neg =>
    have n1 := acc_New_no x0_0 x0_1 x0_2 h0
    have n2 := r_New_no x0_0 x0_1 x0_2 h0
    generalize nwE x0_0 x0_1 x0_2 = E at *
    refine fc_of mixed T_ok Tryd.func6 rfl (by kernel_rfl) (by kernel_rfl) (by kernel_rfl) ?_
    repeat' ((conv => whnf); first | (refine vcall_out (l :=  [0]) (aw0 ) ⟨rfl, rfl, rfl, rfl, (by (repeat' (first | exact trivial | exact GB_wf | constructor)); first | done | fail), (by (repeat' (first | exact trivial | exact GB_fits rfl | constructor)); first | done | fail)⟩ ?_) | (refine vcall_out (l :=  [0]) (n1 ) ⟨rfl, rfl, rfl, rfl, (by (repeat' (first | exact trivial | exact GB_wf | constructor)); first | done | fail), (by (repeat' (first | exact trivial | exact GB_fits rfl | constructor)); first | done | fail)⟩ ?_) | (refine vcall_pure (n2) rfl rfl rfl ?_) | (refine vcallD_pure (n2) rfl rfl rfl ?_) | (refine br_dec (fun h => ?_) (fun h => ?_) <;> try (exfalso; omega)) | (refine br_ndec (fun h => ?_) (fun h => ?_) <;> try (exfalso; omega)) | refine br_seq (fun h => ?_) (fun h => ?_) | refine br_nseq (fun h => ?_) (fun h => ?_) | refine br_not (fun h => ?_) (fun h => ?_) | refine br_intro (fun h => ?_) (fun h => ?_) | refine cond_intro rfl ?_ | (refine cond_intro ⟨rfl, ?_⟩ ?_; (first | omega | (dsimp only; omega) | decide)) | (refine cond_intro ?_ ?_; (first | omega | (dsimp only; omega) | decide | (simp only [Nat.add_zero, Int.toNat_natCast, *]; omega))))
    all_goals (conv => whnf)
    all_goals first
      | exact ret_out (l := [0, 1]) rfl rfl trivial allRw_nil
      | (exfalso; exact h rfl)
      | (exfalso; rw [decide_eq_false h0] at h; exact h rfl)
  have n1 := acc_New_ok x0_0 x0_1 x0_2 h0
  have n2 := r_New_ok x0_0 x0_1 x0_2 h0
  have hz : ∀ k, (q1_1.getD k ⟨#[]⟩).size ≤ 9223372036854775807 := by
    intro k
    rw [List.getD]
    cases h : q1_1[k]? with
    | none => exact Nat.zero_le _
    | some x => exact wq1_1 x (List.mem_iff_getElem?.2 ⟨k, h⟩)
  refine fc_of mixed T_ok Tryd.func6 rfl (by kernel_rfl) (by kernel_rfl) (by kernel_rfl) ?_
  repeat' ((conv => whnf); first | (refine vcall_out (l :=  [0]) (aw0 ) ⟨rfl, rfl, rfl, rfl, (by (repeat' (first | exact trivial | exact GB_wf | constructor)); first | done | fail), (by (repeat' (first | exact trivial | exact GB_fits rfl | constructor)); first | done | fail)⟩ ?_) | (refine vcall_out (l :=  [0]) (n1 ) ⟨rfl, rfl, rfl, rfl, (by (repeat' (first | exact trivial | exact GB_wf | constructor)); first | done | fail), (by (repeat' (first | exact trivial | exact GB_fits rfl | constructor)); first | done | fail)⟩ ?_) | (refine vcall_out (l :=  [0]) (n2 ) ⟨rfl, rfl, rfl, rfl, (by (repeat' (first | exact trivial | exact GB_wf | constructor)); first | done | fail), (by (repeat' (first | exact trivial | exact GB_fits rfl | constructor)); first | done | fail)⟩ ?_) | (refine br_dec (fun h => ?_) (fun h => ?_) <;> try (exfalso; omega)) | (refine br_ndec (fun h => ?_) (fun h => ?_) <;> try (exfalso; omega)) | refine br_seq (fun h => ?_) (fun h => ?_) | refine br_nseq (fun h => ?_) (fun h => ?_) | refine br_not (fun h => ?_) (fun h => ?_) | refine br_intro (fun h => ?_) (fun h => ?_) | refine cond_intro rfl ?_ | (refine cond_intro ⟨rfl, ?_⟩ ?_; (first | omega | (dsimp only; omega) | decide)) | (refine cond_intro ?_ ?_; (first | omega | (dsimp only; omega) | decide | (simp only [Nat.add_zero, Int.toNat_natCast, *]; omega))))
  all_goals (conv => whnf)
  · exact ret_out (l := [0, 1]) rfl rfl trivial allRw_nil
  refine vloop_of (fun s : Nat × Acc => ⟨[(1, .sl 1 0 0 l1), (5, .ptr 2 0 0 0), (7, .ptr 4 0 0 0), (9, .int .i64 s.1)], (0, some (GB glT)) :: (1, some (.one true (.cols l1 [.sc (.ints .i64 q1_0), .sc (.strs q1_1), .sc (.ints .i64 q1_2), .sc (.ints .i64 q1_3)]))) :: (2, some (.one false (.cells [.int .i64 s.2.bal, .int .i64 s.2.lim, .map 3 0]))) :: (3, some (.one false (.obj (.map false false s.2.n [.strs s.2.ks] [.sc (.ints .i64 s.2.vs)] s.2.bs s.2.ck)))) :: (4, some (.one false (.cells [.str x0_0, .int .i64 s.2.bal, .int .i64 s.2.lim, .sl 5 0 0 s.2.n, .sl 6 0 0 s.2.n]))) :: (5, some (.one false (.cols s.2.n [.sc (.strs (sortS s.2.ks))]))) :: (6, some (.one false (.cols s.2.n [.sc (.ints .i64 s.2.am)]))) :: [], 7⟩) (fun s => s.1 ≤ l1 ∧ s.2.Ok) (fun s => l1 - s.1) (0, Acc.mk0 x0_1 x0_2) [0, 1, 3, 4, 5, 6, 7] [] ?_ ⟨by dsimp only; omega, ok_mk0 _ _⟩ ?_
  · have e1 : sortS (Acc.mk0 x0_1 x0_2).ks = [] := by unfold sortS; kernel_rfl
    have e2 : (Acc.mk0 x0_1 x0_2).am = [] := by unfold Acc.am; rw [e1]; rfl
    dsimp only
    rw [e1, e2]
    exact ⟨rfl, ⟨rfl, rfl, rfl, rfl, trivial⟩, ⟨gwk rfl, rfl, rfl, rfl, rfl, rfl, rfl, trivial⟩⟩
  rintro ⟨k, a⟩ ⟨hk, ho⟩
  dsimp only at hk ho ⊢
  have c0 := acc_apply a (q1_0.getD k 0) (q1_1.getD k ⟨#[]⟩) (q1_2.getD k 0) (q1_3.getD k 0) ho.v (hz k)
  have d0 := r_spec x0_0 a ho (q1_0.getD k 0) (q1_1.getD k ⟨#[]⟩) (q1_2.getD k 0) (q1_3.getD k 0) (hz k)
  have ho' := ok_op ho (q1_0.getD k 0) (q1_1.getD k ⟨#[]⟩) (q1_2.getD k 0) (q1_3.getD k 0)
  generalize a.opA (q1_0.getD k 0) (q1_1.getD k ⟨#[]⟩) (q1_2.getD k 0) (q1_3.getD k 0) = a' at *
  generalize a.opE (q1_0.getD k 0) (q1_1.getD k ⟨#[]⟩) (q1_2.getD k 0) (q1_3.getD k 0) = E at *
  generalize a.opV (q1_0.getD k 0) (q1_1.getD k ⟨#[]⟩) (q1_2.getD k 0) (q1_3.getD k 0) = R at *
  have hn := ho'.n64
  have o1 := acc_Open a' (q1_1.getD k ⟨#[]⟩)
  have o2 := r_Open x0_0 a' ho' (q1_1.getD k ⟨#[]⟩)
  have b1 := acc_Balance a'
  have b2 := r_Balance x0_0 a'
  have h1 := acc_Held a' ho'.v
  have h2 := r_Held x0_0 a' ho'
  have v1 := acc_Available a' ho'.v
  have v2 := r_Available x0_0 a' ho'
  have s1 := acc_Holds a' (by omega) ho'.sz ho'.nd
  have s2 := r_Holds x0_0 a' ho'
  have st := ref13_SameTexts a'.n a'.n (sortS a'.ks) (sortS a'.ks) (by rw [sortS_length, ho'.k]) (by rw [sortS_length, ho'.k]) (by omega)
  rw [decide_eq_true rfl] at st
  generalize a'.get (q1_1.getD k ⟨#[]⟩) = gv at *
  generalize a'.has (q1_1.getD k ⟨#[]⟩) = hv at *
  repeat' ((conv => whnf); first | (refine vcall_out (l :=  [0]) (aw0 ) ⟨rfl, rfl, rfl, rfl, (by (repeat' (first | exact trivial | exact GB_wf | constructor)); first | done | fail), (by (repeat' (first | exact trivial | exact GB_fits rfl | constructor)); first | done | fail)⟩ ?_) | (refine vcall_out (l :=  [0, 2, 3]) (c0 ) ⟨rfl, rfl, rfl, rfl, (by (repeat' (first | exact trivial | exact GB_wf | constructor)); first | done | fail), (by (repeat' (first | exact trivial | exact GB_fits rfl | constructor)); first | done | fail)⟩ ?_) | (refine vcall_out (l :=  [0, 4, 5, 6]) (d0 ) ⟨rfl, rfl, rfl, rfl, (by (repeat' (first | exact trivial | exact GB_wf | constructor)); first | done | fail), (by (repeat' (first | exact trivial | exact GB_fits rfl | constructor)); first | done | fail)⟩ ?_) | (refine vcall_out (l :=  [0, 2, 3]) (o1 ) ⟨rfl, rfl, rfl, rfl, (by (repeat' (first | exact trivial | exact GB_wf | constructor)); first | done | fail), (by (repeat' (first | exact trivial | exact GB_fits rfl | constructor)); first | done | fail)⟩ ?_) | (refine vcall_out (l :=  [0, 4, 7, 8]) (o2 ) ⟨rfl, rfl, rfl, rfl, (by (repeat' (first | exact trivial | exact GB_wf | constructor)); first | done | fail), (by (repeat' (first | exact trivial | exact GB_fits rfl | constructor)); first | done | fail)⟩ ?_) | (refine vcall_out (l :=  [0, 2, 3]) (b1 ) ⟨rfl, rfl, rfl, rfl, (by (repeat' (first | exact trivial | exact GB_wf | constructor)); first | done | fail), (by (repeat' (first | exact trivial | exact GB_fits rfl | constructor)); first | done | fail)⟩ ?_) | (refine vcall_out (l :=  [0, 4, 7, 8]) (b2 ) ⟨rfl, rfl, rfl, rfl, (by (repeat' (first | exact trivial | exact GB_wf | constructor)); first | done | fail), (by (repeat' (first | exact trivial | exact GB_fits rfl | constructor)); first | done | fail)⟩ ?_) | (refine vcall_out (l :=  [0, 2, 3]) (h1 ) ⟨rfl, rfl, rfl, rfl, (by (repeat' (first | exact trivial | exact GB_wf | constructor)); first | done | fail), (by (repeat' (first | exact trivial | exact GB_fits rfl | constructor)); first | done | fail)⟩ ?_) | (refine vcall_out (l :=  [0, 4, 7, 8]) (h2 ) ⟨rfl, rfl, rfl, rfl, (by (repeat' (first | exact trivial | exact GB_wf | constructor)); first | done | fail), (by (repeat' (first | exact trivial | exact GB_fits rfl | constructor)); first | done | fail)⟩ ?_) | (refine vcall_out (l :=  [0, 2, 3]) (v1 ) ⟨rfl, rfl, rfl, rfl, (by (repeat' (first | exact trivial | exact GB_wf | constructor)); first | done | fail), (by (repeat' (first | exact trivial | exact GB_fits rfl | constructor)); first | done | fail)⟩ ?_) | (refine vcall_out (l :=  [0, 4, 7, 8]) (v2 ) ⟨rfl, rfl, rfl, rfl, (by (repeat' (first | exact trivial | exact GB_wf | constructor)); first | done | fail), (by (repeat' (first | exact trivial | exact GB_fits rfl | constructor)); first | done | fail)⟩ ?_) | (refine vcall_out (l :=  [0, 2, 3]) (s1 ) ⟨rfl, rfl, rfl, rfl, (by (repeat' (first | exact trivial | exact GB_wf | constructor)); first | done | fail), (by (repeat' (first | exact trivial | exact GB_fits rfl | constructor)); first | done | fail)⟩ ?_) | (refine vcall_out (l :=  [0, 4, 7, 8]) (s2 ) ⟨rfl, rfl, rfl, rfl, (by (repeat' (first | exact trivial | exact GB_wf | constructor)); first | done | fail), (by (repeat' (first | exact trivial | exact GB_fits rfl | constructor)); first | done | fail)⟩ ?_) | (refine vcall_out (l :=  [0, 9, 10]) (st ) ⟨rfl, rfl, rfl, rfl, (by (repeat' (first | exact trivial | exact GB_wf | constructor)); first | done | fail), (by (repeat' (first | exact trivial | exact GB_fits rfl | constructor)); first | done | fail)⟩ ?_) | (refine br_dec (fun h => ?_) (fun h => ?_) <;> try (exfalso; omega)) | (refine br_ndec (fun h => ?_) (fun h => ?_) <;> try (exfalso; omega)) | refine br_seq (fun h => ?_) (fun h => ?_) | refine br_nseq (fun h => ?_) (fun h => ?_) | refine br_not (fun h => ?_) (fun h => ?_) | refine br_intro (fun h => ?_) (fun h => ?_) | refine cond_intro rfl ?_ | (refine cond_intro ⟨rfl, ?_⟩ ?_; (first | omega | (dsimp only; omega) | decide)) | (refine cond_intro ?_ ?_; (first | omega | (dsimp only; omega) | decide | (simp only [Nat.add_zero, Int.toNat_natCast, *]; omega))))
  all_goals (conv => whnf)
  all_goals first
    | exact ret_out (l := [0, 1]) rfl rfl trivial allRw_nil
    | exact ⟨(k + 1, a'), [0, 1, 2, 3, 4, 7, 8], [], ⟨by dsimp only; omega, ho'⟩, by dsimp only; omega, ⟨rfl, ⟨rfl, rfl, rfl, congrArg (fun z => some (SV.int .i64 z)) (i64_succ' (by omega)), trivial⟩, ⟨gwk rfl, rfl, rfl, rfl, rfl, rfl, rfl, trivial⟩⟩⟩
    | (exfalso; exact h rfl)
    | (exfalso; revert h; cases hv <;> decide)
end Go.Proofs.YthnmooholhellaaDoor
