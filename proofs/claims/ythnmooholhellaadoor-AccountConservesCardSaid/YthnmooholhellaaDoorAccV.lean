/- The law on what an account conserves. -/
import Derived.Test.YthnmooholhellaaDoorAccP
import Derived.Test.YthnmooholhellaaDoorYLaid
namespace Go.Proofs.YthnmooholhellaaDoor
open Go.RowKit Go.Sy
attribute [local irreducible] vcall vloop vcallD retP
set_option maxRecDepth 100000
set_option linter.unusedVariables false
set_option linter.unusedSimpArgs false
attribute [local irreducible] Acc.avail Acc.held Acc.opE Acc.opA Acc.opV sortS

theorem law_sum (a : Acc) (ho : a.Ok) : FC Tryd.prog 3 32 [.ptr 1 0 0 0] (accR a) (isOut (.int .i64 a.held) [] 3) := by
  have hn := ho.n64
  have c1 := acc_Holds a (by omega) ho.sz ho.nd
  have c2 := fun s => acc_Open a s
  refine fc_of mixed T_ok Tryd.func32 rfl (by kernel_rfl) (by kernel_rfl) (by kernel_rfl) ?_
  repeat' ((conv => whnf); first | (refine vcall_out (l :=  [0, 1, 2]) (c1 ) ⟨rfl, rfl, rfl, rfl, (by (repeat' (first | exact trivial | exact GB_wf | constructor)); first | done | fail), (by (repeat' (first | exact trivial | exact GB_fits rfl | constructor)); first | done | fail)⟩ ?_) | (refine br_dec (fun h => ?_) (fun h => ?_) <;> try (exfalso; omega)) | (refine br_ndec (fun h => ?_) (fun h => ?_) <;> try (exfalso; omega)) | refine br_seq (fun h => ?_) (fun h => ?_) | refine br_nseq (fun h => ?_) (fun h => ?_) | refine br_not (fun h => ?_) (fun h => ?_) | refine br_intro (fun h => ?_) (fun h => ?_) | refine cond_intro rfl ?_ | (refine cond_intro ⟨rfl, ?_⟩ ?_; (first | omega | (dsimp only; omega) | decide)) | (refine cond_intro ?_ ?_; (first | omega | (dsimp only; omega) | decide | (simp only [Nat.add_zero, Int.toNat_natCast, *]; omega))))
  all_goals (conv => whnf)
  refine vloop_of (fun k : Nat => ⟨[(0, .ptr 1 0 0 0), (3, .sl 3 0 0 a.n), (4, .int .i64 (IntKind.i64.wrap (((sortS a.ks).take k).map (fun s => a.get s)).sum)), (5, .int .i64 k)], (3, some (.one false (.cols a.n [.sc (.strs (sortS a.ks))]))) :: accR a, 4⟩) (fun k => k ≤ a.n) (fun k => a.n - k) 0 [0, 1, 2, 3] [] ⟨rfl, ⟨rfl, rfl, rfl, rfl, trivial⟩, ⟨rfl, rfl, rfl, trivial⟩⟩ (by omega) ?_
  intro k hk
  repeat' ((conv => whnf); first | (refine vcall_out (l :=  [0, 1, 2]) (c2 _ ) ⟨rfl, rfl, rfl, rfl, (by (repeat' (first | exact trivial | exact GB_wf | constructor)); first | done | fail), (by (repeat' (first | exact trivial | exact GB_fits rfl | constructor)); first | done | fail)⟩ ?_) | (refine br_dec (fun h => ?_) (fun h => ?_) <;> try (exfalso; omega)) | (refine br_ndec (fun h => ?_) (fun h => ?_) <;> try (exfalso; omega)) | refine br_seq (fun h => ?_) (fun h => ?_) | refine br_nseq (fun h => ?_) (fun h => ?_) | refine br_not (fun h => ?_) (fun h => ?_) | refine br_intro (fun h => ?_) (fun h => ?_) | refine cond_intro rfl ?_ | (refine cond_intro ⟨rfl, ?_⟩ ?_; (first | omega | (dsimp only; omega) | decide)) | (refine cond_intro ?_ ?_; (first | omega | (dsimp only; omega) | decide | (simp only [Nat.add_zero, Int.toNat_natCast, *]; omega))))
  all_goals (conv => whnf)
  · refine ⟨k + 1, [0, 1, 2, 3], [], by omega, by omega, ⟨rfl, ⟨rfl, rfl, ?_, congrArg (fun z => some (SV.int .i64 z)) (i64_succ' (by omega)), trivial⟩, ⟨rfl, rfl, rfl, trivial⟩⟩⟩
    refine congrArg (fun z => some (SV.int .i64 z)) ?_
    have hk' : k < (sortS a.ks).length := by rw [sortS_length, ho.k]; omega
    show IntKind.i64.wrap (IntKind.i64.wrap _ + a.get ((sortS a.ks).getD (k + 0) ⟨#[]⟩)) = _
    rw [wrap_add, List.take_succ_eq_append_getElem hk', List.map_append, List.sum_append, Nat.add_zero]
    simp [List.getD, hk']
  · have e : k = a.n := by omega
    subst e
    have e2 : a.held = IntKind.i64.wrap (((sortS a.ks).take a.n).map (fun s => a.get s)).sum := by
      rw [List.take_of_length_le (by rw [sortS_length, ho.k]; exact Nat.le_refl _), sum_get ho]
      unfold Acc.held
      rfl
    rw [e2]
    exact ret_out (l := [0, 1, 2]) rfl rfl trivial allRw_nil

theorem held_eq (a b : Acc) (h : a = b) : a.held = b.held := by rw [h]
theorem op_facts (a : Acc) (k : Int) (id : ByteArray) (n o lim : Int) (hl : a.lim = lim) : (a.opA k id n o).lim = lim ∧
    (a.opE k id n o ≠ 0 → (a.opA k id n o).bal = a.bal ∧ (a.opA k id n o).held = a.held) ∧
    (a.opE k id n o = 0 → k = 5 → (a.opA k id n o).bal = IntKind.i64.wrap (a.bal + IntKind.i64.wrap (0 - o)) ∧ -999999999999 ≤ IntKind.i64.wrap (0 - o) ∧ IntKind.i64.wrap (0 - o) ≤ 999999999999) ∧
    (a.opE k id n o = 0 → k < 0 ∨ 5 < k → (a.opA k id n o).bal = IntKind.i64.wrap (a.bal + n) ∧ -999999999999 ≤ n ∧ n ≤ 999999999999) ∧
    (a.opE k id n o = 0 → 0 ≤ k → k < 5 → (a.opA k id n o).bal = a.bal) := by
  obtain ⟨h1, h2, h3, h4, h5⟩ := op_bal a k id n o
  refine ⟨h1.trans hl, fun h => by rw [h2 h]; exact ⟨rfl, rfl⟩, fun h hk => ?_, fun h hk => ?_, fun h hk hk' => ?_⟩
  · obtain ⟨x, y⟩ := h4 h hk
    have e := h3 h
    rw [if_pos hk] at e
    have w : IntKind.i64.wrap (0 - o) = - o := by rw [w64_in (by omega) (by omega)]; omega
    rw [w, e]
    exact ⟨rfl, by omega, by omega⟩
  · obtain ⟨x, y⟩ := h5 h hk
    have e := h3 h
    rw [if_neg (by omega), if_pos hk] at e
    exact ⟨e, x, y⟩
  · have e := h3 h
    rw [if_neg (by omega), if_neg (by omega)] at e
    exact e

/-- The balance stays within the machine's numbers. -/
def Acc.In (a : Acc) : Prop := -9223372036854775808 ≤ a.bal ∧ a.bal ≤ 9223372036854775807
theorem wrap_rng (x : Int) : -9223372036854775808 ≤ IntKind.i64.wrap x ∧ IntKind.i64.wrap x ≤ 9223372036854775807 := by rw [wrap_i64]; omega
theorem in_op {a : Acc} (h : a.In) (k : Int) (id : ByteArray) (n o : Int) : (a.opA k id n o).In := by
  obtain ⟨h1, h2, h3, h4, h5⟩ := op_facts a k id n o a.lim rfl
  unfold Acc.In at h ⊢
  have r1 := wrap_rng (a.bal + IntKind.i64.wrap (0 - o))
  have r2 := wrap_rng (a.bal + n)
  by_cases he : a.opE k id n o = 0
  · have h3 := h3 he
    have h4 := h4 he
    have h5 := h5 he
    omega
  · have h2 := (h2 he).1
    omega

set_option maxHeartbeats 2000000 in
theorem accountConserves_fc (n0 : Int) (hw0 : (Lit.int .i64 n0).wf = true) (n1 : Int) (hw1 : (Lit.int .i64 n1).wf = true) (l2 : Nat) (hl2 : l2 ≤ maxLen) (q2_0 : List Int) (eq2_0 : q2_0.length = l2) (wq2_0 : ∀ x ∈ q2_0, (Lit.int .i64 x).wf = true) (q2_1 : List ByteArray) (eq2_1 : q2_1.length = l2) (wq2_1 : ∀ x ∈ q2_1, x.size ≤ maxLen) (q2_2 : List Int) (eq2_2 : q2_2.length = l2) (wq2_2 : ∀ x ∈ q2_2, (Lit.int .i64 x).wf = true) (q2_3 : List Int) (eq2_3 : q2_3.length = l2) (wq2_3 : ∀ x ∈ q2_3, (Lit.int .i64 x).wf = true) :
    FC Tryd.prog 2 7 [.int .i64 n0, .int .i64 n1, .sl 1 0 0 l2] [(0, some (GB glT)), (1, some (.one true (.cols l2 [.sc (.ints .i64 q2_0), .sc (.strs q2_1), .sc (.ints .i64 q2_2), .sc (.ints .i64 q2_3)])))] (isOut (.bool true) [] 2) := by
  have aw0 := acc_awake
  have mk : ∀ hh, _ := fun hh => made_ok n0 n1 hh
  have hz : ∀ k, (q2_1.getD k ⟨#[]⟩).size ≤ 9223372036854775807 := by
    intro k
    rw [List.getD]
    cases h : q2_1[k]? with
    | none => exact Nat.zero_le _
    | some x => exact wq2_1 x (List.mem_iff_getElem?.2 ⟨k, h⟩)
  refine fc_of mixed T_ok Tryd.func7 rfl (by kernel_rfl) (by kernel_rfl) (by kernel_rfl) ?_
  repeat' ((conv => whnf); first | (refine vcall_out (l :=  [0]) (aw0 ) ⟨rfl, rfl, rfl, rfl, (by (repeat' (first | exact trivial | exact GB_wf | constructor)); first | done | fail), (by (repeat' (first | exact trivial | exact GB_fits rfl | constructor)); first | done | fail)⟩ ?_) | (refine vcall_out (l :=  [0]) (mk (by omega) ) ⟨rfl, rfl, rfl, rfl, (by (repeat' (first | exact trivial | exact GB_wf | constructor)); first | done | fail), (by (repeat' (first | exact trivial | exact GB_fits rfl | constructor)); first | done | fail)⟩ ?_) | (refine br_dec (fun h => ?_) (fun h => ?_) <;> try (exfalso; omega)) | (refine br_ndec (fun h => ?_) (fun h => ?_) <;> try (exfalso; omega)) | refine br_seq (fun h => ?_) (fun h => ?_) | refine br_nseq (fun h => ?_) (fun h => ?_) | refine br_not (fun h => ?_) (fun h => ?_) | refine br_intro (fun h => ?_) (fun h => ?_) | refine cond_intro rfl ?_ | (refine cond_intro ⟨rfl, ?_⟩ ?_; (first | omega | (dsimp only; omega) | decide)) | (refine cond_intro ?_ ?_; (first | omega | (dsimp only; omega) | decide | (simp only [Nat.add_zero, Int.toNat_natCast, *]; omega))))
  all_goals (conv => whnf)
  iterate 5 (exact ret_out (l := [0, 1]) rfl rfl trivial allRw_nil)
  refine vloop_of (fun s : Nat × Acc => ⟨[(1, .int .i64 n1), (2, .sl 1 0 0 l2), (7, .ptr 2 0 0 0), (8, .int .i64 s.1)], (0, some (GB glT)) :: (1, some (.one true (.cols l2 [.sc (.ints .i64 q2_0), .sc (.strs q2_1), .sc (.ints .i64 q2_2), .sc (.ints .i64 q2_3)]))) :: (2, some (.one false (.cells [.int .i64 s.2.bal, .int .i64 s.2.lim, .map 3 0]))) :: (3, some (.one false (.obj (.map false false s.2.n [.strs s.2.ks] [.sc (.ints .i64 s.2.vs)] s.2.bs s.2.ck)))) :: [], 4⟩) (fun s => s.1 ≤ l2 ∧ s.2.Ok ∧ s.2.lim = n1 ∧ s.2.In) (fun s => l2 - s.1) (0, Acc.mk0 n0 n1) [0, 1, 2, 3] [] ⟨rfl, ⟨rfl, rfl, rfl, rfl, trivial⟩, ⟨gwk rfl, rfl, rfl, rfl, trivial⟩⟩ ⟨by omega, ok_mk0 _ _, rfl, by unfold Acc.In Acc.mk0; constructor <;> (dsimp only; omega)⟩ ?_
  rintro ⟨k, a⟩ ⟨hk, ho, hlim, hin⟩
  dsimp only at hk ho hlim hin
  have c0 := acc_apply a (q2_0.getD k 0) (q2_1.getD k ⟨#[]⟩) (q2_2.getD k 0) (q2_3.getD k 0) ho.v (hz k)
  obtain ⟨f1, f2, f3, f4, f5⟩ := op_facts a (q2_0.getD k 0) (q2_1.getD k ⟨#[]⟩) (q2_2.getD k 0) (q2_3.getD k 0) n1 hlim
  have ho' := ok_op ho (q2_0.getD k 0) (q2_1.getD k ⟨#[]⟩) (q2_2.getD k 0) (q2_3.getD k 0)
  have hin' := in_op hin (q2_0.getD k 0) (q2_1.getD k ⟨#[]⟩) (q2_2.getD k 0) (q2_3.getD k 0)
  have hz0 : IntKind.i64.wrap (a.bal + 0) = a.bal := by rw [w64_in]; omega; have := hin.1; omega; have := hin.2; omega
  generalize a.opA (q2_0.getD k 0) (q2_1.getD k ⟨#[]⟩) (q2_2.getD k 0) (q2_3.getD k 0) = a' at *
  generalize a.opE (q2_0.getD k 0) (q2_1.getD k ⟨#[]⟩) (q2_2.getD k 0) (q2_3.getD k 0) = E at *
  have b0 := acc_Balance a
  have h0 := acc_Held a ho.v
  have b1 := acc_Balance a'
  have h1 := acc_Held a' ho'.v
  have v1 := acc_Available a' ho'.v
  have hav : a'.avail = IntKind.i64.wrap (IntKind.i64.wrap (a'.bal + n1) - a'.held) := by unfold Acc.avail; rw [f1]
  rw [hav] at v1
  have u1 := law_sum a' ho'
  repeat' ((conv => whnf); first | (refine vcall_out (l :=  [0]) (aw0 ) ⟨rfl, rfl, rfl, rfl, (by (repeat' (first | exact trivial | exact GB_wf | constructor)); first | done | fail), (by (repeat' (first | exact trivial | exact GB_fits rfl | constructor)); first | done | fail)⟩ ?_) | (refine vcall_out (l :=  [0, 2, 3]) (b0 ) ⟨rfl, rfl, rfl, rfl, (by (repeat' (first | exact trivial | exact GB_wf | constructor)); first | done | fail), (by (repeat' (first | exact trivial | exact GB_fits rfl | constructor)); first | done | fail)⟩ ?_) | (refine vcall_out (l :=  [0, 2, 3]) (h0 ) ⟨rfl, rfl, rfl, rfl, (by (repeat' (first | exact trivial | exact GB_wf | constructor)); first | done | fail), (by (repeat' (first | exact trivial | exact GB_fits rfl | constructor)); first | done | fail)⟩ ?_) | (refine vcall_out (l :=  [0, 2, 3]) (c0 ) ⟨rfl, rfl, rfl, rfl, (by (repeat' (first | exact trivial | exact GB_wf | constructor)); first | done | fail), (by (repeat' (first | exact trivial | exact GB_fits rfl | constructor)); first | done | fail)⟩ ?_) | (refine vcall_out (l :=  [0, 2, 3]) (b1 ) ⟨rfl, rfl, rfl, rfl, (by (repeat' (first | exact trivial | exact GB_wf | constructor)); first | done | fail), (by (repeat' (first | exact trivial | exact GB_fits rfl | constructor)); first | done | fail)⟩ ?_) | (refine vcall_out (l :=  [0, 2, 3]) (h1 ) ⟨rfl, rfl, rfl, rfl, (by (repeat' (first | exact trivial | exact GB_wf | constructor)); first | done | fail), (by (repeat' (first | exact trivial | exact GB_fits rfl | constructor)); first | done | fail)⟩ ?_) | (refine vcall_out (l :=  [0, 2, 3]) (v1 ) ⟨rfl, rfl, rfl, rfl, (by (repeat' (first | exact trivial | exact GB_wf | constructor)); first | done | fail), (by (repeat' (first | exact trivial | exact GB_fits rfl | constructor)); first | done | fail)⟩ ?_) | (refine vcall_out (l :=  [0, 2, 3]) (u1 ) ⟨rfl, rfl, rfl, rfl, (by (repeat' (first | exact trivial | exact GB_wf | constructor)); first | done | fail), (by (repeat' (first | exact trivial | exact GB_fits rfl | constructor)); first | done | fail)⟩ ?_) | (refine br_dec (fun h => ?_) (fun h => ?_) <;> try (exfalso; omega)) | (refine br_ndec (fun h => ?_) (fun h => ?_) <;> try (exfalso; omega)) | refine br_seq (fun h => ?_) (fun h => ?_) | refine br_nseq (fun h => ?_) (fun h => ?_) | refine br_not (fun h => ?_) (fun h => ?_) | refine br_intro (fun h => ?_) (fun h => ?_) | refine cond_intro rfl ?_ | (refine cond_intro ⟨rfl, ?_⟩ ?_; (first | omega | (dsimp only; omega) | decide)) | (refine cond_intro ?_ ?_; (first | omega | (dsimp only; omega) | decide | (simp only [Nat.add_zero, Int.toNat_natCast, *]; omega))))
  all_goals (conv => whnf)
  all_goals first
    | exact ret_out (l := [0, 1]) rfl rfl trivial allRw_nil
    | exact ⟨(k + 1, a'), [0, 1, 2, 3], [], ⟨by dsimp only at *; omega, ho', f1, hin'⟩, by dsimp only at *; omega, ⟨rfl, ⟨rfl, rfl, rfl, congrArg (fun z => some (SV.int .i64 z)) (i64_succ' (by dsimp only at *; omega)), trivial⟩, ⟨gwk rfl, rfl, rfl, rfl, trivial⟩⟩⟩
    | (exfalso; simp only [Int.toNat_natCast, Nat.add_zero] at *; omega)
end Go.Proofs.YthnmooholhellaaDoor
