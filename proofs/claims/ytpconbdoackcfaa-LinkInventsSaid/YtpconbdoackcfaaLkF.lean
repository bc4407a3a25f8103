/- The law on delivery, joined. -/
import Derived.Test.YtpconbdoackcfaaLkE
namespace Go.Proofs.Ytpconbdoackcfaa
open Go.RowKit Go.Sy
attribute [local irreducible] vcall vloop vcallD retP sortI
set_option maxRecDepth 100000
set_option linter.unusedVariables false
set_option linter.unusedSimpArgs false

def dv0 : Dv := ⟨[], 0, 0, 0, 0, wy0⟩
theorem dv0_ok (n0 : Int) : DOk n0 0 dv0 := ⟨rfl, Nat.le_refl _, Nat.le_refl _, rep_nil, List.Pairwise.nil, (fun a h => by cases h), ⟨Int.le_refl _, Int.le_refl _, by decide⟩⟩
theorem u8_in {x : Int} (h : (Lit.int .u8 x).wf = true) : 0 ≤ x ∧ x ≤ 255 := by
  unfold Lit.wf at h
  simp only [IntKind.min, IntKind.max, IntKind.signed, IntKind.bits, Bool.and_eq_true, decide_eq_true_eq] at h
  simp at h
  omega
theorem u8_at {l : List Int} (w : ∀ x ∈ l, (Lit.int .u8 x).wf = true) (i : Nat) : 0 ≤ l.getD i 0 ∧ l.getD i 0 ≤ 255 := by
  by_cases h : i < l.length
  · rw [List.getD, List.getElem?_eq_getElem h]
    exact u8_in (w _ (List.getElem_mem h))
  · rw [List.getD, List.getElem?_eq_none (by omega)]
    decide
set_option maxHeartbeats 1000000 in
theorem linkDelivers_fc (n0 : Int) (hw0 : (Lit.int .u8 n0).wf = true) (l1 : Nat) (hl1 : l1 ≤ maxLen) (q1_0 : List Int) (eq1_0 : q1_0.length = l1) (wq1_0 : ∀ x ∈ q1_0, (Lit.int .u8 x).wf = true) (q1_1 : List Int) (eq1_1 : q1_1.length = l1) (wq1_1 : ∀ x ∈ q1_1, (Lit.int .u8 x).wf = true) (q1_2 : List Int) (eq1_2 : q1_2.length = l1) (wq1_2 : ∀ x ∈ q1_2, (Lit.int .u8 x).wf = true) (q1_3 : List ByteArray) (eq1_3 : q1_3.length = l1) (wq1_3 : ∀ x ∈ q1_3, x.size ≤ maxLen) :
    FC Try.prog 2 3 [.int .u8 n0, .sl 1 0 0 l1] [(1, some (.one true (.cols l1 [.sc (.ints .u8 q1_0), .sc (.ints .u8 q1_1), .sc (.ints .u8 q1_2), .sc (.strs q1_3)])))] (isOut (.bool true) [] 2) := by
  have hn0 := u8_in hw0
  have aw := lk_awake
  have hla : 1 ≤ dvLa n0 ∧ dvLa n0 ≤ 1000 := by
    have w0 : IntKind.i64.wrap n0 = n0 := w64_in (by omega) (by omega)
    have wla : dvLa n0 = n0 + 1 := by unfold dvLa; rw [w0]; exact w64_in (by omega) (by omega)
    omega
  have cn := lk_New_nil 4 (dvLa n0) (by decide) hla
  refine fc_of mixed T_ok Try.func3 rfl (by kernel_rfl) (by kernel_rfl) (by kernel_rfl) ?_
  repeat' ((conv => whnf); first | (refine vcall_pure (aw) rfl rfl rfl ?_) | (refine vcallD_pure (aw) rfl rfl rfl ?_) | (refine vcall_out (l :=  [0]) (cn ) ⟨rfl, rfl, rfl, rfl, (by (repeat' (first | exact trivial | exact GB_wf | exact fun _ _ => rfl | constructor)); first | done | fail), (by (repeat' (first | exact trivial | exact GB_fits rfl | constructor)); first | done | fail)⟩ ?_) | (refine vcallD_out (l :=  [0]) (cn ) ⟨rfl, rfl, rfl, rfl, (by (repeat' (first | exact trivial | exact GB_wf | exact fun _ _ => rfl | constructor)); first | done | fail), (by (repeat' (first | exact trivial | exact GB_fits rfl | constructor)); first | done | fail)⟩ ?_) | (refine br_dec (fun h => ?_) (fun h => ?_) <;> try (exfalso; (try dsimp only at h); omega)) | (refine br_ndec (fun h => ?_) (fun h => ?_) <;> try (exfalso; (try dsimp only at h); omega)) | refine br_seq (fun h => ?_) (fun h => ?_) | refine br_nseq (fun h => ?_) (fun h => ?_) | refine br_not (fun h => ?_) (fun h => ?_) | refine br_intro (fun h => ?_) (fun h => ?_) | refine cond_intro rfl ?_ | (refine cond_intro ⟨rfl, ?_⟩ ?_; (first | omega | (dsimp only; omega) | decide)) | (refine cond_intro ?_ ?_; (first | omega | (dsimp only; omega) | decide | (simp only [Nat.add_zero, Int.toNat_natCast, *]; omega))))
  all_goals (conv => whnf)
  · exact ret_out (l := [0, 1]) rfl rfl trivial allRw_nil
  have h200 : l1 ≤ 200 := by omega
  refine vloop_lp (fun x : Nat × Dv => ⟨dvE n0 l1 x.1 x.2, dvH (dvA l1 q1_0 q1_1 q1_2 q1_3) (dvLa n0) x.2, 8⟩) (fun x => x.1 ≤ l1 ∧ DOk n0 x.1 x.2) (fun x => l1 - x.1) (0, dv0) [0, 1, 2, 3, 4, 5, 6, 7] [.slot 9 [.sc (.ints .i64 []), .sc (.ints .i64 []), .sc (.ints .i64 []), .sc (.ints .i64 []), .sc (.strs [])], .slot 10 [.sc (.ints .i64 []), .sc (.ints .i64 []), .sc (.ints .i64 []), .sc (.ints .i64 []), .sc (.strs [])]] ⟨rfl, ⟨rfl, rfl, rfl, rfl, rfl, rfl, rfl, rfl, trivial⟩, ⟨rfl, rfl, rfl, rfl, rfl, rfl, rfl, trivial⟩⟩ ⟨Nat.zero_le _, dv0_ok n0⟩ ?_
  rintro ⟨i, d⟩ ⟨hi, hd⟩
  dsimp only at hi hd
  by_cases hi2 : i < l1
  · exact dv_round n0 hn0 l1 q1_0 q1_1 q1_2 q1_3 h200 i hi2 (u8_at wq1_0 i) (u8_at wq1_1 i) (u8_at wq1_2 i) d hd _ (fun v h => h) (fun d' hd' v ⟨l, us, h⟩ => ⟨(i + 1, d'), l, us, ⟨hi2, hd'⟩, (by dsimp only; omega), h⟩)
  · have e : i = l1 := by omega
    subst e
    obtain ⟨A, k, g, now, nw, W⟩ := d
    obtain ⟨e1, e2, e3, e4, e5, e6, e7⟩ := hd
    dsimp only at e1 e2 e3 e4 e5 e6 e7
    have hQ : (A.drop g).length ≤ 200 := by rw [List.length_drop]; omega
    have w0 : IntKind.i64.wrap n0 = n0 := w64_in (by omega) (by omega)
    have hu : IntKind.i64.wrap (IntKind.i64.wrap (now + IntKind.i64.wrap n0) + 1) = now + n0 + 1 := by
      rw [w0, w64_in (n := now + n0) (by omega) (by omega), w64_in (by omega) (by omega)]
    have c2 := lk_Receive ⟨4, dvLa n0, fa0, nw, k, W⟩ (IntKind.i64.wrap (IntKind.i64.wrap (now + IntKind.i64.wrap n0) + 1)) (e4.ok (by omega)) e4.nd (by have := e4.n_le; dsimp only; omega)
    unfold rvO at c2
    dsimp only at c2
    generalize hU : IntKind.i64.wrap (IntKind.i64.wrap (now + IntKind.i64.wrap n0) + 1) = U at *
    generalize Lk.rnw ⟨4, dvLa n0, fa0, nw, k, W⟩ U = nw2 at *
    obtain ⟨r1, r2, r3⟩ := rep_recv e4 U
    have hall : (A.drop g).filter (fun a => decide (a.t ≤ U)) = A.drop g := List.filter_eq_self.2 fun a ha => by
      have := e6 a (List.mem_of_mem_drop ha)
      simp; omega
    have hno : (A.drop g).filter (fun a => decide (U < a.t)) = [] := List.filter_eq_nil_iff.2 fun a ha => by
      have := e6 a (List.mem_of_mem_drop ha)
      simp; omega
    rw [recv_sorted e4 (e5.drop) U, hall] at r2 r3
    rw [hno] at r1
    rw [r2, r3] at c2
    generalize W.dels (W.due U) (W.due U).length = W2 at *
    have hW2 : W2.n = 0 := by have := r1.n_le; simp at this; omega
    have cN := lk_Next ⟨4, dvLa n0, fa0, nw2, k, W2⟩ r1.kl
    have hcat : (arOf (A.take g)).cat (A.drop g).length (arOf (A.drop g)) = arOf A := by rw [arOf_cat, List.take_append_drop]
    have hlen : g + (A.drop g).length = k := by rw [List.length_drop]; omega
    subst hU
    repeat' ((conv => whnf); first | (refine vcall_pure (aw) rfl rfl rfl ?_) | (refine vcallD_pure (aw) rfl rfl rfl ?_) | (refine vcall_out (l :=  [0, 2, 3, 4, 5]) (c2 ) ⟨rfl, rfl, rfl, rfl, (by (repeat' (first | exact trivial | exact GB_wf | exact fun _ _ => rfl | constructor)); first | done | fail), (by (repeat' (first | exact trivial | exact GB_fits rfl | constructor)); first | done | fail)⟩ ?_) | (refine vcallD_out (l :=  [0, 2, 3, 4, 5]) (c2 ) ⟨rfl, rfl, rfl, rfl, (by (repeat' (first | exact trivial | exact GB_wf | exact fun _ _ => rfl | constructor)); first | done | fail), (by (repeat' (first | exact trivial | exact GB_fits rfl | constructor)); first | done | fail)⟩ ?_) | (refine br_dec (fun h => ?_) (fun h => ?_) <;> try (exfalso; (try dsimp only at h); omega)) | (refine br_ndec (fun h => ?_) (fun h => ?_) <;> try (exfalso; (try dsimp only at h); omega)) | refine br_seq (fun h => ?_) (fun h => ?_) | refine br_nseq (fun h => ?_) (fun h => ?_) | refine br_not (fun h => ?_) (fun h => ?_) | refine br_intro (fun h => ?_) (fun h => ?_) | refine cond_intro rfl ?_ | (refine cond_intro ⟨rfl, ?_⟩ ?_; (first | omega | (dsimp only; omega) | decide)) | (refine cond_intro ?_ ?_; (first | omega | (dsimp only; omega) | decide | (simp only [Nat.add_zero, Int.toNat_natCast, *]; omega))))
    all_goals (conv => whnf)
    refine vloop_lp (fun j : Nat => ⟨[(5, .ptr 2 0 0 0), (9, .sl 6 0 0 k), (10, .sl 7 0 0 (g + (A.drop g).length)), (15, .int .i64 j)], [(1, some (dvA i q1_0 q1_1 q1_2 q1_3)), (2, some (.one false (.cells [.int .i64 4, .int .i64 (dvLa n0), .sl 3 0 0 0, .int .i64 nw2, .int .i64 (k : Int), .map 4 0]))), (3, some (faB false fa0)), (4, some (wyM false 5 W2)), (5, some (wyF false W2)), (6, some (.one false (arB k (arOf A)))), (7, some (.one false (arB (g + (A.drop g).length) ((arOf (A.take g)).cat (A.drop g).length (arOf (A.drop g))))))], 8⟩) (fun j => j ≤ k) (fun j => k - j) 0 [0, 1, 2, 3, 4, 8, 6, 10] [] ⟨rfl, ⟨rfl, rfl, rfl, rfl, trivial⟩, ⟨rfl, rfl, rfl, rfl, rfl, rfl, rfl, trivial⟩⟩ (Nat.zero_le _) ?_
    intro j hj
    rw [hcat, hlen]
    generalize arOf A = ar at *
    repeat' ((conv => whnf); first | (refine vcall_pure (aw) rfl rfl rfl ?_) | (refine vcallD_pure (aw) rfl rfl rfl ?_) | (refine vcall_out (l :=  [0, 2, 3, 4, 5]) (cN ) ⟨rfl, rfl, rfl, rfl, (by (repeat' (first | exact trivial | exact GB_wf | exact fun _ _ => rfl | constructor)); first | done | fail), (by (repeat' (first | exact trivial | exact GB_fits rfl | constructor)); first | done | fail)⟩ ?_) | (refine vcallD_out (l :=  [0, 2, 3, 4, 5]) (cN ) ⟨rfl, rfl, rfl, rfl, (by (repeat' (first | exact trivial | exact GB_wf | exact fun _ _ => rfl | constructor)); first | done | fail), (by (repeat' (first | exact trivial | exact GB_fits rfl | constructor)); first | done | fail)⟩ ?_) | (refine br_dec (fun h => ?_) (fun h => ?_) <;> try (exfalso; (try dsimp only at h); omega)) | (refine br_ndec (fun h => ?_) (fun h => ?_) <;> try (exfalso; (try dsimp only at h); omega)) | refine br_seq (fun h => ?_) (fun h => ?_) | refine br_nseq (fun h => ?_) (fun h => ?_) | refine br_not (fun h => ?_) (fun h => ?_) | refine br_intro (fun h => ?_) (fun h => ?_) | refine cond_intro rfl ?_ | (refine cond_intro ⟨rfl, ?_⟩ ?_; (first | omega | (dsimp only; omega) | decide)) | (refine cond_intro ?_ ?_; (first | omega | (dsimp only; omega) | decide | (simp only [Nat.add_zero, Int.toNat_natCast, *]; omega))))
    all_goals (conv => whnf)
    all_goals first
      | exact ret_out (l := [0, 1]) rfl rfl trivial allRw_nil
      | exact ⟨j + 1, [0, 1, 2, 3, 4, 5, 6, 7], [], (by dsimp only; omega), (by dsimp only; omega), ⟨rfl, ⟨rfl, rfl, rfl, congrArg (fun z => some (SV.int .i64 z)) (i64_succ (by omega)), trivial⟩, ⟨rfl, rfl, rfl, rfl, rfl, rfl, rfl, trivial⟩⟩⟩
      | (exfalso; rename_i h; revert h; simp [seq]; done)
      | (exfalso; omega)
      | trace_state
end Go.Proofs.Ytpconbdoackcfaa
