/- Several texts in one: XJsK. -/
import Derived.Test.YtdlpmmdbdjlojaaGreatDoorJc3
/- The law JournalCalls. -/
namespace Go.Proofs.YtdlpmmdbdjlojaaGreatDoor
open Go.RowKit Go.Sy
attribute [local irreducible] vcall vloop vcallD retP
set_option maxRecDepth 100000
set_option linter.unusedVariables false
set_option linter.unusedSimpArgs false
attribute [local irreducible] seq ByteArray.extract

theorem kind_cases {k : Int} (h : 0 ≤ k ∧ k ≤ 255) : k.tmod 6 = 0 ∨ k.tmod 6 = 1 ∨ k.tmod 6 = 2 ∨ k.tmod 6 = 3 ∨ k.tmod 6 = 4 ∨ k.tmod 6 = 5 := by
  rw [Int.tmod_eq_emod_of_nonneg h.1]; omega
theorem wfu8 {n : Int} (h : (Lit.int .u8 n).wf = true) : 0 ≤ n ∧ n ≤ 255 := by
  simp only [Lit.wf, Bool.and_eq_true, decide_eq_true_eq] at h
  exact h
theorem wfu64 {n : Int} (h : (Lit.int .u64 n).wf = true) : 0 ≤ n ∧ n < 2 ^ 64 := by
  simp only [Lit.wf, Bool.and_eq_true, decide_eq_true_eq] at h
  have h2 : 0 ≤ n ∧ n ≤ 18446744073709551615 := h
  refine ⟨h2.1, ?_⟩
  have : (2 : Int) ^ 64 = 18446744073709551616 := by decide
  omega
theorem cd_new (m : Nat) (h : m ≤ 600) : Cd (newD m) :=
  ⟨newD_ok m (by omega), rfl, z64, (fun b hb => by simp only [newD, List.mem_replicate] at hb; rw [hb.2]; decide), (fun b hb => by simp only [newD, List.mem_replicate] at hb; rw [hb.2]; decide), (fun b hb => by cases hb)⟩
set_option maxHeartbeats 1000000 in
theorem journalCalls_fc (n0 : Int) (hw0 : (Lit.int .i64 n0).wf = true) (l1 : Nat) (hl1 : l1 ≤ maxLen) (q1_0 : List Int) (eq1_0 : q1_0.length = l1) (wq1_0 : ∀ x ∈ q1_0, (Lit.int .u8 x).wf = true) (q1_1 : List ByteArray) (eq1_1 : q1_1.length = l1) (wq1_1 : ∀ x ∈ q1_1, x.size ≤ maxLen) (q1_2 : List Int) (eq1_2 : q1_2.length = l1) (wq1_2 : ∀ x ∈ q1_2, (Lit.int .i64 x).wf = true) (q1_3 : List Int) (eq1_3 : q1_3.length = l1) (wq1_3 : ∀ x ∈ q1_3, (Lit.int .u64 x).wf = true) :
    FC Tryz.prog 2 3 [.int .i64 n0, .sl 1 0 0 l1] [(0, some (GB glT)), (1, some (.one true (.cols l1 [.sc (.ints .u8 q1_0), .sc (.strs q1_1), .sc (.ints .i64 q1_2), .sc (.ints .u64 q1_3)])))] (isOut (.bool true) [] 2) := by
  have cA := law_awake
  unfold maxLen at hl1
  by_cases hn : n0 < 1 ∨ 4096 < n0
  · have c1 := disk_New_no n0 hn
    have c2 := ref_New_no n0 hn
    refine fc_of mixed T_ok Tryz.func3 rfl (by kernel_rfl) (by kernel_rfl) (by kernel_rfl) ?_
    repeat' ((conv => whnf); first | (refine vcall_pure (c1) rfl rfl rfl ?_) | (refine vcallD_pure (c1) rfl rfl rfl ?_) | (refine vcall_pure (c2) rfl rfl rfl ?_) | (refine vcallD_pure (c2) rfl rfl rfl ?_) | (refine vcall_glob (cA) rfl rfl rfl rfl ?_) | (refine vcallD_glob (cA) rfl rfl rfl rfl ?_) | ((first | apply br_dec | apply br_ndec) <;> intro h <;> try (exfalso; (try dsimp only at h); omega)) | ((first | apply br_seq | apply br_nseq | apply br_not | apply br_intro) <;> intro h) | refine cond_a ?_)
    all_goals (conv => whnf)
    all_goals exact ret_out (l := [0, 1]) rfl rfl trivial allRw_nil
  · obtain ⟨m, rfl⟩ := Int.eq_ofNat_of_zero_le (show 0 ≤ n0 by omega)
    have c1 := disk_New m (by omega)
    have c2 := ref_New m (by omega)
    by_cases h60 : 60 < l1 ∨ 600 < m
    · refine fc_of mixed T_ok Tryz.func3 rfl (by kernel_rfl) (by kernel_rfl) (by kernel_rfl) ?_
      repeat' ((conv => whnf); first | refine vcall_o (l := [0]) (c1) ?_ | refine vcallD_o (l := [0]) (c1) ?_ | refine vcall_o (l := [0]) (c2) ?_ | refine vcallD_o (l := [0]) (c2) ?_ | (refine vcall_glob (cA) rfl rfl rfl rfl ?_) | (refine vcallD_glob (cA) rfl rfl rfl rfl ?_) | ((first | apply br_dec | apply br_ndec) <;> intro h <;> try (exfalso; (try dsimp only at h); omega)) | ((first | apply br_seq | apply br_nseq | apply br_not | apply br_intro) <;> intro h) | refine cond_a ?_)
      all_goals (conv => whnf)
      all_goals first
        | (exfalso; omega)
        | (exfalso; exact h rfl)
        | exact ret_out (l := [0, 1]) rfl rfl trivial allRw_nil
    · have hc := cd_new m (by omega)
      have c3 := jr_Open (newD m) rfl (by show m ≤ 4096; omega) hc.sn
      have c4 := rj_Open (newD m) rfl hc.ok hc.wh hc.sn
      have F := cj_open (d := newD m)
      generalize opJ (newD m) = J at c3 c4 F
      generalize opG (newD m) = M at c4 F
      refine fc_of mixed T_ok Tryz.func3 rfl (by kernel_rfl) (by kernel_rfl) (by kernel_rfl) ?_
      repeat' ((conv => whnf); first | refine vcall_o (l := [0]) (c1) ?_ | refine vcallD_o (l := [0]) (c1) ?_ | refine vcall_o (l := [0]) (c2) ?_ | refine vcallD_o (l := [0]) (c2) ?_ | ((first | apply br_dec | apply br_ndec) <;> intro h <;> try (exfalso; (try dsimp only at h); omega)) | ((first | apply br_seq | apply br_nseq | apply br_not | apply br_intro) <;> intro h) | refine cond_a ?_)
      all_goals (conv => whnf)
      all_goals first
        | (exfalso; omega)
        | (exfalso; exact h rfl)
        | skip
      refine vloop_of (fun x : Nat × Int => ⟨[(1, .sl 1 0 0 l1), (5, .ptr 2 0 0 0), (7, .ptr 6 0 0 0), (9, .int .i64 x.2), (10, .int .i64 x.1)],
        [(0, some (GB glT)), (1, argB l1 q1_0 q1_1 q1_2 q1_3),
        (2, cellB false [.sl 3 0 0 (newD m).nn, .sl 4 0 0 (newD m).nn, .sl 5 0 0 (newD m).np, .bool (newD m).down, .int .i64 (newD m).steps, .int .u64 (newD m).mask]), (3, grW (newD m).nn (newD m).kept), (4, grW (newD m).nn (newD m).now), (5, some (.one false (.cols (newD m).np [.sc (.ints .i64 (newD m).pn), .sc (.strs (newD m).ps)]))),
        (6, cellB false [.sl 7 0 0 (newD m).nn, .sl 8 0 0 (newD m).np, .bool (newD m).down, .int .i64 (newD m).steps, .int .u64 (newD m).mask]), (7, grW (newD m).nn (newD m).kept), (8, some (.one false (.cols (newD m).np [.sc (.ints .i64 (newD m).pn), .sc (.strs (newD m).ps)])))], 9⟩) (fun x => x.1 ≤ l1) (fun x => l1 - x.1) (0, 0) [0, 1, 2, 3, 4, 5, 6, 7, 8] [] ⟨rfl, ⟨rfl, rfl, rfl, rfl, rfl, trivial⟩, ⟨gwk rfl, rfl, rfl, rfl, rfl, rfl, rfl, rfl, rfl, trivial⟩⟩ (Nat.zero_le _) ?_
      rintro ⟨k, v⟩ hk
      dsimp only at hk
      by_cases hlt : k < l1
      · repeat' ((conv => whnf); first | ((first | apply br_dec | apply br_ndec) <;> intro h <;> try (exfalso; (try dsimp only at h); omega)) | ((first | apply br_seq | apply br_nseq | apply br_not | apply br_intro) <;> intro h) | refine cond_a ?_)
        all_goals (conv => whnf)
        all_goals first
          | (exfalso; omega)
          | exact ⟨(k + 1, IntKind.i64.wrap (v + ((q1_1.getD k ⟨#[]⟩).size : Int))), [0, 1, 2, 3, 4, 5, 6, 7, 8], [], by dsimp only; omega, by dsimp only; omega, ⟨rfl, ⟨rfl, rfl, rfl, rfl, congrArg (fun z => some (SV.int .i64 z)) (i64_succ (by omega)), trivial⟩, ⟨gwk rfl, rfl, rfl, rfl, rfl, rfl, rfl, rfl, rfl, trivial⟩⟩⟩
      · obtain rfl : k = l1 := by omega
        repeat' ((conv => whnf); first | (refine vcall_glob (cA) rfl rfl rfl rfl ?_) | (refine vcallD_glob (cA) rfl rfl rfl rfl ?_) | refine vcall_o (l := [0, 2, 3, 4, 5]) (c3) ?_ | refine vcallD_o (l := [0, 2, 3, 4, 5]) (c3) ?_ | refine vcall_o (l := [0, 6, 7, 8]) (c4) ?_ | refine vcallD_o (l := [0, 6, 7, 8]) (c4) ?_ | ((first | apply br_dec | apply br_ndec) <;> intro h <;> try (exfalso; (try dsimp only at h); omega)) | ((first | apply br_seq | apply br_nseq | apply br_not | apply br_intro) <;> intro h) | refine cond_a ?_)
        all_goals (conv => whnf)
        all_goals first
          | (exfalso; omega)
          | exact ret_out (l := [0, 1]) rfl rfl trivial allRw_nil
          | skip
        refine vloop_of (jcS k q1_0 q1_1 q1_2 q1_3) (jcI k) (fun x => k - x.1) (0, 0, J, newD m, M) [0, 1, 2, 3, 4, 5, 6, 7, 8, 9, 10, 11, 12, 13, 14, 15] [] ⟨rfl, ⟨rfl, rfl, rfl, rfl, rfl, rfl, rfl, rfl, trivial⟩, ⟨gwk rfl, rfl, rfl, rfl, rfl, rfl, rfl, rfl, rfl, rfl, rfl, rfl, rfl, rfl, rfl, rfl, trivial⟩⟩ ⟨Nat.zero_le _, hc, by show m ≤ 600; omega, F⟩ ?_
        rintro ⟨i, E, j, d, L⟩ ⟨hi, hcd, hnn, hj⟩
        dsimp only at hi hcd hnn hj
        by_cases hlt : i < k
        · have hq0 : 0 ≤ q1_0.getD i 0 ∧ q1_0.getD i 0 ≤ 255 := by
            rw [List.getD, List.getElem?_eq_getElem (by omega)]; exact wfu8 (wq1_0 _ (List.getElem_mem _))
          have hq3 : 0 ≤ q1_3.getD i 0 ∧ q1_3.getD i 0 < 2 ^ 64 := by
            rw [List.getD, List.getElem?_eq_getElem (by omega)]; exact wfu64 (wq1_3 _ (List.getElem_mem _))
          rcases kind_cases hq0 with h | h | h | h | h | h
          · exact jc_app k i q1_0 q1_1 q1_2 q1_3 E j d L hlt (by omega) hcd hnn hj _ (fun v h => h) h
          · exact jc_commit k i q1_0 q1_1 q1_2 q1_3 E j d L hlt (by omega) hcd hnn hj _ (fun v h => h) h
          · exact jc_drop k i q1_0 q1_1 q1_2 q1_3 E j d L hlt (by omega) hcd hnn hj _ (fun v h => h) h
          · exact jc_crash k i q1_0 q1_1 q1_2 q1_3 E j d L hlt (by omega) hcd hnn hj _ (fun v h => h) hq3 h
          · exact jc_arm k i q1_0 q1_1 q1_2 q1_3 E j d L hlt (by omega) hcd hnn hj _ (fun v h => h) hq3 h
          · exact jc_write k i q1_0 q1_1 q1_2 q1_3 E j d L hlt (by omega) hcd hnn hj _ (fun v h => h) h
        · repeat' ((conv => whnf); first | (refine vcall_pure (no_Open) rfl rfl rfl ?_) | (refine vcallD_pure (no_Open) rfl rfl rfl ?_) | (refine vcall_pure (no_Append _) rfl rfl rfl ?_) | (refine vcallD_pure (no_Append _) rfl rfl rfl ?_) | (refine vcall_pure (no_Commit) rfl rfl rfl ?_) | (refine vcallD_pure (no_Commit) rfl rfl rfl ?_) | (refine vcall_pure (no_Drop) rfl rfl rfl ?_) | (refine vcallD_pure (no_Drop) rfl rfl rfl ?_) | (refine vcall_pure (no_Records) rfl rfl rfl ?_) | (refine vcallD_pure (no_Records) rfl rfl rfl ?_) | (refine vcall_pure (no_Groups) rfl rfl rfl ?_) | (refine vcallD_pure (no_Groups) rfl rfl rfl ?_) | (refine vcall_pure (no_Pending) rfl rfl rfl ?_) | (refine vcallD_pure (no_Pending) rfl rfl rfl ?_) | (refine vcall_pure (no_Room) rfl rfl rfl ?_) | (refine vcallD_pure (no_Room) rfl rfl rfl ?_) | (refine vcall_pure (no_Head) rfl rfl rfl ?_) | (refine vcallD_pure (no_Head) rfl rfl rfl ?_) | (refine vcall_glob (cA) rfl rfl rfl rfl ?_) | (refine vcallD_glob (cA) rfl rfl rfl rfl ?_) | ((first | apply br_dec | apply br_ndec) <;> intro h <;> try (exfalso; (try dsimp only at h); omega)) | ((first | apply br_seq | apply br_nseq | apply br_not | apply br_intro) <;> intro h) | refine cond_a ?_)
          all_goals (conv => whnf)
          all_goals first
            | (exfalso; omega)
            | (exfalso; exact h rfl)
            | exact ret_out (l := [0, 1]) rfl rfl trivial allRw_nil
end Go.Proofs.YtdlpmmdbdjlojaaGreatDoor

