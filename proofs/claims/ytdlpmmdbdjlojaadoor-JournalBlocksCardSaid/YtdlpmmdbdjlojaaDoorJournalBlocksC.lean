/- Several texts in one: XJrN. -/
import Derived.Test.YtdlpmmdbdjlojaaDoorJb2
/- The law JournalBlocks. -/
namespace Go.Proofs.YtdlpmmdbdjlojaaDoor
open Go.RowKit Go.Sy
attribute [local irreducible] vcall vloop vcallD retP
set_option maxRecDepth 100000
set_option linter.unusedVariables false
set_option linter.unusedSimpArgs false
attribute [local irreducible] rsT

theorem journalBlocks_fc (n0 : Int) (hw0 : (Lit.int .u64 n0).wf = true) (l1 : Nat) (hl1 : l1 ≤ maxLen) (q1_0 : List ByteArray) (eq1_0 : q1_0.length = l1) (wq1_0 : ∀ x ∈ q1_0, x.size ≤ maxLen) :
    FC Tryd.prog 2 3 [.int .u64 n0, .sl 1 0 0 l1] [(0, some (GB glT)), (1, some (.one true (.cols l1 [.sc (.strs q1_0)])))] (isOut (.bool true) [] 2) := by
  have c0 := law_long q1_0 l1 20000 hl1
  have cA := law_awake
  cases hlg : longB q1_0 l1 20000 with
  | true =>
    rw [hlg] at c0
    refine fc_of mixed T_ok Tryd.func3 rfl (by kernel_rfl) (by kernel_rfl) (by kernel_rfl) ?_
    repeat' ((conv => whnf); first | refine vcall_o (l := [0, 1]) (c0) ?_ | refine vcallD_o (l := [0, 1]) (c0) ?_ | (refine vcall_glob (cA) rfl rfl rfl rfl ?_) | (refine vcallD_glob (cA) rfl rfl rfl rfl ?_) | ((first | apply br_dec | apply br_ndec) <;> intro h <;> try (exfalso; (try dsimp only at h); omega)) | ((first | apply br_seq | apply br_nseq | apply br_not | apply br_intro) <;> intro h) | refine cond_a ?_)
    all_goals (conv => whnf)
    all_goals exact ret_out (l := [0, 1]) rfl rfl trivial allRw_nil
  | false =>
    rw [hlg] at c0
    have h300 := long_no hlg
    by_cases he : cutE q1_0 = 0
    · have c1 := jr_Blocks n0 q1_0 l1 eq1_0 he
      have c2 := ref_Blocks n0 q1_0 l1 eq1_0 he
      have ok : okR q1_0 := by
        unfold cutE at he
        split at he
        · omega
        · split at he
          · omega
          · refine longK_ok ?_
            cases h : longK q1_0 q1_0.length with
            | false => rfl
            | true => rw [if_pos h] at he; omega
      have hnb : nblk (strm q1_0) ≤ 30000 := by
        have := szK_le ok q1_0.length
        rw [nblk_sz ok]; omega
      obtain ⟨N, hN⟩ : ∃ N, nblk (strm q1_0) = N := ⟨_, rfl⟩
      obtain ⟨B, hB⟩ : ∃ B, bkL n0 (strm q1_0) N = B := ⟨_, rfl⟩
      rw [hN, hB] at c1 c2
      rw [hN] at hnb
      have hBl : B.length = N := by rw [← hB]; exact bkL_length _ _ _
      have c3 := law_same B N hBl (by unfold maxLen; omega)
      have hsz : ∀ i, i < N → 20 ≤ (B.getD i ⟨#[]⟩).size ∧ (B.getD i ⟨#[]⟩).size ≤ 64 := by
        intro i hi
        rw [← hB, bkL_get _ _ hi, bK_size]
        have hnb' := hN
        unfold nblk at hnb'
        omega
      refine fc_of mixed T_ok Tryd.func3 rfl (by kernel_rfl) (by kernel_rfl) (by kernel_rfl) ?_
      repeat' ((conv => whnf); first | refine vcall_o (l := [0, 1]) (c0) ?_ | refine vcallD_o (l := [0, 1]) (c0) ?_ | refine vcall_o (l := [0, 1]) (c1) ?_ | refine vcallD_o (l := [0, 1]) (c1) ?_ | refine vcall_o (l := [0, 1]) (c2) ?_ | refine vcallD_o (l := [0, 1]) (c2) ?_ | refine vcall_o (l := [0, 2, 3]) (c3) ?_ | refine vcallD_o (l := [0, 2, 3]) (c3) ?_ | ((first | apply br_dec | apply br_ndec) <;> intro h <;> try (exfalso; (try dsimp only at h); omega)) | ((first | apply br_seq | apply br_nseq | apply br_not | apply br_intro) <;> intro h) | refine cond_a ?_)
      all_goals (conv => whnf)
      all_goals first
        | (exfalso; exact h rfl)
        | skip
      refine vloop_of (fun k : Nat => ⟨[(5, .sl 2 0 0 N), (9, .int .i64 k)], [(0, some (GB glT)), (2, grW N B)], 3⟩) (fun k => k ≤ N) (fun k => N - k) 0 [0, 1, 2] [] ⟨rfl, ⟨rfl, rfl, trivial⟩, ⟨gwk rfl, rfl, trivial⟩⟩ (Nat.zero_le _) ?_
      intro k hk
      by_cases hlt : k < N
      · obtain ⟨s1, s2⟩ := hsz k hlt
        repeat' ((conv => whnf); first | ((first | apply br_dec | apply br_ndec) <;> intro h <;> try (exfalso; (try dsimp only at h); omega)) | ((first | apply br_seq | apply br_nseq | apply br_not | apply br_intro) <;> intro h) | refine cond_a ?_)
        all_goals (conv => whnf)
        all_goals first
          | (exfalso; omega)
          | (exfalso; have h' : ((B.getD k ⟨#[]⟩).size : Int) < 20 := h; omega)
          | (exfalso; have h' : (64 : Int) < ((B.getD k ⟨#[]⟩).size : Int) := h; omega)
          | exact ⟨k + 1, [0, 1, 2], [], by omega, by omega, ⟨rfl, ⟨rfl, congrArg (fun z => some (SV.int .i64 z)) (i64_succ (by omega)), trivial⟩, ⟨gwk rfl, rfl, trivial⟩⟩⟩
      · obtain rfl : k = N := by omega
        repeat' ((conv => whnf); first | (refine vcall_glob (cA) rfl rfl rfl rfl ?_) | (refine vcallD_glob (cA) rfl rfl rfl rfl ?_) | ((first | apply br_dec | apply br_ndec) <;> intro h <;> try (exfalso; (try dsimp only at h); omega)) | ((first | apply br_seq | apply br_nseq | apply br_not | apply br_intro) <;> intro h) | refine cond_a ?_)
        all_goals (conv => whnf)
        all_goals first
          | (exfalso; omega)
          | exact ret_out (l := [0, 1]) rfl rfl trivial allRw_nil
    · have c1 := jr_Blocks_no n0 q1_0 l1 eq1_0 he hl1
      have c2 := ref_Blocks_no n0 q1_0 l1 eq1_0 he hl1
      have c3 := law_sameN
      obtain ⟨E, hE⟩ : ∃ E, cutE q1_0 = E := ⟨_, rfl⟩
      rw [hE] at c1 c2
      refine fc_of mixed T_ok Tryd.func3 rfl (by kernel_rfl) (by kernel_rfl) (by kernel_rfl) ?_
      repeat' ((conv => whnf); first | refine vcall_o (l := [0, 1]) (c0) ?_ | refine vcallD_o (l := [0, 1]) (c0) ?_ | refine vcall_o (l := [0, 1]) (c1) ?_ | refine vcallD_o (l := [0, 1]) (c1) ?_ | refine vcall_o (l := [0, 1]) (c2) ?_ | refine vcallD_o (l := [0, 1]) (c2) ?_ | (refine vcall_pure (c3) rfl rfl rfl ?_) | (refine vcallD_pure (c3) rfl rfl rfl ?_) | ((first | apply br_dec | apply br_ndec) <;> intro h <;> try (exfalso; (try dsimp only at h); omega)) | ((first | apply br_seq | apply br_nseq | apply br_not | apply br_intro) <;> intro h) | refine cond_a ?_)
      all_goals (conv => whnf)
      all_goals first
        | (exfalso; exact h rfl)
        | skip
      refine vloop_of (fun _ : Unit => ⟨[(5, .nsl), (9, .int .i64 0)], [(0, some (GB glT))], 2⟩) (fun _ => True) (fun _ => 0) () [0, 1] [] ⟨rfl, ⟨rfl, rfl, trivial⟩, ⟨gwk rfl, trivial⟩⟩ trivial ?_
      intro _ _
      repeat' ((conv => whnf); first | (refine vcall_glob (cA) rfl rfl rfl rfl ?_) | (refine vcallD_glob (cA) rfl rfl rfl rfl ?_) | ((first | apply br_dec | apply br_ndec) <;> intro h <;> try (exfalso; (try dsimp only at h); omega)) | ((first | apply br_seq | apply br_nseq | apply br_not | apply br_intro) <;> intro h) | refine cond_a ?_)
      all_goals (conv => whnf)
      all_goals exact ret_out (l := [0, 1]) rfl rfl trivial allRw_nil
end Go.Proofs.YtdlpmmdbdjlojaaDoor

