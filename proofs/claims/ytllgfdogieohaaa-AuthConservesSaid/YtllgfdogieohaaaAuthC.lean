/- Contracts of package auth and of its reference. -/
import Derived.Test.YtllgfdogieohaaaTab
import Derived.Test.YtllgfdogieohaaaAuthPlain
namespace Go.Proofs.Ytllgfdogieohaaa
open Go.RowKit Go.Sx
attribute [local irreducible] vcall vloop callQ
set_option maxRecDepth 100000
set_option linter.unusedVariables false

theorem auth_funds (a : Au) : Pure Try.prog 22 [a.s] (.int .i64 (fundsW a)) := by
  refine fc_of mixed T_ok Try.func22 rfl (by kernel_rfl) (by kernel_rfl) (by kernel_rfl) ?_
  conv => whnf
  simp only [oneOr, fundsW]

theorem auth_isPart (n : Int) : Pure Try.prog 28 [.int .i64 n] (.bool (amountOk n)) := by
  refine fc_of mixed T_ok Try.func28 rfl (by kernel_rfl) (by kernel_rfl) (by kernel_rfl) ?_
  repeat' ((conv => whnf); refine br_intro (fun h => ?_) (fun h => ?_))
  all_goals (conv => whnf)
  all_goals (simp at h; simp [oneOr, cv, amountOk]; omega)

theorem ref_within (n a b : Int) : Pure Try.prog 31 [.int .i64 n, .int .i64 a, .int .i64 b] (.bool (decide (a ≤ n ∧ n ≤ b))) := by
  refine fc_of mixed T_ok Try.func31 rfl (by kernel_rfl) (by kernel_rfl) (by kernel_rfl) ?_
  repeat' ((conv => whnf); refine br_intro (fun h => ?_) (fun h => ?_))
  all_goals (conv => whnf)
  all_goals (simp at h; simp [oneOr, cv]; omega)

theorem auth_settled (a : Au) : Pure Try.prog 20 [a.s] ({a with st := stateOf a} : Au).s := by
  refine fc_of mixed T_ok Try.func20 rfl (by kernel_rfl) (by kernel_rfl) (by kernel_rfl) ?_
  repeat' ((conv => whnf); first | refine br_intro (fun h => ?_) (fun h => ?_) | refine vcall_pure (auth_funds a) rfl rfl ?_)
  all_goals (conv => whnf)
  all_goals (simp only [decide_eq_true_eq, decide_eq_false_iff_not] at *; simp [oneOr, stateOf, *])

theorem ref_state (a : Au) : Pure Try.prog 32 [a.s] (.int .i64 (stateOf a)) := by
  refine fc_of mixed T_ok Try.func32 rfl (by kernel_rfl) (by kernel_rfl) (by kernel_rfl) ?_
  repeat' ((conv => whnf); refine br_intro (fun h => ?_) (fun h => ?_))
  all_goals (conv => whnf)
  all_goals (simp only [decide_eq_true_eq, decide_eq_false_iff_not] at *; simp [oneOr, cv, stateOf, fundsW, *])

theorem auth_isId (s : ByteArray) : Pure Try.prog 26 [.str s] (.bool (idB s)) := by
  refine fc_of mixed T_ok Try.func26 rfl (by kernel_rfl) (by kernel_rfl) (by kernel_rfl) ?_
  (conv => whnf)
  refine br_dec (fun h1 => ?_) (fun h1 => ?_)
  · (conv => whnf); simp [oneOr, cv, idB]; omega
  (conv => whnf)
  refine br_dec (fun h2 => ?_) (fun h2 => ?_)
  · (conv => whnf); simp [oneOr, cv, idB]; omega
  (conv => whnf)
  refine vloop_of (fun k : Nat => ⟨[(0, .str s), (16, .int .i64 s.size), (17, .int .i64 k)], [], 0⟩) (fun k => k ≤ s.size ∧ allTo idCh s k) (fun k => s.size - k) 0 (weak_mk rfl rfl rfl (weakEnv_cons rfl (weakEnv_cons rfl (weakEnv_cons rfl weakEnv_nil))) weakHeap_nil) ⟨Nat.zero_le _, allTo_zero _ _⟩ ?_
  rintro k ⟨hk, hu⟩
  repeat' ((conv => whnf); first | (refine br_dec (fun h => ?_) (fun h => ?_) <;> try (exfalso; omega)) | (refine br_ndec (fun h => ?_) (fun h => ?_) <;> try (exfalso; omega)) | (refine idx_intro ?_ ?_ ?_; (omega); (omega)))
  all_goals (conv => whnf)
  all_goals first
    | (refine ⟨k + 1, ⟨by omega, allTo_succ hu ?_⟩, by omega, weak_mk rfl rfl rfl (weakEnv_cons rfl (weakEnv_cons rfl (weakEnv_cons ?_ weakEnv_nil))) weakHeap_nil⟩
       · simp [idCh]; simp at *; omega
       · show some (SV.int .i64 (IntKind.i64.wrap _)) = _
         rw [w64_in (by omega) (by omega)]; rfl)
    | (have hs : k = s.size := by omega
       subst hs
       simp [oneOr, cv, idB, allB_true hu]; omega)
    | (simp [oneOr, cv, idB, allB_false (p := idCh) (s := s) (k := k) (by omega) (by simp [idCh]; simp at *; omega)])
theorem ref_isId (s : ByteArray) : Pure Try.prog 29 [.str s] (.bool (idB s)) := by
  refine fc_of mixed T_ok Try.func29 rfl (by kernel_rfl) (by kernel_rfl) (by kernel_rfl) ?_
  (conv => whnf)
  refine br_dec (fun h1 => ?_) (fun h1 => ?_)
  · (conv => whnf); simp [oneOr, cv, idB]; omega
  (conv => whnf)
  refine br_dec (fun h2 => ?_) (fun h2 => ?_)
  · (conv => whnf); simp [oneOr, cv, idB]; omega
  (conv => whnf)
  refine vloop_of (fun k : Nat => ⟨[(0, .str s), (3, .int .i64 k)], [], 0⟩) (fun k => k ≤ s.size ∧ allTo idCh s k) (fun k => s.size - k) 0 (weak_mk rfl rfl rfl (weakEnv_cons rfl (weakEnv_cons rfl weakEnv_nil)) weakHeap_nil) ⟨Nat.zero_le _, allTo_zero _ _⟩ ?_
  rintro k ⟨hk, hu⟩
  repeat' ((conv => whnf); first | (refine br_dec (fun h => ?_) (fun h => ?_) <;> try (exfalso; omega)) | (refine br_ndec (fun h => ?_) (fun h => ?_) <;> try (exfalso; omega)) | (refine idx_intro ?_ ?_ ?_; (omega); (omega)))
  all_goals (conv => whnf)
  all_goals first
    | (refine ⟨k + 1, ⟨by omega, allTo_succ hu ?_⟩, by omega, weak_mk rfl rfl rfl (weakEnv_cons rfl (weakEnv_cons ?_ weakEnv_nil)) weakHeap_nil⟩
       · simp [idCh]; simp at *; omega
       · show some (SV.int .i64 (IntKind.i64.wrap _)) = _
         rw [w64_in (by omega) (by omega)]; rfl)
    | (have hs : k = s.size := by omega
       subst hs
       simp [oneOr, cv, idB, allB_true hu]; omega)
    | (simp [oneOr, cv, idB, allB_false (p := idCh) (s := s) (k := k) (by omega) (by simp [idCh]; simp at *; omega)])

theorem auth_isCur (s : ByteArray) : Pure Try.prog 27 [.str s] (.bool (curB s)) := by
  refine fc_of mixed T_ok Try.func27 rfl (by kernel_rfl) (by kernel_rfl) (by kernel_rfl) ?_
  (conv => whnf)
  refine br_ndec (fun h1 => ?_) (fun h1 => ?_)
  · (conv => whnf); simp [oneOr, cv, curB]; omega
  (conv => whnf)
  refine vloop_of (fun k : Nat => ⟨[(0, .str s), (8, .int .i64 s.size), (9, .int .i64 k)], [], 0⟩) (fun k => k ≤ s.size ∧ allTo curCh s k) (fun k => s.size - k) 0 (weak_mk rfl rfl rfl (weakEnv_cons rfl (weakEnv_cons rfl (weakEnv_cons rfl weakEnv_nil))) weakHeap_nil) ⟨Nat.zero_le _, allTo_zero _ _⟩ ?_
  rintro k ⟨hk, hu⟩
  repeat' ((conv => whnf); first | (refine br_dec (fun h => ?_) (fun h => ?_) <;> try (exfalso; omega)) | (refine br_ndec (fun h => ?_) (fun h => ?_) <;> try (exfalso; omega)) | refine br_seq (fun h => ?_) (fun h => ?_) | refine br_nseq (fun h => ?_) (fun h => ?_) | refine br_not (fun h => ?_) (fun h => ?_) | refine br_intro (fun h => ?_) (fun h => ?_) | (refine idx_intro ?_ ?_ ?_; (omega); (omega)) | (refine nz_intro ?_ ?_; (first | decide | omega)) | (refine lt_intro ?_ ?_; (omega)))
  all_goals (conv => whnf)
  all_goals first
    | (refine ⟨k + 1, ⟨by omega, allTo_succ hu ?_⟩, by omega, weak_mk rfl rfl rfl (weakEnv_cons rfl (weakEnv_cons rfl (weakEnv_cons ?_ weakEnv_nil))) weakHeap_nil⟩
       · simp [curCh]; simp at *; omega
       · show some (SV.int .i64 (IntKind.i64.wrap _)) = _
         rw [w64_in (by omega) (by omega)]; rfl)
    | (have hs : k = s.size := by omega
       subst hs
       simp [oneOr, cv, curB, allB_true hu]; omega)
    | (simp [oneOr, cv, curB, allB_false (p := curCh) (s := s) (k := k) (by omega) (by simp [curCh]; simp at *; omega)])

theorem ref_isCur (s : ByteArray) : Pure Try.prog 30 [.str s] (.bool (curB s)) := by
  refine fc_of mixed T_ok Try.func30 rfl (by kernel_rfl) (by kernel_rfl) (by kernel_rfl) ?_
  repeat' ((conv => whnf); first | (refine br_dec (fun h => ?_) (fun h => ?_) <;> try (exfalso; omega)) | (refine br_ndec (fun h => ?_) (fun h => ?_) <;> try (exfalso; omega)) | refine br_seq (fun h => ?_) (fun h => ?_) | refine br_nseq (fun h => ?_) (fun h => ?_) | refine br_not (fun h => ?_) (fun h => ?_) | refine br_intro (fun h => ?_) (fun h => ?_) | (refine idx_intro ?_ ?_ ?_; (omega); (omega)) | (refine nz_intro ?_ ?_; (first | decide | omega)) | (refine lt_intro ?_ ?_; (omega)))
  all_goals (conv => whnf)
  all_goals simp only [oneOr, cv, SV.bool.injEq]
  · by_cases h2 : byteAt s 2 ≤ 90
    · rw [curB_of3 s (by assumption) (by assumption) (by assumption) (by assumption) (by assumption) (by assumption) h2]; simp [h2]
    · rw [curB_not s 2 (by omega) (fun x => h2 x.2)]; simp [h2]
  · rw [curB_not s 2 (by omega) (fun x => by rename_i h; exact h x.1)]
  · rw [curB_not s 1 (by omega) (fun x => by rename_i h; exact h x.2)]
  · rw [curB_not s 1 (by omega) (fun x => by rename_i h; exact h x.1)]
  · rw [curB_not s 0 (by omega) (fun x => by rename_i h; exact h x.2)]
  · rw [curB_not s 0 (by omega) (fun x => by rename_i h; exact h x.1)]
  · simp [curB]; omega

end Go.Proofs.Ytllgfdogieohaaa
