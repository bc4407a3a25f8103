/- Contracts of package auth and of its reference. -/
import Derived.Test.YtllgfdogieohaaaAuthC2
namespace Go.Proofs.Ytllgfdogieohaaa
open Go.RowKit Go.Sx
attribute [local irreducible] vcall vloop callQ
set_option maxRecDepth 100000
set_option linter.unusedVariables false


theorem auth_new (id cur : ByteArray) (n at_ un : Int) : Pure Try.prog 8 [.str id, .str cur, .int .i64 n, .int .i64 at_, .int .i64 un] (t2 (newZ id cur n at_ un)) := by
  refine fc_of mixed T_ok Try.func8 rfl (by kernel_rfl) (by kernel_rfl) (by kernel_rfl) ?_
  repeat' ((conv => whnf); first | (refine vcall_pure (auth_checkX _ _ _ _ _ _ _ _ _ _) rfl rfl ?_) | (refine vcall_pure (auth_settledX _ _ _ _ _ _ _ _ _ _) rfl rfl ?_) | (refine br_dec (fun h => ?_) (fun h => ?_) <;> try (exfalso; omega)) | (refine br_ndec (fun h => ?_) (fun h => ?_) <;> try (exfalso; omega)) | refine br_seq (fun h => ?_) (fun h => ?_) | refine br_nseq (fun h => ?_) (fun h => ?_) | refine br_not (fun h => ?_) (fun h => ?_) | refine br_intro (fun h => ?_) (fun h => ?_) | (refine idx_intro ?_ ?_ ?_; (omega); (omega)) | (refine nz_intro ?_ ?_; (first | decide | omega)) | (refine lt_intro ?_ ?_; (omega)))
  all_goals (conv => whnf)
  all_goals simp only [oneOr, cv] at *
  all_goals
    have e := new_check id cur n at_ un
    rw [e.1] at h
    unfold newZ
  · rw [e.1]; simp [h, Au.zero]
  · simp [h, e.2 h]
theorem ref_new (id cur : ByteArray) (n at_ un : Int) : Pure Try.prog 11 [.str id, .str cur, .int .i64 n, .int .i64 at_, .int .i64 un] (t2 (newZ id cur n at_ un)) := by
  refine fc_of mixed T_ok Try.func11 rfl (by kernel_rfl) (by kernel_rfl) (by kernel_rfl) ?_
  repeat' ((conv => whnf); first | (refine vcall_pure (ref_checkX _ _ _ _ _ _ _ _ _ _) rfl rfl ?_) | (refine br_dec (fun h => ?_) (fun h => ?_) <;> try (exfalso; omega)) | (refine br_ndec (fun h => ?_) (fun h => ?_) <;> try (exfalso; omega)) | refine br_seq (fun h => ?_) (fun h => ?_) | refine br_nseq (fun h => ?_) (fun h => ?_) | refine br_not (fun h => ?_) (fun h => ?_) | refine br_intro (fun h => ?_) (fun h => ?_) | (refine idx_intro ?_ ?_ ?_; (omega); (omega)) | (refine nz_intro ?_ ?_; (first | decide | omega)) | (refine lt_intro ?_ ?_; (omega)))
  all_goals (conv => whnf)
  all_goals simp only [oneOr, cv] at *
  all_goals (unfold newZ; simp [*, Au.zero])
theorem auth_raise (a : Au) (n u : Int) : Pure Try.prog 23 [a.s, .int .i64 n, .int .i64 u] (t2 (raiseZ a n u)) := by
  refine fc_of mixed T_ok Try.func23 rfl (by kernel_rfl) (by kernel_rfl) (by kernel_rfl) ?_
  repeat' ((conv => whnf); first | (refine vcall_pure (auth_usable a) rfl rfl ?_) | (refine vcall_pure (auth_fundsX _ _ _ _ _ _ _ _ _ _) rfl rfl ?_) | (refine vcall_pure (auth_settledX _ _ _ _ _ _ _ _ _ _) rfl rfl ?_) | (refine br_dec (fun h => ?_) (fun h => ?_) <;> try (exfalso; omega)) | (refine br_ndec (fun h => ?_) (fun h => ?_) <;> try (exfalso; omega)) | refine br_seq (fun h => ?_) (fun h => ?_) | refine br_nseq (fun h => ?_) (fun h => ?_) | refine br_not (fun h => ?_) (fun h => ?_) | refine br_intro (fun h => ?_) (fun h => ?_) | (refine idx_intro ?_ ?_ ?_; (omega); (omega)) | (refine nz_intro ?_ ?_; (first | decide | omega)) | (refine lt_intro ?_ ?_; (omega)))
  all_goals (conv => whnf)
  all_goals simp only [oneOr, cv, Au.eta] at *
  · simp [raiseZ, Au.zero, *]
  all_goals
    obtain ⟨f, hs, hp, ho, hc, hx⟩ := usable_facts (by assumption)
    have f1 := f.app; have f2 := f.rev; have f3 := f.cle; have f4 := f.exp; have f5 := f.funds
    have ew : IntKind.i64.wrap (999999999999 - a.app) = 999999999999 - a.app := w64_in (by omega) (by omega)
    unfold raiseZ
  · rw [if_neg (by simp [*]), if_pos (by omega)]; simp [Au.zero]
  · rw [if_neg (by simp [*]), if_pos (by omega)]; simp [Au.zero]
  · rw [if_neg (by simp [*]), if_neg (by omega), if_pos (by omega)]; simp [Au.zero]
  · rw [if_neg (by simp [*]), if_neg (by omega), if_pos (by omega)]; simp [Au.zero]
  · rw [if_neg (by simp [*]), if_neg (by omega), if_neg (by omega)]
    have e1 : IntKind.i64.wrap (a.app + n) = a.app + n := w64_in (by omega) (by omega)
    rw [e1]
    have e2 : stateOf ⟨a.id, a.cur, a.app + n, a.rev, a.cle, a.exp, a.st, a.att, u, a.pa⟩ = 1 := by
      unfold stateOf
      rw [fundsW_eq _ (by simp; omega) (by simp; omega) (by simp; omega) (by simp; omega) (by simp; omega) (by simp; omega) (by simp; omega) (by simp; omega)]
      simp; omega
    rw [e2]; simp [hs]
theorem ref_raise (a : Au) (n u : Int) : Pure Try.prog 33 [a.s, .int .i64 n, .int .i64 u] (t2 (raiseZ a n u)) := by
  refine fc_of mixed T_ok Try.func33 rfl (by kernel_rfl) (by kernel_rfl) (by kernel_rfl) ?_
  repeat' ((conv => whnf); first | (refine vcall_pure (ref_usable a) rfl rfl ?_) | (refine vcall_pure (ref_openX _ _ _ _ _ _ _ _ _ _) rfl rfl ?_) | (refine vcall_pure (ref_stateX _ _ _ _ _ _ _ _ _ _) rfl rfl ?_) | (refine vcall_pure (ref_within _ _ _) rfl rfl ?_) | (refine br_dec (fun h => ?_) (fun h => ?_) <;> try (exfalso; omega)) | (refine br_ndec (fun h => ?_) (fun h => ?_) <;> try (exfalso; omega)) | refine br_seq (fun h => ?_) (fun h => ?_) | refine br_nseq (fun h => ?_) (fun h => ?_) | refine br_not (fun h => ?_) (fun h => ?_) | refine br_intro (fun h => ?_) (fun h => ?_) | (refine idx_intro ?_ ?_ ?_; (omega); (omega)) | (refine nz_intro ?_ ?_; (first | decide | omega)) | (refine lt_intro ?_ ?_; (omega)))
  all_goals (conv => whnf)
  all_goals simp only [oneOr, cv] at *
  · simp [raiseZ, Au.zero, *]
  all_goals
    obtain ⟨f, hs, hp, ho, hc, hx⟩ := usable_facts (by assumption)
    have f1 := f.app; have f2 := f.rev; have f3 := f.cle; have f4 := f.exp; have f5 := f.funds; have f6 := f.pa
    have ew : IntKind.i64.wrap (999999999999 - a.app) = 999999999999 - a.app := w64_in (by omega) (by omega)
    unfold raiseZ
  · rw [if_neg (by simp [*]), if_pos (by omega)]; simp [Au.zero]
  · rw [if_neg (by simp [*]), if_neg (by omega), if_pos (by omega)]; simp [Au.zero]
  · rw [if_neg (by simp [*]), if_neg (by omega), if_pos (by omega)]; simp [Au.zero]
  · rw [if_neg (by simp [*]), if_neg (by omega), if_neg (by omega)]
    have e1 : IntKind.i64.wrap (a.app + n) = a.app + n := w64_in (by omega) (by omega)
    rw [e1]
theorem auth_reverse (a : Au) (n : Int) : Pure Try.prog 24 [a.s, .int .i64 n] (t3 (reverseZ a n)) := by
  refine fc_of mixed T_ok Try.func24 rfl (by kernel_rfl) (by kernel_rfl) (by kernel_rfl) ?_
  repeat' ((conv => whnf); first | (refine vcall_pure (auth_usable a) rfl rfl ?_) | (refine vcall_pure (auth_fundsX _ _ _ _ _ _ _ _ _ _) rfl rfl ?_) | (refine vcall_pure (auth_settledX _ _ _ _ _ _ _ _ _ _) rfl rfl ?_) | (refine br_dec (fun h => ?_) (fun h => ?_) <;> try (exfalso; omega)) | (refine br_ndec (fun h => ?_) (fun h => ?_) <;> try (exfalso; omega)) | refine br_seq (fun h => ?_) (fun h => ?_) | refine br_nseq (fun h => ?_) (fun h => ?_) | refine br_not (fun h => ?_) (fun h => ?_) | refine br_intro (fun h => ?_) (fun h => ?_) | (refine idx_intro ?_ ?_ ?_; (omega); (omega)) | (refine nz_intro ?_ ?_; (first | decide | omega)) | (refine lt_intro ?_ ?_; (omega)))
  all_goals (conv => whnf)
  all_goals simp only [oneOr, cv, Au.eta] at *
  · simp [reverseZ, Au.zero, *]
  all_goals
    obtain ⟨f, hs, hp, ho, hc, hx⟩ := usable_facts (by assumption)
    have f1 := f.app; have f2 := f.rev; have f3 := f.cle; have f4 := f.exp; have f5 := f.funds; have f6 := f.pa
    unfold reverseZ
  · rw [if_neg (by simp [*]), if_pos (by omega)]; simp [Au.zero]
  · rw [if_neg (by simp [*]), if_pos (by omega)]; simp [Au.zero]
  · rw [if_neg (by simp [*]), if_neg (by omega)]
    have e1 : IntKind.i64.wrap (a.rev + fundsW a) = a.rev + fundsW a := w64_in (by omega) (by omega)
    rw [e1]; simp [h]
  · rw [if_neg (by simp [*]), if_neg (by omega)]
    have e1 : IntKind.i64.wrap (a.rev + n) = a.rev + n := w64_in (by omega) (by omega)
    rw [e1]; simp [h]
theorem ref_reverse (a : Au) (n : Int) : Pure Try.prog 34 [a.s, .int .i64 n] (t3 (reverseZ a n)) := by
  refine fc_of mixed T_ok Try.func34 rfl (by kernel_rfl) (by kernel_rfl) (by kernel_rfl) ?_
  repeat' ((conv => whnf); first | (refine vcall_pure (ref_usable a) rfl rfl ?_) | (refine vcall_pure (ref_openX _ _ _ _ _ _ _ _ _ _) rfl rfl ?_) | (refine vcall_pure (ref_stateX _ _ _ _ _ _ _ _ _ _) rfl rfl ?_) | (refine vcall_pure (ref_within _ _ _) rfl rfl ?_) | (refine br_dec (fun h => ?_) (fun h => ?_) <;> try (exfalso; omega)) | (refine br_ndec (fun h => ?_) (fun h => ?_) <;> try (exfalso; omega)) | refine br_seq (fun h => ?_) (fun h => ?_) | refine br_nseq (fun h => ?_) (fun h => ?_) | refine br_not (fun h => ?_) (fun h => ?_) | refine br_intro (fun h => ?_) (fun h => ?_) | (refine idx_intro ?_ ?_ ?_; (omega); (omega)) | (refine nz_intro ?_ ?_; (first | decide | omega)) | (refine lt_intro ?_ ?_; (omega)))
  all_goals (conv => whnf)
  all_goals simp only [oneOr, cv, Au.eta] at *
  · simp [reverseZ, Au.zero, *]
  all_goals
    obtain ⟨f, hs, hp, ho, hc, hx⟩ := usable_facts (by assumption)
    have f1 := f.app; have f2 := f.rev; have f3 := f.cle; have f4 := f.exp; have f5 := f.funds; have f6 := f.pa
    try rw [ho]
    unfold reverseZ
  · rw [if_neg (by simp [*]), if_pos (by omega)]; simp [Au.zero]
  · rw [if_neg (by simp [*]), if_neg (by omega)]
    have e1 : IntKind.i64.wrap (a.rev + fundsW a) = a.rev + fundsW a := w64_in (by omega) (by omega)
    rw [e1]; simp [h]
  · rw [if_neg (by simp [*]), if_neg (by omega)]
    have e1 : IntKind.i64.wrap (a.rev + n) = a.rev + n := w64_in (by omega) (by omega)
    rw [e1]; simp [h]
theorem auth_clear (a : Au) (n : Int) (b : Bool) : Pure Try.prog 10 [a.s, .int .i64 n, .bool b] (t4 (clearZ a n b)) := by
  refine fc_of mixed T_ok Try.func10 rfl (by kernel_rfl) (by kernel_rfl) (by kernel_rfl) ?_
  repeat' ((conv => whnf); first | (refine vcall_pure (auth_usable a) rfl rfl ?_) | (refine vcall_pure (auth_fundsX _ _ _ _ _ _ _ _ _ _) rfl rfl ?_) | (refine vcall_pure (auth_settledX _ _ _ _ _ _ _ _ _ _) rfl rfl ?_) | (refine br_dec (fun h => ?_) (fun h => ?_) <;> try (exfalso; omega)) | (refine br_ndec (fun h => ?_) (fun h => ?_) <;> try (exfalso; omega)) | refine br_seq (fun h => ?_) (fun h => ?_) | refine br_nseq (fun h => ?_) (fun h => ?_) | refine br_not (fun h => ?_) (fun h => ?_) | refine br_intro (fun h => ?_) (fun h => ?_) | (refine idx_intro ?_ ?_ ?_; (omega); (omega)) | (refine nz_intro ?_ ?_; (first | decide | omega)) | (refine lt_intro ?_ ?_; (omega)))
  all_goals (conv => whnf)
  all_goals simp only [oneOr, cv, Au.eta] at *
  · simp [clearZ, Au.zero, *]
  all_goals
    obtain ⟨f, hs, hp, ho, hc, hx⟩ := usable_facts (by assumption)
    have f1 := f.app; have f2 := f.rev; have f3 := f.cle; have f4 := f.exp; have f5 := f.funds; have f6 := f.pa
    unfold clearZ
  · rw [if_neg (by simp [*]), if_pos (by omega)]; simp [Au.zero]
  · rw [if_neg (by simp [*]), if_pos (by omega)]; simp [Au.zero]
  · rw [if_neg (by simp [*]), if_neg (by omega), if_pos (by omega)]; simp [Au.zero]
  · rw [if_neg (by simp [*]), if_neg (by omega), if_neg (by omega)]
    have hm : 0 < min n (fundsW a) ∧ min n (fundsW a) ≤ fundsW a := by omega
    have e1 : IntKind.i64.wrap (a.cle + min n (fundsW a)) = a.cle + min n (fundsW a) := w64_in (by omega) (by omega)
    have e2 : IntKind.i64.wrap (a.pa + 1) = a.pa + 1 := w64_in (by omega) (by omega)
    rw [e1, e2]
    have e3 : fundsW ⟨a.id, a.cur, a.app, a.rev, a.cle + min n (fundsW a), a.exp, a.st, a.att, a.unt, a.pa + 1⟩ = fundsW a - min n (fundsW a) := by
      rw [fundsW_eq _ (by simp; omega) (by simp; omega) (by simp; omega) (by simp; omega) (by simp; omega) (by simp; omega) (by simp; omega) (by simp; omega)]
      simp only; omega
    rw [e3]
    have e4 : IntKind.i64.wrap (a.rev + (fundsW a - min n (fundsW a))) = a.rev + (fundsW a - min n (fundsW a)) := w64_in (by omega) (by omega)
    rw [e4]
    simp [h]
  · rw [if_neg (by simp [*]), if_neg (by omega), if_neg (by omega)]
    have hm : 0 < min n (fundsW a) ∧ min n (fundsW a) ≤ fundsW a := by omega
    have e1 : IntKind.i64.wrap (a.cle + min n (fundsW a)) = a.cle + min n (fundsW a) := w64_in (by omega) (by omega)
    have e2 : IntKind.i64.wrap (a.pa + 1) = a.pa + 1 := w64_in (by omega) (by omega)
    rw [e1, e2]
    simp [h]
theorem ref_clear (a : Au) (n : Int) (b : Bool) : Pure Try.prog 36 [a.s, .int .i64 n, .bool b] (t4 (clearZ a n b)) := by
  refine fc_of mixed T_ok Try.func36 rfl (by kernel_rfl) (by kernel_rfl) (by kernel_rfl) ?_
  repeat' ((conv => whnf); first | (refine vcall_pure (ref_usable a) rfl rfl ?_) | (refine vcall_pure (ref_openX _ _ _ _ _ _ _ _ _ _) rfl rfl ?_) | (refine vcall_pure (ref_stateX _ _ _ _ _ _ _ _ _ _) rfl rfl ?_) | (refine vcall_pure (ref_within _ _ _) rfl rfl ?_) | (refine br_dec (fun h => ?_) (fun h => ?_) <;> try (exfalso; omega)) | (refine br_ndec (fun h => ?_) (fun h => ?_) <;> try (exfalso; omega)) | refine br_seq (fun h => ?_) (fun h => ?_) | refine br_nseq (fun h => ?_) (fun h => ?_) | refine br_not (fun h => ?_) (fun h => ?_) | refine br_intro (fun h => ?_) (fun h => ?_) | (refine idx_intro ?_ ?_ ?_; (omega); (omega)) | (refine nz_intro ?_ ?_; (first | decide | omega)) | (refine lt_intro ?_ ?_; (omega)))
  all_goals (conv => whnf)
  all_goals simp only [oneOr, cv, Au.eta] at *
  · simp [clearZ, Au.zero, *]
  all_goals
    obtain ⟨f, hs, hp, ho, hc, hx⟩ := usable_facts (by assumption)
    have f1 := f.app; have f2 := f.rev; have f3 := f.cle; have f4 := f.exp; have f5 := f.funds; have f6 := f.pa
    try rw [ho]
    unfold clearZ
  · rw [if_neg (by simp [*]), if_pos (by omega)]; simp [Au.zero]
  · rw [if_neg (by simp [*]), if_neg (by omega), if_pos (by omega)]; simp [Au.zero]
  · rw [if_neg (by simp [*]), if_neg (by omega), if_neg (by omega)]
    have hm : 0 < min n (fundsW a) ∧ min n (fundsW a) ≤ fundsW a := by omega
    have e1 : IntKind.i64.wrap (a.cle + min n (fundsW a)) = a.cle + min n (fundsW a) := w64_in (by omega) (by omega)
    have e2 : IntKind.i64.wrap (a.pa + 1) = a.pa + 1 := w64_in (by omega) (by omega)
    have e3 : IntKind.i64.wrap (fundsW a - min n (fundsW a)) = fundsW a - min n (fundsW a) := w64_in (by omega) (by omega)
    have e4 : IntKind.i64.wrap (a.rev + (fundsW a - min n (fundsW a))) = a.rev + (fundsW a - min n (fundsW a)) := w64_in (by omega) (by omega)
    rw [e1, e2, e3, e4]
    simp [h]
  · rw [if_neg (by simp [*]), if_neg (by omega), if_neg (by omega)]
    have hm : 0 < min n (fundsW a) ∧ min n (fundsW a) ≤ fundsW a := by omega
    have e1 : IntKind.i64.wrap (a.cle + min n (fundsW a)) = a.cle + min n (fundsW a) := w64_in (by omega) (by omega)
    have e2 : IntKind.i64.wrap (a.pa + 1) = a.pa + 1 := w64_in (by omega) (by omega)
    have e3 : IntKind.i64.wrap (a.rev + 0) = a.rev := by rw [w64_in (by omega) (by omega)]; omega
    rw [e1, e2, e3]
    simp [h]
theorem auth_expire (a : Au) (n : Int) : Pure Try.prog 25 [a.s, .int .i64 n] (t3 (expireZ a n)) := by
  refine fc_of mixed T_ok Try.func25 rfl (by kernel_rfl) (by kernel_rfl) (by kernel_rfl) ?_
  repeat' ((conv => whnf); first | (refine vcall_pure (auth_usable a) rfl rfl ?_) | (refine vcall_pure (auth_fundsX _ _ _ _ _ _ _ _ _ _) rfl rfl ?_) | (refine vcall_pure (auth_settledX _ _ _ _ _ _ _ _ _ _) rfl rfl ?_) | (refine br_dec (fun h => ?_) (fun h => ?_) <;> try (exfalso; omega)) | (refine br_ndec (fun h => ?_) (fun h => ?_) <;> try (exfalso; omega)) | refine br_seq (fun h => ?_) (fun h => ?_) | refine br_nseq (fun h => ?_) (fun h => ?_) | refine br_not (fun h => ?_) (fun h => ?_) | refine br_intro (fun h => ?_) (fun h => ?_) | (refine idx_intro ?_ ?_ ?_; (omega); (omega)) | (refine nz_intro ?_ ?_; (first | decide | omega)) | (refine lt_intro ?_ ?_; (omega)))
  all_goals (conv => whnf)
  all_goals simp only [oneOr, cv, Au.eta] at *
  · simp [expireZ, Au.zero, *]
  all_goals
    obtain ⟨f, hs, hp, ho, hc, hx⟩ := usable_facts (by assumption)
    have f1 := f.app; have f2 := f.rev; have f3 := f.cle; have f4 := f.exp; have f5 := f.funds; have f6 := f.pa
    unfold expireZ
  · rw [if_neg (by simp [*]), if_pos (by omega)]; simp [Au.zero]
  · rw [if_neg (by simp [*]), if_neg (by omega)]
    have e1 : IntKind.i64.wrap (a.exp + fundsW a) = a.exp + fundsW a := w64_in (by omega) (by omega)
    rw [e1]
theorem ref_expire (a : Au) (n : Int) : Pure Try.prog 35 [a.s, .int .i64 n] (t3 (expireZ a n)) := by
  refine fc_of mixed T_ok Try.func35 rfl (by kernel_rfl) (by kernel_rfl) (by kernel_rfl) ?_
  repeat' ((conv => whnf); first | (refine vcall_pure (ref_usable a) rfl rfl ?_) | (refine vcall_pure (ref_openX _ _ _ _ _ _ _ _ _ _) rfl rfl ?_) | (refine vcall_pure (ref_stateX _ _ _ _ _ _ _ _ _ _) rfl rfl ?_) | (refine vcall_pure (ref_within _ _ _) rfl rfl ?_) | (refine br_dec (fun h => ?_) (fun h => ?_) <;> try (exfalso; omega)) | (refine br_ndec (fun h => ?_) (fun h => ?_) <;> try (exfalso; omega)) | refine br_seq (fun h => ?_) (fun h => ?_) | refine br_nseq (fun h => ?_) (fun h => ?_) | refine br_not (fun h => ?_) (fun h => ?_) | refine br_intro (fun h => ?_) (fun h => ?_) | (refine idx_intro ?_ ?_ ?_; (omega); (omega)) | (refine nz_intro ?_ ?_; (first | decide | omega)) | (refine lt_intro ?_ ?_; (omega)))
  all_goals (conv => whnf)
  all_goals simp only [oneOr, cv, Au.eta] at *
  · simp [expireZ, Au.zero, *]
  all_goals
    obtain ⟨f, hs, hp, ho, hc, hx⟩ := usable_facts (by assumption)
    have f1 := f.app; have f2 := f.rev; have f3 := f.cle; have f4 := f.exp; have f5 := f.funds; have f6 := f.pa
    try rw [ho]
    unfold expireZ
  · rw [if_neg (by simp [*]), if_pos (by omega)]; simp [Au.zero]
  · rw [if_neg (by simp [*]), if_neg (by omega)]
    have e1 : IntKind.i64.wrap (a.exp + fundsW a) = a.exp + fundsW a := w64_in (by omega) (by omega)
    rw [e1]
end Go.Proofs.Ytllgfdogieohaaa
