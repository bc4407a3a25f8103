/- Contracts of package auth and of its reference. -/
import Derived.Test.YtllgfdogieohaaaAuthC
namespace Go.Proofs.Ytllgfdogieohaaa
open Go.RowKit Go.Sx
attribute [local irreducible] vcall vloop callQ
set_option maxRecDepth 100000
set_option linter.unusedVariables false

set_option maxHeartbeats 2000000 in
theorem auth_check (a : Au) : Pure Try.prog 16 [a.s] (.int .i64 (checkZ a)) := by
  refine fc_of mixed T_ok Try.func16 rfl (by kernel_rfl) (by kernel_rfl) (by kernel_rfl) ?_
  repeat' ((conv => whnf); first | (refine vcall_pure (auth_isId _) rfl rfl ?_) | (refine vcall_pure (auth_isCur _) rfl rfl ?_) | (refine vcall_pure (auth_isPart _) rfl rfl ?_) | (refine vcall_pure (auth_funds a) rfl rfl ?_) | (refine callQ_pure (auth_settled a) rfl ?_) | (refine br_dec (fun h => ?_) (fun h => ?_) <;> try (exfalso; omega)) | (refine br_ndec (fun h => ?_) (fun h => ?_) <;> try (exfalso; omega)) | refine br_seq (fun h => ?_) (fun h => ?_) | refine br_nseq (fun h => ?_) (fun h => ?_) | refine br_not (fun h => ?_) (fun h => ?_) | refine br_intro (fun h => ?_) (fun h => ?_) | (refine idx_intro ?_ ?_ ?_; (omega); (omega)) | (refine nz_intro ?_ ?_; (first | decide | omega)) | (refine lt_intro ?_ ?_; (omega)))
  all_goals (conv => whnf)
  all_goals simp only [oneOr, cv, SV.int.injEq, true_and]
  all_goals (try simp only [amountOk, decide_eq_true_eq, decide_eq_false_iff_not] at *)
  all_goals (try simp [seq] at *)
  all_goals (unfold checkZ; (repeat' split) <;> first | rfl | (exfalso; omega) | (exfalso; simp_all; done))

set_option maxHeartbeats 2000000 in
theorem ref_check (a : Au) : Pure Try.prog 17 [a.s] (.int .i64 (checkZ a)) := by
  refine fc_of mixed T_ok Try.func17 rfl (by kernel_rfl) (by kernel_rfl) (by kernel_rfl) ?_
  repeat' ((conv => whnf); first | (refine vcall_pure (ref_isId _) rfl rfl ?_) | (refine vcall_pure (ref_isCur _) rfl rfl ?_) | (refine vcall_pure (ref_within _ _ _) rfl rfl ?_) | (refine callQ_pure (ref_state a) rfl ?_) | (refine br_dec (fun h => ?_) (fun h => ?_) <;> try (exfalso; omega)) | (refine br_ndec (fun h => ?_) (fun h => ?_) <;> try (exfalso; omega)) | refine br_seq (fun h => ?_) (fun h => ?_) | refine br_nseq (fun h => ?_) (fun h => ?_) | refine br_not (fun h => ?_) (fun h => ?_) | refine br_intro (fun h => ?_) (fun h => ?_) | (refine idx_intro ?_ ?_ ?_; (omega); (omega)) | (refine nz_intro ?_ ?_; (first | decide | omega)) | (refine lt_intro ?_ ?_; (omega)))
  all_goals (conv => whnf)
  all_goals simp only [oneOr, cv, SV.int.injEq, true_and]
  all_goals (try simp at *)
  all_goals first
    | (have e1 := fundsW_eq a (by omega) (by omega) (by omega) (by omega) (by omega) (by omega) (by omega) (by omega)
       have e2 : IntKind.i64.wrap (IntKind.i64.wrap (a.rev + a.cle) + a.exp) = a.rev + a.cle + a.exp := by rw [w64_in (n := a.rev + a.cle) (by omega) (by omega), w64_in (by omega) (by omega)]
       unfold checkZ; (repeat' split) <;> first | rfl | (exfalso; omega) | (exfalso; simp_all; done))
    | (unfold checkZ; (repeat' split) <;> first | rfl | (exfalso; omega) | (exfalso; simp_all; done))

theorem auth_open (a : Au) : Pure Try.prog 14 [a.s] (.int .i64 (openZ a)) := by
  refine fc_of mixed T_ok Try.func14 rfl (by kernel_rfl) (by kernel_rfl) (by kernel_rfl) ?_
  repeat' ((conv => whnf); first | (refine vcall_pure (auth_check a) rfl rfl ?_) | (refine vcall_pure (auth_funds a) rfl rfl ?_) | (refine br_dec (fun h => ?_) (fun h => ?_) <;> try (exfalso; omega)) | (refine br_ndec (fun h => ?_) (fun h => ?_) <;> try (exfalso; omega)) | refine br_seq (fun h => ?_) (fun h => ?_) | refine br_nseq (fun h => ?_) (fun h => ?_) | refine br_not (fun h => ?_) (fun h => ?_) | refine br_intro (fun h => ?_) (fun h => ?_) | (refine idx_intro ?_ ?_ ?_; (omega); (omega)) | (refine nz_intro ?_ ?_; (first | decide | omega)) | (refine lt_intro ?_ ?_; (omega)))
  all_goals (conv => whnf)
  all_goals simp [oneOr, cv, openZ, *]
theorem ref_open (a : Au) : Pure Try.prog 18 [a.s] (.int .i64 (openZ a)) := by
  refine fc_of mixed T_ok Try.func18 rfl (by kernel_rfl) (by kernel_rfl) (by kernel_rfl) ?_
  repeat' ((conv => whnf); first | (refine vcall_pure (ref_check a) rfl rfl ?_) | (refine br_dec (fun h => ?_) (fun h => ?_) <;> try (exfalso; omega)) | (refine br_ndec (fun h => ?_) (fun h => ?_) <;> try (exfalso; omega)) | refine br_seq (fun h => ?_) (fun h => ?_) | refine br_nseq (fun h => ?_) (fun h => ?_) | refine br_not (fun h => ?_) (fun h => ?_) | refine br_intro (fun h => ?_) (fun h => ?_) | (refine idx_intro ?_ ?_ ?_; (omega); (omega)) | (refine nz_intro ?_ ?_; (first | decide | omega)) | (refine lt_intro ?_ ?_; (omega)))
  all_goals (conv => whnf)
  all_goals simp [oneOr, cv, openZ, fundsW, *]
theorem auth_usable (a : Au) : Pure Try.prog 21 [a.s] (.int .i64 (usableZ a)) := by
  refine fc_of mixed T_ok Try.func21 rfl (by kernel_rfl) (by kernel_rfl) (by kernel_rfl) ?_
  repeat' ((conv => whnf); first | (refine vcall_pure (auth_check a) rfl rfl ?_) | (refine br_dec (fun h => ?_) (fun h => ?_) <;> try (exfalso; omega)) | (refine br_ndec (fun h => ?_) (fun h => ?_) <;> try (exfalso; omega)) | refine br_seq (fun h => ?_) (fun h => ?_) | refine br_nseq (fun h => ?_) (fun h => ?_) | refine br_not (fun h => ?_) (fun h => ?_) | refine br_intro (fun h => ?_) (fun h => ?_) | (refine idx_intro ?_ ?_ ?_; (omega); (omega)) | (refine nz_intro ?_ ?_; (first | decide | omega)) | (refine lt_intro ?_ ?_; (omega)))
  all_goals (conv => whnf)
  all_goals simp [oneOr, cv, usableZ, *]
theorem ref_usable (a : Au) : Pure Try.prog 37 [a.s] (.int .i64 (usableZ a)) := by
  refine fc_of mixed T_ok Try.func37 rfl (by kernel_rfl) (by kernel_rfl) (by kernel_rfl) ?_
  repeat' ((conv => whnf); first | (refine vcall_pure (ref_check a) rfl rfl ?_) | (refine br_dec (fun h => ?_) (fun h => ?_) <;> try (exfalso; omega)) | (refine br_ndec (fun h => ?_) (fun h => ?_) <;> try (exfalso; omega)) | refine br_seq (fun h => ?_) (fun h => ?_) | refine br_nseq (fun h => ?_) (fun h => ?_) | refine br_not (fun h => ?_) (fun h => ?_) | refine br_intro (fun h => ?_) (fun h => ?_) | (refine idx_intro ?_ ?_ ?_; (omega); (omega)) | (refine nz_intro ?_ ?_; (first | decide | omega)) | (refine lt_intro ?_ ?_; (omega)))
  all_goals (conv => whnf)
  all_goals simp [oneOr, cv, usableZ, *]


theorem auth_settledX (id cur : ByteArray) (app rev cle exp st att unt pa : Int) : Pure Try.prog 20 [.agg [.str id, .str cur, .int .i64 app, .int .i64 rev, .int .i64 cle, .int .i64 exp, .int .i64 st, .int .i64 att, .int .i64 unt, .int .i64 pa]]
    (.agg [.str id, .str cur, .int .i64 app, .int .i64 rev, .int .i64 cle, .int .i64 exp, .int .i64 (stateOf ⟨id, cur, app, rev, cle, exp, st, att, unt, pa⟩), .int .i64 att, .int .i64 unt, .int .i64 pa]) := auth_settled ⟨id, cur, app, rev, cle, exp, st, att, unt, pa⟩
theorem auth_fundsX (id cur : ByteArray) (app rev cle exp st att unt pa : Int) : Pure Try.prog 22 [.agg [.str id, .str cur, .int .i64 app, .int .i64 rev, .int .i64 cle, .int .i64 exp, .int .i64 st, .int .i64 att, .int .i64 unt, .int .i64 pa]] (.int .i64 (fundsW ⟨id, cur, app, rev, cle, exp, st, att, unt, pa⟩)) := auth_funds ⟨id, cur, app, rev, cle, exp, st, att, unt, pa⟩
theorem auth_checkX (id cur : ByteArray) (app rev cle exp st att unt pa : Int) : Pure Try.prog 16 [.agg [.str id, .str cur, .int .i64 app, .int .i64 rev, .int .i64 cle, .int .i64 exp, .int .i64 st, .int .i64 att, .int .i64 unt, .int .i64 pa]] (.int .i64 (checkZ ⟨id, cur, app, rev, cle, exp, st, att, unt, pa⟩)) := auth_check ⟨id, cur, app, rev, cle, exp, st, att, unt, pa⟩
theorem ref_checkX (id cur : ByteArray) (app rev cle exp st att unt pa : Int) : Pure Try.prog 17 [.agg [.str id, .str cur, .int .i64 app, .int .i64 rev, .int .i64 cle, .int .i64 exp, .int .i64 st, .int .i64 att, .int .i64 unt, .int .i64 pa]] (.int .i64 (checkZ ⟨id, cur, app, rev, cle, exp, st, att, unt, pa⟩)) := ref_check ⟨id, cur, app, rev, cle, exp, st, att, unt, pa⟩
theorem ref_stateX (id cur : ByteArray) (app rev cle exp st att unt pa : Int) : Pure Try.prog 32 [.agg [.str id, .str cur, .int .i64 app, .int .i64 rev, .int .i64 cle, .int .i64 exp, .int .i64 st, .int .i64 att, .int .i64 unt, .int .i64 pa]] (.int .i64 (stateOf ⟨id, cur, app, rev, cle, exp, st, att, unt, pa⟩)) := ref_state ⟨id, cur, app, rev, cle, exp, st, att, unt, pa⟩
theorem auth_openX (id cur : ByteArray) (app rev cle exp st att unt pa : Int) : Pure Try.prog 14 [.agg [.str id, .str cur, .int .i64 app, .int .i64 rev, .int .i64 cle, .int .i64 exp, .int .i64 st, .int .i64 att, .int .i64 unt, .int .i64 pa]] (.int .i64 (openZ ⟨id, cur, app, rev, cle, exp, st, att, unt, pa⟩)) := auth_open ⟨id, cur, app, rev, cle, exp, st, att, unt, pa⟩
theorem ref_openX (id cur : ByteArray) (app rev cle exp st att unt pa : Int) : Pure Try.prog 18 [.agg [.str id, .str cur, .int .i64 app, .int .i64 rev, .int .i64 cle, .int .i64 exp, .int .i64 st, .int .i64 att, .int .i64 unt, .int .i64 pa]] (.int .i64 (openZ ⟨id, cur, app, rev, cle, exp, st, att, unt, pa⟩)) := ref_open ⟨id, cur, app, rev, cle, exp, st, att, unt, pa⟩
end Go.Proofs.Ytllgfdogieohaaa
