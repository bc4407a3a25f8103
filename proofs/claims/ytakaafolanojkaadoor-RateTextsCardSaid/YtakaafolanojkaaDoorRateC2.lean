/- Contracts of package rate, and of the reference's: conversions, other rates. -/
import Derived.Test.YtakaafolanojkaaDoorRateC
import Derived.Test.YtakaafolanojkaaDoorMoneyC4
import Derived.Test.YtakaafolanojkaaDoorFmtC3
namespace Go.Proofs.YtakaafolanojkaaDoor
open Go.RowKit Go.Sy
attribute [local irreducible] vcall vloop vcallD retP
set_option maxRecDepth 100000
set_option linter.unusedVariables false
set_option linter.unusedSimpArgs false

/-- The error of a conversion. -/
def cvE (a : Int) (c f t : ByteArray) (n d mode : Int) : Int :=
  if mchk a c ≠ 0 then mchk a c else if rchk f t n d ≠ 0 then rchk f t n d else if c ≠ f then 11 else sclE a c n d mode
def cvT (a : Int) (c f t : ByteArray) (n d mode : Int) : SV := .tup [.agg [.int .i64 (orN (cvE a c f t n d mode) (sclA a n d mode)), .str (orS (cvE a c f t n d mode) t)], .int .i64 (cvE a c f t n d mode)]
theorem cvT_err {a : Int} {c f t : ByteArray} {n d mode e : Int} (h : cvE a c f t n d mode = e) (he : e ≠ 0) : cvT a c f t n d mode = .tup [.agg [.int .i64 0, .str ⟨#[]⟩], .int .i64 e] := by
  unfold cvT; rw [h]; unfold orN orS; rw [if_neg he, if_neg he]
theorem cvT_ok {a : Int} {c f t : ByteArray} {n d mode : Int} (h : cvE a c f t n d mode = 0) : cvT a c f t n d mode = .tup [.agg [.int .i64 (sclA a n d mode), .str t], .int .i64 0] := by
  unfold cvT; rw [h]; unfold orN orS; rw [if_pos rfl, if_pos rfl]
attribute [irreducible] cvE

theorem rate_Convert (a : Int) (c f t : ByteArray) (n d mode : Int) (h1 : -9223372036854775808 ≤ n) (h2 : n ≤ 9223372036854775807) :
    Glob Tryd.prog glT 11 [.agg [.int .i64 a, .str c], .agg [.str f, .str t, .int .i64 n, .int .i64 d], .int .i64 mode] (cvT a c f t n d mode) := by
  have c1 := money_Check a c
  have c2 := rate_Check f t n d
  have c3 := money_Scale a c n d mode h1 h2
  refine fc_of mixed T_ok Tryd.func11 rfl (by kernel_rfl) (by kernel_rfl) (by kernel_rfl) ?_
  by_cases e1 : mchk a c = 0
  · rw [e1] at c1
    by_cases e2 : rchk f t n d = 0
    · rw [e2] at c2
      by_cases e3 : c = f
      · by_cases e4 : sclE a c n d mode = 0
        · have he : cvE a c f t n d mode = 0 := by unfold cvE; rw [if_neg (by omega), if_neg (by omega), if_neg (by simp [e3]), e4]
          rw [cvT_ok he]
          rw [sclT_ok e4] at c3
          repeat' ((conv => whnf); first | (refine vcall_pure (c1) rfl rfl rfl ?_) | (refine vcall_glob (c2) rfl rfl rfl rfl ?_) | (refine vcall_pure (c3) rfl rfl rfl ?_) | (refine br_dec (fun h => ?_) (fun h => ?_) <;> try (exfalso; (try dsimp only at h); omega)) | (refine br_ndec (fun h => ?_) (fun h => ?_) <;> try (exfalso; (try dsimp only at h); omega)) | refine br_seq (fun h => ?_) (fun h => ?_) | refine br_nseq (fun h => ?_) (fun h => ?_) | refine br_not (fun h => ?_) (fun h => ?_) | refine br_intro (fun h => ?_) (fun h => ?_) | refine cond_intro rfl ?_ | (refine cond_intro ⟨rfl, ?_⟩ ?_; (first | omega | (dsimp only; omega) | decide)) | (refine cond_intro ?_ ?_; (first | omega | (dsimp only; omega) | decide | (simp only [Nat.add_zero, Int.toNat_natCast, *]; omega))))
          all_goals (conv => whnf)
          all_goals first | exact ret_pure rfl | (exfalso; exact absurd e3 (by assumption))
        · have he : cvE a c f t n d mode = sclE a c n d mode := by unfold cvE; rw [if_neg (by omega), if_neg (by omega), if_neg (by simp [e3])]
          rw [cvT_err he e4]
          rw [sclT_err rfl e4] at c3
          repeat' ((conv => whnf); first | (refine vcall_pure (c1) rfl rfl rfl ?_) | (refine vcall_glob (c2) rfl rfl rfl rfl ?_) | (refine vcall_pure (c3) rfl rfl rfl ?_) | (refine br_dec (fun h => ?_) (fun h => ?_) <;> try (exfalso; (try dsimp only at h); omega)) | (refine br_ndec (fun h => ?_) (fun h => ?_) <;> try (exfalso; (try dsimp only at h); omega)) | refine br_seq (fun h => ?_) (fun h => ?_) | refine br_nseq (fun h => ?_) (fun h => ?_) | refine br_not (fun h => ?_) (fun h => ?_) | refine br_intro (fun h => ?_) (fun h => ?_) | refine cond_intro rfl ?_ | (refine cond_intro ⟨rfl, ?_⟩ ?_; (first | omega | (dsimp only; omega) | decide)) | (refine cond_intro ?_ ?_; (first | omega | (dsimp only; omega) | decide | (simp only [Nat.add_zero, Int.toNat_natCast, *]; omega))))
          all_goals (conv => whnf)
          all_goals first | exact ret_pure rfl | (exfalso; exact absurd e3 (by assumption))
      · have he : cvE a c f t n d mode = 11 := by unfold cvE; rw [if_neg (by omega), if_neg (by omega), if_pos e3]
        rw [cvT_err he (by omega)]
        repeat' ((conv => whnf); first | (refine vcall_pure (c1) rfl rfl rfl ?_) | (refine vcall_glob (c2) rfl rfl rfl rfl ?_) | (refine vcall_pure (c3) rfl rfl rfl ?_) | (refine br_nseq (fun h => ?_) (fun h => ?_) <;> try (exact absurd h e3)) | (refine br_dec (fun h => ?_) (fun h => ?_) <;> try (exfalso; (try dsimp only at h); omega)) | (refine br_ndec (fun h => ?_) (fun h => ?_) <;> try (exfalso; (try dsimp only at h); omega)) | refine br_seq (fun h => ?_) (fun h => ?_) | refine br_nseq (fun h => ?_) (fun h => ?_) | refine br_not (fun h => ?_) (fun h => ?_) | refine br_intro (fun h => ?_) (fun h => ?_) | refine cond_intro rfl ?_ | (refine cond_intro ⟨rfl, ?_⟩ ?_; (first | omega | (dsimp only; omega) | decide)) | (refine cond_intro ?_ ?_; (first | omega | (dsimp only; omega) | decide | (simp only [Nat.add_zero, Int.toNat_natCast, *]; omega))))
        all_goals (conv => whnf)
        all_goals exact ret_pure rfl
    · have he : cvE a c f t n d mode = rchk f t n d := by unfold cvE; rw [if_neg (by omega), if_pos e2]
      rw [cvT_err he e2]
      repeat' ((conv => whnf); first | (refine vcall_pure (c1) rfl rfl rfl ?_) | (refine vcall_glob (c2) rfl rfl rfl rfl ?_) | (refine vcall_pure (c3) rfl rfl rfl ?_) | (refine br_dec (fun h => ?_) (fun h => ?_) <;> try (exfalso; (try dsimp only at h); omega)) | (refine br_ndec (fun h => ?_) (fun h => ?_) <;> try (exfalso; (try dsimp only at h); omega)) | refine br_seq (fun h => ?_) (fun h => ?_) | refine br_nseq (fun h => ?_) (fun h => ?_) | refine br_not (fun h => ?_) (fun h => ?_) | refine br_intro (fun h => ?_) (fun h => ?_) | refine cond_intro rfl ?_ | (refine cond_intro ⟨rfl, ?_⟩ ?_; (first | omega | (dsimp only; omega) | decide)) | (refine cond_intro ?_ ?_; (first | omega | (dsimp only; omega) | decide | (simp only [Nat.add_zero, Int.toNat_natCast, *]; omega))))
      all_goals (conv => whnf)
      all_goals exact ret_pure rfl
  · have he : cvE a c f t n d mode = mchk a c := by unfold cvE; rw [if_pos e1]
    rw [cvT_err he e1]
    repeat' ((conv => whnf); first | (refine vcall_pure (c1) rfl rfl rfl ?_) | (refine vcall_glob (c2) rfl rfl rfl rfl ?_) | (refine vcall_pure (c3) rfl rfl rfl ?_) | (refine br_dec (fun h => ?_) (fun h => ?_) <;> try (exfalso; (try dsimp only at h); omega)) | (refine br_ndec (fun h => ?_) (fun h => ?_) <;> try (exfalso; (try dsimp only at h); omega)) | refine br_seq (fun h => ?_) (fun h => ?_) | refine br_nseq (fun h => ?_) (fun h => ?_) | refine br_not (fun h => ?_) (fun h => ?_) | refine br_intro (fun h => ?_) (fun h => ?_) | refine cond_intro rfl ?_ | (refine cond_intro ⟨rfl, ?_⟩ ?_; (first | omega | (dsimp only; omega) | decide)) | (refine cond_intro ?_ ?_; (first | omega | (dsimp only; omega) | decide | (simp only [Nat.add_zero, Int.toNat_natCast, *]; omega))))
    all_goals (conv => whnf)
    all_goals exact ret_pure rfl

/-- A rate and an error. -/
def rT (e : Int) (f t : ByteArray) (n d : Int) : SV := .tup [.agg [.str (orS e f), .str (orS e t), .int .i64 (orN e n), .int .i64 (orN e d)], .int .i64 e]
theorem rT_err {e : Int} {f t : ByteArray} {n d : Int} (he : e ≠ 0) : rT e f t n d = .tup [.agg [.str ⟨#[]⟩, .str ⟨#[]⟩, .int .i64 0, .int .i64 0], .int .i64 e] := by
  unfold rT orN orS; simp only [if_neg he]
theorem rT_ok {f t : ByteArray} {n d : Int} : rT 0 f t n d = .tup [.agg [.str f, .str t, .int .i64 n, .int .i64 d], .int .i64 0] := by
  unfold rT orN orS; simp only [if_true]

theorem rate_Inverse (f t : ByteArray) (n d : Int) : Glob Tryd.prog glT 9 [.agg [.str f, .str t, .int .i64 n, .int .i64 d]] (rT (rchk f t n d) t f (redN d n) (redD d n)) := by
  have c1 := rate_Check f t n d
  refine fc_of mixed T_ok Tryd.func9 rfl (by kernel_rfl) (by kernel_rfl) (by kernel_rfl) ?_
  by_cases e1 : rchk f t n d = 0
  · obtain ⟨_, _, _, b1, b2, b3, b4⟩ := rchk_ok e1
    rw [e1] at c1
    rw [e1, rT_ok]
    have c2 := rate_Reduce d n (by omega) (by omega)
    repeat' ((conv => whnf); first | (refine vcall_glob (c1) rfl rfl rfl rfl ?_) | (refine vcall_pure (c2) rfl rfl rfl ?_) | (refine br_dec (fun h => ?_) (fun h => ?_) <;> try (exfalso; (try dsimp only at h); omega)) | (refine br_ndec (fun h => ?_) (fun h => ?_) <;> try (exfalso; (try dsimp only at h); omega)) | refine br_seq (fun h => ?_) (fun h => ?_) | refine br_nseq (fun h => ?_) (fun h => ?_) | refine br_not (fun h => ?_) (fun h => ?_) | refine br_intro (fun h => ?_) (fun h => ?_) | refine cond_intro rfl ?_ | (refine cond_intro ⟨rfl, ?_⟩ ?_; (first | omega | (dsimp only; omega) | decide)) | (refine cond_intro ?_ ?_; (first | omega | (dsimp only; omega) | decide | (simp only [Nat.add_zero, Int.toNat_natCast, *]; omega))))
    all_goals (conv => whnf)
    all_goals exact ret_pure rfl
  · rw [rT_err e1]
    repeat' ((conv => whnf); first | (refine vcall_glob (c1) rfl rfl rfl rfl ?_) | (refine br_dec (fun h => ?_) (fun h => ?_) <;> try (exfalso; (try dsimp only at h); omega)) | (refine br_ndec (fun h => ?_) (fun h => ?_) <;> try (exfalso; (try dsimp only at h); omega)) | refine br_seq (fun h => ?_) (fun h => ?_) | refine br_nseq (fun h => ?_) (fun h => ?_) | refine br_not (fun h => ?_) (fun h => ?_) | refine br_intro (fun h => ?_) (fun h => ?_) | refine cond_intro rfl ?_ | (refine cond_intro ⟨rfl, ?_⟩ ?_; (first | omega | (dsimp only; omega) | decide)) | (refine cond_intro ?_ ?_; (first | omega | (dsimp only; omega) | decide | (simp only [Nat.add_zero, Int.toNat_natCast, *]; omega))))
    all_goals (conv => whnf)
    all_goals exact ret_pure rfl
end Go.Proofs.YtakaafolanojkaaDoor
