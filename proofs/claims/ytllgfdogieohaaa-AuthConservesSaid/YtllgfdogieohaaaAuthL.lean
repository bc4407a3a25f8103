/- The laws of package auth: AuthBegins, AuthSteps, AuthEnds. -/
import Derived.Test.YtllgfdogieohaaaAuthC3
namespace Go.Proofs.Ytllgfdogieohaaa
open Go.RowKit Go.Sx
attribute [local irreducible] vcall vloop callQ
set_option maxRecDepth 100000
set_option linter.unusedVariables false

def nameZ (n : Int) : ByteArray := if n = 1 then ⟨#[111, 112, 101, 110]⟩ else if n = 2 then ⟨#[99, 108, 101, 97, 114, 101, 100]⟩ else if n = 3 then ⟨#[114, 101, 118, 101, 114, 115, 101, 100]⟩ else if n = 4 then ⟨#[101, 120, 112, 105, 114, 101, 100]⟩ else ⟨#[]⟩
theorem auth_name (n : Int) : Pure Try.prog 12 [.int .i64 n] (.str (nameZ n)) := by
  refine fc_of mixed T_ok Try.func12 rfl (by kernel_rfl) (by kernel_rfl) (by kernel_rfl) ?_
  repeat' ((conv => whnf); first | (refine br_dec (fun h => ?_) (fun h => ?_) <;> try (exfalso; omega)) | (refine br_ndec (fun h => ?_) (fun h => ?_) <;> try (exfalso; omega)) | refine br_seq (fun h => ?_) (fun h => ?_) | refine br_nseq (fun h => ?_) (fun h => ?_) | refine br_not (fun h => ?_) (fun h => ?_) | refine br_intro (fun h => ?_) (fun h => ?_) | (refine idx_intro ?_ ?_ ?_; (omega); (omega)) | (refine nz_intro ?_ ?_; (first | decide | omega)) | (refine lt_intro ?_ ?_; (omega)))
  all_goals (conv => whnf)
  all_goals simp [oneOr, cv, nameZ, *]
theorem ref_name (n : Int) : Pure Try.prog 13 [.int .i64 n] (.str (nameZ n)) := by
  refine fc_of mixed T_ok Try.func13 rfl (by kernel_rfl) (by kernel_rfl) (by kernel_rfl) ?_
  repeat' ((conv => whnf); first | (refine br_dec (fun h => ?_) (fun h => ?_) <;> try (exfalso; omega)) | (refine br_ndec (fun h => ?_) (fun h => ?_) <;> try (exfalso; omega)) | refine br_seq (fun h => ?_) (fun h => ?_) | refine br_nseq (fun h => ?_) (fun h => ?_) | refine br_not (fun h => ?_) (fun h => ?_) | refine br_intro (fun h => ?_) (fun h => ?_) | (refine idx_intro ?_ ?_ ?_; (omega); (omega)) | (refine nz_intro ?_ ?_; (first | decide | omega)) | (refine lt_intro ?_ ?_; (omega)))
  all_goals (conv => whnf)
  all_goals simp [oneOr, cv, nameZ, *]

def aw0 : Au := ⟨⟨#[97]⟩, ⟨#[69, 85, 82]⟩, 1000, 0, 0, 0, 1, 50, 90, 0⟩
def aw1 : Au := ⟨⟨#[97]⟩, ⟨#[69, 85, 82]⟩, 1000, 0, 400, 0, 1, 50, 90, 1⟩
def aw2 : Au := ⟨⟨#[97]⟩, ⟨#[69, 85, 82]⟩, 1000, 0, 1000, 0, 2, 50, 90, 2⟩
theorem awNew : newZ ⟨#[97]⟩ ⟨#[69, 85, 82]⟩ 1000 50 90 = (aw0, 0) := by kernel_rfl
theorem awClear0 : clearZ aw0 400 false = (aw1, 400, 0, 0) := by kernel_rfl
theorem awClear1 : clearZ aw1 700 true = (aw2, 600, 0, 0) := by kernel_rfl
theorem awClear2 : clearZ aw2 1 false = (Au.zero, 0, 0, 8) := by kernel_rfl
theorem awOpen : openZ aw1 = 600 := by kernel_rfl
theorem awN : Pure Try.prog 8 [.str ⟨#[97]⟩, .str ⟨#[69, 85, 82]⟩, .int .i64 1000, .int .i64 50, .int .i64 90] (t2 (aw0, 0)) := awNew ▸ auth_new _ _ _ _ _
theorem awC0 : Pure Try.prog 10 [aw0.s, .int .i64 400, .bool false] (t4 (aw1, 400, 0, 0)) := awClear0 ▸ auth_clear _ _ _
theorem awC1 : Pure Try.prog 10 [aw1.s, .int .i64 700, .bool true] (t4 (aw2, 600, 0, 0)) := awClear1 ▸ auth_clear _ _ _
theorem awC2 : Pure Try.prog 10 [aw2.s, .int .i64 1, .bool false] (t4 (Au.zero, 0, 0, 8)) := awClear2 ▸ auth_clear _ _ _
theorem awO : Pure Try.prog 14 [aw1.s] (.int .i64 600) := awOpen ▸ auth_open _
theorem law_awake : Pure Try.prog 9 [] (.bool true) := by
  refine fc_of mixed T_ok Try.func9 rfl (by kernel_rfl) (by kernel_rfl) (by kernel_rfl) ?_
  repeat' ((conv => whnf); first | (refine vcall_pure (awN) rfl rfl ?_) | (refine vcall_pure (awC0) rfl rfl ?_) | (refine vcall_pure (awC1) rfl rfl ?_) | (refine vcall_pure (awC2) rfl rfl ?_) | (refine vcall_pure (awO) rfl rfl ?_) | (refine br_dec (fun h => ?_) (fun h => ?_) <;> try (exfalso; omega)) | (refine br_ndec (fun h => ?_) (fun h => ?_) <;> try (exfalso; omega)) | refine br_seq (fun h => ?_) (fun h => ?_) | refine br_nseq (fun h => ?_) (fun h => ?_) | refine br_not (fun h => ?_) (fun h => ?_) | refine br_intro (fun h => ?_) (fun h => ?_) | (refine idx_intro ?_ ?_ ?_; (omega); (omega)) | (refine nz_intro ?_ ?_; (first | decide | omega)) | (refine lt_intro ?_ ?_; (omega)))
  all_goals (conv => whnf)
  simp [oneOr]
theorem authBegins_fc (s0 : ByteArray) (hs0 : s0.size ≤ maxLen) (s1 : ByteArray) (hs1 : s1.size ≤ maxLen) (n2 : Int) (hw2 : (Lit.int .i64 n2).wf = true) (n3 : Int) (hw3 : (Lit.int .i64 n3).wf = true) (n4 : Int) (hw4 : (Lit.int .i64 n4).wf = true) (n5 : Int) (hw5 : (Lit.int .i64 n5).wf = true) :
    FC Try.prog 0 4 [.str s0, .str s1, .int .i64 n2, .int .i64 n3, .int .i64 n4, .int .i64 n5] [] (fun sv _ _ => sv = .bool true) := by
  refine fc_of mixed T_ok Try.func4 rfl (by kernel_rfl) (by kernel_rfl) (by kernel_rfl) ?_
  repeat' ((conv => whnf); first | (refine vcall_pure (auth_new _ _ _ _ _) rfl rfl ?_) | (refine vcall_pure (ref_new _ _ _ _ _) rfl rfl ?_) | (refine vcall_pure (auth_name _) rfl rfl ?_) | (refine vcall_pure (ref_name _) rfl rfl ?_) | (refine vcall_pure (law_awake) rfl rfl ?_) | (refine br_dec (fun h => ?_) (fun h => ?_) <;> try (exfalso; omega)) | (refine br_ndec (fun h => ?_) (fun h => ?_) <;> try (exfalso; omega)) | refine br_seq (fun h => ?_) (fun h => ?_) | refine br_nseq (fun h => ?_) (fun h => ?_) | refine br_not (fun h => ?_) (fun h => ?_) | refine br_intro (fun h => ?_) (fun h => ?_) | (refine idx_intro ?_ ?_ ?_; (omega); (omega)) | (refine nz_intro ?_ ?_; (first | decide | omega)) | (refine lt_intro ?_ ?_; (omega)))
  all_goals (conv => whnf)
  all_goals first | rfl | (exfalso; simp [seq] at *; done)

/-- What an operation does: kind k, amount n, time t, final or not. -/
@[irreducible] def stepZ (a : Au) (k n t : Int) (f : Bool) : Au × Int × Int × Int :=
  if k.tmod 4 = 1 then ((raiseZ a n t).1, 0, 0, (raiseZ a n t).2) else if k.tmod 4 = 2 then ((reverseZ a n).1, 0, (reverseZ a n).2.1, (reverseZ a n).2.2)
  else if k.tmod 4 = 3 then ((expireZ a t).1, 0, (expireZ a t).2.1, (expireZ a t).2.2) else clearZ a n f
abbrev opS (k n t : Int) (f : Bool) : SV := .agg [.int .u8 k, .int .i64 n, .int .i64 t, .bool f]
set_option maxHeartbeats 2000000 in
theorem law_step (a : Au) (k n t : Int) (f : Bool) : Pure Try.prog 15 [a.s, opS k n t f] (t4 (stepZ a k n t f)) := by
  refine fc_of mixed T_ok Try.func15 rfl (by kernel_rfl) (by kernel_rfl) (by kernel_rfl) ?_
  repeat' ((conv => whnf); first | (refine vcall_pure (auth_raise a _ _) rfl rfl ?_) | (refine vcall_pure (auth_reverse a _) rfl rfl ?_) | (refine vcall_pure (auth_clear a _ _) rfl rfl ?_) | (refine vcall_pure (auth_expire a _) rfl rfl ?_) | (refine br_dec (fun h => ?_) (fun h => ?_) <;> try (exfalso; omega)) | (refine br_ndec (fun h => ?_) (fun h => ?_) <;> try (exfalso; omega)) | refine br_seq (fun h => ?_) (fun h => ?_) | refine br_nseq (fun h => ?_) (fun h => ?_) | refine br_not (fun h => ?_) (fun h => ?_) | refine br_intro (fun h => ?_) (fun h => ?_) | (refine idx_intro ?_ ?_ ?_; (omega); (omega)) | (refine nz_intro ?_ ?_; (first | decide | omega)) | (refine lt_intro ?_ ?_; (omega)))
  all_goals (conv => whnf)
  all_goals simp [oneOr, cv, stepZ, *]
set_option maxHeartbeats 2000000 in
theorem law_by (a : Au) (k n t : Int) (f : Bool) : Pure Try.prog 19 [a.s, opS k n t f] (t4 (stepZ a k n t f)) := by
  refine fc_of mixed T_ok Try.func19 rfl (by kernel_rfl) (by kernel_rfl) (by kernel_rfl) ?_
  repeat' ((conv => whnf); first | (refine vcall_pure (ref_raise a _ _) rfl rfl ?_) | (refine vcall_pure (ref_reverse a _) rfl rfl ?_) | (refine vcall_pure (ref_clear a _ _) rfl rfl ?_) | (refine vcall_pure (ref_expire a _) rfl rfl ?_) | (refine br_dec (fun h => ?_) (fun h => ?_) <;> try (exfalso; omega)) | (refine br_ndec (fun h => ?_) (fun h => ?_) <;> try (exfalso; omega)) | refine br_seq (fun h => ?_) (fun h => ?_) | refine br_nseq (fun h => ?_) (fun h => ?_) | refine br_not (fun h => ?_) (fun h => ?_) | refine br_intro (fun h => ?_) (fun h => ?_) | (refine idx_intro ?_ ?_ ?_; (omega); (omega)) | (refine nz_intro ?_ ?_; (first | decide | omega)) | (refine lt_intro ?_ ?_; (omega)))
  all_goals (conv => whnf)
  all_goals simp [oneOr, cv, stepZ, *]

theorem authSteps_fc (x0_0 : ByteArray) (hx0_0 : x0_0.size ≤ maxLen) (x0_1 : ByteArray) (hx0_1 : x0_1.size ≤ maxLen) (x0_2 : Int) (hx0_2 : (Lit.int .i64 x0_2).wf = true) (x0_3 : Int) (hx0_3 : (Lit.int .i64 x0_3).wf = true) (x0_4 : Int) (hx0_4 : (Lit.int .i64 x0_4).wf = true) (x0_5 : Int) (hx0_5 : (Lit.int .i64 x0_5).wf = true) (x0_6 : Int) (hx0_6 : (Lit.int .i64 x0_6).wf = true) (x0_7 : Int) (hx0_7 : (Lit.int .i64 x0_7).wf = true) (x0_8 : Int) (hx0_8 : (Lit.int .i64 x0_8).wf = true) (x0_9 : Int) (hx0_9 : (Lit.int .i64 x0_9).wf = true) (x1_0 : Int) (hx1_0 : (Lit.int .u8 x1_0).wf = true) (x1_1 : Int) (hx1_1 : (Lit.int .i64 x1_1).wf = true) (x1_2 : Int) (hx1_2 : (Lit.int .i64 x1_2).wf = true) (x1_3 : Bool) :
    FC Try.prog 0 6 [.agg [.str x0_0, .str x0_1, .int .i64 x0_2, .int .i64 x0_3, .int .i64 x0_4, .int .i64 x0_5, .int .i64 x0_6, .int .i64 x0_7, .int .i64 x0_8, .int .i64 x0_9], .agg [.int .u8 x1_0, .int .i64 x1_1, .int .i64 x1_2, .bool x1_3]] [] (fun sv _ _ => sv = .bool true) := by
  refine fc_of mixed T_ok Try.func6 rfl (by kernel_rfl) (by kernel_rfl) (by kernel_rfl) ?_
  repeat' ((conv => whnf); first | (refine vcall_pure (law_step ⟨_, _, _, _, _, _, _, _, _, _⟩ _ _ _ _) rfl rfl ?_) | (refine vcall_pure (law_by ⟨_, _, _, _, _, _, _, _, _, _⟩ _ _ _ _) rfl rfl ?_) | (refine vcall_pure (law_awake) rfl rfl ?_) | (refine callQ_pure (auth_checkX _ _ _ _ _ _ _ _ _ _) rfl ?_) | (refine callQ_pure (ref_checkX _ _ _ _ _ _ _ _ _ _) rfl ?_) | (refine callQ_pure (auth_openX _ _ _ _ _ _ _ _ _ _) rfl ?_) | (refine callQ_pure (ref_openX _ _ _ _ _ _ _ _ _ _) rfl ?_) | (refine br_dec (fun h => ?_) (fun h => ?_) <;> try (exfalso; omega)) | (refine br_ndec (fun h => ?_) (fun h => ?_) <;> try (exfalso; omega)) | refine br_seq (fun h => ?_) (fun h => ?_) | refine br_nseq (fun h => ?_) (fun h => ?_) | refine br_not (fun h => ?_) (fun h => ?_) | refine br_intro (fun h => ?_) (fun h => ?_) | (refine idx_intro ?_ ?_ ?_; (omega); (omega)) | (refine nz_intro ?_ ?_; (first | decide | omega)) | (refine lt_intro ?_ ?_; (omega)))
  all_goals (conv => whnf)
  all_goals first | rfl | (exfalso; simp [seq] at *; done)

theorem openZ_end {a : Au} (hc : checkZ a = 0) (hs : a.st ≠ 1) : openZ a = 0 := by
  have f := facts_of hc
  have h1 := f.st
  have h2 := f.nneg
  unfold openZ
  rw [if_pos hc]
  unfold stateOf at h1
  split at h1
  · exact absurd h1 hs
  · omega
theorem stepZ_end {a : Au} (hc : checkZ a = 0) (hs : a.st ≠ 1) (k n t : Int) (f : Bool) : stepZ a k n t f = (Au.zero, 0, 0, 8) := by
  have hu := usable_not hc hs
  unfold stepZ raiseZ reverseZ expireZ clearZ
  simp [hu]
theorem step_end {a : Au} (hc : checkZ a = 0) (hs : a.st ≠ 1) (k n t : Int) (f : Bool) : Pure Try.prog 15 [a.s, opS k n t f] (t4 (Au.zero, 0, 0, 8)) := stepZ_end hc hs k n t f ▸ law_step a k n t f
theorem open_end {a : Au} (hc : checkZ a = 0) (hs : a.st ≠ 1) : Pure Try.prog 14 [a.s] (.int .i64 0) := openZ_end hc hs ▸ auth_open a

theorem authEnds_fc (x0_0 : ByteArray) (hx0_0 : x0_0.size ≤ maxLen) (x0_1 : ByteArray) (hx0_1 : x0_1.size ≤ maxLen) (x0_2 : Int) (hx0_2 : (Lit.int .i64 x0_2).wf = true) (x0_3 : Int) (hx0_3 : (Lit.int .i64 x0_3).wf = true) (x0_4 : Int) (hx0_4 : (Lit.int .i64 x0_4).wf = true) (x0_5 : Int) (hx0_5 : (Lit.int .i64 x0_5).wf = true) (x0_6 : Int) (hx0_6 : (Lit.int .i64 x0_6).wf = true) (x0_7 : Int) (hx0_7 : (Lit.int .i64 x0_7).wf = true) (x0_8 : Int) (hx0_8 : (Lit.int .i64 x0_8).wf = true) (x0_9 : Int) (hx0_9 : (Lit.int .i64 x0_9).wf = true) (x1_0 : Int) (hx1_0 : (Lit.int .u8 x1_0).wf = true) (x1_1 : Int) (hx1_1 : (Lit.int .i64 x1_1).wf = true) (x1_2 : Int) (hx1_2 : (Lit.int .i64 x1_2).wf = true) (x1_3 : Bool) :
    FC Try.prog 0 7 [.agg [.str x0_0, .str x0_1, .int .i64 x0_2, .int .i64 x0_3, .int .i64 x0_4, .int .i64 x0_5, .int .i64 x0_6, .int .i64 x0_7, .int .i64 x0_8, .int .i64 x0_9], .agg [.int .u8 x1_0, .int .i64 x1_1, .int .i64 x1_2, .bool x1_3]] [] (fun sv _ _ => sv = .bool true) := by
  have hlawE := @step_end ⟨x0_0, x0_1, x0_2, x0_3, x0_4, x0_5, x0_6, x0_7, x0_8, x0_9⟩
  refine fc_of mixed T_ok Try.func7 rfl (by kernel_rfl) (by kernel_rfl) (by kernel_rfl) ?_
  repeat' ((conv => whnf); first | (refine vcall_pure (ref_checkX _ _ _ _ _ _ _ _ _ _) rfl rfl ?_) | (refine vcall_pure (hlawE (by assumption) (by assumption) _ _ _ _) rfl rfl ?_) | (refine vcall_pure (law_awake) rfl rfl ?_) | (refine vcall_pure (@open_end ⟨x0_0, x0_1, x0_2, x0_3, x0_4, x0_5, x0_6, x0_7, x0_8, x0_9⟩ (by assumption) (by assumption)) rfl rfl ?_) | (refine br_dec (fun h => ?_) (fun h => ?_) <;> try (exfalso; omega)) | (refine br_ndec (fun h => ?_) (fun h => ?_) <;> try (exfalso; omega)) | refine br_seq (fun h => ?_) (fun h => ?_) | refine br_nseq (fun h => ?_) (fun h => ?_) | refine br_not (fun h => ?_) (fun h => ?_) | refine br_intro (fun h => ?_) (fun h => ?_) | (refine idx_intro ?_ ?_ ?_; (omega); (omega)) | (refine nz_intro ?_ ?_; (first | decide | omega)) | (refine lt_intro ?_ ?_; (omega)))
  all_goals (conv => whnf)
  all_goals first | rfl | (exfalso; simp [seq, Au.zero] at *; done)
end Go.Proofs.Ytllgfdogieohaaa
