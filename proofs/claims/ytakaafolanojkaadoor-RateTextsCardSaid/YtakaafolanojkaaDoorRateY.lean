/- Contracts: a rate is read from its text. -/
import Derived.Test.YtakaafolanojkaaDoorRateX
namespace Go.Proofs.YtakaafolanojkaaDoor
open Go.RowKit Go.Sy
attribute [local irreducible] vcall vloop vcallD retP ByteArray.extract cutA cutB cutI numO
set_option maxRecDepth 100000
set_option linter.unusedVariables false
set_option linter.unusedSimpArgs false

theorem str_Cut (s : ByteArray) (hs : s.size ≤ 100000) : Pure Tryd.prog 14 [.str s, .str ⟨#[47]⟩] (cutR s) := by
  have c := lite_Cut s hs
  refine fc_of mixed T_ok Tryd.func14 rfl (by kernel_rfl) (by kernel_rfl) (by kernel_rfl) ?_
  repeat' ((conv => whnf); first | (refine vcall_pure (c) rfl rfl rfl ?_) | (refine br_dec (fun h => ?_) (fun h => ?_) <;> try (exfalso; (try dsimp only at h); omega)) | (refine br_ndec (fun h => ?_) (fun h => ?_) <;> try (exfalso; (try dsimp only at h); omega)) | refine br_seq (fun h => ?_) (fun h => ?_) | refine br_nseq (fun h => ?_) (fun h => ?_) | refine br_not (fun h => ?_) (fun h => ?_) | refine br_intro (fun h => ?_) (fun h => ?_) | refine cond_intro rfl ?_ | (refine cond_intro ⟨rfl, ?_⟩ ?_; (first | omega | (dsimp only; omega) | decide)) | (refine cond_intro ?_ ?_; (first | omega | (dsimp only; omega) | decide | (simp only [Nat.add_zero, Int.toNat_natCast, *]; omega))))
  all_goals (conv => whnf)
  all_goals exact ret_pure rfl
/-- The numbers of a rate's text. -/
def paS (s : ByteArray) : ByteArray := s.extract 8 s.size
def paN (s : ByteArray) : Int := (numO (cutA (paS s))).getD 0
def paD (s : ByteArray) : Int := (numO (cutB (paS s))).getD 0
/-- The error of a rate's text. -/
def paE (s : ByteArray) : Int :=
  if s.size = 0 then 1
  else if s.size < 8 ∨ byteAt s 3 ≠ 47 ∨ byteAt s 7 ≠ 32 then 2
  else if (numO (cutA (paS s))).isNone ∨ (numO (cutB (paS s))).isNone then 2
  else rchk (s.extract 0 3) (s.extract 4 7) (paN s) (paD s)
def paR (s : ByteArray) : SV := rT (paE s) (s.extract 0 3) (s.extract 4 7) (paN s) (paD s)
set_option maxHeartbeats 1000000 in
theorem rate_Parse (s : ByteArray) (hs : s.size ≤ 1000) : Glob Tryd.prog glT 7 [.str s] (paR s) := by
  unfold paR
  by_cases h0 : s.size = 0
  · have he : paE s = 1 := by unfold paE; rw [if_pos h0]
    rw [he, rT_err (by decide)]
    have e : s = ⟨#[]⟩ := by
      cases s; rename_i d
      congr 1
      exact Array.eq_empty_of_size_eq_zero h0
    subst e
    refine fc_of mixed T_ok Tryd.func7 rfl (by kernel_rfl) (by kernel_rfl) (by kernel_rfl) ?_
    repeat' ((conv => whnf); first | (refine br_dec (fun h => ?_) (fun h => ?_) <;> try (exfalso; (try dsimp only at h); omega)) | (refine br_ndec (fun h => ?_) (fun h => ?_) <;> try (exfalso; (try dsimp only at h); omega)) | refine br_seq (fun h => ?_) (fun h => ?_) | refine br_nseq (fun h => ?_) (fun h => ?_) | refine br_not (fun h => ?_) (fun h => ?_) | refine br_intro (fun h => ?_) (fun h => ?_) | refine cond_intro rfl ?_ | (refine cond_intro ⟨rfl, ?_⟩ ?_; (first | omega | (dsimp only; omega) | decide)) | (refine cond_intro ?_ ?_; (first | omega | (dsimp only; omega) | decide | (simp only [Nat.add_zero, Int.toNat_natCast, *]; omega))))
    all_goals (conv => whnf)
    all_goals first
      | exact ret_pure rfl
      | trace_state
  have hne : s ≠ ⟨#[]⟩ := fun q => by subst q; exact h0 rfl
  by_cases h1 : s.size < 8 ∨ byteAt s 3 ≠ 47 ∨ byteAt s 7 ≠ 32
  · have he : paE s = 2 := by unfold paE; rw [if_neg h0, if_pos h1]
    rw [he, rT_err (by decide)]
    refine fc_of mixed T_ok Tryd.func7 rfl (by kernel_rfl) (by kernel_rfl) (by kernel_rfl) ?_
    repeat' ((conv => whnf); first | (refine br_dec (fun h => ?_) (fun h => ?_) <;> try (exfalso; (try dsimp only at h); omega)) | (refine br_ndec (fun h => ?_) (fun h => ?_) <;> try (exfalso; (try dsimp only at h); omega)) | refine br_seq (fun h => ?_) (fun h => ?_) | refine br_nseq (fun h => ?_) (fun h => ?_) | refine br_not (fun h => ?_) (fun h => ?_) | refine br_intro (fun h => ?_) (fun h => ?_) | refine cond_intro rfl ?_ | (refine cond_intro ⟨rfl, ?_⟩ ?_; (first | omega | (dsimp only; omega) | decide)) | (refine cond_intro ?_ ?_; (first | omega | (dsimp only; omega) | decide | (simp only [Nat.add_zero, Int.toNat_natCast, *]; omega))))
    all_goals (conv => whnf)
    all_goals first
      | exact ret_pure rfl
      | (exfalso; first | omega | contradiction | (rcases h1 with q | q | q <;> first | omega | contradiction))
      | trace_state
  · have hz : (paS s).size ≤ 1000 := by unfold paS; rw [ByteArray.size_extract]; omega
    have zA := cutA_size (paS s)
    have zB := cutB_size (paS s)
    have c1 := str_Cut (paS s) (by omega)
    have c2 := rate_number (cutA (paS s)) (by omega)
    have c3 := rate_number (cutB (paS s)) (by omega)
    have c4 := str_Clone (s.extract 0 3) (by rw [ByteArray.size_extract]; omega)
    have c5 := str_Clone (s.extract 4 7) (by rw [ByteArray.size_extract]; omega)
    unfold cutR at c1
    unfold numR at c2 c3
    have hpn : paN s = (numO (cutA (paS s))).getD 0 := rfl
    have hpd : paD s = (numO (cutB (paS s))).getD 0 := rfl
    have hpe : paE s = if (numO (cutA (paS s))).isNone ∨ (numO (cutB (paS s))).isNone then 2 else rchk (s.extract 0 3) (s.extract 4 7) (paN s) (paD s) := by unfold paE; rw [if_neg h0, if_neg h1]
    generalize cutA (paS s) = A at *
    generalize cutB (paS s) = B at *
    cases hA : numO A with
    | none =>
      have he : paE s = 2 := by rw [hpe, if_pos (.inl (by rw [hA]; rfl))]
      rw [he, rT_err (by decide)]
      rw [hA] at c2
      cases hB : numO B with
      | none =>
        rw [hB] at c3
        unfold paS at *
        refine fc_of mixed T_ok Tryd.func7 rfl (by kernel_rfl) (by kernel_rfl) (by kernel_rfl) ?_
        repeat' ((conv => whnf); first | (refine vcall_pure (c1) rfl rfl rfl ?_) | (refine vcall_glob (c2) rfl rfl rfl rfl ?_) | (refine vcall_glob (c3) rfl rfl rfl rfl ?_) | (refine br_dec (fun h => ?_) (fun h => ?_) <;> try (exfalso; (try dsimp only at h); omega)) | (refine br_ndec (fun h => ?_) (fun h => ?_) <;> try (exfalso; (try dsimp only at h); omega)) | refine br_seq (fun h => ?_) (fun h => ?_) | refine br_nseq (fun h => ?_) (fun h => ?_) | refine br_not (fun h => ?_) (fun h => ?_) | refine br_intro (fun h => ?_) (fun h => ?_) | refine cond_intro rfl ?_ | (refine cond_intro ⟨rfl, ?_⟩ ?_; (first | omega | (dsimp only; omega) | decide)) | (refine cond_intro ?_ ?_; (first | omega | (dsimp only; omega) | decide | (simp only [Nat.add_zero, Int.toNat_natCast, *]; omega))))
        all_goals (conv => whnf)
        all_goals first
          | exact ret_pure rfl
          | (exfalso; first | omega | contradiction | (simp only [not_or, Decidable.not_not] at h1; first | omega | (obtain ⟨q1, q2, q3⟩ := h1; first | omega | contradiction)))
          | trace_state
      | some d =>
        rw [hB] at c3
        unfold paS at *
        refine fc_of mixed T_ok Tryd.func7 rfl (by kernel_rfl) (by kernel_rfl) (by kernel_rfl) ?_
        repeat' ((conv => whnf); first | (refine vcall_pure (c1) rfl rfl rfl ?_) | (refine vcall_glob (c2) rfl rfl rfl rfl ?_) | (refine vcall_glob (c3) rfl rfl rfl rfl ?_) | (refine br_dec (fun h => ?_) (fun h => ?_) <;> try (exfalso; (try dsimp only at h); omega)) | (refine br_ndec (fun h => ?_) (fun h => ?_) <;> try (exfalso; (try dsimp only at h); omega)) | refine br_seq (fun h => ?_) (fun h => ?_) | refine br_nseq (fun h => ?_) (fun h => ?_) | refine br_not (fun h => ?_) (fun h => ?_) | refine br_intro (fun h => ?_) (fun h => ?_) | refine cond_intro rfl ?_ | (refine cond_intro ⟨rfl, ?_⟩ ?_; (first | omega | (dsimp only; omega) | decide)) | (refine cond_intro ?_ ?_; (first | omega | (dsimp only; omega) | decide | (simp only [Nat.add_zero, Int.toNat_natCast, *]; omega))))
        all_goals (conv => whnf)
        all_goals first
          | exact ret_pure rfl
          | (exfalso; first | omega | contradiction | (simp only [not_or, Decidable.not_not] at h1; first | omega | (obtain ⟨q1, q2, q3⟩ := h1; first | omega | contradiction)))
          | trace_state
    | some n =>
      rw [hA] at c2
      have hn : paN s = n := by rw [hpn, hA]; rfl
      cases hB : numO B with
      | none =>
        have he : paE s = 2 := by rw [hpe, if_pos (.inr (by rw [hB]; rfl))]
        rw [he, rT_err (by decide)]
        rw [hB] at c3
        unfold paS at *
        refine fc_of mixed T_ok Tryd.func7 rfl (by kernel_rfl) (by kernel_rfl) (by kernel_rfl) ?_
        repeat' ((conv => whnf); first | (refine vcall_pure (c1) rfl rfl rfl ?_) | (refine vcall_glob (c2) rfl rfl rfl rfl ?_) | (refine vcall_glob (c3) rfl rfl rfl rfl ?_) | (refine br_dec (fun h => ?_) (fun h => ?_) <;> try (exfalso; (try dsimp only at h); omega)) | (refine br_ndec (fun h => ?_) (fun h => ?_) <;> try (exfalso; (try dsimp only at h); omega)) | refine br_seq (fun h => ?_) (fun h => ?_) | refine br_nseq (fun h => ?_) (fun h => ?_) | refine br_not (fun h => ?_) (fun h => ?_) | refine br_intro (fun h => ?_) (fun h => ?_) | refine cond_intro rfl ?_ | (refine cond_intro ⟨rfl, ?_⟩ ?_; (first | omega | (dsimp only; omega) | decide)) | (refine cond_intro ?_ ?_; (first | omega | (dsimp only; omega) | decide | (simp only [Nat.add_zero, Int.toNat_natCast, *]; omega))))
        all_goals (conv => whnf)
        all_goals first
          | exact ret_pure rfl
          | (exfalso; first | omega | contradiction | (simp only [not_or, Decidable.not_not] at h1; first | omega | (obtain ⟨q1, q2, q3⟩ := h1; first | omega | contradiction)))
          | trace_state
      | some d =>
        have hd : paD s = d := by rw [hpd, hB]; rfl
        have c6 := rate_Check (s.extract 0 3) (s.extract 4 7) n d
        have he : paE s = rchk (s.extract 0 3) (s.extract 4 7) n d := by
          rw [hpe, if_neg, hn, hd]
          rw [hA, hB]; simp
        rw [hB] at c3
        rw [he, hn, hd]
        generalize rchk (s.extract 0 3) (s.extract 4 7) n d = ck at *
        unfold paS at *
        by_cases hck : ck = 0
        · subst hck
          rw [rT_ok]
          refine fc_of mixed T_ok Tryd.func7 rfl (by kernel_rfl) (by kernel_rfl) (by kernel_rfl) ?_
          repeat' ((conv => whnf); first | (refine vcall_pure (c1) rfl rfl rfl ?_) | (refine vcall_glob (c2) rfl rfl rfl rfl ?_) | (refine vcall_glob (c3) rfl rfl rfl rfl ?_) | (refine vcall_glob (c6) rfl rfl rfl rfl ?_) | (refine vcall_pure (c4) rfl rfl rfl ?_) | (refine vcallD_pure (c4) rfl rfl rfl ?_) | (refine vcall_pure (c5) rfl rfl rfl ?_) | (refine vcallD_pure (c5) rfl rfl rfl ?_) | (refine br_dec (fun h => ?_) (fun h => ?_) <;> try (exfalso; (try dsimp only at h); omega)) | (refine br_ndec (fun h => ?_) (fun h => ?_) <;> try (exfalso; (try dsimp only at h); omega)) | refine br_seq (fun h => ?_) (fun h => ?_) | refine br_nseq (fun h => ?_) (fun h => ?_) | refine br_not (fun h => ?_) (fun h => ?_) | refine br_intro (fun h => ?_) (fun h => ?_) | refine cond_intro rfl ?_ | (refine cond_intro ⟨rfl, ?_⟩ ?_; (first | omega | (dsimp only; omega) | decide)) | (refine cond_intro ?_ ?_; (first | omega | (dsimp only; omega) | decide | (simp only [Nat.add_zero, Int.toNat_natCast, *]; omega))))
          all_goals (conv => whnf)
          all_goals first
            | exact ret_pure rfl
            | (exfalso; first | omega | contradiction | (simp only [not_or, Decidable.not_not] at h1; first | omega | (obtain ⟨q1, q2, q3⟩ := h1; first | omega | contradiction)))
            | trace_state
        · rw [rT_err hck]
          refine fc_of mixed T_ok Tryd.func7 rfl (by kernel_rfl) (by kernel_rfl) (by kernel_rfl) ?_
          repeat' ((conv => whnf); first | (refine vcall_pure (c1) rfl rfl rfl ?_) | (refine vcall_glob (c2) rfl rfl rfl rfl ?_) | (refine vcall_glob (c3) rfl rfl rfl rfl ?_) | (refine vcall_glob (c6) rfl rfl rfl rfl ?_) | (refine vcall_pure (c4) rfl rfl rfl ?_) | (refine vcallD_pure (c4) rfl rfl rfl ?_) | (refine vcall_pure (c5) rfl rfl rfl ?_) | (refine vcallD_pure (c5) rfl rfl rfl ?_) | (refine br_dec (fun h => ?_) (fun h => ?_) <;> try (exfalso; (try dsimp only at h); omega)) | (refine br_ndec (fun h => ?_) (fun h => ?_) <;> try (exfalso; (try dsimp only at h); omega)) | refine br_seq (fun h => ?_) (fun h => ?_) | refine br_nseq (fun h => ?_) (fun h => ?_) | refine br_not (fun h => ?_) (fun h => ?_) | refine br_intro (fun h => ?_) (fun h => ?_) | refine cond_intro rfl ?_ | (refine cond_intro ⟨rfl, ?_⟩ ?_; (first | omega | (dsimp only; omega) | decide)) | (refine cond_intro ?_ ?_; (first | omega | (dsimp only; omega) | decide | (simp only [Nat.add_zero, Int.toNat_natCast, *]; omega))))
          all_goals (conv => whnf)
          all_goals first
            | exact ret_pure rfl
            | (exfalso; first | omega | contradiction | (simp only [not_or, Decidable.not_not] at h1; first | omega | (obtain ⟨q1, q2, q3⟩ := h1; first | omega | contradiction)))
            | trace_state
end Go.Proofs.YtakaafolanojkaaDoor
