/- Contracts of package binrange: ranges that overlap, tables. -/
import Derived.Test.YtkmbnniikncaiaaBinC2
namespace Go.Proofs.Ytkmbnniikncaiaa
open Go.RowKit Go.Sy
attribute [local irreducible] vcall vloop vcallD retP
set_option maxRecDepth 100000
set_option linter.unusedVariables false
set_option linter.unusedSimpArgs false

def repS (c : UInt8) (n : Nat) : ByteArray := ⟨(List.replicate n c).toArray⟩
theorem repS_size (c : UInt8) (n : Nat) : (repS c n).size = n := by
  show (List.replicate n c).toArray.size = n
  simp
theorem repeatL_one (c : UInt8) : ∀ n, Lib.repeatL [c] n = List.replicate n c
  | 0 => rfl
  | n + 1 => by rw [Lib.repeatL, repeatL_one c n]; rfl
theorem str_Rep (c : UInt8) (n : Nat) (hn : n ≤ 100000) : Pure Try.prog 66 [.str ⟨#[c]⟩, .int .i64 n] (.str (repS c n)) := by
  refine pure_of_calls (vals := [.string ⟨#[c]⟩, .int .i64 n]) (v := .string (repS c n)) (bodied_of' Try.func66 (by kernel_rfl) (by kernel_rfl)) ?_ ?_ ?_
  · intro g vs h
    simpa [Rvs, Rv] using h
  · intro g; simp [Rv]
  · intro w
    have h := Try.strings_Repeat ⟨#[c]⟩ n w (by omega) (by show 1 * n ≤ _; omega)
    rw [show (Lib.repeatL ((⟨#[c]⟩ : ByteArray).data.toList) n) = List.replicate n c from repeatL_one c n] at h
    exact h

/-- A prefix, followed by a digit. -/
def flS (c : UInt8) (p : ByteArray) : ByteArray := p ++ repS c (10 - p.size)
theorem bin_filled (c : UInt8) (p : ByteArray) (hp : p.size ≤ 10) : Pure Try.prog 56 [.str p, .str ⟨#[c]⟩] (.str (flS c p)) := by
  have c1 := str_Rep c (10 - p.size) (by omega)
  have hz := repS_size c (10 - p.size)
  unfold flS
  rw [show ((10 - p.size : Nat) : Int) = IntKind.i64.wrap (10 - (p.size : Int)) by rw [w64_in (by omega) (by omega)]; omega] at c1
  refine fc_of mixed T_ok Try.func56 rfl (by kernel_rfl) (by kernel_rfl) (by kernel_rfl) ?_
  repeat' ((conv => whnf); first | (refine vcall_pure (c1) rfl rfl rfl ?_) | (refine vcallD_pure (c1) rfl rfl rfl ?_) | (refine cond_intro ?_ ?_; (rw [hz]; omega)) | (refine br_dec (fun h => ?_) (fun h => ?_) <;> try (exfalso; (try dsimp only at h); omega)) | (refine br_ndec (fun h => ?_) (fun h => ?_) <;> try (exfalso; (try dsimp only at h); omega)) | refine br_seq (fun h => ?_) (fun h => ?_) | refine br_nseq (fun h => ?_) (fun h => ?_) | refine br_not (fun h => ?_) (fun h => ?_) | refine br_intro (fun h => ?_) (fun h => ?_) | refine cond_intro rfl ?_ | (refine cond_intro ⟨rfl, ?_⟩ ?_; (first | omega | (dsimp only; omega) | decide)) | (refine cond_intro ?_ ?_; (first | omega | (dsimp only; omega) | decide | (simp only [Nat.add_zero, Int.toNat_natCast, *]; omega))))
  all_goals (conv => whnf)
  all_goals exact ret_pure rfl

def sle (x y : ByteArray) : Bool := strLt x y || seq x y
/-- Whether two ranges overlap. -/
def ovB (alo ahi blo bhi : ByteArray) : Bool := fmB alo ahi && fmB blo bhi && sle alo ahi && sle blo bhi && sle (strMax (flS 48 alo) (flS 48 blo)) (strMin (flS 57 ahi) (flS 57 bhi))
theorem fmB_sz {lo hi : ByteArray} (h : fmB lo hi = true) : lo.size ≤ 10 ∧ hi.size ≤ 10 := by
  unfold fmB at h
  simp only [Bool.and_eq_true, decide_eq_true_eq] at h
  exact ⟨(pfB_sz h.1.1).2, (pfB_sz h.1.2).2⟩
theorem bin_Overlap (alo ahi ai ap blo bhi bi bp : ByteArray) : Pure Try.prog 39 [.agg [.str alo, .str ahi, .str ai, .str ap], .agg [.str blo, .str bhi, .str bi, .str bp]] (.bool (ovB alo ahi blo bhi)) := by
  have c1 := bin_formed alo ahi ai ap
  have c2 := bin_formed blo bhi bi bp
  unfold ovB
  cases h1 : fmB alo ahi with
  | false =>
    rw [h1] at c1
    refine fc_of mixed T_ok Try.func39 rfl (by kernel_rfl) (by kernel_rfl) (by kernel_rfl) ?_
    repeat' ((conv => whnf); first | (refine vcall_pure (c1) rfl rfl rfl ?_) | (refine vcallD_pure (c1) rfl rfl rfl ?_) | (refine br_dec (fun h => ?_) (fun h => ?_) <;> try (exfalso; (try dsimp only at h); omega)) | (refine br_ndec (fun h => ?_) (fun h => ?_) <;> try (exfalso; (try dsimp only at h); omega)) | refine br_seq (fun h => ?_) (fun h => ?_) | refine br_nseq (fun h => ?_) (fun h => ?_) | refine br_not (fun h => ?_) (fun h => ?_) | refine br_intro (fun h => ?_) (fun h => ?_) | refine cond_intro rfl ?_ | (refine cond_intro ⟨rfl, ?_⟩ ?_; (first | omega | (dsimp only; omega) | decide)) | (refine cond_intro ?_ ?_; (first | omega | (dsimp only; omega) | decide | (simp only [Nat.add_zero, Int.toNat_natCast, *]; omega))))
    all_goals (conv => whnf)
    all_goals exact ret_pure rfl
  | true =>
    rw [h1] at c1
    cases h2 : fmB blo bhi with
    | false =>
      rw [h2] at c2
      refine fc_of mixed T_ok Try.func39 rfl (by kernel_rfl) (by kernel_rfl) (by kernel_rfl) ?_
      repeat' ((conv => whnf); first | (refine vcall_pure (c1) rfl rfl rfl ?_) | (refine vcallD_pure (c1) rfl rfl rfl ?_) | (refine vcall_pure (c2) rfl rfl rfl ?_) | (refine vcallD_pure (c2) rfl rfl rfl ?_) | (refine br_dec (fun h => ?_) (fun h => ?_) <;> try (exfalso; (try dsimp only at h); omega)) | (refine br_ndec (fun h => ?_) (fun h => ?_) <;> try (exfalso; (try dsimp only at h); omega)) | refine br_seq (fun h => ?_) (fun h => ?_) | refine br_nseq (fun h => ?_) (fun h => ?_) | refine br_not (fun h => ?_) (fun h => ?_) | refine br_intro (fun h => ?_) (fun h => ?_) | refine cond_intro rfl ?_ | (refine cond_intro ⟨rfl, ?_⟩ ?_; (first | omega | (dsimp only; omega) | decide)) | (refine cond_intro ?_ ?_; (first | omega | (dsimp only; omega) | decide | (simp only [Nat.add_zero, Int.toNat_natCast, *]; omega))))
      all_goals (conv => whnf)
      all_goals exact ret_pure rfl
    | true =>
      rw [h2] at c2
      have z1 := fmB_sz h1
      have z2 := fmB_sz h2
      have d1 := bin_filled 48 alo z1.1
      have d2 := bin_filled 48 blo z2.1
      have d3 := bin_filled 57 ahi z1.2
      have d4 := bin_filled 57 bhi z2.2
      cases h3 : sle alo ahi with
      | false =>
        refine fc_of mixed T_ok Try.func39 rfl (by kernel_rfl) (by kernel_rfl) (by kernel_rfl) ?_
        repeat' ((conv => whnf); first | (refine vcall_pure (c1) rfl rfl rfl ?_) | (refine vcallD_pure (c1) rfl rfl rfl ?_) | (refine vcall_pure (c2) rfl rfl rfl ?_) | (refine vcallD_pure (c2) rfl rfl rfl ?_) | (refine br_intro (fun h => ?_) (fun h => absurd h (by rw [show (strLt alo ahi || seq alo ahi) = false from h3]; decide))) | (refine br_dec (fun h => ?_) (fun h => ?_) <;> try (exfalso; (try dsimp only at h); omega)) | (refine br_ndec (fun h => ?_) (fun h => ?_) <;> try (exfalso; (try dsimp only at h); omega)) | refine br_seq (fun h => ?_) (fun h => ?_) | refine br_nseq (fun h => ?_) (fun h => ?_) | refine br_not (fun h => ?_) (fun h => ?_) | refine br_intro (fun h => ?_) (fun h => ?_) | refine cond_intro rfl ?_ | (refine cond_intro ⟨rfl, ?_⟩ ?_; (first | omega | (dsimp only; omega) | decide)) | (refine cond_intro ?_ ?_; (first | omega | (dsimp only; omega) | decide | (simp only [Nat.add_zero, Int.toNat_natCast, *]; omega))))
        all_goals (conv => whnf)
        all_goals exact ret_pure rfl
      | true =>
        cases h4 : sle blo bhi with
        | false =>
          refine fc_of mixed T_ok Try.func39 rfl (by kernel_rfl) (by kernel_rfl) (by kernel_rfl) ?_
          repeat' ((conv => whnf); first | (refine vcall_pure (c1) rfl rfl rfl ?_) | (refine vcallD_pure (c1) rfl rfl rfl ?_) | (refine vcall_pure (c2) rfl rfl rfl ?_) | (refine vcallD_pure (c2) rfl rfl rfl ?_) | (refine br_intro (fun h => absurd h (by rw [show (strLt alo ahi || seq alo ahi) = true from h3]; decide)) (fun h => ?_)) | (refine br_intro (fun h => ?_) (fun h => absurd h (by rw [show (strLt blo bhi || seq blo bhi) = false from h4]; decide))) | (refine br_dec (fun h => ?_) (fun h => ?_) <;> try (exfalso; (try dsimp only at h); omega)) | (refine br_ndec (fun h => ?_) (fun h => ?_) <;> try (exfalso; (try dsimp only at h); omega)) | refine br_seq (fun h => ?_) (fun h => ?_) | refine br_nseq (fun h => ?_) (fun h => ?_) | refine br_not (fun h => ?_) (fun h => ?_) | refine br_intro (fun h => ?_) (fun h => ?_) | refine cond_intro rfl ?_ | (refine cond_intro ⟨rfl, ?_⟩ ?_; (first | omega | (dsimp only; omega) | decide)) | (refine cond_intro ?_ ?_; (first | omega | (dsimp only; omega) | decide | (simp only [Nat.add_zero, Int.toNat_natCast, *]; omega))))
          all_goals (conv => whnf)
          all_goals exact ret_pure rfl
        | true =>
          refine fc_of mixed T_ok Try.func39 rfl (by kernel_rfl) (by kernel_rfl) (by kernel_rfl) ?_
          repeat' ((conv => whnf); first | (refine vcall_pure (c1) rfl rfl rfl ?_) | (refine vcallD_pure (c1) rfl rfl rfl ?_) | (refine vcall_pure (c2) rfl rfl rfl ?_) | (refine vcallD_pure (c2) rfl rfl rfl ?_) | (refine vcall_pure (d1) rfl rfl rfl ?_) | (refine vcallD_pure (d1) rfl rfl rfl ?_) | (refine vcall_pure (d2) rfl rfl rfl ?_) | (refine vcallD_pure (d2) rfl rfl rfl ?_) | (refine vcall_pure (d3) rfl rfl rfl ?_) | (refine vcallD_pure (d3) rfl rfl rfl ?_) | (refine vcall_pure (d4) rfl rfl rfl ?_) | (refine vcallD_pure (d4) rfl rfl rfl ?_) | (refine br_intro (fun h => absurd h (by rw [show (strLt alo ahi || seq alo ahi) = true from h3]; decide)) (fun h => ?_)) | (refine br_intro (fun h => absurd h (by rw [show (strLt blo bhi || seq blo bhi) = true from h4]; decide)) (fun h => ?_)) | (refine br_dec (fun h => ?_) (fun h => ?_) <;> try (exfalso; (try dsimp only at h); omega)) | (refine br_ndec (fun h => ?_) (fun h => ?_) <;> try (exfalso; (try dsimp only at h); omega)) | refine br_seq (fun h => ?_) (fun h => ?_) | refine br_nseq (fun h => ?_) (fun h => ?_) | refine br_not (fun h => ?_) (fun h => ?_) | refine br_intro (fun h => ?_) (fun h => ?_) | refine cond_intro rfl ?_ | (refine cond_intro ⟨rfl, ?_⟩ ?_; (first | omega | (dsimp only; omega) | decide)) | (refine cond_intro ?_ ?_; (first | omega | (dsimp only; omega) | decide | (simp only [Nat.add_zero, Int.toNat_natCast, *]; omega))))
          all_goals (conv => whnf)
          all_goals exact ret_pure rfl
end Go.Proofs.Ytkmbnniikncaiaa
