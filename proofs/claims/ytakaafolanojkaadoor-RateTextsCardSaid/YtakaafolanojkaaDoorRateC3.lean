/- Contracts of package rate, and of the reference's: products of rates, texts. -/
import Derived.Test.YtakaafolanojkaaDoorRateC2
namespace Go.Proofs.YtakaafolanojkaaDoor
open Go.RowKit Go.Sy
attribute [local irreducible] vcall vloop vcallD retP
set_option maxRecDepth 100000
set_option linter.unusedVariables false
set_option linter.unusedSimpArgs false

/-- The product of two fractions in lowest terms: its parts. -/
def pA (a b c d : Int) : Int := redN (redN a b) (redD c d)
def pD (a b c d : Int) : Int := redD (redN a b) (redD c d)
def pC (a b c d : Int) : Int := redN (redN c d) (redD a b)
def pB (a b c d : Int) : Int := redD (redN c d) (redD a b)
/-- The error of a product. -/
def prE (a b c d : Int) : Int := if (1099511627776 : Int).tdiv (pC a b c d) < pA a b c d ∨ (1099511627776 : Int).tdiv (pD a b c d) < pB a b c d then 4 else 0
theorem p_bd {a b c d : Int} (ha : 1 ≤ a) (hb : 1 ≤ b) (hc : 1 ≤ c) (hd : 1 ≤ d) : (1 ≤ pA a b c d ∧ pA a b c d ≤ a) ∧ (1 ≤ pB a b c d ∧ pB a b c d ≤ b) ∧ (1 ≤ pC a b c d ∧ pC a b c d ≤ c) ∧ (1 ≤ pD a b c d ∧ pD a b c d ≤ d) := by
  obtain ⟨x1, x2, x3, x4⟩ := red_bd ha hb
  obtain ⟨y1, y2, y3, y4⟩ := red_bd hc hd
  obtain ⟨z1, z2, z3, z4⟩ := red_bd x1 y3
  obtain ⟨w1, w2, w3, w4⟩ := red_bd y1 x3
  unfold pA pB pC pD
  omega
theorem tdiv_ge {m x y : Int} (hm : 0 ≤ m) (hy : 1 ≤ y) (hx : 1 ≤ x) (h : ¬ m.tdiv y < x) : x * y ≤ m := by
  rw [Int.tdiv_eq_ediv_of_nonneg hm] at h
  have := Int.mul_le_mul_of_nonneg_right (show x ≤ m / y by omega) (show 0 ≤ y by omega)
  have h2 := Int.ediv_mul_le m (show y ≠ 0 by omega)
  omega
theorem prE_ok {a b c d : Int} (ha : 1 ≤ a) (hb : 1 ≤ b) (hc : 1 ≤ c) (hd : 1 ≤ d) (h : prE a b c d = 0) : pA a b c d * pC a b c d ≤ 1099511627776 ∧ 0 ≤ pA a b c d * pC a b c d ∧ pB a b c d * pD a b c d ≤ 1099511627776 ∧ 0 ≤ pB a b c d * pD a b c d := by
  obtain ⟨⟨a1, a2⟩, ⟨b1, b2⟩, ⟨c1, c2⟩, ⟨d1, d2⟩⟩ := p_bd ha hb hc hd
  unfold prE at h
  split at h
  · cases h
  · rename_i hn
    exact ⟨tdiv_ge (by omega) c1 a1 (fun h => hn (.inl h)), Int.mul_nonneg (by omega) (by omega), tdiv_ge (by omega) d1 b1 (fun h => hn (.inr h)), Int.mul_nonneg (by omega) (by omega)⟩
theorem prE_or (a b c d : Int) : prE a b c d = 4 ∨ prE a b c d = 0 := by unfold prE; split <;> simp
attribute [irreducible] pA pB pC pD prE

/-- The error of the rate by way of another currency. -/
def crE (f t : ByteArray) (n d : Int) (f' t' : ByteArray) (n' d' : Int) : Int :=
  if rchk f t n d ≠ 0 then rchk f t n d else if rchk f' t' n' d' ≠ 0 then rchk f' t' n' d' else if t ≠ f' ∨ f = t' then 11 else prE n d n' d'
attribute [irreducible] crE

theorem rate_Cross (f t : ByteArray) (n d : Int) (f' t' : ByteArray) (n' d' : Int) :
    Glob Tryd.prog glT 12 [.agg [.str f, .str t, .int .i64 n, .int .i64 d], .agg [.str f', .str t', .int .i64 n', .int .i64 d']] (rT (crE f t n d f' t' n' d') f t' (pA n d n' d' * pC n d n' d') (pB n d n' d' * pD n d n' d')) := by
  have c1 := rate_Check f t n d
  have c2 := rate_Check f' t' n' d'
  refine fc_of mixed T_ok Tryd.func12 rfl (by kernel_rfl) (by kernel_rfl) (by kernel_rfl) ?_
  by_cases e1 : rchk f t n d = 0
  · rw [e1] at c1
    by_cases e2 : rchk f' t' n' d' = 0
    · rw [e2] at c2
      by_cases e3 : t ≠ f' ∨ f = t'
      · have he : crE f t n d f' t' n' d' = 11 := by unfold crE; rw [if_neg (by omega), if_neg (by omega), if_pos e3]
        rw [he, rT_err (by omega)]
        repeat' ((conv => whnf); first | (refine vcall_glob (c1) rfl rfl rfl rfl ?_) | (refine vcall_glob (c2) rfl rfl rfl rfl ?_) | (refine br_dec (fun h => ?_) (fun h => ?_) <;> try (exfalso; (try dsimp only at h); omega)) | (refine br_ndec (fun h => ?_) (fun h => ?_) <;> try (exfalso; (try dsimp only at h); omega)) | refine br_seq (fun h => ?_) (fun h => ?_) | refine br_nseq (fun h => ?_) (fun h => ?_) | refine br_not (fun h => ?_) (fun h => ?_) | refine br_intro (fun h => ?_) (fun h => ?_) | refine cond_intro rfl ?_ | (refine cond_intro ⟨rfl, ?_⟩ ?_; (first | omega | (dsimp only; omega) | decide)) | (refine cond_intro ?_ ?_; (first | omega | (dsimp only; omega) | decide | (simp only [Nat.add_zero, Int.toNat_natCast, *]; omega))))
        all_goals (conv => whnf)
        all_goals first | exact ret_pure rfl | (exfalso; simp_all; done)
      · obtain ⟨_, _, _, b1, b2, b3, b4⟩ := rchk_ok e1
        obtain ⟨_, _, _, b1', b2', b3', b4'⟩ := rchk_ok e2
        have he : crE f t n d f' t' n' d' = prE n d n' d' := by unfold crE; rw [if_neg (by omega), if_neg (by omega), if_neg e3]
        obtain ⟨x1, x2, x3, x4⟩ := red_bd b1 b3
        obtain ⟨y1, y2, y3, y4⟩ := red_bd b1' b3'
        have r1 := rate_Reduce n d (by omega) (by omega)
        have r2 := rate_Reduce n' d' (by omega) (by omega)
        have r3 := rate_Reduce (redN n d) (redD n' d') (by omega) (by omega)
        have r4 := rate_Reduce (redN n' d') (redD n d) (by omega) (by omega)
        obtain ⟨⟨a1, a2⟩, ⟨k1, k2⟩, ⟨m1, m2⟩, ⟨o1, o2⟩⟩ := p_bd b1 b3 b1' b3'
        have hP := prE_ok b1 b3 b1' b3'
        have hQ : prE n d n' d' = if (1099511627776 : Int).tdiv (pC n d n' d') < pA n d n' d' ∨ (1099511627776 : Int).tdiv (pD n d n' d') < pB n d n' d' then 4 else 0 := by unfold prE; rfl
        rw [show redN (redN n d) (redD n' d') = pA n d n' d' from by unfold pA; rfl, show redD (redN n d) (redD n' d') = pD n d n' d' from by unfold pD; rfl] at r3
        rw [show redN (redN n' d') (redD n d) = pC n d n' d' from by unfold pC; rfl, show redD (redN n' d') (redD n d) = pB n d n' d' from by unfold pB; rfl] at r4
        have tb : ∀ x : Int, 1 ≤ x → IntKind.i64.wrap ((1099511627776 : Int).tdiv x) = (1099511627776 : Int).tdiv x := fun x hx => by
          have h1 := Int.tdiv_nonneg (a := 1099511627776) (b := x) (by omega) (by omega)
          have h2 := Int.tdiv_le_self (a := 1099511627776) x (by omega)
          rw [w64_in (by omega) (by omega)]
        have t1 := tb _ m1
        have t2 := tb _ o1
        rw [he]
        rcases prE_or n d n' d' with hp | hp
        · rw [hp, rT_err (by omega)]
          rw [hp] at hQ
          have hor : (1099511627776 : Int).tdiv (pC n d n' d') < pA n d n' d' ∨ (1099511627776 : Int).tdiv (pD n d n' d') < pB n d n' d' := by
            rcases Classical.em ((1099511627776 : Int).tdiv (pC n d n' d') < pA n d n' d' ∨ (1099511627776 : Int).tdiv (pD n d n' d') < pB n d n' d') with h | h
            · exact h
            · rw [if_neg h] at hQ; omega
          repeat' ((conv => whnf); first | (refine vcall_glob (c1) rfl rfl rfl rfl ?_) | (refine vcall_glob (c2) rfl rfl rfl rfl ?_) | (refine vcall_pure (r1) rfl rfl rfl ?_) | (refine vcall_pure (r2) rfl rfl rfl ?_) | (refine vcall_pure (r3) rfl rfl rfl ?_) | (refine vcall_pure (r4) rfl rfl rfl ?_) | (refine br_nseq (fun h => ?_) (fun h => ?_) <;> try (exfalso; exact e3 (.inl h))) | (refine br_seq (fun h => ?_) (fun h => ?_) <;> try (exfalso; exact e3 (.inr h))) | (refine br_dec (fun h => ?_) (fun h => ?_) <;> try (exfalso; (try dsimp only at h); omega)) | (refine br_ndec (fun h => ?_) (fun h => ?_) <;> try (exfalso; (try dsimp only at h); omega)) | refine br_seq (fun h => ?_) (fun h => ?_) | refine br_nseq (fun h => ?_) (fun h => ?_) | refine br_not (fun h => ?_) (fun h => ?_) | refine br_intro (fun h => ?_) (fun h => ?_) | refine cond_intro rfl ?_ | (refine cond_intro ⟨rfl, ?_⟩ ?_; (first | omega | (dsimp only; omega) | decide)) | (refine cond_intro ?_ ?_; (first | omega | (dsimp only; omega) | decide | (simp only [Nat.add_zero, Int.toNat_natCast, *]; omega))))
          all_goals (conv => whnf)
          all_goals first | exact ret_pure rfl | (exfalso; omega)
        · rw [hp] at hQ
          have hor : ¬ ((1099511627776 : Int).tdiv (pC n d n' d') < pA n d n' d' ∨ (1099511627776 : Int).tdiv (pD n d n' d') < pB n d n' d') := by
            intro h
            rw [if_pos h] at hQ; omega
          obtain ⟨q1, q2, q3, q4⟩ := hP hp
          have s1 : pA n d n' d' * pC n d n' d' = IntKind.i64.wrap (pA n d n' d' * pC n d n' d') := by rw [w64_in (by omega) (by omega)]
          have s2 : pB n d n' d' * pD n d n' d' = IntKind.i64.wrap (pB n d n' d' * pD n d n' d') := by rw [w64_in (by omega) (by omega)]
          rw [hp, rT_ok, s1, s2]
          repeat' ((conv => whnf); first | (refine vcall_glob (c1) rfl rfl rfl rfl ?_) | (refine vcall_glob (c2) rfl rfl rfl rfl ?_) | (refine vcall_pure (r1) rfl rfl rfl ?_) | (refine vcall_pure (r2) rfl rfl rfl ?_) | (refine vcall_pure (r3) rfl rfl rfl ?_) | (refine vcall_pure (r4) rfl rfl rfl ?_) | (refine br_nseq (fun h => ?_) (fun h => ?_) <;> try (exfalso; exact e3 (.inl h))) | (refine br_seq (fun h => ?_) (fun h => ?_) <;> try (exfalso; exact e3 (.inr h))) | (refine br_dec (fun h => ?_) (fun h => ?_) <;> try (exfalso; (try dsimp only at h); omega)) | (refine br_ndec (fun h => ?_) (fun h => ?_) <;> try (exfalso; (try dsimp only at h); omega)) | refine br_seq (fun h => ?_) (fun h => ?_) | refine br_nseq (fun h => ?_) (fun h => ?_) | refine br_not (fun h => ?_) (fun h => ?_) | refine br_intro (fun h => ?_) (fun h => ?_) | refine cond_intro rfl ?_ | (refine cond_intro ⟨rfl, ?_⟩ ?_; (first | omega | (dsimp only; omega) | decide)) | (refine cond_intro ?_ ?_; (first | omega | (dsimp only; omega) | decide | (simp only [Nat.add_zero, Int.toNat_natCast, *]; omega))))
          all_goals (conv => whnf)
          all_goals first | exact ret_pure rfl | (exfalso; omega)
    · have he : crE f t n d f' t' n' d' = rchk f' t' n' d' := by unfold crE; rw [if_neg (by omega), if_pos e2]
      rw [he, rT_err e2]
      repeat' ((conv => whnf); first | (refine vcall_glob (c1) rfl rfl rfl rfl ?_) | (refine vcall_glob (c2) rfl rfl rfl rfl ?_) | (refine br_dec (fun h => ?_) (fun h => ?_) <;> try (exfalso; (try dsimp only at h); omega)) | (refine br_ndec (fun h => ?_) (fun h => ?_) <;> try (exfalso; (try dsimp only at h); omega)) | refine br_seq (fun h => ?_) (fun h => ?_) | refine br_nseq (fun h => ?_) (fun h => ?_) | refine br_not (fun h => ?_) (fun h => ?_) | refine br_intro (fun h => ?_) (fun h => ?_) | refine cond_intro rfl ?_ | (refine cond_intro ⟨rfl, ?_⟩ ?_; (first | omega | (dsimp only; omega) | decide)) | (refine cond_intro ?_ ?_; (first | omega | (dsimp only; omega) | decide | (simp only [Nat.add_zero, Int.toNat_natCast, *]; omega))))
      all_goals (conv => whnf)
      all_goals exact ret_pure rfl
  · have he : crE f t n d f' t' n' d' = rchk f t n d := by unfold crE; rw [if_pos e1]
    rw [he, rT_err e1]
    repeat' ((conv => whnf); first | (refine vcall_glob (c1) rfl rfl rfl rfl ?_) | (refine vcall_glob (c2) rfl rfl rfl rfl ?_) | (refine br_dec (fun h => ?_) (fun h => ?_) <;> try (exfalso; (try dsimp only at h); omega)) | (refine br_ndec (fun h => ?_) (fun h => ?_) <;> try (exfalso; (try dsimp only at h); omega)) | refine br_seq (fun h => ?_) (fun h => ?_) | refine br_nseq (fun h => ?_) (fun h => ?_) | refine br_not (fun h => ?_) (fun h => ?_) | refine br_intro (fun h => ?_) (fun h => ?_) | refine cond_intro rfl ?_ | (refine cond_intro ⟨rfl, ?_⟩ ?_; (first | omega | (dsimp only; omega) | decide)) | (refine cond_intro ?_ ?_; (first | omega | (dsimp only; omega) | decide | (simp only [Nat.add_zero, Int.toNat_natCast, *]; omega))))
    all_goals (conv => whnf)
    all_goals exact ret_pure rfl
end Go.Proofs.YtakaafolanojkaaDoor
