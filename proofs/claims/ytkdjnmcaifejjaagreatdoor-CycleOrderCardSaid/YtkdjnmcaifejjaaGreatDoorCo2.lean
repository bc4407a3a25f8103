/- Several texts in one: XRateC2, XRateC3, XRateC4, XRateL, XRateM, XRateF, XPosL, XPosM, XPosN, XPosO, XSidx, XPosQ, XPosR, XPosP, XPosS, XCyA, XCyB, XCyC, XCyD, XCyE, XCyF, XCyG, XPosU, XPosT, XPosV, XCyS, XNetP, XNetC. -/
import Derived.Test.YtkdjnmcaifejjaaGreatDoorCo1
import Derived.Test.YtkdjnmcaifejjaaGreatDoorYLib
import Derived.Test.YtkdjnmcaifejjaaGreatDoorYLaw
import Derived.Test.YtkdjnmcaifejjaaGreatDoorYLaid
import Derived.Test.YtkdjnmcaifejjaaGreatDoorYArg
import Derived.Test.YtkdjnmcaifejjaaGreatDoorYFam
import Derived.Test.YtkdjnmcaifejjaaGreatDoorLay
import Derived.Test.YtkdjnmcaifejjaaGreatDoorYRen
import Derived.Test.YtkdjnmcaifejjaaGreatDoorYGb
import Derived.Test.YtkdjnmcaifejjaaGreatDoorYSortK
/- Contracts of package rate, and of the reference's: conversions, other rates. -/
namespace Go.Proofs.YtkdjnmcaifejjaaGreatDoor
open Go.RowKit Go.Sy
attribute [local irreducible] vcall vloop vcallD retP
set_option maxRecDepth 100000
set_option linter.unusedVariables false
set_option linter.unusedSimpArgs false

/-- The error of a conversion. -/
def cvE (a : Int) (c f t : ByteArray) (n d mode : Int) : Int :=
  if mchk a c ≠ 0 then mchk a c else if rchk f t n d ≠ 0 then rchk f t n d else if c ≠ f then 11 else sclE a c n d mode
def cvT (a : Int) (c f t : ByteArray) (n d mode : Int) : SV := .tup [.agg [.int .i64 (orN (cvE a c f t n d mode) (sclA a n d mode)), .str (orS (cvE a c f t n d mode) t)], .int .i64 (cvE a c f t n d mode)]
theorem cvT_err {a : Int} {c f t : ByteArray} {n d mode e : Int} (h : cvE a c f t n d mode = e) (he : e ≠ 0) : cvT a c f t n d mode = .tup [.agg [.int .i64 0, .str ⟨#[]⟩], .int .i64 e] := by
  unfold cvT; rw [h]; unfold orN orS; rw [if_neg he, if_neg he]
theorem cvT_ok {a : Int} {c f t : ByteArray} {n d mode : Int} (h : cvE a c f t n d mode = 0) : cvT a c f t n d mode = .tup [.agg [.int .i64 (sclA a n d mode), .str t], .int .i64 0] := by
  unfold cvT; rw [h]; unfold orN orS; rw [if_pos rfl, if_pos rfl]
attribute [irreducible] cvE
theorem rate_Convert (a : Int) (c f t : ByteArray) (n d mode : Int) (h1 : -9223372036854775808 ≤ n) (h2 : n ≤ 9223372036854775807) :
    Glob Tryz.prog glT 115 [.agg [.int .i64 a, .str c], .agg [.str f, .str t, .int .i64 n, .int .i64 d], .int .i64 mode] (cvT a c f t n d mode) := by
  have c1 := money_Check a c
  have c2 := rate_Check f t n d
  have c3 := money_Scale a c n d mode h1 h2
  refine fc_of mixed T_ok Tryz.func115 rfl (by kernel_rfl) (by kernel_rfl) (by kernel_rfl) ?_
  by_cases e1 : mchk a c = 0
  · rw [e1] at c1
    by_cases e2 : rchk f t n d = 0
    · rw [e2] at c2
      by_cases e3 : c = f
      · by_cases e4 : sclE a c n d mode = 0
        · have he : cvE a c f t n d mode = 0 := by unfold cvE; rw [if_neg (by omega), if_neg (by omega), if_neg (by simp [e3]), e4]
          rw [cvT_ok he]
          rw [sclT_ok e4] at c3
          repeat' ((conv => whnf); first | (refine vcall_pure (c1) rfl rfl rfl ?_) | (refine vcall_glob (c2) rfl rfl rfl rfl ?_) | (refine vcall_pure (c3) rfl rfl rfl ?_) | ((first | apply br_dec | apply br_ndec) <;> intro h <;> try (exfalso; (try dsimp only at h); omega)) | ((first | apply br_seq | apply br_nseq | apply br_not | apply br_intro) <;> intro h) | refine cond_a ?_)
          all_goals (conv => whnf)
          all_goals first | exact ret_pure rfl | (exfalso; exact absurd e3 (by assumption))
        · have he : cvE a c f t n d mode = sclE a c n d mode := by unfold cvE; rw [if_neg (by omega), if_neg (by omega), if_neg (by simp [e3])]
          rw [cvT_err he e4]
          rw [sclT_err rfl e4] at c3
          repeat' ((conv => whnf); first | (refine vcall_pure (c1) rfl rfl rfl ?_) | (refine vcall_glob (c2) rfl rfl rfl rfl ?_) | (refine vcall_pure (c3) rfl rfl rfl ?_) | ((first | apply br_dec | apply br_ndec) <;> intro h <;> try (exfalso; (try dsimp only at h); omega)) | ((first | apply br_seq | apply br_nseq | apply br_not | apply br_intro) <;> intro h) | refine cond_a ?_)
          all_goals (conv => whnf)
          all_goals first | exact ret_pure rfl | (exfalso; exact absurd e3 (by assumption))
      · have he : cvE a c f t n d mode = 11 := by unfold cvE; rw [if_neg (by omega), if_neg (by omega), if_pos e3]
        rw [cvT_err he (by omega)]
        repeat' ((conv => whnf); first | (refine vcall_pure (c1) rfl rfl rfl ?_) | (refine vcall_glob (c2) rfl rfl rfl rfl ?_) | (refine vcall_pure (c3) rfl rfl rfl ?_) | (refine br_nseq (fun h => ?_) (fun h => ?_) <;> try (exact absurd h e3)) | ((first | apply br_dec | apply br_ndec) <;> intro h <;> try (exfalso; (try dsimp only at h); omega)) | ((first | apply br_seq | apply br_nseq | apply br_not | apply br_intro) <;> intro h) | refine cond_a ?_)
        all_goals (conv => whnf)
        all_goals exact ret_pure rfl
    · have he : cvE a c f t n d mode = rchk f t n d := by unfold cvE; rw [if_neg (by omega), if_pos e2]
      rw [cvT_err he e2]
      repeat' ((conv => whnf); first | (refine vcall_pure (c1) rfl rfl rfl ?_) | (refine vcall_glob (c2) rfl rfl rfl rfl ?_) | (refine vcall_pure (c3) rfl rfl rfl ?_) | ((first | apply br_dec | apply br_ndec) <;> intro h <;> try (exfalso; (try dsimp only at h); omega)) | ((first | apply br_seq | apply br_nseq | apply br_not | apply br_intro) <;> intro h) | refine cond_a ?_)
      all_goals (conv => whnf)
      all_goals exact ret_pure rfl
  · have he : cvE a c f t n d mode = mchk a c := by unfold cvE; rw [if_pos e1]
    rw [cvT_err he e1]
    repeat' ((conv => whnf); first | (refine vcall_pure (c1) rfl rfl rfl ?_) | (refine vcall_glob (c2) rfl rfl rfl rfl ?_) | (refine vcall_pure (c3) rfl rfl rfl ?_) | ((first | apply br_dec | apply br_ndec) <;> intro h <;> try (exfalso; (try dsimp only at h); omega)) | ((first | apply br_seq | apply br_nseq | apply br_not | apply br_intro) <;> intro h) | refine cond_a ?_)
    all_goals (conv => whnf)
    all_goals exact ret_pure rfl

/-- A rate and an error. -/
def rT (e : Int) (f t : ByteArray) (n d : Int) : SV := .tup [.agg [.str (orS e f), .str (orS e t), .int .i64 (orN e n), .int .i64 (orN e d)], .int .i64 e]
theorem rT_err {e : Int} {f t : ByteArray} {n d : Int} (he : e ≠ 0) : rT e f t n d = .tup [.agg [.str ⟨#[]⟩, .str ⟨#[]⟩, .int .i64 0, .int .i64 0], .int .i64 e] := by
  unfold rT orN orS; simp only [if_neg he]
theorem rT_ok {f t : ByteArray} {n d : Int} : rT 0 f t n d = .tup [.agg [.str f, .str t, .int .i64 n, .int .i64 d], .int .i64 0] := by
  unfold rT orN orS; simp only [if_true]

theorem rate_Inverse (f t : ByteArray) (n d : Int) : Glob Tryz.prog glT 185 [.agg [.str f, .str t, .int .i64 n, .int .i64 d]] (rT (rchk f t n d) t f (redN d n) (redD d n)) := by
  have c1 := rate_Check f t n d
  refine fc_of mixed T_ok Tryz.func185 rfl (by kernel_rfl) (by kernel_rfl) (by kernel_rfl) ?_
  by_cases e1 : rchk f t n d = 0
  · obtain ⟨_, _, _, b1, b2, b3, b4⟩ := rchk_ok e1
    rw [e1] at c1
    rw [e1, rT_ok]
    have c2 := rate_Reduce d n (by omega) (by omega)
    repeat' ((conv => whnf); first | (refine vcall_glob (c1) rfl rfl rfl rfl ?_) | (refine vcall_pure (c2) rfl rfl rfl ?_) | ((first | apply br_dec | apply br_ndec) <;> intro h <;> try (exfalso; (try dsimp only at h); omega)) | ((first | apply br_seq | apply br_nseq | apply br_not | apply br_intro) <;> intro h) | refine cond_a ?_)
    all_goals (conv => whnf)
    all_goals exact ret_pure rfl
  · rw [rT_err e1]
    repeat' ((conv => whnf); first | (refine vcall_glob (c1) rfl rfl rfl rfl ?_) | ((first | apply br_dec | apply br_ndec) <;> intro h <;> try (exfalso; (try dsimp only at h); omega)) | ((first | apply br_seq | apply br_nseq | apply br_not | apply br_intro) <;> intro h) | refine cond_a ?_)
    all_goals (conv => whnf)
    all_goals exact ret_pure rfl
end Go.Proofs.YtkdjnmcaifejjaaGreatDoor

/- Contracts of package rate, and of the reference's: products of rates, texts. -/
namespace Go.Proofs.YtkdjnmcaifejjaaGreatDoor
open Go.RowKit Go.Sy
attribute [local irreducible] vcall vloop vcallD retP
set_option maxRecDepth 100000
set_option linter.unusedVariables false
set_option linter.unusedSimpArgs false

/-- The product of two fractions in lowest terms: its parts. -/
def pA (a b c d : Int) : Int := redN (redN a b) (redD c d)
def pD (a b c d : Int) : Int := redD (redN a b) (redD c d)
def pC (a b c d : Int) : Int := redN (redN c d) (redD a b)
def pB (a b c d : Int) : Int := redD (redN c d) (redD a b)
/-- The error of a product. -/
def prE (a b c d : Int) : Int := if (1099511627776 : Int).tdiv (pC a b c d) < pA a b c d ∨ (1099511627776 : Int).tdiv (pD a b c d) < pB a b c d then 4 else 0
theorem p_bd {a b c d : Int} (ha : 1 ≤ a) (hb : 1 ≤ b) (hc : 1 ≤ c) (hd : 1 ≤ d) : (1 ≤ pA a b c d ∧ pA a b c d ≤ a) ∧ (1 ≤ pB a b c d ∧ pB a b c d ≤ b) ∧ (1 ≤ pC a b c d ∧ pC a b c d ≤ c) ∧ (1 ≤ pD a b c d ∧ pD a b c d ≤ d) := by
  obtain ⟨x1, x2, x3, x4⟩ := red_bd ha hb
  obtain ⟨y1, y2, y3, y4⟩ := red_bd hc hd
  obtain ⟨z1, z2, z3, z4⟩ := red_bd x1 y3
  obtain ⟨w1, w2, w3, w4⟩ := red_bd y1 x3
  unfold pA pB pC pD
  omega
theorem tdiv_ge {m x y : Int} (hm : 0 ≤ m) (hy : 1 ≤ y) (hx : 1 ≤ x) (h : ¬ m.tdiv y < x) : x * y ≤ m := by
  rw [Int.tdiv_eq_ediv_of_nonneg hm] at h
  have := Int.mul_le_mul_of_nonneg_right (show x ≤ m / y by omega) (show 0 ≤ y by omega)
  have h2 := Int.ediv_mul_le m (show y ≠ 0 by omega)
  omega
theorem prE_ok {a b c d : Int} (ha : 1 ≤ a) (hb : 1 ≤ b) (hc : 1 ≤ c) (hd : 1 ≤ d) (h : prE a b c d = 0) : pA a b c d * pC a b c d ≤ 1099511627776 ∧ 0 ≤ pA a b c d * pC a b c d ∧ pB a b c d * pD a b c d ≤ 1099511627776 ∧ 0 ≤ pB a b c d * pD a b c d := by
  obtain ⟨⟨a1, a2⟩, ⟨b1, b2⟩, ⟨c1, c2⟩, ⟨d1, d2⟩⟩ := p_bd ha hb hc hd
  unfold prE at h
  split at h
  · cases h
  · rename_i hn
    exact ⟨tdiv_ge (by omega) c1 a1 (fun h => hn (.inl h)), Int.mul_nonneg (by omega) (by omega), tdiv_ge (by omega) d1 b1 (fun h => hn (.inr h)), Int.mul_nonneg (by omega) (by omega)⟩
theorem prE_or (a b c d : Int) : prE a b c d = 4 ∨ prE a b c d = 0 := by unfold prE; split <;> simp
attribute [irreducible] pA pB pC pD prE
/-- The error of the rate by way of another currency. -/
def crE (f t : ByteArray) (n d : Int) (f' t' : ByteArray) (n' d' : Int) : Int :=
  if rchk f t n d ≠ 0 then rchk f t n d else if rchk f' t' n' d' ≠ 0 then rchk f' t' n' d' else if t ≠ f' ∨ f = t' then 11 else prE n d n' d'
attribute [irreducible] crE
theorem rate_Cross (f t : ByteArray) (n d : Int) (f' t' : ByteArray) (n' d' : Int) :
    Glob Tryz.prog glT 154 [.agg [.str f, .str t, .int .i64 n, .int .i64 d], .agg [.str f', .str t', .int .i64 n', .int .i64 d']] (rT (crE f t n d f' t' n' d') f t' (pA n d n' d' * pC n d n' d') (pB n d n' d' * pD n d n' d')) := by
  have c1 := rate_Check f t n d
  have c2 := rate_Check f' t' n' d'
  refine fc_of mixed T_ok Tryz.func154 rfl (by kernel_rfl) (by kernel_rfl) (by kernel_rfl) ?_
  by_cases e1 : rchk f t n d = 0
  · rw [e1] at c1
    by_cases e2 : rchk f' t' n' d' = 0
    · rw [e2] at c2
      by_cases e3 : t ≠ f' ∨ f = t'
      · have he : crE f t n d f' t' n' d' = 11 := by unfold crE; rw [if_neg (by omega), if_neg (by omega), if_pos e3]
        rw [he, rT_err (by omega)]
        repeat' ((conv => whnf); first | (refine vcall_glob (c1) rfl rfl rfl rfl ?_) | (refine vcall_glob (c2) rfl rfl rfl rfl ?_) | ((first | apply br_dec | apply br_ndec) <;> intro h <;> try (exfalso; (try dsimp only at h); omega)) | ((first | apply br_seq | apply br_nseq | apply br_not | apply br_intro) <;> intro h) | refine cond_a ?_)
        all_goals (conv => whnf)
        all_goals first | exact ret_pure rfl | (exfalso; simp_all; done)
      · obtain ⟨_, _, _, b1, b2, b3, b4⟩ := rchk_ok e1
        obtain ⟨_, _, _, b1', b2', b3', b4'⟩ := rchk_ok e2
        have he : crE f t n d f' t' n' d' = prE n d n' d' := by unfold crE; rw [if_neg (by omega), if_neg (by omega), if_neg e3]
        obtain ⟨x1, x2, x3, x4⟩ := red_bd b1 b3
        obtain ⟨y1, y2, y3, y4⟩ := red_bd b1' b3'
        have r1 := rate_Reduce n d (by omega) (by omega)
        have r2 := rate_Reduce n' d' (by omega) (by omega)
        have r3 := rate_Reduce (redN n d) (redD n' d') (by omega) (by omega)
        have r4 := rate_Reduce (redN n' d') (redD n d) (by omega) (by omega)
        obtain ⟨⟨a1, a2⟩, ⟨k1, k2⟩, ⟨m1, m2⟩, ⟨o1, o2⟩⟩ := p_bd b1 b3 b1' b3'
        have hP := prE_ok b1 b3 b1' b3'
        have hQ : prE n d n' d' = if (1099511627776 : Int).tdiv (pC n d n' d') < pA n d n' d' ∨ (1099511627776 : Int).tdiv (pD n d n' d') < pB n d n' d' then 4 else 0 := by unfold prE; rfl
        rw [show redN (redN n d) (redD n' d') = pA n d n' d' from by unfold pA; rfl, show redD (redN n d) (redD n' d') = pD n d n' d' from by unfold pD; rfl] at r3
        rw [show redN (redN n' d') (redD n d) = pC n d n' d' from by unfold pC; rfl, show redD (redN n' d') (redD n d) = pB n d n' d' from by unfold pB; rfl] at r4
        have tb : ∀ x : Int, 1 ≤ x → IntKind.i64.wrap ((1099511627776 : Int).tdiv x) = (1099511627776 : Int).tdiv x := fun x hx => by
          have h1 := Int.tdiv_nonneg (a := 1099511627776) (b := x) (by omega) (by omega)
          have h2 := Int.tdiv_le_self (a := 1099511627776) x (by omega)
          rw [w64_in (by omega) (by omega)]
        have t1 := tb _ m1
        have t2 := tb _ o1
        rw [he]
        rcases prE_or n d n' d' with hp | hp
        · rw [hp, rT_err (by omega)]
          rw [hp] at hQ
          have hor : (1099511627776 : Int).tdiv (pC n d n' d') < pA n d n' d' ∨ (1099511627776 : Int).tdiv (pD n d n' d') < pB n d n' d' := by
            rcases Classical.em ((1099511627776 : Int).tdiv (pC n d n' d') < pA n d n' d' ∨ (1099511627776 : Int).tdiv (pD n d n' d') < pB n d n' d') with h | h
            · exact h
            · rw [if_neg h] at hQ; omega
          repeat' ((conv => whnf); first | (refine vcall_glob (c1) rfl rfl rfl rfl ?_) | (refine vcall_glob (c2) rfl rfl rfl rfl ?_) | (refine vcall_pure (r1) rfl rfl rfl ?_) | (refine vcall_pure (r2) rfl rfl rfl ?_) | (refine vcall_pure (r3) rfl rfl rfl ?_) | (refine vcall_pure (r4) rfl rfl rfl ?_) | (refine br_nseq (fun h => ?_) (fun h => ?_) <;> try (exfalso; exact e3 (.inl h))) | (refine br_seq (fun h => ?_) (fun h => ?_) <;> try (exfalso; exact e3 (.inr h))) | ((first | apply br_dec | apply br_ndec) <;> intro h <;> try (exfalso; (try dsimp only at h); omega)) | ((first | apply br_seq | apply br_nseq | apply br_not | apply br_intro) <;> intro h) | refine cond_a ?_)
          all_goals (conv => whnf)
          all_goals first | exact ret_pure rfl | (exfalso; omega)
        · rw [hp] at hQ
          have hor : ¬ ((1099511627776 : Int).tdiv (pC n d n' d') < pA n d n' d' ∨ (1099511627776 : Int).tdiv (pD n d n' d') < pB n d n' d') := by
            intro h
            rw [if_pos h] at hQ; omega
          obtain ⟨q1, q2, q3, q4⟩ := hP hp
          have s1 : pA n d n' d' * pC n d n' d' = IntKind.i64.wrap (pA n d n' d' * pC n d n' d') := by rw [w64_in (by omega) (by omega)]
          have s2 : pB n d n' d' * pD n d n' d' = IntKind.i64.wrap (pB n d n' d' * pD n d n' d') := by rw [w64_in (by omega) (by omega)]
          rw [hp, rT_ok, s1, s2]
          repeat' ((conv => whnf); first | (refine vcall_glob (c1) rfl rfl rfl rfl ?_) | (refine vcall_glob (c2) rfl rfl rfl rfl ?_) | (refine vcall_pure (r1) rfl rfl rfl ?_) | (refine vcall_pure (r2) rfl rfl rfl ?_) | (refine vcall_pure (r3) rfl rfl rfl ?_) | (refine vcall_pure (r4) rfl rfl rfl ?_) | (refine br_nseq (fun h => ?_) (fun h => ?_) <;> try (exfalso; exact e3 (.inl h))) | (refine br_seq (fun h => ?_) (fun h => ?_) <;> try (exfalso; exact e3 (.inr h))) | ((first | apply br_dec | apply br_ndec) <;> intro h <;> try (exfalso; (try dsimp only at h); omega)) | ((first | apply br_seq | apply br_nseq | apply br_not | apply br_intro) <;> intro h) | refine cond_a ?_)
          all_goals (conv => whnf)
          all_goals first | exact ret_pure rfl | (exfalso; omega)
    · have he : crE f t n d f' t' n' d' = rchk f' t' n' d' := by unfold crE; rw [if_neg (by omega), if_pos e2]
      rw [he, rT_err e2]
      repeat' ((conv => whnf); first | (refine vcall_glob (c1) rfl rfl rfl rfl ?_) | (refine vcall_glob (c2) rfl rfl rfl rfl ?_) | ((first | apply br_dec | apply br_ndec) <;> intro h <;> try (exfalso; (try dsimp only at h); omega)) | ((first | apply br_seq | apply br_nseq | apply br_not | apply br_intro) <;> intro h) | refine cond_a ?_)
      all_goals (conv => whnf)
      all_goals exact ret_pure rfl
  · have he : crE f t n d f' t' n' d' = rchk f t n d := by unfold crE; rw [if_pos e1]
    rw [he, rT_err e1]
    repeat' ((conv => whnf); first | (refine vcall_glob (c1) rfl rfl rfl rfl ?_) | (refine vcall_glob (c2) rfl rfl rfl rfl ?_) | ((first | apply br_dec | apply br_ndec) <;> intro h <;> try (exfalso; (try dsimp only at h); omega)) | ((first | apply br_seq | apply br_nseq | apply br_not | apply br_intro) <;> intro h) | refine cond_a ?_)
    all_goals (conv => whnf)
    all_goals exact ret_pure rfl
end Go.Proofs.YtkdjnmcaifejjaaGreatDoor

/- Contracts of package rate, and of the reference's: texts; the law's examples. -/
namespace Go.Proofs.YtkdjnmcaifejjaaGreatDoor
open Go.RowKit Go.Sy
attribute [local irreducible] vcall vloop vcallD retP
set_option maxRecDepth 100000
set_option linter.unusedVariables false
set_option linter.unusedSimpArgs false

end Go.Proofs.YtkdjnmcaifejjaaGreatDoor

/- The laws of package rate: checks, conversions. -/
namespace Go.Proofs.YtkdjnmcaifejjaaGreatDoor
open Go.RowKit Go.Sy
attribute [local irreducible] vcall vloop vcallD retP
set_option maxRecDepth 100000
set_option linter.unusedVariables false
set_option linter.unusedSimpArgs false

end Go.Proofs.YtkdjnmcaifejjaaGreatDoor

/- The law on made rates: products of fractions, a rate with a markup. -/
namespace Go.Proofs.YtkdjnmcaifejjaaGreatDoor
open Go.RowKit Go.Sy
attribute [local irreducible] vcall vloop vcallD retP
set_option maxRecDepth 100000
set_option linter.unusedVariables false
set_option linter.unusedSimpArgs false

end Go.Proofs.YtkdjnmcaifejjaaGreatDoor

/- The law on rates that are found in a list. -/
namespace Go.Proofs.YtkdjnmcaifejjaaGreatDoor
open Go.RowKit Go.Sy
attribute [local irreducible] vcall vloop vcallD retP
set_option maxRecDepth 100000
set_option linter.unusedVariables false
set_option linter.unusedSimpArgs false

structure Rt where
  f : ByteArray
  t : ByteArray
  n : Int
  d : Int
def Rt.z : Rt := ⟨⟨#[]⟩, ⟨#[]⟩, 0, 0⟩
def Rt.sv (r : Rt) : SV := .agg [.str r.f, .str r.t, .int .i64 r.n, .int .i64 r.d]
/-- A list of rates, by columns. -/
structure RL where
  f : List ByteArray
  t : List ByteArray
  n : List Int
  d : List Int
  l : Nat
def RL.at (q : RL) (i : Nat) : Rt := ⟨q.f.getD i ⟨#[]⟩, q.t.getD i ⟨#[]⟩, q.n.getD i 0, q.d.getD i 0⟩
def RL.H (q : RL) : Heap := [(0, some (GB glT)), (1, some (.one true (.cols q.l [.sc (.strs q.f), .sc (.strs q.t), .sc (.ints .i64 q.n), .sc (.ints .i64 q.d)])))]

/-- A row that states the rate. -/
def RL.fits (q : RL) (f t : ByteArray) (i : Nat) : Prop := (q.at i).f = f ∧ (q.at i).t = t ∧ rchk (q.at i).f (q.at i).t (q.at i).n (q.at i).d = 0
instance (q : RL) (f t : ByteArray) (i : Nat) : Decidable (q.fits f t i) := by unfold RL.fits; infer_instance
/-- The first row of m, from row k on, that states the rate. -/
def stF (q : RL) (f t : ByteArray) : Nat → Nat → Option Rt
  | 0, _ => none
  | m + 1, k => if q.fits f t k then some (q.at k) else stF q f t m (k + 1)
def stO (q : RL) (f t : ByteArray) : Option Rt := stF q f t q.l 0
theorem stF_ok {q : RL} {f t : ByteArray} {r : Rt} : ∀ (m k : Nat), stF q f t m k = some r → r.f = f ∧ r.t = t ∧ rchk r.f r.t r.n r.d = 0
  | 0, k, h => by simp [stF] at h
  | m + 1, k, h => by
    simp only [stF] at h
    split at h
    · rename_i hf; cases h; exact hf
    · exact stF_ok m (k + 1) h
theorem stO_ok {q : RL} {f t : ByteArray} {r : Rt} (h : stO q f t = some r) : r.f = f ∧ r.t = t ∧ rchk r.f r.t r.n r.d = 0 := stF_ok _ _ h

theorem rate_stated (q : RL) (hl : q.l ≤ 1000) (f t : ByteArray) : FC Tryz.prog 2 184 [.sl 1 0 0 q.l, .str f, .str t] q.H (isOut ((stO q f t).getD Rt.z).sv [] 2) := by
  have ck := fun i => rate_Check (q.at i).f (q.at i).t (q.at i).n (q.at i).d
  refine fc_of mixed T_ok Tryz.func184 rfl (by kernel_rfl) (by kernel_rfl) (by kernel_rfl) ?_
  (conv => whnf)
  refine vloop_of (fun k : Nat => ⟨[(1, .str f), (2, .str t), (6, .ptr 2 0 0 0), (9, .sl 1 0 0 q.l), (10, .int .i64 q.l), (11, .int .i64 k)], (2, some (.one false (.cells [.str ⟨#[]⟩, .str ⟨#[]⟩, .int .i64 0, .int .i64 0]))) :: q.H, 3⟩) (fun k => k ≤ q.l ∧ stF q f t (q.l - k) k = stO q f t) (fun k => q.l - k) 0 [0, 1, 2] [] ⟨rfl, ⟨rfl, rfl, rfl, rfl, rfl, rfl, trivial⟩, ⟨rfl, gwk rfl, rfl, trivial⟩⟩ ⟨by omega, rfl⟩ ?_
  rintro k ⟨hk, hc⟩
  have step : k < q.l → stO q f t = if q.fits f t k then some (q.at k) else stF q f t (q.l - (k + 1)) (k + 1) := fun h => by
    rw [← hc, show q.l - k = (q.l - (k + 1)) + 1 from by omega, stF]
  have ckk := ck k
  repeat' ((conv => whnf); first | (refine vcall_glob (ckk) rfl rfl rfl rfl ?_) | ((first | apply br_dec | apply br_ndec) <;> intro h <;> try (exfalso; (try dsimp only at h); omega)) | ((first | apply br_seq | apply br_nseq | apply br_not | apply br_intro) <;> intro h) | refine cond_a ?_)
  all_goals (conv => whnf)
  · have hf : q.fits f t k := ⟨by assumption, by assumption, by assumption⟩
    rw [step (by omega), if_pos hf]
    exact ret_out (l := [0, 1]) rfl rfl trivial allRw_nil
  · have hf : ¬ q.fits f t k := fun hf => absurd hf.2.2 (by assumption)
    refine ⟨k + 1, [0, 1, 2], [], ⟨by omega, by rw [step (by omega), if_neg hf]⟩, by omega, ⟨rfl, ⟨rfl, rfl, rfl, rfl, rfl, congrArg (fun z => some (SV.int .i64 z)) (i64_succ (by omega)), trivial⟩, ⟨rfl, gwk rfl, rfl, trivial⟩⟩⟩
  · have hf : ¬ q.fits f t k := fun hf => absurd hf.2.1 (by assumption)
    refine ⟨k + 1, [0, 1, 2], [], ⟨by omega, by rw [step (by omega), if_neg hf]⟩, by omega, ⟨rfl, ⟨rfl, rfl, rfl, rfl, rfl, congrArg (fun z => some (SV.int .i64 z)) (i64_succ (by omega)), trivial⟩, ⟨rfl, gwk rfl, rfl, trivial⟩⟩⟩
  · have hf : ¬ q.fits f t k := fun hf => absurd hf.1 (by assumption)
    refine ⟨k + 1, [0, 1, 2], [], ⟨by omega, by rw [step (by omega), if_neg hf]⟩, by omega, ⟨rfl, ⟨rfl, rfl, rfl, rfl, rfl, congrArg (fun z => some (SV.int .i64 z)) (i64_succ (by omega)), trivial⟩, ⟨rfl, gwk rfl, rfl, trivial⟩⟩⟩
  · have e : k = q.l := by omega
    rw [e, Nat.sub_self, stF] at hc
    rw [← hc]
    exact ret_out (l := [0, 1]) rfl rfl trivial allRw_nil

def Rt.inv (r : Rt) : Rt := ⟨r.t, r.f, redN r.d r.n, redD r.d r.n⟩
/-- The direct rate. -/
def dirO (q : RL) (f t : ByteArray) : Option Rt := match stO q f t with | some r => some r | none => (match stO q t f with | some r => some r.inv | none => none)
theorem rchk_mk {f t : ByteArray} {n d : Int} (h1 : curB f = true) (h2 : curB t = true) (h3 : f ≠ t) (h4 : 1 ≤ n) (h5 : n ≤ 1099511627776) (h6 : 1 ≤ d) (h7 : d ≤ 1099511627776) : rchk f t n d = 0 := by
  unfold rchk
  rw [if_neg (by simp [h1, h2, h3]), if_neg (by omega)]
theorem rchk_inv {r : Rt} (h : rchk r.f r.t r.n r.d = 0) : rchk r.inv.f r.inv.t r.inv.n r.inv.d = 0 := by
  obtain ⟨h1, h2, h3, h4, h5, h6, h7⟩ := rchk_ok h
  obtain ⟨x1, x2, x3, x4⟩ := red_bd h6 h4
  exact rchk_mk h2 h1 (fun e => h3 e.symm) x1 (by have : r.inv.n = redN r.d r.n := rfl; omega) x3 (by have : r.inv.d = redD r.d r.n := rfl; omega)
theorem dirO_ok {q : RL} {f t : ByteArray} {r : Rt} (h : dirO q f t = some r) : r.f = f ∧ r.t = t ∧ rchk r.f r.t r.n r.d = 0 := by
  unfold dirO at h
  split at h
  · rename_i r' hr; cases h; exact stO_ok hr
  · split at h
    · rename_i r' hr
      cases h
      obtain ⟨a, b, c⟩ := stO_ok hr
      exact ⟨b, a, rchk_inv c⟩
    · cases h
attribute [irreducible] stO
theorem nz_of {r : Rt} (h : rchk r.f r.t r.n r.d = 0) : (seq r.f ⟨#[]⟩ && (seq r.t ⟨#[]⟩ && (decide (r.n = 0) && (decide (r.d = 0) && true)))) = false := by
  obtain ⟨_, _, _, h4, _⟩ := rchk_ok h
  rw [show decide (r.n = 0) = false from decide_eq_false (by omega)]
  simp
theorem rchk_z : rchk Rt.z.f Rt.z.t Rt.z.n Rt.z.d ≠ 0 := by
  intro h; obtain ⟨_, _, _, h4, _⟩ := rchk_ok h; simp [Rt.z] at h4

theorem rate_direct (q : RL) (hl : q.l ≤ 1000) (f t : ByteArray) : FC Tryz.prog 2 153 [.sl 1 0 0 q.l, .str f, .str t] q.H (isOut ((dirO q f t).getD Rt.z).sv [] 2) := by
  have s1 := rate_stated q hl f t
  have s2 := rate_stated q hl t f
  refine fc_of mixed T_ok Tryz.func153 rfl (by kernel_rfl) (by kernel_rfl) (by kernel_rfl) ?_
  cases h1 : stO q f t with
  | some r =>
    have nz := nz_of (stO_ok h1).2.2
    have hd : dirO q f t = some r := by unfold dirO; rw [h1]
    rw [h1] at s1
    rw [hd]
    repeat' ((conv => whnf); first | refine vcall_o (l := [0, 1]) (s1) ?_ | (refine br_not (fun h => ?_) (fun h => ?_) <;> try (exfalso; exact absurd (nz.symm.trans h) (by decide))) | ((first | apply br_dec | apply br_ndec) <;> intro h <;> try (exfalso; (try dsimp only at h); omega)) | ((first | apply br_seq | apply br_nseq | apply br_not | apply br_intro) <;> intro h) | refine cond_a ?_)
    all_goals (conv => whnf)
    all_goals exact ret_out (l := [0, 1]) rfl rfl trivial allRw_nil
  | none =>
    rw [h1] at s1
    cases h2 : stO q t f with
    | some r =>
      have ok := (stO_ok h2).2.2
      have c := rate_Inverse r.f r.t r.n r.d
      rw [ok, rT_ok] at c
      have hd : dirO q f t = some r.inv := by unfold dirO; rw [h1, h2]
      rw [h2] at s2
      rw [hd]
      repeat' ((conv => whnf); first | refine vcall_o (l := [0, 1]) (s1) ?_ | refine vcall_o (l := [0, 1]) (s2) ?_ | (refine vcall_glob (c) rfl rfl rfl rfl ?_) | ((first | apply br_dec | apply br_ndec) <;> intro h <;> try (exfalso; (try dsimp only at h); omega)) | ((first | apply br_seq | apply br_nseq | apply br_not | apply br_intro) <;> intro h) | refine cond_a ?_)
      all_goals (conv => whnf)
      all_goals exact ret_out (l := [0, 1]) rfl rfl trivial allRw_nil
    | none =>
      have c := rate_Inverse Rt.z.f Rt.z.t Rt.z.n Rt.z.d
      rw [rT_err rchk_z] at c
      have hd : dirO q f t = none := by unfold dirO; rw [h1, h2]
      have hz := rchk_z
      rw [h2] at s2
      rw [hd]
      generalize rchk Rt.z.f Rt.z.t Rt.z.n Rt.z.d = e at *
      repeat' ((conv => whnf); first | refine vcall_o (l := [0, 1]) (s1) ?_ | refine vcall_o (l := [0, 1]) (s2) ?_ | (refine vcall_glob (c) rfl rfl rfl rfl ?_) | ((first | apply br_dec | apply br_ndec) <;> intro h <;> try (exfalso; (try dsimp only at h); omega)) | ((first | apply br_seq | apply br_nseq | apply br_not | apply br_intro) <;> intro h) | refine cond_a ?_)
      all_goals (conv => whnf)
      all_goals exact ret_out (l := [0, 1]) rfl rfl trivial allRw_nil

attribute [irreducible] dirO
/-- What is found. -/
def findT (q : RL) (f t p : ByteArray) : SV :=
  if f = t then .tup [Rt.z.sv, .int .i64 11] else
  match dirO q f t with
  | some r => .tup [r.sv, .int .i64 0]
  | none => match dirO q f p, dirO q p t with
    | some a, some b => rT (crE a.f a.t a.n a.d b.f b.t b.n b.d) a.f b.t (pA a.n a.d b.n b.d * pC a.n a.d b.n b.d) (pB a.n a.d b.n b.d * pD a.n a.d b.n b.d)
    | _, _ => .tup [Rt.z.sv, .int .i64 6]

theorem rate_Find (q : RL) (hl : q.l ≤ 1000) (f t p : ByteArray) : FC Tryz.prog 2 114 [.sl 1 0 0 q.l, .str f, .str t, .str p] q.H (isOut (findT q f t p) [] 2) := by
  have s1 := rate_direct q hl f t
  have s2 := rate_direct q hl f p
  have s3 := rate_direct q hl p t
  refine fc_of mixed T_ok Tryz.func114 rfl (by kernel_rfl) (by kernel_rfl) (by kernel_rfl) ?_
  by_cases hft : f = t
  · have hT : findT q f t p = .tup [Rt.z.sv, .int .i64 11] := by unfold findT; rw [if_pos hft]
    rw [hT]
    repeat' ((conv => whnf); first | (refine br_seq (fun h => ?_) (fun h => ?_) <;> try (exact absurd hft h)) | ((first | apply br_dec | apply br_ndec) <;> intro h <;> try (exfalso; (try dsimp only at h); omega)) | ((first | apply br_seq | apply br_nseq | apply br_not | apply br_intro) <;> intro h) | refine cond_a ?_)
    all_goals (conv => whnf)
    all_goals exact ret_out (l := [0, 1]) rfl rfl trivial allRw_nil
  · cases h1 : dirO q f t with
    | some r =>
      have hT : findT q f t p = .tup [r.sv, .int .i64 0] := by unfold findT; rw [if_neg hft, h1]
      have nz := nz_of (dirO_ok h1).2.2
      rw [h1] at s1
      rw [hT]
      repeat' ((conv => whnf); first | refine vcall_o (l := [0, 1]) (s1) ?_ | (refine br_seq (fun h => ?_) (fun h => ?_) <;> try (exact absurd h hft)) | (refine br_not (fun h => ?_) (fun h => ?_) <;> try (exfalso; exact absurd (nz.symm.trans h) (by decide))) | ((first | apply br_dec | apply br_ndec) <;> intro h <;> try (exfalso; (try dsimp only at h); omega)) | ((first | apply br_seq | apply br_nseq | apply br_not | apply br_intro) <;> intro h) | refine cond_a ?_)
      all_goals (conv => whnf)
      all_goals exact ret_out (l := [0, 1]) rfl rfl trivial allRw_nil
    | none =>
      rw [h1] at s1
      cases h2 : dirO q f p with
      | none =>
        have hT : findT q f t p = .tup [Rt.z.sv, .int .i64 6] := by unfold findT; rw [if_neg hft, h1, h2]
        rw [h2] at s2
        rw [hT]
        repeat' ((conv => whnf); first | refine vcall_o (l := [0, 1]) (s1) ?_ | refine vcall_o (l := [0, 1]) (s2) ?_ | refine vcall_o (l := [0, 1]) (s3) ?_ | refine vcallD_o (l := [0, 1]) (s2) ?_ | refine vcallD_o (l := [0, 1]) (s3) ?_ | (refine br_seq (fun h => ?_) (fun h => ?_) <;> try (exact absurd h hft)) | ((first | apply br_dec | apply br_ndec) <;> intro h <;> try (exfalso; (try dsimp only at h); omega)) | ((first | apply br_seq | apply br_nseq | apply br_not | apply br_intro) <;> intro h) | refine cond_a ?_)
        all_goals (conv => whnf)
        all_goals exact ret_out (l := [0, 1]) rfl rfl trivial allRw_nil
      | some a =>
        have nza := nz_of (dirO_ok h2).2.2
        rw [h2] at s2
        cases h3 : dirO q p t with
        | none =>
          have hT : findT q f t p = .tup [Rt.z.sv, .int .i64 6] := by unfold findT; rw [if_neg hft, h1, h2, h3]
          rw [h3] at s3
          rw [hT]
          repeat' ((conv => whnf); first | refine vcall_o (l := [0, 1]) (s1) ?_ | refine vcall_o (l := [0, 1]) (s2) ?_ | refine vcall_o (l := [0, 1]) (s3) ?_ | refine vcallD_o (l := [0, 1]) (s2) ?_ | refine vcallD_o (l := [0, 1]) (s3) ?_ | (refine br_seq (fun h => ?_) (fun h => ?_) <;> try (exact absurd h hft)) | (refine br_intro (fun h => ?_) (fun h => ?_) <;> try (exfalso; exact absurd (nza.symm.trans h) (by decide))) | ((first | apply br_dec | apply br_ndec) <;> intro h <;> try (exfalso; (try dsimp only at h); omega)) | ((first | apply br_seq | apply br_nseq | apply br_not | apply br_intro) <;> intro h) | refine cond_a ?_)
          all_goals (conv => whnf)
          all_goals exact ret_out (l := [0, 1]) rfl rfl trivial allRw_nil
        | some b =>
          have hT : findT q f t p = rT (crE a.f a.t a.n a.d b.f b.t b.n b.d) a.f b.t (pA a.n a.d b.n b.d * pC a.n a.d b.n b.d) (pB a.n a.d b.n b.d * pD a.n a.d b.n b.d) := by unfold findT; rw [if_neg hft, h1, h2, h3]
          have nzb := nz_of (dirO_ok h3).2.2
          have c := rate_Cross a.f a.t a.n a.d b.f b.t b.n b.d
          rw [h3] at s3
          rw [hT]
          repeat' ((conv => whnf); first | refine vcall_o (l := [0, 1]) (s1) ?_ | refine vcall_o (l := [0, 1]) (s2) ?_ | refine vcall_o (l := [0, 1]) (s3) ?_ | refine vcallD_o (l := [0, 1]) (s2) ?_ | refine vcallD_o (l := [0, 1]) (s3) ?_ | (refine vcall_glob (c) rfl rfl rfl rfl ?_) | (refine br_seq (fun h => ?_) (fun h => ?_) <;> try (exact absurd h hft)) | (refine br_intro (fun h => ?_) (fun h => ?_) <;> try (exfalso; first | exact absurd (nza.symm.trans h) (by decide) | exact absurd (nzb.symm.trans h) (by decide))) | ((first | apply br_dec | apply br_ndec) <;> intro h <;> try (exfalso; (try dsimp only at h); omega)) | ((first | apply br_seq | apply br_nseq | apply br_not | apply br_intro) <;> intro h) | refine cond_a ?_)
          all_goals (conv => whnf)
          all_goals exact ret_out (l := [0, 1]) rfl rfl trivial allRw_nil

end Go.Proofs.YtkdjnmcaifejjaaGreatDoor

/- Contract: the positions of a currency in another one. -/
namespace Go.Proofs.YtkdjnmcaifejjaaGreatDoor
open Go.RowKit Go.Sy
attribute [local irreducible] vcall vloop vcallD retP
set_option maxRecDepth 100000
set_option linter.unusedVariables false
set_option linter.unusedSimpArgs false

/-- The error and the rate of Find. -/
def fiE (q : RL) (f t p : ByteArray) : Int :=
  if f = t then 11 else
  match dirO q f t with
  | some _ => 0
  | none => match dirO q f p, dirO q p t with
    | some a, some b => crE a.f a.t a.n a.d b.f b.t b.n b.d
    | _, _ => 6
def fiR (q : RL) (f t p : ByteArray) : Rt :=
  match dirO q f t with
  | some r => r
  | none => match dirO q f p, dirO q p t with
    | some a, some b => ⟨a.f, b.t, pA a.n a.d b.n b.d * pC a.n a.d b.n b.d, pB a.n a.d b.n b.d * pD a.n a.d b.n b.d⟩
    | _, _ => Rt.z
theorem findT_ok {q : RL} {f t p : ByteArray} (h : fiE q f t p = 0) : findT q f t p = .tup [(fiR q f t p).sv, .int .i64 0] := by
  unfold fiE at h
  unfold findT fiR
  by_cases e : f = t
  · rw [if_pos e] at h; cases h
  · rw [if_neg e] at h ⊢
    cases h1 : dirO q f t with
    | some r => rfl
    | none =>
      rw [h1] at h
      cases h2 : dirO q f p with
      | none => rw [h2] at h; cases h
      | some a =>
        cases h3 : dirO q p t with
        | none => rw [h2, h3] at h; cases h
        | some b =>
          rw [h2, h3] at h
          dsimp only at h ⊢
          rw [h, rT_ok]; rfl
theorem findT_err {q : RL} {f t p : ByteArray} (h : fiE q f t p ≠ 0) : findT q f t p = .tup [Rt.z.sv, .int .i64 (fiE q f t p)] := by
  unfold fiE at h ⊢
  unfold findT
  by_cases e : f = t
  · rw [if_pos e, if_pos e]
  · rw [if_neg e] at h ⊢
    rw [if_neg e]
    cases h1 : dirO q f t with
    | some r => rw [h1] at h; exact absurd rfl h
    | none =>
      rw [h1] at h
      cases h2 : dirO q f p with
      | none => rfl
      | some a =>
        cases h3 : dirO q p t with
        | none => rfl
        | some b =>
          rw [h2, h3] at h
          dsimp only at h ⊢
          rw [rT_err h]; rfl
theorem fiR_ok {q : RL} {f t p : ByteArray} (h : fiE q f t p = 0) : 0 ≤ (fiR q f t p).n ∧ (fiR q f t p).n ≤ 1099511627776 ∧ (fiR q f t p).f = f ∧ (fiR q f t p).t = t := by
  unfold fiE at h
  unfold fiR
  by_cases e : f = t
  · rw [if_pos e] at h; cases h
  · rw [if_neg e] at h
    cases h1 : dirO q f t with
    | some r =>
      have := dirO_ok h1
      have h2 := this.2.2
      unfold rchk at h2
      refine ⟨?_, ?_, this.1, this.2.1⟩ <;> (dsimp only; split at h2 <;> first | omega | (split at h2 <;> omega))
    | none =>
      rw [h1] at h
      cases h2 : dirO q f p with
      | none => rw [h2] at h; cases h
      | some a =>
        cases h3 : dirO q p t with
        | none => rw [h2, h3] at h; cases h
        | some b =>
          rw [h2, h3] at h
          dsimp only at h ⊢
          have ha := dirO_ok h2
          have hb := dirO_ok h3
          have ka := ha.2.2
          have kb := hb.2.2
          unfold crE at h
          rw [if_neg (by rw [ka]; simp), if_neg (by rw [kb]; simp)] at h
          split at h
          · cases h
          · have hp : 1 ≤ a.n ∧ 1 ≤ a.d := by
              unfold rchk at ka
              split at ka
              · cases ka
              · split at ka
                · cases ka
                · omega
            have hq : 1 ≤ b.n ∧ 1 ≤ b.d := by
              unfold rchk at kb
              split at kb
              · cases kb
              · split at kb
                · cases kb
                · omega
            have := prE_ok hp.1 hp.2 hq.1 hq.2 h
            exact ⟨this.2.1, this.1, ha.1, hb.2.1⟩
/-- The sum of the first positions of creditors. -/
def totK (r : List Int) : Nat → Int
  | 0 => 0
  | k + 1 => if 0 < r.getD k 0 then totK r k + r.getD k 0 else totK r k
theorem tot_bd {r : List Int} (hr : ∀ j, r.getD j 0 ≤ 4503599627370496) : ∀ k, 0 ≤ totK r k ∧ totK r k ≤ 4503599627370496 * (k : Int)
  | 0 => by simp [totK]
  | k + 1 => by
    have ih := tot_bd hr k
    have := hr k
    simp only [totK]
    split <;> omega
abbrev cwA (q : RL) (r : List Int) (f t p : ByteArray) : Nat := (sclA (totK r 16) (fiR q f t p).n (fiR q f t p).d 4).toNat
abbrev cwC (q : RL) (r : List Int) (f t p : ByteArray) : Int := cvE (totK r 16) f (fiR q f t p).f (fiR q f t p).t (fiR q f t p).n (fiR q f t p).d 4
def cwE (q : RL) (r : List Int) (f t p : ByteArray) : Int :=
  if fiE q f t p ≠ 0 then fiE q f t p
  else if cwC q r f t p ≠ 0 then cwC q r f t p
  else if dvE (cwA q r f t p) t r 1 ≠ 0 then dvE (cwA q r f t p) t r 1
  else dvE (cwA q r f t p) t r (-1)
def cwR (q : RL) (r : List Int) (f t p : ByteArray) : List Int := dvR (dvR z16 (cwA q r f t p) r 1) (cwA q r f t p) r (-1)
def cwT (q : RL) (r : List Int) (f t p : ByteArray) : SV := .tup [.arr 16 [.ints .i64 (if cwE q r f t p = 0 then cwR q r f t p else z16)], .int .i64 (cwE q r f t p)]
theorem cwT_err {q : RL} {r : List Int} {f t p : ByteArray} {e : Int} (h : cwE q r f t p = e) (he : e ≠ 0) : cwT q r f t p = .tup [.arr 16 [.ints .i64 z16], .int .i64 e] := by
  unfold cwT; rw [h, if_neg he]
theorem cwT_ok {q : RL} {r : List Int} {f t p : ByteArray} (h : cwE q r f t p = 0) : cwT q r f t p = .tup [.arr 16 [.ints .i64 (cwR q r f t p)], .int .i64 0] := by
  unfold cwT; rw [h, if_pos rfl]
theorem dvR_len (row : List Int) (A : Nat) (r : List Int) (s : Int) : (dvR row A r s).length = row.length := dvK_len _ _ _ _ _
theorem sclA_nn {a n d mode : Int} (ha : 0 ≤ a) (hn : 0 ≤ n) : 0 ≤ sclA a n d mode := by
  unfold sclA
  rw [decide_eq_false (by omega), decide_eq_false (by omega), if_pos rfl]
  exact Int.natCast_nonneg _
theorem cvE_bd {a : Int} {c f t : ByteArray} {n d mode : Int} (h : cvE a c f t n d mode = 0) : sclE a c n d mode = 0 := by
  unfold cvE at h
  split at h
  · contradiction
  · split at h
    · contradiction
    · split at h
      · cases h
      · exact h
theorem sclE_le {a : Int} {c : ByteArray} {n d mode : Int} (ha : 0 ≤ a) (hn : 0 ≤ n) (h : sclE a c n d mode = 0) : sclA a n d mode ≤ 4503599627370496 := by
  unfold sclE at h
  unfold sclA
  rw [decide_eq_false (by omega), decide_eq_false (by omega), if_pos rfl]
  split at h
  · contradiction
  · split at h
    · cases h
    · split at h
      · cases h
      · omega
def cwK (A : Nat) (r : List Int) : Nat → List Int
  | 0 => z16
  | 1 => dvR z16 A r 1
  | _ => dvR (dvR z16 A r 1) A r (-1)
theorem pos_convertRow (q : RL) (hl : q.l ≤ 1000) (r : List Int) (f t p : ByteArray) (hr : ∀ j, -4503599627370496 ≤ r.getD j 0 ∧ r.getD j 0 ≤ 4503599627370496) :
    FC Tryz.prog 2 66 [.arr 16 [.ints .i64 r], .sl 1 0 0 q.l, .str f, .str t, .str p] q.H (isOut (cwT q r f t p) [] 2) := by
  have c1 := rate_Find q hl f t p
  have htb := tot_bd (fun j => (hr j).2)
  refine fc_of mixed T_ok Tryz.func66 rfl (by kernel_rfl) (by kernel_rfl) (by kernel_rfl) ?_
  repeat' ((conv => whnf); first | ((first | apply br_dec | apply br_ndec) <;> intro h <;> try (exfalso; (try dsimp only at h); omega)) | ((first | apply br_seq | apply br_nseq | apply br_not | apply br_intro) <;> intro h) | refine cond_a ?_)
  all_goals (conv => whnf)
  refine vloop_lp (fun k : Nat => ⟨[(1, .sl 1 0 0 q.l), (2, .str f), (3, .str t), (4, .str p), (5, .ptr 2 0 0 0), (10, .ptr 3 0 0 0), (12, .ptr 4 0 0 0), (24, .arr 16 [.ints .i64 r]), (25, .int .i64 k)], (2, some (.one false (.cols 16 [.sc (.ints .i64 r)]))) :: (3, some (.one false (.cols 16 [.sc (.ints .i64 z16)]))) :: (4, some (.one false (.cells [.int .i64 (totK r k), .str f]))) :: q.H, 5⟩) (fun k => k ≤ 16) (fun k => 16 - k) 0 [0, 1, 2, 3, 4] [] ⟨rfl, ⟨rfl, rfl, rfl, rfl, rfl, rfl, rfl, rfl, rfl, trivial⟩, ⟨rfl, rfl, rfl, gwk rfl, rfl, trivial⟩⟩ (Nat.zero_le _) ?_
  intro k hk
  have hb := htb k
  by_cases hk2 : k < 16
  · have hrk := hr k
    by_cases g : 0 < r.getD k 0
    · have e1 : IntKind.i64.wrap (totK r k + r.getD k 0) = totK r (k + 1) := by simp only [totK]; rw [if_pos g]; exact w64_in (by omega) (by omega)
      repeat' ((conv => whnf); first | ((first | apply br_dec | apply br_ndec) <;> intro h <;> try (exfalso; (try dsimp only at h); omega)) | ((first | apply br_seq | apply br_nseq | apply br_not | apply br_intro) <;> intro h) | refine cond_a ?_)
      all_goals (conv => whnf)
      all_goals (try simp only [toNat0, Int.toNat_natCast, Nat.add_zero, e1] at *)
      all_goals first
        | exact ⟨k + 1, [0, 1, 2, 3, 4], [], hk2, (show 16 - (k + 1) < 16 - k by omega), ⟨rfl, ⟨rfl, rfl, rfl, rfl, rfl, rfl, rfl, rfl, congrArg (fun z => some (SV.int .i64 z)) (i64_succ (by omega)), trivial⟩, ⟨rfl, rfl, rfl, gwk rfl, rfl, trivial⟩⟩⟩
        | (exfalso; omega)
        | trace_state
    · have e1 : totK r (k + 1) = totK r k := by simp only [totK]; rw [if_neg g]
      have b1 : (some (HB.one false (.cells [.int .i64 (totK r k), .str f])) : Option HB) = some (.one false (.cells [.int .i64 (totK r (k + 1)), .str f])) := by rw [e1]
      repeat' ((conv => whnf); first | ((first | apply br_dec | apply br_ndec) <;> intro h <;> try (exfalso; (try dsimp only at h); omega)) | ((first | apply br_seq | apply br_nseq | apply br_not | apply br_intro) <;> intro h) | refine cond_a ?_)
      all_goals (conv => whnf)
      all_goals (try simp only [toNat0, Int.toNat_natCast, Nat.add_zero] at *)
      all_goals first
        | exact ⟨k + 1, [0, 1, 2, 3, 4], [], hk2, (show 16 - (k + 1) < 16 - k by omega), ⟨rfl, ⟨rfl, rfl, rfl, rfl, rfl, rfl, rfl, rfl, congrArg (fun z => some (SV.int .i64 z)) (i64_succ (by omega)), trivial⟩, ⟨rfl, rfl, b1, gwk rfl, rfl, trivial⟩⟩⟩
        | (exfalso; omega)
        | trace_state
  have ek : k = 16 := by omega
  subst ek
  by_cases h1 : fiE q f t p = 0
  case neg =>
    rw [findT_err h1] at c1
    rw [cwT_err (e := fiE q f t p) (by unfold cwE; rw [if_pos h1]) h1]
    repeat' ((conv => whnf); first | refine vcall_o (l := [0, 1]) (c1) ?_ | ((first | apply br_dec | apply br_ndec) <;> intro h <;> try (exfalso; (try dsimp only at h); omega)) | ((first | apply br_seq | apply br_nseq | apply br_not | apply br_intro) <;> intro h) | refine cond_a ?_)
    all_goals (conv => whnf)
    all_goals first
      | exact ret_out (l := [0, 1]) rfl rfl trivial allRw_nil
      | (exfalso; omega)
      | trace_state
  have hR := fiR_ok h1
  rw [findT_ok h1] at c1
  have c2 := rate_Convert (totK r 16) f (fiR q f t p).f (fiR q f t p).t (fiR q f t p).n (fiR q f t p).d 4 (by omega) (by omega)
  have e2 : cwE q r f t p = if cwC q r f t p ≠ 0 then cwC q r f t p else if dvE (cwA q r f t p) t r 1 ≠ 0 then dvE (cwA q r f t p) t r 1 else dvE (cwA q r f t p) t r (-1) := by unfold cwE; rw [if_neg (by simpa using h1)]
  by_cases h2 : cwC q r f t p = 0
  case neg =>
    rw [cvT_err (e := cwC q r f t p) rfl h2] at c2
    rw [cwT_err (e := cwC q r f t p) (by rw [e2, if_pos h2]) h2]
    repeat' ((conv => whnf); first | refine vcall_o (l := [0, 1]) (c1) ?_ | (refine vcall_glob (c2) rfl rfl rfl rfl ?_) | ((first | apply br_dec | apply br_ndec) <;> intro h <;> try (exfalso; (try dsimp only at h); omega)) | ((first | apply br_seq | apply br_nseq | apply br_not | apply br_intro) <;> intro h) | refine cond_a ?_)
    all_goals (conv => whnf)
    all_goals first
      | exact ret_out (l := [0, 1]) rfl rfl trivial allRw_nil
      | (exfalso; omega)
      | trace_state
  rw [if_neg (by simpa using h2)] at e2
  have hA := sclA_nn (d := (fiR q f t p).d) (mode := 4) hb.1 hR.1
  have eA : sclA (totK r 16) (fiR q f t p).n (fiR q f t p).d 4 = ((cwA q r f t p : Nat) : Int) := (Int.toNat_of_nonneg hA).symm
  have eT : cvT (totK r 16) f (fiR q f t p).f (fiR q f t p).t (fiR q f t p).n (fiR q f t p).d 4 = .tup [.agg [.int .i64 ((cwA q r f t p : Nat) : Int), .str t], .int .i64 0] := by rw [cvT_ok h2, eA, hR.2.2.2]
  rw [eT] at c2
  have hA2 := sclE_le (d := (fiR q f t p).d) (mode := 4) hb.1 hR.1 (cvE_bd h2)
  have hA3 : cwA q r f t p ≤ 9223372036854775807 := by omega
  have eR : cwR q r f t p = dvR (dvR z16 (cwA q r f t p) r 1) (cwA q r f t p) r (-1) := rfl
  have hcR : cwE q r f t p = 0 → cwT q r f t p = .tup [.arr 16 [.ints .i64 (dvR (dvR z16 (cwA q r f t p) r 1) (cwA q r f t p) r (-1))], .int .i64 0] := fun h => cwT_ok h
  have hcE := fun (e : Int) => cwT_err (q := q) (r := r) (f := f) (t := t) (p := p) (e := e)
  generalize cwA q r f t p = A at *
  clear eA hA hA2 h2 h1 eR eT
  generalize cwT q r f t p = X at *
  generalize cwE q r f t p = E at *
  repeat' ((conv => whnf); first | refine vcall_o (l := [0, 1]) (c1) ?_ | (refine vcall_glob (c2) rfl rfl rfl rfl ?_) | ((first | apply br_dec | apply br_ndec) <;> intro h <;> try (exfalso; (try dsimp only at h); omega)) | ((first | apply br_seq | apply br_nseq | apply br_not | apply br_intro) <;> intro h) | refine cond_a ?_)
  all_goals (conv => whnf)
  all_goals first
    | (exfalso; omega)
    | skip
  refine vloop_lp (fun k : Nat => ⟨[(5, .ptr 2 0 0 0), (10, .ptr 3 0 0 0), (17, .ptr 4 0 0 0), (18, .ptr 5 0 0 0), (58, .arr 2 [.ints .i64 [1, -1]]), (59, .int .i64 k)], (2, some (.one false (.cols 16 [.sc (.ints .i64 r)]))) :: (3, some (.one false (.cols 16 [.sc (.ints .i64 z16)]))) :: (4, some (.one false (.cells [.int .i64 A, .str t]))) :: (5, some (.one false (.cols 16 [.sc (.ints .i64 (cwK A r k))]))) :: q.H, 6⟩) (fun k => k ≤ 2 ∧ (1 ≤ k → dvE A t r 1 = 0) ∧ (2 ≤ k → dvE A t r (-1) = 0)) (fun k => 2 - k) 0 [0, 1, 2, 3, 6, 7] [] ⟨rfl, ⟨rfl, rfl, rfl, rfl, rfl, rfl, trivial⟩, ⟨rfl, rfl, rfl, rfl, gwk rfl, rfl, trivial⟩⟩ ⟨Nat.zero_le _, fun h => absurd h (by decide), fun h => absurd h (by decide)⟩ ?_
  rintro k ⟨hk, i1, i2⟩
  match k, hk, i1, i2 with
  | 0, _, _, _ =>
    have cd := pos_divide z16 A t r 1 hA3 (by decide) (.inl rfl) hr
    unfold dvO at cd
    by_cases g : dvE A t r 1 = 0
    · rw [if_pos g, g] at cd
      repeat' ((conv => whnf); first | refine vcall_o (l := [0, 5]) (cd) ?_ | ((first | apply br_dec | apply br_ndec) <;> intro h <;> try (exfalso; (try dsimp only at h); omega)) | ((first | apply br_seq | apply br_nseq | apply br_not | apply br_intro) <;> intro h) | refine cond_a ?_)
      all_goals (conv => whnf)
      all_goals first
        | exact ⟨1, [0, 1, 2, 3, 4, 5], [], ⟨by decide, fun _ => g, fun h => absurd h (by decide)⟩, by decide, ⟨rfl, ⟨rfl, rfl, rfl, rfl, rfl, rfl, trivial⟩, ⟨rfl, rfl, rfl, rfl, gwk rfl, rfl, trivial⟩⟩⟩
        | (exfalso; omega)
        | trace_state
    · rw [if_neg g] at cd
      rw [if_pos g] at e2
      rw [hcE _ e2 g]
      repeat' ((conv => whnf); first | refine vcall_o (l := [0, 5]) (cd) ?_ | ((first | apply br_dec | apply br_ndec) <;> intro h <;> try (exfalso; (try dsimp only at h); omega)) | ((first | apply br_seq | apply br_nseq | apply br_not | apply br_intro) <;> intro h) | refine cond_a ?_)
      all_goals (conv => whnf)
      all_goals first
        | exact ret_out (l := [0, 1]) rfl rfl trivial allRw_nil
        | (exfalso; omega)
        | trace_state
  | 1, _, i1, _ =>
    have g1 := i1 (by decide)
    rw [if_neg (by simpa using g1)] at e2
    have cd := pos_divide (dvR z16 A r 1) A t r (-1) hA3 (by rw [dvR_len]; rfl) (.inr rfl) hr
    unfold dvO at cd
    by_cases g : dvE A t r (-1) = 0
    · rw [if_pos g, g] at cd
      repeat' ((conv => whnf); first | refine vcall_o (l := [0, 5]) (cd) ?_ | ((first | apply br_dec | apply br_ndec) <;> intro h <;> try (exfalso; (try dsimp only at h); omega)) | ((first | apply br_seq | apply br_nseq | apply br_not | apply br_intro) <;> intro h) | refine cond_a ?_)
      all_goals (conv => whnf)
      all_goals first
        | exact ⟨2, [0, 1, 2, 3, 4, 5], [], ⟨by decide, fun _ => g1, fun _ => g⟩, by decide, ⟨rfl, ⟨rfl, rfl, rfl, rfl, rfl, rfl, trivial⟩, ⟨rfl, rfl, rfl, rfl, gwk rfl, rfl, trivial⟩⟩⟩
        | (exfalso; omega)
        | trace_state
    · rw [if_neg g] at cd
      rw [hcE _ e2 g]
      repeat' ((conv => whnf); first | refine vcall_o (l := [0, 5]) (cd) ?_ | ((first | apply br_dec | apply br_ndec) <;> intro h <;> try (exfalso; (try dsimp only at h); omega)) | ((first | apply br_seq | apply br_nseq | apply br_not | apply br_intro) <;> intro h) | refine cond_a ?_)
      all_goals (conv => whnf)
      all_goals first
        | exact ret_out (l := [0, 1]) rfl rfl trivial allRw_nil
        | (exfalso; omega)
        | trace_state
  | 2, _, i1, i2 =>
    rw [if_neg (by simpa using i1 (by decide)), i2 (by decide)] at e2
    rw [hcR e2]
    repeat' ((conv => whnf); first | ((first | apply br_dec | apply br_ndec) <;> intro h <;> try (exfalso; (try dsimp only at h); omega)) | ((first | apply br_seq | apply br_nseq | apply br_not | apply br_intro) <;> intro h) | refine cond_a ?_)
    all_goals (conv => whnf)
    all_goals first
      | exact ret_out (l := [0, 1]) rfl rfl trivial allRw_nil
      | (exfalso; omega)
      | trace_state
end Go.Proofs.YtkdjnmcaifejjaaGreatDoor

/- Contracts: sums of 128 bits in an array. -/
namespace Go.Proofs.YtkdjnmcaifejjaaGreatDoor
open Go.RowKit Go.Sy
attribute [local irreducible] vcall vloop vcallD retP
set_option maxRecDepth 100000
set_option linter.unusedVariables false
set_option linter.unusedSimpArgs false

def exA (SS : List Int) : Blk := .cols 16 [.sc (.ints .i64 (SS.map exH)), .sc (.ints .u64 (SS.map exL))]
theorem exA_at (SS : List Int) (i : Nat) (S : Int) (h : SS.getD i 0 = S) : (SS.map exH).getD i 0 = exH S ∧ (SS.map exL).getD i 0 = exL S := by
  subst h
  rw [List.getD, List.getD, List.getD, List.getElem?_map, List.getElem?_map]
  cases SS[i]? with
  | none => exact ⟨rfl, rfl⟩
  | some x => exact ⟨rfl, rfl⟩
theorem ex_addA (SS : List Int) (i : Nat) (hi : i < 16) (S n : Int) (hSS : SS.getD i 0 = S) (hS : okS S) (h1 : -9223372036854775808 ≤ n) (h2 : n ≤ 9223372036854775807) : FC Tryz.prog 2 67 [.ptr 1 0 i 0, .int .i64 n] [(1, some (.one false (exA SS)))] (isOut (.tup []) [(1, some (.one false (exA (SS.set i (S + n)))))] 2) := by
  have hu := u64_of h1 h2
  have hs := ishr63 n h1 h2
  obtain ⟨e1, e2, e3⟩ := ex_eq S
  have hb := exH_bd hS
  obtain ⟨x, hx⟩ := Int.eq_ofNat_of_zero_le e2
  obtain ⟨y, hy⟩ : ∃ y : Nat, IntKind.u64.wrap n = (y : Int) := Int.eq_ofNat_of_zero_le (by rw [hu]; split <;> omega)
  have c1 := bits_Add64 x y
  have hy2 : (y : Int) = if n < 0 then n + 18446744073709551616 else n := by rw [← hy, hu]
  have hc : IntKind.i64.wrap (((x + y) / 18446744073709551616 : Nat) : Int) = (((x + y) / 18446744073709551616 : Nat) : Int) := w64_in (by omega) (by split at hy2 <;> omega)
  obtain ⟨q1, q2⟩ := ex_uniq (S := S + n) (h := exH S + ((if n < 0 then -1 else 0) + (((x + y) / 18446744073709551616 : Nat) : Int))) (l := (((x + y) % 18446744073709551616 : Nat) : Int)) (by split at hy2 <;> rename_i q <;> simp only [q, if_true, if_false] <;> omega) (by omega) (by omega)
  obtain ⟨hH, hL⟩ := exA_at SS i S hSS
  rw [hx] at hL
  unfold exA
  rw [List.map_set, List.map_set, q1, q2]
  generalize SS.map exH = hs' at *
  generalize SS.map exL = ls' at *
  generalize exH S = H at *
  rw [← hy, ← hL] at c1
  refine fc_of mixed T_ok Tryz.func67 rfl (by kernel_rfl) (by kernel_rfl) (by kernel_rfl) ?_
  repeat' ((conv => whnf); first | (refine vcall_pure (c1) rfl rfl rfl ?_) | (refine vcallD_pure (c1) rfl rfl rfl ?_) | ((first | apply br_dec | apply br_ndec) <;> intro h <;> try (exfalso; (try dsimp only at h); omega)) | ((first | apply br_seq | apply br_nseq | apply br_not | apply br_intro) <;> intro h) | refine cond_a ?_)
  all_goals (conv => whnf)
  have e9 : IntKind.i64.wrap (H + IntKind.i64.wrap (ishr .i64 n 63 + IntKind.i64.wrap (((x + y) / 18446744073709551616 : Nat) : Int))) = H + ((if n < 0 then -1 else 0) + (((x + y) / 18446744073709551616 : Nat) : Int)) := by
    rw [hs, hc]
    have hy3 : y < 18446744073709551616 := by split at hy2 <;> omega
    have ht : (if n < 0 then (-1 : Int) else 0) = -1 ∨ (if n < 0 then (-1 : Int) else 0) = 0 := by split; exact .inl rfl; exact .inr rfl
    generalize (if n < 0 then (-1 : Int) else 0) = t at *
    have hx3 : x < 18446744073709551616 := by omega
    have hq : (x + y) / 18446744073709551616 ≤ 1 := by omega
    generalize (x + y) / 18446744073709551616 = c at *
    rw [w64_in (n := t + (c : Int)) (by omega) (by omega), w64_in (by omega) (by omega)]
  have hr : (some (HB.one false (.cols 16 [.sc (.ints .i64 (hs'.set i (IntKind.i64.wrap (hs'.getD i 0 + IntKind.i64.wrap (ishr .i64 n 63 + IntKind.i64.wrap (((x + y) / 18446744073709551616 : Nat) : Int)))))), .sc (.ints .u64 (ls'.set i (((x + y) % 18446744073709551616 : Nat) : Int)))])) : Option HB) = some (.one false (.cols 16 [.sc (.ints .i64 (hs'.set i (H + ((if n < 0 then -1 else 0) + (((x + y) / 18446744073709551616 : Nat) : Int))))), .sc (.ints .u64 (ls'.set i (((x + y) % 18446744073709551616 : Nat) : Int)))])) := by rw [hH, e9]
  all_goals exact ret_out (l := [0, 1]) rfl rfl ⟨hr, trivial⟩ (allRw_cons allRw_nil)
theorem ex_clampedA (SS : List Int) (i : Nat) (hi : i < 16) (S l : Int) (hSS : SS.getD i 0 = S) (hS : okS S) (h1 : 0 ≤ l) (h2 : l ≤ 4611686018427387904) : FC Tryz.prog 2 68 [.ptr 1 0 i 0, .int .i64 l] [(1, some (.one true (exA SS)))] (isOut (.int .i64 (clampI S l)) [] 2) := by
  obtain ⟨e1, e2, e3⟩ := ex_eq S
  have hb := exH_bd hS
  have hz := i64_of e2 e3
  have hsh := ishr63 (IntKind.i64.wrap (exL S)) (by rw [hz]; split <;> omega) (by rw [hz]; split <;> omega)
  have hn : IntKind.i64.wrap (0 - l) = -l := by rw [w64_in (by omega) (by omega)]; omega
  obtain ⟨hH, hL⟩ := exA_at SS i S hSS
  unfold exA
  generalize SS.map exH = hs' at *
  generalize SS.map exL = ls' at *
  generalize exH S = H at *
  generalize exL S = L at *
  refine fc_of mixed T_ok Tryz.func68 rfl (by kernel_rfl) (by kernel_rfl) (by kernel_rfl) ?_
  repeat' ((conv => whnf); first | ((first | apply br_dec | apply br_ndec) <;> intro h <;> try (exfalso; (try dsimp only at h); omega)) | ((first | apply br_seq | apply br_nseq | apply br_not | apply br_intro) <;> intro h) | refine cond_a ?_)
  all_goals (conv => whnf)
  all_goals (try dsimp only at *)
  all_goals simp only [hn, hH, hL] at *
  all_goals first
    | (refine ret_out (l := [0, 1]) (r0 := .int .i64 (clampI S l)) rfl ?_ trivial allRw_nil
       refine congrArg (SV.int .i64) ?_
       unfold clampI
       split at hz <;> split at hsh <;> split <;> (try split) <;> omega)
    | (exfalso; split at hz <;> split at hsh <;> omega)
    | trace_state
end Go.Proofs.YtkdjnmcaifejjaaGreatDoor

/- Contract: all positions in one currency. -/
namespace Go.Proofs.YtkdjnmcaifejjaaGreatDoor
open Go.RowKit Go.Sy
attribute [local irreducible] vcall vloop vcallD retP
set_option maxRecDepth 100000
set_option linter.unusedVariables false
set_option linter.unusedSimpArgs false

/-- A row is added to sums. -/
def addK (SS r : List Int) : Nat → List Int
  | 0 => SS
  | i + 1 => (addK SS r i).set i (SS.getD i 0 + r.getD i 0)
theorem addK_len (SS r : List Int) : ∀ i, (addK SS r i).length = SS.length
  | 0 => rfl
  | i + 1 => by simp only [addK, List.length_set]; exact addK_len SS r i
theorem addK_get {SS r : List Int} {n : Nat} (hl : SS.length = n) : ∀ i j, i ≤ n → (addK SS r i).getD j 0 = if j < i then SS.getD j 0 + r.getD j 0 else SS.getD j 0
  | 0, j, _ => by rw [if_neg (by omega)]; rfl
  | i + 1, j, h => by
    have ih := addK_get (r := r) hl i j (by omega)
    simp only [addK]
    rw [set_getD2 _ _ _ _ (by rw [addK_len]; omega)]
    by_cases e : j = i
    · subst e; rw [if_pos rfl, if_pos (by omega)]
    · rw [if_neg e, ih]
      by_cases e2 : j < i
      · rw [if_pos e2, if_pos (by omega)]
      · rw [if_neg e2, if_neg (by omega)]
/-- The row of a currency in another one; the first error; the sums. -/
def cvR (q : RL) (b : Bk) (t p c : ByteArray) : List Int := if c = t then b.row c else cwR q (b.row c) c t p
def cvEK (q : RL) (b : Bk) (cs : List ByteArray) (t p : ByteArray) : Nat → Int
  | 0 => 0
  | k + 1 => if cvEK q b cs t p k ≠ 0 then cvEK q b cs t p k else if cs.getD k ⟨#[]⟩ = t then 0 else cwE q (b.row (cs.getD k ⟨#[]⟩)) (cs.getD k ⟨#[]⟩) t p
def cvSK (q : RL) (b : Bk) (cs : List ByteArray) (t p : ByteArray) : Nat → List Int
  | 0 => z16
  | k + 1 => addK (cvSK q b cs t p k) (cvR q b t p (cs.getD k ⟨#[]⟩)) 16
theorem cvEK_stop {q : RL} {b : Bk} {cs : List ByteArray} {t p : ByteArray} {k : Nat} {e : Int} (h0 : cvEK q b cs t p k = 0) (h1 : cs.getD k ⟨#[]⟩ ≠ t) (h2 : cwE q (b.row (cs.getD k ⟨#[]⟩)) (cs.getD k ⟨#[]⟩) t p = e) (he : e ≠ 0) : ∀ n, k < n → cvEK q b cs t p n = e
  | 0, h => by omega
  | n + 1, h => by
    simp only [cvEK]
    by_cases g : k = n
    · subst g; rw [if_neg (by omega), if_neg h1, h2]
    · rw [cvEK_stop h0 h1 h2 he n (by omega), if_pos he]
theorem cvSK_len (q : RL) (b : Bk) (cs : List ByteArray) (t p : ByteArray) : ∀ k, (cvSK q b cs t p k).length = 16
  | 0 => rfl
  | k + 1 => by simp only [cvSK]; rw [addK_len]; exact cvSK_len q b cs t p k
def fitK (SS : List Int) : Nat → Bool
  | 0 => true
  | i + 1 => fitK SS i && fitB (SS.getD i 0)
theorem fitK_stop {SS : List Int} {i : Nat} (h : fitB (SS.getD i 0) = false) : ∀ n, i < n → fitK SS n = false
  | 0, q => by omega
  | n + 1, q => by
    simp only [fitK]
    by_cases e : i = n
    · subst e; rw [h, Bool.and_false]
    · rw [fitK_stop h n (by omega), Bool.false_and]
theorem clamp_fit {S : Int} (h : fitB S = true) : clampI S 4611686018427387904 = S := by
  rw [fitB_t] at h
  unfold clampI
  rw [if_neg (by omega), if_neg (by omega)]
theorem clamp_nofit {S : Int} (h : fitB S = false) : fitB (clampI S 4611686018427387904) = false := by
  rw [fitB_f] at h ⊢
  unfold clampI
  split
  · omega
  · split <;> omega
theorem dvK_bd {row pl P : List Int} {s B : Int} (hs : s = 1 ∨ s = -1) (hr : ∀ j, -B ≤ row.getD j 0 ∧ row.getD j 0 ≤ B) (hP : ∀ j, 0 ≤ P.getD j 0 ∧ P.getD j 0 ≤ B) : ∀ k j, -B ≤ (dvK row pl P s k).getD j 0 ∧ (dvK row pl P s k).getD j 0 ≤ B
  | 0, j => hr j
  | k + 1, j => by
    have ih := dvK_bd (pl := pl) hs hr hP k
    simp only [dvK]
    by_cases e : (pl.getD k 0).toNat < (dvK row pl P s k).length
    · rw [set_getD2 _ _ _ _ e]
      split
      · have := hP k
        rcases hs with e | e <;> rw [e] <;> omega
      · exact ih j
    · rw [List.set_eq_of_length_le (by omega)]
      exact ih j
theorem dvR_bd {row r : List Int} {A : Nat} {s B : Int} (hs : s = 1 ∨ s = -1) (hr : ∀ j, -B ≤ row.getD j 0 ∧ row.getD j 0 ≤ B) (hA : (A : Int) + 16 ≤ B) (j : Nat) : -B ≤ (dvR row A r s).getD j 0 ∧ (dvR row A r s).getD j 0 ≤ B := by
  unfold dvR
  refine dvK_bd hs hr (fun j => ?_) _ j
  have hW : ∃ M, ∀ j, r.getD j 0 * s ≤ M := by
    have : ∀ l : List Int, ∃ M, 0 ≤ M ∧ ∀ j, l.getD j 0 * s ≤ M := by
      intro l
      induction l with
      | nil => exact ⟨0, Int.le_refl _, fun j => by simp⟩
      | cons x l ih =>
        obtain ⟨M, h0, h⟩ := ih
        refine ⟨max M (x * s), by omega, fun j => ?_⟩
        cases j with
        | zero => rw [List.getD_cons_zero]; omega
        | succ j => rw [List.getD_cons_succ]; have := h j; omega
    obtain ⟨M, _, h⟩ := this r
    exact ⟨M, h⟩
  obtain ⟨M, hM⟩ := hW
  have hl := wt_len r s 16
  have := sp_bd (A := A) (ws := wtK r s 16) (n := dvN r s) (fun i hi => (wt_bd hM 16 i hi).1) j
  unfold dvN at this ⊢
  omega
theorem dvE_le {A : Nat} {c : ByteArray} {r : List Int} {s : Int} (h : dvE A c r s = 0) : A ≤ 4503599627370496 := spE_le h
theorem z16_get (j : Nat) : z16.getD j 0 = 0 := by
  rw [List.getD, List.getElem?_replicate]; split <;> rfl
theorem cwR_bd {q : RL} {r : List Int} {f t p : ByteArray} (h : cwE q r f t p = 0) (j : Nat) : -9007199254740992 ≤ (cwR q r f t p).getD j 0 ∧ (cwR q r f t p).getD j 0 ≤ 9007199254740992 := by
  unfold cwE at h
  split at h
  · contradiction
  · split at h
    · contradiction
    · split at h
      · contradiction
      · have hA := dvE_le h
        unfold cwR
        exact dvR_bd (.inr rfl) (fun j => dvR_bd (.inl rfl) (fun j => by rw [z16_get]; omega) (by omega) j) (by omega) j
theorem cvSK_bd {q : RL} {b : Bk} {cs : List ByteArray} {t p : ByteArray} (hb : ∀ i j, -4503599627370496 ≤ (b.vs.getD i z16).getD j 0 ∧ (b.vs.getD i z16).getD j 0 ≤ 4503599627370496) : ∀ k, cvEK q b cs t p k = 0 → ∀ j, -9007199254740992 * (k : Int) ≤ (cvSK q b cs t p k).getD j 0 ∧ (cvSK q b cs t p k).getD j 0 ≤ 9007199254740992 * (k : Int)
  | 0, _, j => by simp only [cvSK]; rw [z16_get]; omega
  | k + 1, h, j => by
    simp only [cvEK] at h
    by_cases h0 : cvEK q b cs t p k = 0
    case neg => rw [if_pos h0] at h; exact absurd h h0
    rw [if_neg (by simpa using h0)] at h
    have ih := cvSK_bd hb k h0 j
    simp only [cvSK]
    rw [addK_get (cvSK_len q b cs t p k) _ _ (Nat.le_refl _)]
    have hR : -9007199254740992 ≤ (cvR q b t p (cs.getD k ⟨#[]⟩)).getD j 0 ∧ (cvR q b t p (cs.getD k ⟨#[]⟩)).getD j 0 ≤ 9007199254740992 := by
      unfold cvR
      by_cases g : cs.getD k ⟨#[]⟩ = t
      · rw [if_pos g]; have := hb (sidx b.cs (cs.getD k ⟨#[]⟩)) j; unfold Bk.row; omega
      · rw [if_neg g] at h ⊢; exact cwR_bd h j
    split <;> omega
abbrev Bk.cvS (b : Bk) (q : RL) (t p : ByteArray) : List Int := cvSK q b (sortS b.cs) t p b.m
abbrev Bk.cvX (b : Bk) (q : RL) (t p : ByteArray) : Int := cvEK q b (sortS b.cs) t p b.m
def Bk.cvE (b : Bk) (q : RL) (t p : ByteArray) : Int := if curB t = false then 11 else if b.cvX q t p ≠ 0 then b.cvX q t p else if fitK (b.cvS q t p) b.n = true then 0 else 4
def Bk.cvL (b : Bk) (q : RL) (t p : ByteArray) : List Px := liR (b.cvS q t p) b.ps t b.n
def cvOut (b : Bk) (q : RL) (t p : ByteArray) : SV → Heap → Nat → Prop :=
  if b.cvE q t p ≠ 0 then isOut (.tup [.nsl, .int .i64 (b.cvE q t p)]) [] 5 else isOut (.tup [.sl 5 0 0 (b.cvL q t p).length, .int .i64 0]) [(5, some (.one false (pxB (b.cvL q t p).length (pxOf (b.cvL q t p)))))] 6
abbrev cvH (b : Bk) (q : RL) : Heap := (0, some (GB glT)) :: (4, some (.one true (.cols q.l [.sc (.strs q.f), .sc (.strs q.t), .sc (.ints .i64 q.n), .sc (.ints .i64 q.d)]))) :: bkR b
theorem exA_z : exA z16 = .cols 16 [.sc (.ints .i64 z16), .sc (.ints .u64 z16)] := by unfold exA; simp [exH, exL]; rfl
set_option maxHeartbeats 3200000 in
theorem pos_Convert (b : Bk) (hb : b.Ok) (hc : b.Cok) (q : RL) (hq : q.l ≤ 1000) (t p : ByteArray) :
    FC Tryz.prog 5 39 [.ptr 1 0 0 0, .sl 4 0 0 q.l, .str t, .str p] (cvH b q) (cvOut b q t p) := by
  have hn := hb.n
  have hm := hc.m
  have c1 := pos_isCurrency t
  have c2 := pos_Currencies b hc
  unfold cvOut
  cases ht : curB t with
  | false =>
    rw [ht] at c1
    have e : b.cvE q t p = 11 := by unfold Bk.cvE; rw [if_pos ht]
    rw [e, if_pos (by decide)]
    refine fc_of mixed T_ok Tryz.func39 rfl (by kernel_rfl) (by kernel_rfl) (by kernel_rfl) ?_
    repeat' ((conv => whnf); first | (refine vcall_pure (c1) rfl rfl rfl ?_) | ((first | apply br_dec | apply br_ndec) <;> intro h <;> try (exfalso; (try dsimp only at h); omega)) | ((first | apply br_seq | apply br_nseq | apply br_not | apply br_intro) <;> intro h) | refine cond_a ?_)
    all_goals (conv => whnf)
    all_goals first
      | exact ret_out (l := [0, 1, 2, 3, 4]) rfl rfl trivial allRw_nil
      | (exfalso; omega)
      | trace_state
  | true =>
  rw [ht] at c1
  have e0 : b.cvE q t p = if b.cvX q t p ≠ 0 then b.cvX q t p else if fitK (b.cvS q t p) b.n = true then 0 else 4 := by unfold Bk.cvE; rw [if_neg (by rw [ht]; simp)]
  have hSbd := cvSK_bd (q := q) (cs := sortS b.cs) (t := t) (p := p) hb.bd
  have hSlen := cvSK_len q b (sortS b.cs) t p
  refine fc_of mixed T_ok Tryz.func39 rfl (by kernel_rfl) (by kernel_rfl) (by kernel_rfl) ?_
  repeat' ((conv => whnf); first | (refine vcall_pure (c1) rfl rfl rfl ?_) | refine vcall_o (l := [0, 1, 2, 3]) (c2) ?_ | ((first | apply br_dec | apply br_ndec) <;> intro h <;> try (exfalso; (try dsimp only at h); omega)) | ((first | apply br_seq | apply br_nseq | apply br_not | apply br_intro) <;> intro h) | refine cond_a ?_)
  all_goals (conv => whnf)
  refine vloop_lp (fun k : Nat => ⟨[(0, .ptr 1 0 0 0), (1, .sl 4 0 0 q.l), (2, .str t), (3, .str p), (10, .ptr 5 0 0 0), (28, .sl 6 0 0 b.m), (29, .int .i64 b.m), (30, .int .i64 k)], (5, some (.one false (exA (cvSK q b (sortS b.cs) t p k)))) :: (6, some (.one false (.cols b.m [.sc (.strs (sortS b.cs))]))) :: cvH b q, 7⟩) (fun k => k ≤ b.m ∧ cvEK q b (sortS b.cs) t p k = 0) (fun k => b.m - k) 0 [0, 1, 2, 3, 4, 5, 6] [] ⟨rfl, ⟨rfl, rfl, rfl, rfl, rfl, rfl, rfl, rfl, trivial⟩, ⟨congrArg (fun x => some (HB.one false x)) exA_z.symm, rfl, gwk rfl, rfl, rfl, rfl, rfl, trivial⟩⟩ ⟨Nat.zero_le _, rfl⟩ ?_
  rintro k ⟨hk, hE⟩
  by_cases hk2 : k < b.m
  · have hr := hb.bd (sidx b.cs ((sortS b.cs).getD k ⟨#[]⟩))
    have hSk := hSbd k hE
    have hSl := hSlen k
    have hE2 : cvEK q b (sortS b.cs) t p (k + 1) = if (sortS b.cs).getD k ⟨#[]⟩ = t then 0 else cwE q (b.row ((sortS b.cs).getD k ⟨#[]⟩)) ((sortS b.cs).getD k ⟨#[]⟩) t p := by simp only [cvEK]; rw [if_neg (by simpa using hE)]
    have hS2 : cvSK q b (sortS b.cs) t p (k + 1) = addK (cvSK q b (sortS b.cs) t p k) (cvR q b t p ((sortS b.cs).getD k ⟨#[]⟩)) 16 := rfl
    have hstop := @cvEK_stop q b (sortS b.cs) t p k
    have cw := pos_convertRow q hq (b.row ((sortS b.cs).getD k ⟨#[]⟩)) ((sortS b.cs).getD k ⟨#[]⟩) t p hr
    by_cases g : (sortS b.cs).getD k ⟨#[]⟩ = t
    · rw [if_pos g] at hE2
      have hR : cvR q b t p ((sortS b.cs).getD k ⟨#[]⟩) = b.row ((sortS b.cs).getD k ⟨#[]⟩) := if_pos g
      have hRb : ∀ j, -9007199254740992 ≤ (b.row ((sortS b.cs).getD k ⟨#[]⟩)).getD j 0 ∧ (b.row ((sortS b.cs).getD k ⟨#[]⟩)).getD j 0 ≤ 9007199254740992 := fun j => by have := hr j; unfold Bk.row; omega
      rw [hR] at hS2
      repeat' ((conv => whnf); first | ((first | apply br_dec | apply br_ndec) <;> intro h <;> try (exfalso; (try dsimp only at h); omega)) | ((first | apply br_seq | apply br_nseq | apply br_not | apply br_intro) <;> intro h) | refine cond_a ?_)
      all_goals (conv => whnf)
      all_goals first
        | (exfalso; omega)
        | contradiction
        | skip
      refine vloop_lp (fun i : Nat => ⟨[(0, .ptr 1 0 0 0), (1, .sl 4 0 0 q.l), (2, .str t), (3, .str p), (10, .ptr 5 0 0 0), (28, .sl 6 0 0 b.m), (29, .int .i64 b.m), (30, .int .i64 k), (56, .arr 16 [.ints .i64 (b.row ((sortS b.cs).getD k ⟨#[]⟩))]), (57, .int .i64 i)], (5, some (.one false (exA (addK (cvSK q b (sortS b.cs) t p k) (b.row ((sortS b.cs).getD k ⟨#[]⟩)) i)))) :: (6, some (.one false (.cols b.m [.sc (.strs (sortS b.cs))]))) :: cvH b q, 7⟩) (fun i => i ≤ 16) (fun i => 16 - i) 0 [0, 1, 2, 3, 4, 5, 6] [] ⟨rfl, ⟨rfl, rfl, rfl, rfl, rfl, rfl, rfl, rfl, rfl, rfl, trivial⟩, ⟨rfl, rfl, gwk rfl, rfl, rfl, rfl, rfl, trivial⟩⟩ (Nat.zero_le _) ?_
      intro i hi
      by_cases hi2 : i < 16
      · have hx : (addK (cvSK q b (sortS b.cs) t p k) (b.row ((sortS b.cs).getD k ⟨#[]⟩)) i).getD i 0 = (cvSK q b (sortS b.cs) t p k).getD i 0 := by rw [addK_get hSl i i (by omega), if_neg (by omega)]
        have hSi := hSk i
        have hRi := hRb i
        have ca := ex_addA (addK (cvSK q b (sortS b.cs) t p k) (b.row ((sortS b.cs).getD k ⟨#[]⟩)) i) i hi2 ((cvSK q b (sortS b.cs) t p k).getD i 0) ((b.row ((sortS b.cs).getD k ⟨#[]⟩)).getD i 0) hx (by unfold okS; omega) (by omega) (by omega)
        repeat' ((conv => whnf); first | refine vcall_o (l := [0, 5]) (ca) ?_ | ((first | apply br_dec | apply br_ndec) <;> intro h <;> try (exfalso; (try dsimp only at h); omega)) | ((first | apply br_seq | apply br_nseq | apply br_not | apply br_intro) <;> intro h) | refine cond_a ?_)
        all_goals (conv => whnf)
        all_goals first
          | exact ⟨i + 1, [0, 1, 2, 3, 4, 5, 6], [], hi2, (show 16 - (i + 1) < 16 - i by omega), ⟨rfl, ⟨rfl, rfl, rfl, rfl, rfl, rfl, rfl, rfl, rfl, congrArg (fun z => some (SV.int .i64 z)) (i64_succ (by omega)), trivial⟩, ⟨rfl, rfl, gwk rfl, rfl, rfl, rfl, rfl, trivial⟩⟩⟩
          | (exfalso; omega)
          | trace_state
      · have ei : i = 16 := by omega
        subst ei
        have bS : (some (HB.one false (exA (addK (cvSK q b (sortS b.cs) t p k) (b.row ((sortS b.cs).getD k ⟨#[]⟩)) 16))) : Option HB) = some (.one false (exA (cvSK q b (sortS b.cs) t p (k + 1)))) := by rw [hS2]
        repeat' ((conv => whnf); first | ((first | apply br_dec | apply br_ndec) <;> intro h <;> try (exfalso; (try dsimp only at h); omega)) | ((first | apply br_seq | apply br_nseq | apply br_not | apply br_intro) <;> intro h) | refine cond_a ?_)
        all_goals (conv => whnf)
        all_goals first
          | exact ⟨k + 1, [0, 1, 2, 3, 4, 5, 6], [], ⟨hk2, hE2⟩, (show b.m - (k + 1) < b.m - k by omega), ⟨rfl, ⟨rfl, rfl, rfl, rfl, rfl, rfl, rfl, congrArg (fun z => some (SV.int .i64 z)) (i64_succ (by omega)), trivial⟩, ⟨bS, rfl, gwk rfl, rfl, rfl, rfl, rfl, trivial⟩⟩⟩
          | (exfalso; omega)
          | trace_state
    · rw [if_neg g] at hE2
      by_cases g2 : cwE q (b.row ((sortS b.cs).getD k ⟨#[]⟩)) ((sortS b.cs).getD k ⟨#[]⟩) t p = 0
      case neg =>
        have e1 := hstop hE g rfl g2 b.m hk2
        rw [cwT_err rfl g2] at cw
        have e2 : b.cvE q t p = cwE q (b.row ((sortS b.cs).getD k ⟨#[]⟩)) ((sortS b.cs).getD k ⟨#[]⟩) t p := by rw [e0]; unfold Bk.cvX; rw [e1, if_pos g2]
        rw [e2, if_pos g2]
        repeat' ((conv => whnf); first | refine vcall_o (l := [0, 4]) (cw) ?_ | ((first | apply br_dec | apply br_ndec) <;> intro h <;> try (exfalso; (try dsimp only at h); omega)) | ((first | apply br_seq | apply br_nseq | apply br_not | apply br_intro) <;> intro h) | refine cond_a ?_)
        all_goals (conv => whnf)
        all_goals first
          | exact ret_out (l := [0, 1, 2, 3, 4]) rfl rfl trivial allRw_nil
          | (exfalso; omega)
          | contradiction
          | trace_state
      rw [cwT_ok g2] at cw
      rw [g2] at hE2
      have hR : cvR q b t p ((sortS b.cs).getD k ⟨#[]⟩) = cwR q (b.row ((sortS b.cs).getD k ⟨#[]⟩)) ((sortS b.cs).getD k ⟨#[]⟩) t p := if_neg g
      have hRb := cwR_bd g2
      rw [hR] at hS2
      repeat' ((conv => whnf); first | refine vcall_o (l := [0, 4]) (cw) ?_ | ((first | apply br_dec | apply br_ndec) <;> intro h <;> try (exfalso; (try dsimp only at h); omega)) | ((first | apply br_seq | apply br_nseq | apply br_not | apply br_intro) <;> intro h) | refine cond_a ?_)
      all_goals (conv => whnf)
      all_goals first
        | (exfalso; omega)
        | contradiction
        | skip
      refine vloop_lp (fun i : Nat => ⟨[(0, .ptr 1 0 0 0), (1, .sl 4 0 0 q.l), (2, .str t), (3, .str p), (10, .ptr 5 0 0 0), (28, .sl 6 0 0 b.m), (29, .int .i64 b.m), (30, .int .i64 k), (56, .arr 16 [.ints .i64 (cwR q (b.row ((sortS b.cs).getD k ⟨#[]⟩)) ((sortS b.cs).getD k ⟨#[]⟩) t p)]), (57, .int .i64 i)], (5, some (.one false (exA (addK (cvSK q b (sortS b.cs) t p k) (cwR q (b.row ((sortS b.cs).getD k ⟨#[]⟩)) ((sortS b.cs).getD k ⟨#[]⟩) t p) i)))) :: (6, some (.one false (.cols b.m [.sc (.strs (sortS b.cs))]))) :: cvH b q, 7⟩) (fun i => i ≤ 16) (fun i => 16 - i) 0 [0, 1, 2, 3, 4, 5, 6] [] ⟨rfl, ⟨rfl, rfl, rfl, rfl, rfl, rfl, rfl, rfl, rfl, rfl, trivial⟩, ⟨rfl, rfl, gwk rfl, rfl, rfl, rfl, rfl, trivial⟩⟩ (Nat.zero_le _) ?_
      intro i hi
      by_cases hi2 : i < 16
      · have hx : (addK (cvSK q b (sortS b.cs) t p k) (cwR q (b.row ((sortS b.cs).getD k ⟨#[]⟩)) ((sortS b.cs).getD k ⟨#[]⟩) t p) i).getD i 0 = (cvSK q b (sortS b.cs) t p k).getD i 0 := by rw [addK_get hSl i i (by omega), if_neg (by omega)]
        have hSi := hSk i
        have hRi := hRb i
        have ca := ex_addA (addK (cvSK q b (sortS b.cs) t p k) (cwR q (b.row ((sortS b.cs).getD k ⟨#[]⟩)) ((sortS b.cs).getD k ⟨#[]⟩) t p) i) i hi2 ((cvSK q b (sortS b.cs) t p k).getD i 0) ((cwR q (b.row ((sortS b.cs).getD k ⟨#[]⟩)) ((sortS b.cs).getD k ⟨#[]⟩) t p).getD i 0) hx (by unfold okS; omega) (by omega) (by omega)
        repeat' ((conv => whnf); first | refine vcall_o (l := [0, 5]) (ca) ?_ | ((first | apply br_dec | apply br_ndec) <;> intro h <;> try (exfalso; (try dsimp only at h); omega)) | ((first | apply br_seq | apply br_nseq | apply br_not | apply br_intro) <;> intro h) | refine cond_a ?_)
        all_goals (conv => whnf)
        all_goals first
          | exact ⟨i + 1, [0, 1, 2, 3, 4, 5, 6], [], hi2, (show 16 - (i + 1) < 16 - i by omega), ⟨rfl, ⟨rfl, rfl, rfl, rfl, rfl, rfl, rfl, rfl, rfl, congrArg (fun z => some (SV.int .i64 z)) (i64_succ (by omega)), trivial⟩, ⟨rfl, rfl, gwk rfl, rfl, rfl, rfl, rfl, trivial⟩⟩⟩
          | (exfalso; omega)
          | trace_state
      · have ei : i = 16 := by omega
        subst ei
        have bS : (some (HB.one false (exA (addK (cvSK q b (sortS b.cs) t p k) (cwR q (b.row ((sortS b.cs).getD k ⟨#[]⟩)) ((sortS b.cs).getD k ⟨#[]⟩) t p) 16))) : Option HB) = some (.one false (exA (cvSK q b (sortS b.cs) t p (k + 1)))) := by rw [hS2]
        repeat' ((conv => whnf); first | ((first | apply br_dec | apply br_ndec) <;> intro h <;> try (exfalso; (try dsimp only at h); omega)) | ((first | apply br_seq | apply br_nseq | apply br_not | apply br_intro) <;> intro h) | refine cond_a ?_)
        all_goals (conv => whnf)
        all_goals first
          | exact ⟨k + 1, [0, 1, 2, 3, 4, 5, 6], [], ⟨hk2, hE2⟩, (show b.m - (k + 1) < b.m - k by omega), ⟨rfl, ⟨rfl, rfl, rfl, rfl, rfl, rfl, rfl, congrArg (fun z => some (SV.int .i64 z)) (i64_succ (by omega)), trivial⟩, ⟨bS, rfl, gwk rfl, rfl, rfl, rfl, rfl, trivial⟩⟩⟩
          | (exfalso; omega)
          | trace_state
  have ek : k = b.m := by omega
  subst ek
  have hSk := hSbd b.m hE
  have hSl := hSlen b.m
  have e1 : b.cvE q t p = if fitK (b.cvS q t p) b.n = true then 0 else 4 := by
    rw [e0]; unfold Bk.cvX; rw [hE]; rfl
  have eL : b.cvL q t p = liR (cvSK q b (sortS b.cs) t p b.m) b.ps t b.n := rfl
  have eS : b.cvS q t p = cvSK q b (sortS b.cs) t p b.m := rfl
  rw [eS] at e1
  have hokS : ∀ j, okS ((cvSK q b (sortS b.cs) t p b.m).getD j 0) := fun j => by have := hSk j; unfold okS; omega
  generalize hL : b.cvL q t p = LL at *
  generalize hX : b.cvE q t p = XX at *
  generalize cvSK q b (sortS b.cs) t p b.m = SS at *
  clear hL hX eS
  repeat' ((conv => whnf); first | ((first | apply br_dec | apply br_ndec) <;> intro h <;> try (exfalso; (try dsimp only at h); omega)) | ((first | apply br_seq | apply br_nseq | apply br_not | apply br_intro) <;> intro h) | refine cond_a ?_)
  all_goals (conv => whnf)
  all_goals first
    | (exfalso; omega)
    | skip
  refine vloop_lp (fun x : Nat × Nat => ⟨[(2, .str t), (10, .ptr 5 0 0 0), (70, .sl 2 0 0 b.n), (71, .int .i64 b.n), (72, .int .i64 x.1), (18, .sl 6 0 0 x.2)], (5, some (.one false (exA SS))) :: (6, some (.one false (pxB x.2 (pxOf (liR SS b.ps t x.1))))) :: cvH b q, 7⟩) (fun x => x.1 ≤ b.n ∧ (liR SS b.ps t x.1).length = x.2 ∧ fitK SS x.1 = true) (fun x => b.n - x.1) (0, 0) [0, 1, 2, 3, 4, 5, 7] [.slot 18 [.sc (.strs []), .sc (.ints .i64 []), .sc (.strs [])]] ⟨rfl, ⟨rfl, rfl, rfl, rfl, rfl, rfl, trivial⟩, ⟨rfl, rfl, gwk rfl, rfl, rfl, rfl, rfl, trivial⟩⟩ ⟨Nat.zero_le _, rfl, rfl⟩ ?_
  rintro ⟨i, m2⟩ ⟨hi, hl2, hf⟩
  dsimp only at hi hl2 hf
  by_cases hi2 : i < b.n
  · have cc := ex_clampedA SS i (by omega) (SS.getD i 0) 4611686018427387904 rfl (hokS i) (by decide) (by decide)
    have cf := pos_within (clampI (SS.getD i 0) 4611686018427387904)
    cases hfi : fitB (SS.getD i 0) with
    | false =>
      rw [clamp_nofit hfi] at cf
      rw [fitK_stop hfi b.n hi2, if_neg (by simp)] at e1
      rw [e1, if_pos (by decide)]
      repeat' ((conv => whnf); first | refine vcall_o (l := [0, 5]) (cc) ?_ | (refine vcall_pure (cf) rfl rfl rfl ?_) | (refine vcallD_pure (cf) rfl rfl rfl ?_) | ((first | apply br_dec | apply br_ndec) <;> intro h <;> try (exfalso; (try dsimp only at h); omega)) | ((first | apply br_seq | apply br_nseq | apply br_not | apply br_intro) <;> intro h) | refine cond_a ?_)
      all_goals (conv => whnf)
      all_goals first
        | exact ret_out (l := [0, 1, 2, 3, 4]) rfl rfl trivial allRw_nil
        | (exfalso; omega)
        | contradiction
        | trace_state
    | true =>
      rw [clamp_fit hfi, hfi] at cf
      rw [clamp_fit hfi] at cc
      have hf2 : fitK SS (i + 1) = true := by simp only [fitK]; rw [hf, hfi]; rfl
      have hml := liR_len SS b.ps t i
      by_cases hz : SS.getD i 0 = 0
      · have h3 : liR SS b.ps t (i + 1) = liR SS b.ps t i := by simp only [liR]; rw [if_pos hz]
        have b3 : (some (HB.one false (pxB m2 (pxOf (liR SS b.ps t i)))) : Option HB) = some (.one false (pxB m2 (pxOf (liR SS b.ps t (i + 1))))) := by rw [h3]
        have h4 : (liR SS b.ps t (i + 1)).length = m2 := by rw [h3, hl2]
        repeat' ((conv => whnf); first | refine vcall_o (l := [0, 5]) (cc) ?_ | (refine vcall_pure (cf) rfl rfl rfl ?_) | (refine vcallD_pure (cf) rfl rfl rfl ?_) | ((first | apply br_dec | apply br_ndec) <;> intro h <;> try (exfalso; (try dsimp only at h); omega)) | ((first | apply br_seq | apply br_nseq | apply br_not | apply br_intro) <;> intro h) | refine cond_a ?_)
        all_goals (conv => whnf)
        all_goals first
          | exact ⟨(i + 1, m2), [0, 1, 2, 3, 4, 5, 6], [], ⟨hi2, h4, hf2⟩, (show b.n - (i + 1) < b.n - i by omega), ⟨rfl, ⟨rfl, rfl, rfl, rfl, congrArg (fun z => some (SV.int .i64 z)) (i64_succ (by omega)), rfl, trivial⟩, ⟨rfl, b3, gwk rfl, rfl, rfl, rfl, rfl, trivial⟩⟩⟩
          | (exfalso; omega)
          | contradiction
          | trace_state
      · have h3 : liR SS b.ps t (i + 1) = liR SS b.ps t i ++ [⟨b.ps.getD i ⟨#[]⟩, SS.getD i 0, t⟩] := by simp only [liR]; rw [if_neg hz]
        have h5 := pxOf_snoc (liR SS b.ps t i) ⟨b.ps.getD i ⟨#[]⟩, SS.getD i 0, t⟩
        have b3 : (some (HB.one false (pxB (m2 + 1) ⟨(pxOf (liR SS b.ps t i)).p ++ [b.ps.getD i ⟨#[]⟩], (pxOf (liR SS b.ps t i)).a ++ [SS.getD i 0], (pxOf (liR SS b.ps t i)).c ++ [t]⟩)) : Option HB) = some (.one false (pxB (m2 + 1) (pxOf (liR SS b.ps t (i + 1))))) := by rw [h3, h5]
        have h4 : (liR SS b.ps t (i + 1)).length = m2 + 1 := by rw [h3, List.length_append, hl2]; rfl
        repeat' ((conv => whnf); first | refine vcall_o (l := [0, 5]) (cc) ?_ | (refine vcall_pure (cf) rfl rfl rfl ?_) | (refine vcallD_pure (cf) rfl rfl rfl ?_) | ((first | apply br_dec | apply br_ndec) <;> intro h <;> try (exfalso; (try dsimp only at h); omega)) | ((first | apply br_seq | apply br_nseq | apply br_not | apply br_intro) <;> intro h) | refine cond_a ?_)
        all_goals (conv => whnf)
        all_goals first
          | exact ⟨(i + 1, m2 + 1), [0, 1, 2, 3, 4, 5, 8], [], ⟨hi2, h4, hf2⟩, (show b.n - (i + 1) < b.n - i by omega), ⟨rfl, ⟨rfl, rfl, rfl, rfl, congrArg (fun z => some (SV.int .i64 z)) (i64_succ (by omega)), rfl, trivial⟩, ⟨rfl, b3, gwk rfl, rfl, rfl, rfl, rfl, trivial⟩⟩⟩
          | (exfalso; omega)
          | contradiction
          | trace_state
  · have ei : i = b.n := by omega
    subst ei
    rw [if_pos hf] at e1
    rw [e1, if_neg (by decide), eL, hl2]
    repeat' ((conv => whnf); first | ((first | apply br_dec | apply br_ndec) <;> intro h <;> try (exfalso; (try dsimp only at h); omega)) | ((first | apply br_seq | apply br_nseq | apply br_not | apply br_intro) <;> intro h) | refine cond_a ?_)
    all_goals (conv => whnf)
    all_goals first
      | exact ret_out (l := [0, 1, 2, 3, 4, 6]) rfl rfl ⟨rfl, trivial⟩ (allRw_cons allRw_nil)
      | (exfalso; omega)
      | trace_state
end Go.Proofs.YtkdjnmcaifejjaaGreatDoor

/- The examples of the chapter on positions. -/
namespace Go.Proofs.YtkdjnmcaifejjaaGreatDoor
open Go.RowKit Go.Sy
attribute [local irreducible] vcall vloop vcallD retP
set_option maxRecDepth 100000
set_option linter.unusedVariables false
set_option linter.unusedSimpArgs false

def sEur : ByteArray := ⟨#[69, 85, 82]⟩
def sUsd : ByteArray := ⟨#[85, 83, 68]⟩
def p3 : List ByteArray := [⟨#[97]⟩, ⟨#[98]⟩, ⟨#[99]⟩]
def k0 : Bk := ⟨3, p3, 0, [], [], [], 0⟩
def k1 : Bk := ⟨3, p3, 1, [sEur], [[-100, 100, 0, 0, 0, 0, 0, 0, 0, 0, 0, 0, 0, 0, 0, 0]], [0], 1⟩
def k2 : Bk := ⟨3, p3, 1, [sEur], [[-100, 70, 30, 0, 0, 0, 0, 0, 0, 0, 0, 0, 0, 0, 0, 0]], [0], 1⟩
def l0 : List Px := [⟨⟨#[97]⟩, -110, sUsd⟩, ⟨⟨#[98]⟩, 77, sUsd⟩, ⟨⟨#[99]⟩, 33, sUsd⟩]
theorem p3_sort : sortS p3 = p3 := by
  exact sortS_of (List.Perm.refl _) (by unfold p3; refine .cons (fun a h => ?_) (.cons (fun a h => ?_) (.cons (fun a h => absurd h (List.not_mem_nil)) .nil)) <;> simp only [List.mem_cons, List.not_mem_nil, or_false] at h <;> (first | (rcases h with rfl | rfl <;> kernel_rfl) | (subst h; kernel_rfl)))
theorem one_sort (s : ByteArray) : sortS [s] = [s] := sortS_of (List.Perm.refl _) (List.pairwise_singleton _ _)
end Go.Proofs.YtkdjnmcaifejjaaGreatDoor

/- Plain facts on the first place of a text in a list. No program in sight. -/
namespace Go.Sy
open Go.RowKit

theorem sidx_le (l : List ByteArray) (s : ByteArray) : sidx l s ≤ l.length := by
  induction l with
  | nil => simp [sidx]
  | cons x l ih =>
    simp only [sidx, seq]
    by_cases h : x = s
    · rw [decide_eq_true h]; simp
    · rw [decide_eq_false h]; simp; exact ih
theorem sidx_lt {l : List ByteArray} {s : ByteArray} : sidx l s < l.length ↔ s ∈ l := by
  induction l with
  | nil => simp [sidx]
  | cons x l ih =>
    simp only [sidx, seq]
    by_cases h : x = s
    · rw [decide_eq_true h]; simp [h]
    · rw [decide_eq_false h]
      have : ¬ s = x := fun e => h e.symm
      simp [this, ih]
theorem sidx_get {l : List ByteArray} {s : ByteArray} (h : sidx l s < l.length) : l[sidx l s]? = some s := by
  induction l with
  | nil => simp [sidx] at h
  | cons x l ih =>
    simp only [sidx, seq] at h ⊢
    by_cases e : x = s
    · rw [decide_eq_true e]; simp [e]
    · rw [decide_eq_false e] at h ⊢
      simp only [cond_false, List.length_cons, List.getElem?_cons_succ] at h ⊢
      exact ih (by omega)
theorem sidx_of_get {l : List ByteArray} (hd : l.Nodup) {i : Nat} {s : ByteArray} (h : l[i]? = some s) : sidx l s = i := by
  have hi : i < l.length := (List.getElem?_eq_some_iff.1 h).1
  have hm : s ∈ l := List.mem_iff_getElem?.2 ⟨i, h⟩
  have h2 := sidx_get (sidx_lt.2 hm)
  have h3 := sidx_lt.2 hm
  obtain ⟨_, e1⟩ := List.getElem?_eq_some_iff.1 h
  obtain ⟨_, e2⟩ := List.getElem?_eq_some_iff.1 h2
  exact (List.getElem_inj hd).1 (e2.trans e1.symm)
theorem put_key {l : List ByteArray} {s : ByteArray} : putL (sidx l s) s l = if sidx l s < l.length then l else l ++ [s] := by
  unfold putL
  split
  · rename_i h
    have := sidx_get h
    refine List.ext_getElem? fun i => ?_
    rw [List.getElem?_set]
    by_cases e : sidx l s = i
    · subst e; rw [if_pos rfl, if_pos h, this]
    · rw [if_neg e]
  · rfl

end Go.Sy

/- Plain facts on books: the rows as a function of the currency. No program in sight. -/
namespace Go.Proofs.YtkdjnmcaifejjaaGreatDoor
open Go.RowKit Go.Sy
set_option linter.unusedVariables false
set_option linter.unusedSimpArgs false

structure BkC (b : Bk) : Prop where
  cl : b.cs.length = b.m
  vl : b.vs.length = b.m
  nd : b.cs.Nodup
theorem row_at {b : Bk} (h : BkC b) {c : ByteArray} {j : Nat} (hj : b.cs[j]? = some c) : b.row c = b.vs.getD j z16 := by
  unfold Bk.row
  rw [Go.Sy.sidx_of_get h.nd hj]
theorem row_no {b : Bk} (h : BkC b) {c : ByteArray} (hc : ¬ c ∈ b.cs) : b.row c = z16 := by
  unfold Bk.row
  have : ¬ sidx b.cs c < b.cs.length := fun q => hc (Go.Sy.sidx_lt.1 q)
  rw [List.getD, List.getElem?_eq_none (by rw [h.vl, ← h.cl]; omega)]; rfl
theorem vs_of {b : Bk} (h : BkC b) {P : List Int → Prop} (hz : P z16) (hr : ∀ c, P (b.row c)) (i : Nat) : P (b.vs.getD i z16) := by
  by_cases e : i < b.m
  · have hj : b.cs[i]? = some (b.cs[i]'(by rw [h.cl]; exact e)) := List.getElem?_eq_getElem _
    have := hr (b.cs[i]'(by rw [h.cl]; exact e))
    rw [row_at h hj] at this
    exact this
  · rw [List.getD, List.getElem?_eq_none (by rw [h.vl]; omega)]; exact hz
theorem put_C {b : Bk} (h : BkC b) (c : ByteArray) (r : List Int) : BkC (b.put c r) := by
  have hle := Go.Sy.sidx_le b.cs c
  by_cases e : sidx b.cs c < b.m
  · have e2 : sidx b.cs c < b.cs.length := by rw [h.cl]; exact e
    refine ⟨?_, ?_, ?_⟩
    · show (putL _ _ _).length = if _ then _ else _
      rw [if_pos e, put_key, if_pos e2]; exact h.cl
    · show (putL _ _ _).length = if _ then _ else _
      rw [if_pos e]
      unfold putL
      rw [if_pos (by rw [h.vl]; exact e), List.length_set]; exact h.vl
    · show (putL _ _ _).Nodup
      rw [put_key, if_pos e2]; exact h.nd
  · have e2 : ¬ sidx b.cs c < b.cs.length := by rw [h.cl]; exact e
    refine ⟨?_, ?_, ?_⟩
    · show (putL _ _ _).length = if _ then _ else _
      rw [if_neg e, put_key, if_neg e2, List.length_append, h.cl]; rfl
    · show (putL _ _ _).length = if _ then _ else _
      rw [if_neg e]
      unfold putL
      rw [if_neg (by rw [h.vl]; exact e), List.length_append, h.vl]; rfl
    · show (putL _ _ _).Nodup
      rw [put_key, if_neg e2]
      refine List.nodup_append.2 ⟨h.nd, by simp, fun x hx y hy => ?_⟩
      simp only [List.mem_singleton] at hy
      subst hy
      intro q; subst q
      exact e2 (Go.Sy.sidx_lt.2 hx)
theorem put_row {b : Bk} (h : BkC b) (c : ByteArray) (r : List Int) (c' : ByteArray) : (b.put c r).row c' = if c' = c then r else b.row c' := by
  have hC := put_C h c r
  have hle := Go.Sy.sidx_le b.cs c
  by_cases e : sidx b.cs c < b.m
  · have e2 : sidx b.cs c < b.cs.length := by rw [h.cl]; exact e
    have ecs : (b.put c r).cs = b.cs := by show putL _ _ _ = _; rw [put_key, if_pos e2]
    have evs : (b.put c r).vs = b.vs.set (sidx b.cs c) r := by show putL _ _ _ = _; unfold putL; rw [if_pos (by rw [h.vl]; exact e)]
    show (b.put c r).vs.getD (sidx (b.put c r).cs c') z16 = _
    rw [ecs, evs]
    by_cases q : c' = c
    · subst q
      rw [if_pos rfl, List.getD, List.getElem?_set_self (by rw [h.vl]; exact e)]; rfl
    · rw [if_neg q]
      have : sidx b.cs c ≠ sidx b.cs c' := fun w => by
        have g1 := Go.Sy.sidx_get e2
        have g2 := Go.Sy.sidx_get (l := b.cs) (s := c') (by rw [← w]; exact e2)
        rw [← w, g1] at g2
        exact q (Option.some.inj g2).symm
      rw [List.getD, List.getElem?_set_ne this]; rfl
  · have e2 : ¬ sidx b.cs c < b.cs.length := by rw [h.cl]; exact e
    have ecs : (b.put c r).cs = b.cs ++ [c] := by show putL _ _ _ = _; rw [put_key, if_neg e2]
    have evs : (b.put c r).vs = b.vs ++ [r] := by show putL _ _ _ = _; unfold putL; rw [if_neg (by rw [h.vl]; exact e)]
    by_cases q : c' = c
    · subst q
      rw [if_pos rfl, row_at hC (j := b.m) (by rw [ecs, List.getElem?_append_right (by rw [h.cl]; omega), h.cl, Nat.sub_self]; rfl), evs, List.getD, List.getElem?_append_right (by rw [h.vl]; omega), h.vl, Nat.sub_self]; rfl
    · rw [if_neg q]
      by_cases hm : c' ∈ b.cs
      · obtain ⟨j, hj⟩ := List.mem_iff_getElem?.1 hm
        have hjl : j < b.m := by rw [← h.cl]; exact (List.getElem?_eq_some_iff.1 hj).1
        rw [row_at h hj, row_at hC (j := j) (by rw [ecs, List.getElem?_append_left (by rw [h.cl]; exact hjl)]; exact hj), evs, List.getD, List.getElem?_append_left (by rw [h.vl]; exact hjl)]; rfl
      · rw [row_no h hm, row_no hC (by rw [ecs]; simp [hm, q])]
theorem put_mem {b : Bk} (h : BkC b) (c : ByteArray) (r : List Int) (s : ByteArray) : s ∈ (b.put c r).cs ↔ s ∈ b.cs ∨ s = c := by
  show s ∈ putL _ _ _ ↔ _
  rw [put_key]
  split
  · rename_i e
    exact ⟨.inl, fun q => q.elim id (fun q => by subst q; exact Go.Sy.sidx_lt.1 e)⟩
  · simp
theorem del_C {b : Bk} (h : BkC b) (c : ByteArray) : BkC (b.del c) := by
  by_cases e : sidx b.cs c < b.m
  · refine ⟨?_, ?_, ?_⟩
    · show (b.cs.eraseIdx _).length = if _ then _ else _
      rw [if_pos e, List.length_eraseIdx_of_lt (by rw [h.cl]; exact e), h.cl]
    · show (b.vs.eraseIdx _).length = if _ then _ else _
      rw [if_pos e, List.length_eraseIdx_of_lt (by rw [h.vl]; exact e), h.vl]
    · exact h.nd.sublist (List.eraseIdx_sublist _ _)
  · refine ⟨?_, ?_, ?_⟩
    · show (b.cs.eraseIdx _).length = if _ then _ else _
      rw [if_neg e, List.eraseIdx_of_length_le (by rw [h.cl]; omega), h.cl]
    · show (b.vs.eraseIdx _).length = if _ then _ else _
      rw [if_neg e, List.eraseIdx_of_length_le (by rw [h.vl]; omega), h.vl]
    · exact h.nd.sublist (List.eraseIdx_sublist _ _)
theorem del_mem {b : Bk} (h : BkC b) (c s : ByteArray) : s ∈ (b.del c).cs ↔ s ∈ b.cs ∧ s ≠ c := by
  show s ∈ b.cs.eraseIdx _ ↔ _
  constructor
  · intro q
    refine ⟨(List.eraseIdx_sublist _ _).subset q, fun w => ?_⟩
    subst w
    obtain ⟨j, hj⟩ := List.mem_iff_getElem?.1 q
    rw [List.getElem?_eraseIdx] at hj
    by_cases e : j < sidx b.cs s
    · rw [if_pos e] at hj
      have := Go.Sy.sidx_of_get h.nd hj; omega
    · rw [if_neg e] at hj
      have := Go.Sy.sidx_of_get h.nd hj; omega
  · rintro ⟨q, w⟩
    obtain ⟨j, hj⟩ := List.mem_iff_getElem?.1 q
    have hne : j ≠ sidx b.cs c := fun e => by
      have hl : sidx b.cs c < b.cs.length := by rw [← e]; exact (List.getElem?_eq_some_iff.1 hj).1
      have g := Go.Sy.sidx_get hl
      rw [← e, hj] at g
      exact w (Option.some.inj g)
    refine List.mem_iff_getElem?.2 ?_
    by_cases e : j < sidx b.cs c
    · exact ⟨j, by rw [List.getElem?_eraseIdx, if_pos e]; exact hj⟩
    · exact ⟨j - 1, by rw [List.getElem?_eraseIdx, if_neg (by omega), show j - 1 + 1 = j by omega]; exact hj⟩
theorem del_row {b : Bk} (h : BkC b) (c c' : ByteArray) : (b.del c).row c' = if c' = c then z16 else b.row c' := by
  have hC := del_C h c
  by_cases q : c' = c
  · subst q
    rw [if_pos rfl, row_no hC (fun w => ((del_mem h c' c').1 w).2 rfl)]
  · rw [if_neg q]
    by_cases hm : c' ∈ b.cs
    · obtain ⟨j, hj⟩ := List.mem_iff_getElem?.1 hm
      have hne : j ≠ sidx b.cs c := fun e => by
        have hl : sidx b.cs c < b.cs.length := by rw [← e]; exact (List.getElem?_eq_some_iff.1 hj).1
        have g := Go.Sy.sidx_get hl
        rw [← e, hj] at g
        exact q (Option.some.inj g)
      rw [row_at h hj]
      have ecs : (b.del c).cs = b.cs.eraseIdx (sidx b.cs c) := rfl
      have evs : (b.del c).vs = b.vs.eraseIdx (sidx b.cs c) := rfl
      by_cases e : j < sidx b.cs c
      · rw [row_at hC (j := j) (by rw [ecs, List.getElem?_eraseIdx, if_pos e]; exact hj), evs, List.getD, List.getElem?_eraseIdx, if_pos e]; rfl
      · rw [row_at hC (j := j - 1) (by rw [ecs, List.getElem?_eraseIdx, if_neg (by omega), show j - 1 + 1 = j by omega]; exact hj), evs, List.getD, List.getElem?_eraseIdx, if_neg (by omega), show j - 1 + 1 = j by omega]; rfl
    · rw [row_no h hm, row_no hC (fun w => hm ((del_mem h c c').1 w).1)]
theorem mv1_C {b : Bk} (h : BkC b) (c : ByteArray) (r : List Int) : BkC (b.mv1 c r) := by
  unfold Bk.mv1
  split
  · exact del_C (put_C h c r) c
  · exact put_C h c r
theorem mv1_row {b : Bk} (h : BkC b) (c : ByteArray) (r : List Int) (c' : ByteArray) : (b.mv1 c r).row c' = if c' = c then r else b.row c' := by
  unfold Bk.mv1
  by_cases e : r = z16
  · rw [if_pos e, del_row (put_C h c r), put_row h]
    by_cases q : c' = c
    · rw [if_pos q, if_pos q, e]
    · rw [if_neg q, if_neg q]
  · rw [if_neg e, put_row h]
theorem mv1_mem {b : Bk} (h : BkC b) (c : ByteArray) (r : List Int) (s : ByteArray) : s ∈ (b.mv1 c r).cs ↔ (s ∈ b.cs ∧ s ≠ c) ∨ (s = c ∧ r ≠ z16) := by
  unfold Bk.mv1
  by_cases e : r = z16
  · rw [if_pos e, del_mem (put_C h c r), put_mem h]
    constructor
    · rintro ⟨q | q, w⟩
      · exact .inl ⟨q, w⟩
      · exact absurd q w
    · rintro (q | q)
      · exact ⟨.inl q.1, q.2⟩
      · exact absurd e q.2
  · rw [if_neg e, put_mem h]
    constructor
    · rintro (q | q)
      · by_cases w : s = c
        · exact .inr ⟨w, e⟩
        · exact .inl ⟨q, w⟩
      · exact .inr ⟨q, e⟩
    · rintro (q | q)
      · exact .inl q.1
      · exact .inr q.1
/-- A book's invariant, with a bound of its positions. -/
structure BkI (b : Bk) (B : Int) : Prop where
  C : BkC b
  n16 : b.n ≤ 16
  psl : b.ps.length = b.n
  nz : ∀ c, c ∈ b.cs → b.row c ≠ z16
  c3 : ∀ c, c ∈ b.cs → curB c = true
  rl : ∀ c, (b.row c).length = 16
  rb : ∀ c j, -B ≤ (b.row c).getD j 0 ∧ (b.row c).getD j 0 ≤ B
  rs : ∀ c, (b.row c).sum = 0
  rt : ∀ c j, b.n ≤ j → (b.row c).getD j 0 = 0
theorem BkI.ok {b : Bk} {B : Int} (h : BkI b B) (hB : B ≤ 4503599627370496) : b.Ok := by
  have h0 := h.rb ⟨#[]⟩ 0
  refine ⟨h.n16, h.psl, vs_of h.C (P := fun r => r.length = 16) rfl h.rl, fun i j => ?_⟩
  refine vs_of h.C (P := fun r => -4503599627370496 ≤ r.getD j 0 ∧ r.getD j 0 ≤ 4503599627370496) ?_ (fun c => ?_) i
  · show _ ≤ z16.getD j 0 ∧ z16.getD j 0 ≤ _
    rw [z16_get]; decide
  · show -4503599627370496 ≤ (b.row c).getD j 0 ∧ (b.row c).getD j 0 ≤ 4503599627370496
    have := h.rb c j; omega
theorem BkI.cok {b : Bk} {B : Int} (h : BkI b B) (hm : b.m ≤ 100000) : b.Cok := by
  refine ⟨hm, fun s hs => ?_, h.C.nd⟩
  have := h.c3 s hs
  unfold curB at this
  simp only [Bool.and_eq_true, decide_eq_true_eq] at this
  omega
theorem sum_set (l : List Int) (i : Nat) (x : Int) (h : i < l.length) : (l.set i x).sum = l.sum - l.getD i 0 + x := by
  induction l generalizing i with
  | nil => simp at h
  | cons y l ih =>
    cases i with
    | zero => simp only [List.set_cons_zero, List.sum_cons, List.getD_cons_zero]; omega
    | succ i =>
      simp only [List.length_cons] at h
      simp only [List.set_cons_succ, List.sum_cons, List.getD_cons_succ]
      rw [ih i (by omega)]; omega
theorem mvRow_get {r : List Int} {F T : Nat} {a : Int} (hl : r.length = 16) (hF : F < 16) (hT : T < 16) (hne : F ≠ T) (j : Nat) : (mvRow r F T a).getD j 0 = r.getD j 0 + ((if j = F then -a else 0) + (if j = T then a else 0)) := by
  unfold mvRow
  rw [set_getD2 _ _ _ _ (by rw [List.length_set, hl]; exact hT), set_getD2 _ _ _ _ (by rw [hl]; exact hF)]
  by_cases e : j = T
  · subst e
    rw [if_pos rfl, if_neg (fun q => hne q.symm), if_pos rfl]; omega
  · rw [if_neg e, if_neg e]
    by_cases e2 : j = F
    · subst e2; rw [if_pos rfl, if_pos rfl]; omega
    · rw [if_neg e2, if_neg e2]; omega
theorem mvRow_sum {r : List Int} {F T : Nat} {a : Int} (hl : r.length = 16) (hF : F < 16) (hT : T < 16) (hne : F ≠ T) : (mvRow r F T a).sum = r.sum := by
  unfold mvRow
  rw [sum_set _ _ _ (by rw [List.length_set, hl]; exact hT), sum_set _ _ _ (by rw [hl]; exact hF), set_getD2 _ _ _ _ (by rw [hl]; exact hF), if_neg (fun q => hne q.symm)]
  omega
end Go.Proofs.YtkdjnmcaifejjaaGreatDoor

/- Plain facts on sequences of moves. No program in sight. -/
namespace Go.Proofs.YtkdjnmcaifejjaaGreatDoor
open Go.RowKit Go.Sy
set_option linter.unusedVariables false
set_option linter.unusedSimpArgs false

/-- The error of a move that no position decides. -/
def stE (b : Bk) (f t c : ByteArray) (a : Int) : Int :=
  if idI b.ps f b.n < 0 ∨ idI b.ps t b.n < 0 then 6
  else if idI b.ps f b.n = idI b.ps t b.n then 4
  else if mchk a c ≠ 0 then mchk a c
  else if a < 0 then 4 else 0
theorem stE_ok {b : Bk} {f t c : ByteArray} {a : Int} (h : stE b f t c a = 0) : sidx b.ps f < b.n ∧ sidx b.ps t < b.n ∧ sidx b.ps f ≠ sidx b.ps t ∧ curB c = true ∧ 0 ≤ a ∧ a ≤ 4503599627370496 ∧ mchk a c = 0 := by
  unfold stE at h
  split at h
  · cases h
  · rename_i h1
    split at h
    · cases h
    · rename_i h2
      split at h
      · rename_i h3; exact absurd h h3
      · rename_i h3
        split at h
        · cases h
        · rename_i h4
          have h3' : mchk a c = 0 := by simpa using h3
          have hm := mchk_or a c
          rw [h3'] at hm
          have g1 : sidx b.ps f < b.n := by
            rcases Nat.lt_or_ge (sidx b.ps f) b.n with q | q
            · exact q
            · exact absurd (Or.inl (by rw [idI_no (by omega)]; decide)) h1
          have g2 : sidx b.ps t < b.n := by
            rcases Nat.lt_or_ge (sidx b.ps t) b.n with q | q
            · exact q
            · exact absurd (Or.inr (by rw [idI_no (by omega)]; decide)) h1
          rw [idI_lt g1, idI_lt g2] at h2
          rcases hm with hm | hm
          · omega
          · exact ⟨g1, g2, by omega, hm.2.1, by omega, hm.2.2.2, h3'⟩
theorem mvE_st (b : Bk) (f t c : ByteArray) (a : Int) : mvE b f t c a = if stE b f t c a ≠ 0 then stE b f t c a else if fitB ((b.row c).getD (sidx b.ps f) 0 - a) = true ∧ fitB ((b.row c).getD (sidx b.ps t) 0 + a) = true then 0 else 4 := by
  unfold mvE stE
  split
  · rfl
  · split
    · rfl
    · split
      · rfl
      · split
        · rfl
        · rfl
/-- A move that is not refused keeps the invariant. -/
theorem mv1_I {b : Bk} {B B' : Int} (h : BkI b B) {f t c : ByteArray} {a : Int} (hs : stE b f t c a = 0) (hB : B ≤ B') (h1 : -B' ≤ (b.row c).getD (sidx b.ps f) 0 - a ∧ (b.row c).getD (sidx b.ps f) 0 - a ≤ B') (h2 : -B' ≤ (b.row c).getD (sidx b.ps t) 0 + a ∧ (b.row c).getD (sidx b.ps t) 0 + a ≤ B') : BkI (b.mv1 c (mvRow (b.row c) (sidx b.ps f) (sidx b.ps t) a)) B' := by
  obtain ⟨hF, hT, hne, hc, ha, _⟩ := stE_ok hs
  have hn := h.n16
  have hps : (b.mv1 c (mvRow (b.row c) (sidx b.ps f) (sidx b.ps t) a)).ps = b.ps := by unfold Bk.mv1; split <;> rfl
  have hnn : (b.mv1 c (mvRow (b.row c) (sidx b.ps f) (sidx b.ps t) a)).n = b.n := by unfold Bk.mv1; split <;> rfl
  have hg := mvRow_get (a := a) (h.rl c) (show sidx b.ps f < 16 by omega) (show sidx b.ps t < 16 by omega) hne
  refine ⟨mv1_C h.C _ _, by rw [hnn]; exact hn, by rw [hps, hnn]; exact h.psl, fun s q => ?_, fun s q => ?_, fun s => ?_, fun s j => ?_, fun s => ?_, fun s j q => ?_⟩
  · rw [mv1_mem h.C] at q
    rw [mv1_row h.C]
    rcases q with q | q
    · rw [if_neg q.2]; exact h.nz s q.1
    · rw [if_pos q.1]; exact q.2
  · rw [mv1_mem h.C] at q
    rcases q with q | q
    · exact h.c3 s q.1
    · rw [q.1]; exact hc
  · rw [mv1_row h.C]
    split
    · rw [List.length_set, List.length_set]; exact h.rl c
    · exact h.rl s
  · rw [mv1_row h.C]
    split
    · rw [hg j]
      have := h.rb c j
      by_cases e1 : j = sidx b.ps f
      · rw [if_pos e1, if_neg (by omega), e1]; omega
      · by_cases e2 : j = sidx b.ps t
        · rw [if_neg e1, if_pos e2, e2]; omega
        · rw [if_neg e1, if_neg e2]; omega
    · have := h.rb s j; omega
  · rw [mv1_row h.C]
    split
    · rw [mvRow_sum (h.rl c) (by omega) (by omega) hne]; exact h.rs c
    · exact h.rs s
  · rw [hnn] at q
    rw [mv1_row h.C]
    split
    · rw [hg j, if_neg (by omega), if_neg (by omega), h.rt c j q]; rfl
    · exact h.rt s j q
/-- Any move keeps the invariant at the greatest bound. -/
theorem mv_I {b : Bk} (h : BkI b 4503599627370496) (f t c : ByteArray) (a : Int) : BkI (b.mv f t c a) 4503599627370496 := by
  by_cases e : mvE b f t c a = 0
  · have e2 := e
    rw [mvE_st] at e2
    by_cases s : stE b f t c a = 0
    · rw [if_neg (by simpa using s)] at e2
      split at e2
      · rename_i g
        rw [fitB_t, fitB_t] at g
        unfold Bk.mv
        rw [if_pos e]
        exact mv1_I h s (Int.le_refl _) g.1 g.2
      · cases e2
    · rw [if_pos s] at e2; exact absurd e2 s
  · rw [mv_err e]; exact h
structure Mv where
  f : ByteArray
  t : ByteArray
  a : Int
  c : ByteArray
abbrev Bk.go (b : Bk) (m : Mv) : Bk := b.mv m.f m.t m.c m.a
def Bk.all (b : Bk) (M : List Mv) : Bk := M.foldl Bk.go b
end Go.Proofs.YtkdjnmcaifejjaaGreatDoor

/- The law PositionSums. -/
namespace Go.Proofs.YtkdjnmcaifejjaaGreatDoor
open Go.RowKit Go.Sy
attribute [local irreducible] vcall vloop vcallD retP
set_option maxRecDepth 100000
set_option linter.unusedVariables false
set_option linter.unusedSimpArgs false

end Go.Proofs.YtkdjnmcaifejjaaGreatDoor

/- Contracts of the law's helpers; contracts of a book as the laws see it. -/
namespace Go.Proofs.YtkdjnmcaifejjaaGreatDoor
open Go.RowKit Go.Sy
attribute [local irreducible] vcall vloop vcallD retP
set_option maxRecDepth 100000
set_option linter.unusedVariables false
set_option linter.unusedSimpArgs false

abbrev rlB (q : RL) : Blk := .cols q.l [.sc (.strs q.f), .sc (.strs q.t), .sc (.ints .i64 q.n), .sc (.ints .i64 q.d)]
def rl0 : RL := ⟨[], [], [], [], 0⟩
/-- New for any number of names. -/
theorem pos_NewA (ps : List ByteArray) (n : Nat) (hl : ps.length = n) : FC Tryz.prog 2 24 [.sl 1 0 0 n] [(1, some (.one true (.cols n [.sc (.strs ps)])))] (nwOut ps) := by
  by_cases h16 : 16 < n
  · unfold nwOut nwErr
    rw [hl, if_pos h16, if_pos (by decide)]
    refine fc_of mixed T_ok Tryz.func24 rfl (by kernel_rfl) (by kernel_rfl) (by kernel_rfl) ?_
    repeat' ((conv => whnf); first | ((first | apply br_dec | apply br_ndec) <;> intro h <;> try (exfalso; (try dsimp only at h); omega)) | ((first | apply br_seq | apply br_nseq | apply br_not | apply br_intro) <;> intro h) | refine cond_a ?_)
    all_goals (conv => whnf)
    all_goals first
      | exact ret_out (l := [0, 1]) rfl rfl trivial allRw_nil
      | (exfalso; omega)
      | trace_state
  · exact pos_New ps n hl (by omega)
theorem nwK_mono {ps : List ByteArray} : ∀ {n k : Nat}, nwK ps n = 0 → k ≤ n → nwK ps k = 0
  | 0, k, h, hk => by rw [show k = 0 by omega]; rfl
  | n + 1, k, h, hk => by
    have h0 : nwK ps n = 0 := by
      simp only [nwK] at h
      by_cases q : nwK ps n = 0
      · exact q
      · rw [if_pos q] at h; exact h
    by_cases e : k = n + 1
    · rw [e]; exact h
    · exact nwK_mono h0 (by omega)
theorem nw_ok {ps : List ByteArray} (h : nwErr ps = 0) : ps.length ≤ 16 ∧ ps.Nodup ∧ ∀ s ∈ ps, nmB s = true := by
  unfold nwErr at h
  split at h
  · cases h
  · have hE : ∀ k, k < ps.length → nwE ps k = 0 := fun k hk => by
      have h1 := nwK_mono h (show k + 1 ≤ ps.length from hk)
      have h0 := nwK_mono h (show k ≤ ps.length by omega)
      simp only [nwK] at h1
      rwa [if_neg (by simpa using h0)] at h1
    refine ⟨by omega, ?_, fun s hs => ?_⟩
    · refine List.pairwise_iff_getElem.2 fun i j hi hj hij e => ?_
      have := hE j hj
      unfold nwE at this
      split at this
      · cases this
      · split at this
        · cases this
        · rename_i g
          have gj : ps.getD j ⟨#[]⟩ = ps[j] := by rw [List.getD, List.getElem?_eq_getElem hj]; rfl
          have hm : ps[j] ∈ ps.take j := by
            rw [← e]
            exact List.mem_iff_getElem.2 ⟨i, by rw [List.length_take]; omega, by rw [List.getElem_take]⟩
          have hlt := Go.Sy.sidx_lt.2 hm
          rw [List.length_take, Nat.min_eq_left (by omega)] at hlt
          rw [gj] at g
          unfold idI at g
          rw [if_pos hlt] at g
          omega
    · obtain ⟨k, hk, rfl⟩ := List.getElem_of_mem hs
      have := hE k hk
      unfold nwE at this
      have gj : ps.getD k ⟨#[]⟩ = ps[k] := by rw [List.getD, List.getElem?_eq_getElem hk]; rfl
      rw [gj] at this
      cases q : nmB ps[k] with
      | true => rfl
      | false => rw [q, if_pos rfl] at this; cases this
theorem nwB_I {ps : List ByteArray} (h : nwErr ps = 0) : BkI (nwB ps) 0 := by
  have hr : ∀ c, (nwB ps).row c = z16 := fun c => rfl
  refine ⟨⟨rfl, rfl, List.nodup_nil⟩, (nw_ok h).1, sortS_length ps, fun c q => absurd q (List.not_mem_nil), fun c q => absurd q (List.not_mem_nil), fun c => rfl, fun c j => ?_, fun c => rfl, fun c j _ => ?_⟩
  · rw [hr, z16_get]; decide
  · rw [hr, z16_get]
abbrev bkX (ro : Bool) (np : Nat) (ps : List ByteArray) (b : Bk) : Heap := [(1, bkC true 2 3 np), (2, some (.one true (.cols np [.sc (.strs ps)]))), (3, bkM ro b)]
theorem pos_MoveX {b : Bk} (h : BkI b 4503599627370496) {np : Nat} {ps : List ByteArray} (hn : b.n = np) (hp : b.ps = ps) (f t c : ByteArray) (a : Int) : FC Tryz.prog 4 38 [.ptr 1 0 0 0, .str f, .str t, .agg [.int .i64 a, .str c]] (bkX false np ps b) (isOut (.int .i64 (mvE b f t c a)) [(3, bkM false (b.mv f t c a))] 4) := by
  subst hn hp; exact pos_Move b (h.ok (Int.le_refl _)) f t c a
theorem pos_ListX {b : Bk} (h : BkI b 4503599627370496) {np : Nat} {ps : List ByteArray} (hn : b.n = np) (hp : b.ps = ps) (hm : b.m ≤ 100000) : FC Tryz.prog 4 43 [.ptr 1 0 0 0] (bkX true np ps b) (isOut (.sl 4 0 0 b.list.length) [(4, some (.one false (pxB b.list.length (pxOf b.list))))] 5) := by
  subst hn hp; exact pos_List b (h.ok (Int.le_refl _)) (h.cok hm)
theorem BkI.up {b : Bk} {B B' : Int} (h : BkI b B) (hB : B ≤ B') : BkI b B' := by
  have g := h.rb
  exact ⟨h.C, h.n16, h.psl, h.nz, h.c3, h.rl, fun c j => by have := g c j; omega, h.rs, h.rt⟩
end Go.Proofs.YtkdjnmcaifejjaaGreatDoor

/- Contracts of package cycle: new cycles, the cycle of a time. -/
namespace Go.Proofs.YtkdjnmcaifejjaaGreatDoor
open Go.RowKit Go.Sy
attribute [local irreducible] vcall vloop vcallD retP
set_option maxRecDepth 100000
set_option linter.unusedVariables false
set_option linter.unusedSimpArgs false

theorem segs_all {α : Type} {l : List α} {n : Nat} (h : l.length = n) : seg 0 n l = l := by
  unfold seg; rw [List.drop_zero, List.take_of_length_le (by omega)]
theorem str_Clone (n : Nat) (l : List ByteArray) (hl : l.length = n) (hn : n ≤ 1000000) : FC Tryz.prog 2 25 [.sl 1 0 0 n] [(1, some (.one true (.cols n [.sc (.strs l)])))] (isOut (.sl 2 0 0 n) [(2, some (.one false (.cols n [.sc (.strs l)])))] 3) := by
  cases n with
  | zero =>
    obtain rfl := List.eq_nil_of_length_eq_zero hl
    refine fc_nil rfl ?_
    refine fc_of mixed T_ok Tryz.func25 rfl (by kernel_rfl) (by kernel_rfl) (by kernel_rfl) ?_
    repeat' ((conv => whnf); first | ((first | apply br_dec | apply br_ndec) <;> intro h <;> try (exfalso; (try dsimp only at h); omega)) | ((first | apply br_seq | apply br_nseq | apply br_not | apply br_intro) <;> intro h) | refine cond_a ?_ | (refine And.intro ?_ ?_))
    all_goals (conv => whnf)
    all_goals first
      | exact retP_mono (fun _ _ _ h => .inl h) (ret_out (l := [0, 1]) rfl rfl trivial allRw_nil)
      | exact retP_mono (fun _ _ _ h => .inr h) (ret_out (l := [0, 1, 3]) rfl rfl ⟨rfl, trivial⟩ (allRw_cons allRw_nil))
      | decide
  | succ n =>
    refine fc_of mixed T_ok Tryz.func25 rfl (by kernel_rfl) (by kernel_rfl) (by kernel_rfl) ?_
    repeat' ((conv => whnf); first | ((first | apply br_dec | apply br_ndec) <;> intro h <;> try (exfalso; (try dsimp only at h); omega)) | ((first | apply br_seq | apply br_nseq | apply br_not | apply br_intro) <;> intro h) | refine cond_a ?_)
    all_goals (conv => whnf)
    all_goals (rw [Nat.zero_add (n + 1), segs_all hl]; exact ret_out (l := [0, 1, 3]) rfl rfl ⟨rfl, trivial⟩ (allRw_cons allRw_nil))
abbrev bk0 : Bk := ⟨0, [], 0, [], [], [], 0⟩
abbrev bkMb (b : Bk) : Blk := .obj (.map false false b.m [.strs b.cs] [.arrs 16 .i64 b.vs] b.bs b.ck)
/-- Cycles: the books by date lie in three families. -/
abbrev cyC (ro : Bool) (hc hp hb hd np : Nat) (cut : Int) : Option HB := some (.one ro (.cells [.ptr hc 0 0 0, .int .i64 cut, .sl hp 0 0 np, .map hb 0, .map hd 0]))
abbrev cyP (ro : Bool) (n : Nat) (ps : List ByteArray) : Option HB := some (.one ro (.cols n [.sc (.strs ps)]))
abbrev cyB (ro : Bool) (h m : Nat) (ds : List Int) : Option HB := some (.one ro (.obj (.map false false m [.ints .i64 ds] [.ptrs h m] (List.range m) m)))
def f7 (hp hm np : Nat) (x : Nat) : Blk := .cells [.sl hp x 0 np, .map hm x]
def f8 (np : Nat) (sp : List ByteArray) (x : Nat) : Blk := .cols np [.sc (.strs sp)]
def f9 (B : List Bk) (x : Nat) : Blk := bkMb (B.getD x bk0)
abbrev fmB (ro : Bool) (m : Nat) (f : Nat → Blk) : Option HB := some (.fam ro (fun x => x < m) f)
def cnE (cut : Int) (ps : List ByteArray) : Int := if cut < 0 ∨ 86400 < cut then 4 else nwErr ps
def cnO (cut : Int) (ps : List ByteArray) (n : Nat) : SV → Heap → Nat → Prop := if cnE cut ps = 0 then isOut (.tup [.ptr 3 0 0 0, .int .i64 0]) [(3, cyC false 1 4 5 6 n cut), (4, cyP false n ps), (5, cyB false 7 0 []), (6, tmM false 0 []), (7, fmB false 0 (f7 8 9 n)), (8, fmB false 0 (f8 n (sortS ps))), (9, fmB false 0 (f9 []))] 10 else isOut (.tup [.nptr, .int .i64 (cnE cut ps)]) [] 3
theorem cy_New (cut : Int) (ps : List ByteArray) (n : Nat) (hl : ps.length = n) : FC Tryz.prog 3 8 [.ptr 1 0 0 0, .int .i64 cut, .sl 2 0 0 n] [(2, some (.one true (.cols n [.sc (.strs ps)])))] (cnO cut ps n) := by
  have c1 := pos_NewA ps n hl
  unfold cnO cnE
  by_cases h : cut < 0 ∨ 86400 < cut
  · rw [if_pos h, if_neg (by decide)]
    refine fc_of mixed T_ok Tryz.func8 rfl (by kernel_rfl) (by kernel_rfl) (by kernel_rfl) ?_
    repeat' ((conv => whnf); first | ((first | apply br_dec | apply br_ndec) <;> intro h <;> try (exfalso; (try dsimp only at h); omega)) | ((first | apply br_seq | apply br_nseq | apply br_not | apply br_intro) <;> intro h) | refine cond_a ?_)
    all_goals (conv => whnf)
    all_goals first
      | exact ret_out (l := [0, 1, 2]) rfl rfl trivial allRw_nil
      | (exfalso; omega)
      | trace_state
  rw [if_neg h]
  unfold nwOut at c1
  by_cases he : nwErr ps = 0
  · rw [if_neg (by rw [he]; simp)] at c1
    rw [if_pos he]
    have c2 := str_Clone n ps hl (by have := (nw_ok he).1; omega)
    refine fc_of mixed T_ok Tryz.func8 rfl (by kernel_rfl) (by kernel_rfl) (by kernel_rfl) ?_
    repeat' ((conv => whnf); first | refine vcall_o (l := [0, 2]) (c1) ?_ | refine vcall_o (l := [0, 2]) (c2) ?_ | ((first | apply br_dec | apply br_ndec) <;> intro h <;> try (exfalso; (try dsimp only at h); omega)) | ((first | apply br_seq | apply br_nseq | apply br_not | apply br_intro) <;> intro h) | refine cond_a ?_)
    all_goals (conv => whnf)
    all_goals first
      | (exfalso; omega)
      | exact ret_up (l := [0, 1, 2, 9, 6, 7, 8, 10, 11, 12]) [.relab (fun _ _ => none) (fun _ => 0) ((7, cyB false 10 0 []) :: gdN 10 0 0 [⟨0, 0, f7 11 12 n⟩, ⟨0, 0, f8 n (sortS ps)⟩, ⟨0, 0, f9 []⟩]) [] 3] ⟨relab_none (n := 10) (th := 7) [⟨0, 0, f7 11 12 n⟩, ⟨0, 0, f8 n (sortS ps)⟩, ⟨0, 0, f9 []⟩] (by decide) rfl (ble_map1 rfl (fun i hi => by omega)), rfl, rfl, ⟨rfl, rfl, rfl, rfl, rfl, rfl, rfl, trivial⟩⟩ (allRw_cons (allRw_cons (allRw_cons (allRw_cons (allRw_fam (allRw_fam (allRw_fam allRw_nil)))))))
      | trace_state
  · rw [if_pos he] at c1
    rw [if_neg he]
    generalize nwErr ps = e at *
    refine fc_of mixed T_ok Tryz.func8 rfl (by kernel_rfl) (by kernel_rfl) (by kernel_rfl) ?_
    repeat' ((conv => whnf); first | refine vcall_o (l := [0, 2]) (c1) ?_ | ((first | apply br_dec | apply br_ndec) <;> intro h <;> try (exfalso; (try dsimp only at h); omega)) | ((first | apply br_seq | apply br_nseq | apply br_not | apply br_intro) <;> intro h) | refine cond_a ?_)
    all_goals (conv => whnf)
    all_goals first
      | exact ret_out (l := [0, 1, 2]) rfl rfl trivial allRw_nil
      | (exfalso; omega)
      | trace_state
end Go.Proofs.YtkdjnmcaifejjaaGreatDoor

/- Contracts of package cycle: the cycle of a time, the next later one, what is closed. -/
namespace Go.Proofs.YtkdjnmcaifejjaaGreatDoor
open Go.RowKit Go.Sy
attribute [local irreducible] vcall vloop vcallD retP
set_option maxRecDepth 100000
set_option linter.unusedVariables false
set_option linter.unusedSimpArgs false

theorem nxK_ok (p : Int → Bool) : ∀ (k : Nat) (d : Int), nxK p k d < 0 ∨ (d ≤ nxK p k d ∧ nxK p k d < d + (k : Int) ∧ p (nxK p k d) = true)
  | 0, d => .inl (by simp [nxK])
  | k + 1, d => by
    simp only [nxK]
    split
    · rename_i h
      exact .inr ⟨by omega, by omega, h⟩
    · rcases nxK_ok p k (d + 1) with h | ⟨h1, h2, h3⟩
      · exact .inl h
      · exact .inr ⟨by omega, by omega, h3⟩
theorem nxI_ok {hs : List Int} {d : Int} (h : ¬ nxI hs d < 0) : d ≤ nxI hs d ∧ nxI hs d ≤ 99999 ∧ busB hs (nxI hs d) = true := by
  rcases nxK_ok (busB hs) (100000 - d).toNat d with q | ⟨h1, h2, h3⟩
  · exact absurd q h
  · have h4 := h3
    unfold busB at h4
    simp only [Bool.and_eq_true] at h4
    exact ⟨h1, (isD_yes.1 h4.1).2, h3⟩
/-- The cycle of a time; none: -1. -/
def ofI (hs : List Int) (cut t : Int) : Int := if dayI t < 0 then -1 else if busB hs (dayI t) = true ∧ secI t < cut then dayI t else nxI hs (dayI t + 1)
def ofV (x : Int) : SV := if x < 0 then .tup [.int .i64 0, .int .i64 14] else .tup [.int .i64 x, .int .i64 0]
abbrev cyR (np hn : Nat) (cut : Int) (hs : List Int) : Heap := [(1, cyC true 2 4 5 6 np cut), (2, calC true 3), (3, tmM true hn hs)]
theorem cy_later (np hn : Nat) (cut : Int) (hs : List Int) (hh : hs.length = hn) (d : Int) (hd : 0 ≤ d) (hd2 : d ≤ 99999) : FC Tryz.prog 10 36 [.ptr 1 0 0 0, .int .i64 d] (cyR np hn cut hs) (isOut (ofV (nxI hs (d + 1))) [] 10) := by
  have e : IntKind.i64.wrap (d + 1) = d + 1 := w64_in (by omega) (by omega)
  have c := cal_Next hn hs hh (d + 1)
  have hv : (if isD (d + 1) = true then nxV (nxI hs (d + 1)) else nxV (-1)) = nxV (nxI hs (d + 1)) := by
    cases h : isD (d + 1) with
    | true => rw [if_pos rfl]
    | false => rw [if_neg (by simp), nxI_end (by have := isD_no.1 h; omega)]
  rw [hv] at c
  unfold nxV at c
  unfold ofV
  by_cases h : nxI hs (d + 1) < 0
  · rw [if_pos h] at c ⊢
    refine fc_of mixed T_ok Tryz.func36 rfl (by kernel_rfl) (by kernel_rfl) (by kernel_rfl) ?_
    repeat' ((conv => whnf); first | (simp only [e]) | refine vcall_o (l := [0, 2, 3]) (c) ?_ | ((first | apply br_dec | apply br_ndec) <;> intro h <;> try (exfalso; (try dsimp only at h); omega)) | ((first | apply br_seq | apply br_nseq | apply br_not | apply br_intro) <;> intro h) | refine cond_a ?_)
    all_goals (conv => whnf)
    all_goals first
      | exact ret_out (l := [0, 1, 2, 3, 4, 5, 6, 7, 8, 9]) rfl rfl trivial allRw_nil
      | (exfalso; omega)
      | trace_state
  · rw [if_neg h] at c ⊢
    refine fc_of mixed T_ok Tryz.func36 rfl (by kernel_rfl) (by kernel_rfl) (by kernel_rfl) ?_
    repeat' ((conv => whnf); first | (simp only [e]) | refine vcall_o (l := [0, 2, 3]) (c) ?_ | ((first | apply br_dec | apply br_ndec) <;> intro h <;> try (exfalso; (try dsimp only at h); omega)) | ((first | apply br_seq | apply br_nseq | apply br_not | apply br_intro) <;> intro h) | refine cond_a ?_)
    all_goals (conv => whnf)
    all_goals first
      | exact ret_out (l := [0, 1, 2, 3, 4, 5, 6, 7, 8, 9]) rfl rfl trivial allRw_nil
      | (exfalso; omega)
      | trace_state
theorem dayI_ok {t : Int} (h : ¬ dayI t < 0) : okT t = true ∧ 0 ≤ dayI t ∧ dayI t ≤ 99999 ∧ 0 ≤ secI t := by
  unfold dayI secI at *
  by_cases q : okT t = true
  · rw [if_pos q] at h ⊢
    rw [if_pos q]
    have := isD_yes.1 (okT_yes.1 q).2.2
    exact ⟨q, this.1, this.2, by omega⟩
  · rw [if_neg q] at h; omega
theorem cy_Of (np hn : Nat) (cut : Int) (hs : List Int) (hh : hs.length = hn) (t : Int) : FC Tryz.prog 10 20 [.ptr 1 0 0 0, .int .i64 t] (cyR np hn cut hs) (isOut (ofV (ofI hs cut t)) [] 10) := by
  have c1 := cal_Day t
  unfold ofI
  by_cases h : dayI t < 0
  · rw [if_pos h]
    generalize dayI t = d at *
    refine fc_of mixed T_ok Tryz.func20 rfl (by kernel_rfl) (by kernel_rfl) (by kernel_rfl) ?_
    repeat' ((conv => whnf); first | (refine vcall_pure (c1) rfl rfl rfl ?_) | (refine vcallD_pure (c1) rfl rfl rfl ?_) | ((first | apply br_dec | apply br_ndec) <;> intro h <;> try (exfalso; (try dsimp only at h); omega)) | ((first | apply br_seq | apply br_nseq | apply br_not | apply br_intro) <;> intro h) | refine cond_a ?_)
    all_goals (conv => whnf)
    all_goals first
      | exact ret_out (l := [0, 1, 2, 3, 4, 5, 6, 7, 8, 9]) rfl rfl trivial allRw_nil
      | (exfalso; omega)
      | trace_state
  · have hd := dayI_ok h
    rw [if_neg h]
    have c2 := cal_Business hn hs hh (dayI t)
    have c3 := cy_later np hn cut hs hh (dayI t) hd.2.1 hd.2.2.1
    generalize dayI t = d at *
    generalize secI t = s at *
    cases hb : busB hs d with
    | true =>
      rw [hb] at c2
      by_cases hq : s < cut
      · rw [if_pos ⟨rfl, hq⟩]
        unfold ofV
        rw [if_neg h]
        refine fc_of mixed T_ok Tryz.func20 rfl (by kernel_rfl) (by kernel_rfl) (by kernel_rfl) ?_
        repeat' ((conv => whnf); first | (refine vcall_pure (c1) rfl rfl rfl ?_) | (refine vcallD_pure (c1) rfl rfl rfl ?_) | refine vcall_o (l := [0, 2, 3]) (c2) ?_ | refine vcallD_o (l := [0, 2, 3]) (c2) ?_ | ((first | apply br_dec | apply br_ndec) <;> intro h <;> try (exfalso; (try dsimp only at h); omega)) | ((first | apply br_seq | apply br_nseq | apply br_not | apply br_intro) <;> intro h) | refine cond_a ?_)
        all_goals (conv => whnf)
        all_goals first
          | exact ret_out (l := [0, 1, 2, 3, 4, 5, 6, 7, 8, 9]) rfl rfl trivial allRw_nil
          | (exfalso; omega)
          | trace_state
      · rw [if_neg (fun w => hq w.2)]
        unfold ofV at c3 ⊢
        by_cases hx : nxI hs (d + 1) < 0
        · rw [if_pos hx] at c3 ⊢
          refine fc_of mixed T_ok Tryz.func20 rfl (by kernel_rfl) (by kernel_rfl) (by kernel_rfl) ?_
          repeat' ((conv => whnf); first | (refine vcall_pure (c1) rfl rfl rfl ?_) | (refine vcallD_pure (c1) rfl rfl rfl ?_) | refine vcall_o (l := [0, 2, 3]) (c2) ?_ | refine vcallD_o (l := [0, 2, 3]) (c2) ?_ | refine vcall_o (l := [0, 1, 2, 3, 4, 5, 6, 7, 8, 9]) (c3) ?_ | refine vcallD_o (l := [0, 1, 2, 3, 4, 5, 6, 7, 8, 9]) (c3) ?_ | ((first | apply br_dec | apply br_ndec) <;> intro h <;> try (exfalso; (try dsimp only at h); omega)) | ((first | apply br_seq | apply br_nseq | apply br_not | apply br_intro) <;> intro h) | refine cond_a ?_)
          all_goals (conv => whnf)
          all_goals first
            | exact ret_out (l := [0, 1, 2, 3, 4, 5, 6, 7, 8, 9]) rfl rfl trivial allRw_nil
            | (exfalso; omega)
            | trace_state
        · rw [if_neg hx] at c3 ⊢
          refine fc_of mixed T_ok Tryz.func20 rfl (by kernel_rfl) (by kernel_rfl) (by kernel_rfl) ?_
          repeat' ((conv => whnf); first | (refine vcall_pure (c1) rfl rfl rfl ?_) | (refine vcallD_pure (c1) rfl rfl rfl ?_) | refine vcall_o (l := [0, 2, 3]) (c2) ?_ | refine vcallD_o (l := [0, 2, 3]) (c2) ?_ | refine vcall_o (l := [0, 1, 2, 3, 4, 5, 6, 7, 8, 9]) (c3) ?_ | refine vcallD_o (l := [0, 1, 2, 3, 4, 5, 6, 7, 8, 9]) (c3) ?_ | ((first | apply br_dec | apply br_ndec) <;> intro h <;> try (exfalso; (try dsimp only at h); omega)) | ((first | apply br_seq | apply br_nseq | apply br_not | apply br_intro) <;> intro h) | refine cond_a ?_)
          all_goals (conv => whnf)
          all_goals first
            | exact ret_out (l := [0, 1, 2, 3, 4, 5, 6, 7, 8, 9]) rfl rfl trivial allRw_nil
            | (exfalso; omega)
            | trace_state
    | false =>
      rw [hb] at c2
      rw [if_neg (fun w => by simp at w)]
      unfold ofV at c3 ⊢
      by_cases hx : nxI hs (d + 1) < 0
      · rw [if_pos hx] at c3 ⊢
        refine fc_of mixed T_ok Tryz.func20 rfl (by kernel_rfl) (by kernel_rfl) (by kernel_rfl) ?_
        repeat' ((conv => whnf); first | (refine vcall_pure (c1) rfl rfl rfl ?_) | (refine vcallD_pure (c1) rfl rfl rfl ?_) | refine vcall_o (l := [0, 2, 3]) (c2) ?_ | refine vcallD_o (l := [0, 2, 3]) (c2) ?_ | refine vcall_o (l := [0, 1, 2, 3, 4, 5, 6, 7, 8, 9]) (c3) ?_ | refine vcallD_o (l := [0, 1, 2, 3, 4, 5, 6, 7, 8, 9]) (c3) ?_ | ((first | apply br_dec | apply br_ndec) <;> intro h <;> try (exfalso; (try dsimp only at h); omega)) | ((first | apply br_seq | apply br_nseq | apply br_not | apply br_intro) <;> intro h) | refine cond_a ?_)
        all_goals (conv => whnf)
        all_goals first
          | exact ret_out (l := [0, 1, 2, 3, 4, 5, 6, 7, 8, 9]) rfl rfl trivial allRw_nil
          | (exfalso; omega)
          | trace_state
      · rw [if_neg hx] at c3 ⊢
        refine fc_of mixed T_ok Tryz.func20 rfl (by kernel_rfl) (by kernel_rfl) (by kernel_rfl) ?_
        repeat' ((conv => whnf); first | (refine vcall_pure (c1) rfl rfl rfl ?_) | (refine vcallD_pure (c1) rfl rfl rfl ?_) | refine vcall_o (l := [0, 2, 3]) (c2) ?_ | refine vcallD_o (l := [0, 2, 3]) (c2) ?_ | refine vcall_o (l := [0, 1, 2, 3, 4, 5, 6, 7, 8, 9]) (c3) ?_ | refine vcallD_o (l := [0, 1, 2, 3, 4, 5, 6, 7, 8, 9]) (c3) ?_ | ((first | apply br_dec | apply br_ndec) <;> intro h <;> try (exfalso; (try dsimp only at h); omega)) | ((first | apply br_seq | apply br_nseq | apply br_not | apply br_intro) <;> intro h) | refine cond_a ?_)
        all_goals (conv => whnf)
        all_goals first
          | exact ret_out (l := [0, 1, 2, 3, 4, 5, 6, 7, 8, 9]) rfl rfl trivial allRw_nil
          | (exfalso; omega)
          | trace_state
theorem cy_Closed (np m : Nat) (cut : Int) (cd : List Int) (hm : cd.length = m) (d : Int) : FC Tryz.prog 10 17 [.ptr 1 0 0 0, .int .i64 d] [(1, cyC true 2 4 5 6 np cut), (6, tmM true m cd)] (isOut (.bool (decide (d ∈ cd))) [] 10) := by
  have hg := tm_get hm d
  rw [← hg]
  refine fc_of mixed T_ok Tryz.func17 rfl (by kernel_rfl) (by kernel_rfl) (by kernel_rfl) ?_
  repeat' ((conv => whnf); first | ((first | apply br_dec | apply br_ndec) <;> intro h <;> try (exfalso; (try dsimp only at h); omega)) | ((first | apply br_seq | apply br_nseq | apply br_not | apply br_intro) <;> intro h) | refine cond_a ?_)
  all_goals (conv => whnf)
  all_goals first
    | exact ret_out (l := [0, 1, 2, 3, 4, 5, 6, 7, 8, 9]) rfl rfl trivial allRw_nil
    | (exfalso; omega)
    | trace_state
end Go.Proofs.YtkdjnmcaifejjaaGreatDoor

/- Contracts of package cycle: open cycles, positions, closing. -/
namespace Go.Proofs.YtkdjnmcaifejjaaGreatDoor
open Go.RowKit Go.Sy
attribute [local irreducible] vcall vloop vcallD retP sortI
set_option maxRecDepth 100000
set_option linter.unusedVariables false
set_option linter.unusedSimpArgs false

theorem int_Sort (n : Nat) (l : List Int) (hn : n < 4611686018427387904) : FC Tryz.prog 2 35 [.sl 1 0 0 n] [(1, some (.one false (.cols n [.sc (.ints .i64 l)])))] (isOut (.tup []) [(1, some (.one false (.cols n [.sc (.ints .i64 (sortI l))])))] 2) :=
  fc_sortI ⟨fun blk off cap ss W hH hblk hsz => AnyM.slices_Sort_int Tryz.sortI blk off cap ss W hH hblk hsz, fun p cap W => AnyM.slices_Sort_int_none Tryz.sortI p cap W⟩ (bodied_of Tryz.func35 (by kernel_rfl) (by kernel_rfl)) n l hn
/-- The open dates of the rows that were visited; all of them, in order. -/
def opL (ds cd : List Int) (sn : List Nat) : List Int := (sn.reverse.map (fun i => ds.getD i 0)).filter (fun t => !decide (t ∈ cd))
def openS (ds cd : List Int) : List Int := sortI (ds.filter (fun t => !decide (t ∈ cd)))
theorem opL_yes {ds cd : List Int} {i : Nat} {sn : List Nat} (h : decide (ds.getD i 0 ∈ cd) = false) : opL ds cd (i :: sn) = opL ds cd sn ++ [ds.getD i 0] := by
  unfold opL
  rw [List.reverse_cons, List.map_append, List.filter_append]
  simp only [List.map_cons, List.map_nil, List.filter_cons, List.filter_nil, h, Bool.not_false, if_true]
theorem opL_no {ds cd : List Int} {i : Nat} {sn : List Nat} (h : decide (ds.getD i 0 ∈ cd) = true) : opL ds cd (i :: sn) = opL ds cd sn := by
  unfold opL
  rw [List.reverse_cons, List.map_append, List.filter_append]
  simp only [List.map_cons, List.map_nil, List.filter_cons, List.filter_nil, h, Bool.not_true, Bool.false_eq_true, if_false, List.append_nil]
theorem opL_len (ds cd : List Int) (sn : List Nat) : (opL ds cd sn).length ≤ sn.length := by
  unfold opL
  refine Nat.le_trans (List.length_filter_le _ _) ?_
  simp
theorem opL_eq {m : Nat} {ds cd : List Int} {sn : List Nat} (hk : ds.length = m) (hd : sn.Nodup) (hl : ∀ i ∈ sn, i < m) (ha : ∀ i, i < m → i ∈ sn) : sortI (opL ds cd sn) = openS ds cd := by
  unfold openS opL
  refine sortI_congr (List.Perm.filter _ ?_)
  have := ((List.reverse_perm sn).trans (perm_range hd hl ha)).map (fun i => ds.getD i 0)
  rwa [← hk, map_range_getD] at this
abbrev opR (np m nc : Nat) (cut : Int) (ds cd : List Int) : Heap := [(1, cyC true 2 4 5 6 np cut), (5, cyB true 7 m ds), (6, tmM true nc cd)]
theorem cy_Open (np m nc : Nat) (cut : Int) (ds cd : List Int) (hds : ds.length = m) (hcd : cd.length = nc) (hm : m ≤ 100000) : FC Tryz.prog 10 13 [.ptr 1 0 0 0] (opR np m nc cut ds cd) (isOut (.sl 10 0 0 (openS ds cd).length) [(10, some (.one false (.cols (openS ds cd).length [.sc (.ints .i64 (openS ds cd))])))] 11) := by
  refine fc_of mixed T_ok Tryz.func13 rfl (by kernel_rfl) (by kernel_rfl) (by kernel_rfl) ?_
  repeat' ((conv => whnf); first | ((first | apply br_dec | apply br_ndec) <;> intro h <;> try (exfalso; (try dsimp only at h); omega)) | ((first | apply br_seq | apply br_nseq | apply br_not | apply br_intro) <;> intro h) | refine cond_a ?_)
  all_goals (conv => whnf)
  refine vloop_of (fun sn : List Nat => ⟨[(0, .ptr 1 0 0 0), (11, .ptr 10 0 0 0), (3, .sl 11 0 0 (opL ds cd sn).length)], (10, some (.one false (.obj (.iter 5 0 (List.range m) m sn)))) :: (11, some (.one false (.cols (opL ds cd sn).length [.sc (.ints .i64 (opL ds cd sn))]))) :: opR np m nc cut ds cd, 12⟩) (fun sn => sn.Nodup ∧ ∀ i ∈ sn, i < m) (fun sn => m - sn.length) [] [0, 1, 2, 3, 4, 5, 6, 7, 8, 9, 10, 11] [.slot 3 [.sc (.ints .i64 [])]] ⟨rfl, ⟨rfl, rfl, rfl, trivial⟩, ⟨rfl, rfl, rfl, rfl, rfl, trivial⟩⟩ ⟨List.nodup_nil, by simp⟩ ?_
  rintro sn ⟨hnd, hb⟩
  have hsl := nodup_len _ sn hnd hb
  have htl := opL_len ds cd sn
  have cs := int_Sort (opL ds cd sn).length (opL ds cd sn) (by omega)
  have hg : ∀ d, (List.replicate nc true).getD (iidx cd d) false = decide (d ∈ cd) := tm_get hcd
  repeat' ((conv => whnf); first | (refine ⟨⟨rfl, rfl⟩, fun i hi hni => ?_, fun hall => ?_⟩) | refine vcall_o (l := [0, 11]) (cs) ?_ | ((first | apply br_dec | apply br_ndec) <;> intro h <;> try (exfalso; (try dsimp only at h); omega)) | ((first | apply br_seq | apply br_nseq | apply br_not | apply br_intro) <;> intro h) | refine cond_a ?_)
  all_goals (conv => whnf)
  all_goals (try simp only [hg] at h)
  · have hlt := nodup_cons_lt hnd hb hi hni
    refine ⟨i :: sn, [0, 1, 2, 3, 4, 5, 6, 7, 8, 9, 10, 13], [], ⟨List.nodup_cons.2 ⟨hni, hnd⟩, fun x hx => ?_⟩, by simp only [List.length_cons]; omega, ?_⟩
    · rcases List.mem_cons.1 hx with rfl | hx
      · exact hi
      · exact hb x hx
    · rw [opL_yes (by simpa using h), List.length_append]
      exact ⟨rfl, ⟨rfl, rfl, rfl, trivial⟩, ⟨rfl, rfl, rfl, rfl, rfl, trivial⟩⟩
  · have hlt := nodup_cons_lt hnd hb hi hni
    refine ⟨i :: sn, [0, 1, 2, 3, 4, 5, 6, 7, 8, 9, 10, 11], [], ⟨List.nodup_cons.2 ⟨hni, hnd⟩, fun x hx => ?_⟩, by simp only [List.length_cons]; omega, ?_⟩
    · rcases List.mem_cons.1 hx with rfl | hx
      · exact hi
      · exact hb x hx
    · rw [opL_no (by simpa using h)]
      exact ⟨rfl, ⟨rfl, rfl, rfl, trivial⟩, ⟨rfl, rfl, rfl, rfl, rfl, trivial⟩⟩
  · have ed := opL_eq (cd := cd) hds hnd hb hall
    have el : (opL ds cd sn).length = (openS ds cd).length := by rw [← ed, sortI_length]
    rw [ed, el]
    exact ret_out (l := [0, 1, 2, 3, 4, 5, 6, 7, 8, 9, 11]) rfl rfl ⟨rfl, trivial⟩ (allRw_cons allRw_nil)
theorem pos_ListF {B : List Bk} {m i np : Nat} {sp : List ByteArray} (hi : i < m) (h : BkI (B.getD i bk0) 4503599627370496) (hn : (B.getD i bk0).n = np) (hp : (B.getD i bk0).ps = sp) (hm : (B.getD i bk0).m ≤ 100000) : FC Tryz.prog 4 43 [.ptr 1 i 0 0] [(1, fmB true m (f7 2 3 np)), (2, fmB true m (f8 np sp)), (3, fmB true m (f9 B))] (isOut (.sl 4 0 0 (B.getD i bk0).list.length) [(4, some (.one false (pxB (B.getD i bk0).list.length (pxOf (B.getD i bk0).list))))] 5) := by
  have c := fc_fam [(1, ⟨i, fun x => x < m, f7 2 3 np⟩), (2, ⟨i, fun x => x < m, f8 np sp⟩), (3, ⟨i, fun x => x < m, f9 B⟩)] (by
    refine ⟨⟨by decide, by decide, _, _, rfl, hi, ?_, .inl rfl⟩, ⟨by decide, by decide, _, _, rfl, hi, rfl, .inl rfl⟩, ⟨by decide, by decide, _, _, rfl, hi, rfl, .inl rfl⟩, trivial⟩
    show Blk.cells [.sl 2 i 0 np, .map 3 i] = .cells [.sl 2 (0 + i) 0 np, .map 3 (0 + i)]
    rw [Nat.zero_add]) (by exact ⟨rfl, rfl, rfl, trivial⟩) (by exact ⟨rfl, trivial⟩) (allRw_cons allRw_nil) (pos_ListX h hn hp hm)
  have e : SV.mems (fmu [(1, ⟨i, fun x => x < m, f7 2 3 np⟩), (2, ⟨i, fun x => x < m, f8 np sp⟩), (3, ⟨i, fun x => x < m, f9 B⟩)]) [.ptr 1 0 0 0] = [.ptr 1 i 0 0] := by
    show [SV.ptr 1 (0 + i) 0 0] = _
    rw [Nat.zero_add]
  rw [e] at c
  exact c
theorem pos_ListN : Pure Tryz.prog 43 [.nptr] .nsl := by
  refine fc_of mixed T_ok Tryz.func43 rfl (by kernel_rfl) (by kernel_rfl) (by kernel_rfl) ?_
  repeat' ((conv => whnf); first | ((first | apply br_dec | apply br_ndec) <;> intro h <;> try (exfalso; (try dsimp only at h); omega)) | ((first | apply br_seq | apply br_nseq | apply br_not | apply br_intro) <;> intro h) | refine cond_a ?_)
  all_goals (conv => whnf)
  all_goals exact ret_pure rfl
/-- The positions of a cycle. -/
def posL (ds : List Int) (B : List Bk) (d : Int) : List Px := if d ∈ ds then (B.getD (iidx ds d) bk0).list else []
/-- What is asked of the books. -/
structure BksI (ds : List Int) (B : List Bk) (m np : Nat) (sp : List ByteArray) : Prop where
  dl : ds.length = m
  bl : B.length = m
  nd : ds.Nodup
  I : ∀ i, i < m → BkI (B.getD i bk0) 4503599627370496 ∧ (B.getD i bk0).n = np ∧ (B.getD i bk0).ps = sp ∧ (B.getD i bk0).m ≤ 100000
abbrev psR (np m : Nat) (cut : Int) (ds : List Int) (B : List Bk) (sp : List ByteArray) : Heap := [(1, cyC true 2 4 5 6 np cut), (5, cyB true 7 m ds), (7, fmB true m (f7 8 9 np)), (8, fmB true m (f8 np sp)), (9, fmB true m (f9 B))]
theorem cy_Positions {np m : Nat} {ds : List Int} {B : List Bk} {sp : List ByteArray} (hb : BksI ds B m np sp) (cut : Int) (d : Int) : FC Tryz.prog 10 21 [.ptr 1 0 0 0, .int .i64 d] (psR np m cut ds B sp) (isOut (.sl 10 0 0 (posL ds B d).length) [(10, some (.one false (pxB (posL ds B d).length (pxOf (posL ds B d)))))] 11) := by
  unfold posL
  by_cases h : d ∈ ds
  · have hi : iidx ds d < m := by rw [← hb.dl]; exact iidx_lt.2 h
    obtain ⟨b1, b2, b3, b4⟩ := hb.I _ hi
    rw [if_pos h]
    have c := pos_ListF (B := B) hi b1 b2 b3 b4
    have hfd : foundS false m [.ptrs 7 m] (iidx ds d) = .ptr 7 (iidx ds d) 0 0 := by
      show (bif decide (iidx ds d < m) then SV.ptr 7 (iidx ds d) 0 0 else .nptr) = _
      rw [decide_eq_true hi]; rfl
    refine fc_of mixed T_ok Tryz.func21 rfl (by kernel_rfl) (by kernel_rfl) (by kernel_rfl) ?_
    repeat' ((conv => whnf); first | (rw [hfd]) | refine vcall_o (l := [0, 7, 8, 9]) (c) ?_ | ((first | apply br_dec | apply br_ndec) <;> intro h <;> try (exfalso; (try dsimp only at h); omega)) | ((first | apply br_seq | apply br_nseq | apply br_not | apply br_intro) <;> intro h) | refine cond_a ?_)
    all_goals (conv => whnf)
    all_goals first
      | exact ret_out (l := [0, 1, 2, 3, 4, 5, 6, 7, 8, 9, 10]) rfl rfl ⟨rfl, trivial⟩ (allRw_cons allRw_nil)
      | (exfalso; omega)
      | trace_state
  · have hi : ¬ iidx ds d < m := by rw [← hb.dl]; exact fun q => h (iidx_lt.1 q)
    rw [if_neg h]
    refine fc_nil rfl ?_
    have hfd : foundS false m [.ptrs 7 m] (iidx ds d) = .nptr := by
      show (bif decide (iidx ds d < m) then SV.ptr 7 (iidx ds d) 0 0 else .nptr) = _
      rw [decide_eq_false hi]; rfl
    have c := pos_ListN
    refine fc_of mixed T_ok Tryz.func21 rfl (by kernel_rfl) (by kernel_rfl) (by kernel_rfl) ?_
    repeat' ((conv => whnf); first | (rw [hfd]) | (refine vcall_pure (c) rfl rfl rfl ?_) | (refine vcallD_pure (c) rfl rfl rfl ?_) | ((first | apply br_dec | apply br_ndec) <;> intro h <;> try (exfalso; (try dsimp only at h); omega)) | ((first | apply br_seq | apply br_nseq | apply br_not | apply br_intro) <;> intro h) | refine cond_a ?_)
    all_goals (conv => whnf)
    all_goals first
      | exact retP_mono (fun _ _ _ h => .inl h) (ret_out (l := [0, 1, 2, 3, 4, 5, 6, 7, 8, 9]) rfl rfl trivial allRw_nil)
      | (exfalso; omega)
      | trace_state
end Go.Proofs.YtkdjnmcaifejjaaGreatDoor

/- Contracts of package cycle: closing a cycle; a move in the book of a date. -/
namespace Go.Proofs.YtkdjnmcaifejjaaGreatDoor
open Go.RowKit Go.Sy
attribute [local irreducible] vcall vloop vcallD retP sortI
set_option maxRecDepth 100000
set_option linter.unusedVariables false
set_option linter.unusedSimpArgs false

/-- The error of closing a date. -/
def clE (hs ds cd : List Int) (d : Int) : Int := if busB hs d = false then 14 else if d ∈ cd then 23 else if 0 < (openS ds cd).length ∧ (openS ds cd).getD 0 0 < d then 8 else 0
abbrev clH (np m hn nc : Nat) (cut : Int) (hs ds cd : List Int) (B : List Bk) (sp : List ByteArray) : Heap := [(1, cyC true 2 4 5 6 np cut), (2, calC true 3), (3, tmM true hn hs), (5, cyB true 7 m ds), (6, tmM false nc cd), (7, fmB true m (f7 8 9 np)), (8, fmB true m (f8 np sp)), (9, fmB true m (f9 B))]
def clO (hs ds cd : List Int) (B : List Bk) (d : Int) : SV → Heap → Nat → Prop := if clE hs ds cd d = 0 then isOut (.tup [.sl 10 0 0 (posL ds B d).length, .int .i64 0]) [(6, tmM false (cd ++ [d]).length (cd ++ [d])), (10, some (.one false (pxB (posL ds B d).length (pxOf (posL ds B d)))))] 11 else isOut (.tup [.nsl, .int .i64 (clE hs ds cd d)]) [(6, tmM false cd.length cd)] 10
theorem cy_Close {np m hn nc : Nat} {hs ds cd : List Int} {B : List Bk} {sp : List ByteArray} (hb : BksI ds B m np sp) (hh : hs.length = hn) (hc : cd.length = nc) (hm : m ≤ 100000) (cut d : Int) : FC Tryz.prog 10 19 [.ptr 1 0 0 0, .int .i64 d] (clH np m hn nc cut hs ds cd B sp) (clO hs ds cd B d) := by
  subst hc
  have c1 := cal_Business hn hs hh d
  have c2 := cy_Open np m cd.length cut ds cd hb.dl rfl hm
  have c3 := cy_Positions hb cut d
  have hg := tm_get (n := cd.length) (ks := cd) rfl d
  have hput := tmPut (s := cd) rfl d
  unfold clO clE
  cases hq : busB hs d with
  | false =>
    rw [hq] at c1
    rw [if_pos rfl, if_neg (by decide)]
    refine fc_of mixed T_ok Tryz.func19 rfl (by kernel_rfl) (by kernel_rfl) (by kernel_rfl) ?_
    repeat' ((conv => whnf); first | refine vcall_o (l := [0, 2, 3]) (c1) ?_ | ((first | apply br_dec | apply br_ndec) <;> intro h <;> try (exfalso; (try dsimp only at h); omega)) | ((first | apply br_seq | apply br_nseq | apply br_not | apply br_intro) <;> intro h) | refine cond_a ?_)
    all_goals (conv => whnf)
    all_goals first
      | exact ret_out (l := [0, 1, 2, 3, 4, 5, 6, 7, 8, 9]) rfl rfl ⟨rfl, trivial⟩ (allRw_cons allRw_nil)
      | (exfalso; omega)
      | trace_state
  | true =>
    rw [hq] at c1
    rw [if_neg (show ¬ true = false by simp)]
    by_cases hd : d ∈ cd
    · rw [decide_eq_true hd] at hg
      rw [if_pos hd, if_neg (by decide)]
      refine fc_of mixed T_ok Tryz.func19 rfl (by kernel_rfl) (by kernel_rfl) (by kernel_rfl) ?_
      repeat' ((conv => whnf); first | refine vcall_o (l := [0, 2, 3]) (c1) ?_ | ((first | apply br_dec | apply br_ndec) <;> intro h <;> try (exfalso; (try dsimp only at h); omega)) | ((first | apply br_seq | apply br_nseq | apply br_not | apply br_intro) <;> intro h) | refine cond_a ?_)
      all_goals (conv => whnf)
      all_goals first
        | exact ret_out (l := [0, 1, 2, 3, 4, 5, 6, 7, 8, 9]) rfl rfl ⟨rfl, trivial⟩ (allRw_cons allRw_nil)
        | (exfalso; rw [hg] at h; cases h; done)
        | trace_state
    · rw [decide_eq_false hd] at hg
      rw [if_neg hd] at hput ⊢
      have hol : (openS ds cd).length ≤ 100000 := by
        unfold openS
        rw [sortI_length]
        exact Nat.le_trans (List.length_filter_le _ _) (by rw [hb.dl]; exact hm)
      generalize openS ds cd = S at *
      by_cases hS : 0 < S.length ∧ S.getD 0 0 < d
      · rw [if_pos hS, if_neg (by decide)]
        refine fc_of mixed T_ok Tryz.func19 rfl (by kernel_rfl) (by kernel_rfl) (by kernel_rfl) ?_
        repeat' ((conv => whnf); first | refine vcall_o (l := [0, 2, 3]) (c1) ?_ | refine vcall_o (l := [0, 1, 2, 3, 4, 5, 6, 7, 8, 9]) (c2) ?_ | ((first | apply br_dec | apply br_ndec) <;> intro h <;> try (exfalso; (try dsimp only at h); omega)) | ((first | apply br_seq | apply br_nseq | apply br_not | apply br_intro) <;> intro h) | refine cond_a ?_)
        all_goals (conv => whnf)
        all_goals first
          | exact ret_out (l := [0, 1, 2, 3, 4, 5, 6, 7, 8, 9]) rfl rfl ⟨rfl, trivial⟩ (allRw_cons allRw_nil)
          | (exfalso; rw [hg] at h; cases h; done)
          | exact absurd hS.2 h
          | exact absurd ⟨by omega, h⟩ hS
          | (exfalso; omega)
          | trace_state
      · rw [if_neg hS, if_pos rfl]
        refine fc_of mixed T_ok Tryz.func19 rfl (by kernel_rfl) (by kernel_rfl) (by kernel_rfl) ?_
        repeat' ((conv => whnf); first | refine vcall_o (l := [0, 2, 3]) (c1) ?_ | refine vcall_o (l := [0, 1, 2, 3, 4, 5, 6, 7, 8, 9]) (c2) ?_ | refine vcall_o (l := [0, 1, 2, 3, 4, 5, 6, 7, 8, 9]) (c3) ?_ | ((first | apply br_dec | apply br_ndec) <;> intro h <;> try (exfalso; (try dsimp only at h); omega)) | ((first | apply br_seq | apply br_nseq | apply br_not | apply br_intro) <;> intro h) | refine cond_a ?_)
        all_goals (conv => whnf)
        all_goals first
          | exact ret_out (l := [0, 1, 2, 3, 4, 5, 6, 7, 8, 9, 10]) rfl rfl ⟨hput, rfl, trivial⟩ (allRw_cons (allRw_cons allRw_nil))
          | exact ret_out (l := [0, 1, 2, 3, 4, 5, 6, 7, 8, 9, 11]) rfl rfl ⟨hput, rfl, trivial⟩ (allRw_cons (allRw_cons allRw_nil))
          | (exfalso; rw [hg] at h; cases h; done)
          | exact absurd hS.2 h
          | exact absurd ⟨by omega, h⟩ hS
          | (exfalso; omega)
          | trace_state
end Go.Proofs.YtkdjnmcaifejjaaGreatDoor

/- Contracts of package cycle: the book of a date, moves. -/
namespace Go.Proofs.YtkdjnmcaifejjaaGreatDoor
open Go.RowKit Go.Sy
attribute [local irreducible] vcall vloop vcallD retP sortI
set_option maxRecDepth 100000
set_option linter.unusedVariables false
set_option linter.unusedSimpArgs false

theorem f9_set {B : List Bk} {i : Nat} (hi : i < B.length) (b : Bk) (x : Nat) : (if x = i then bkMb b else f9 B x) = f9 (B.set i b) x := by
  unfold f9
  by_cases e : x = i
  · subst e
    rw [if_pos rfl, List.getD, List.getElem?_set_self hi]; rfl
  · rw [if_neg e, List.getD, List.getD, List.getElem?_set_ne (fun q => e q.symm)]
theorem pos_MoveF {B : List Bk} {m i np : Nat} {sp : List ByteArray} (hi : i < m) (hB : B.length = m) (h : BkI (B.getD i bk0) 4503599627370496) (hn : (B.getD i bk0).n = np) (hp : (B.getD i bk0).ps = sp) (f t c : ByteArray) (a : Int) : FC Tryz.prog 4 38 [.ptr 1 i 0 0, .str f, .str t, .agg [.int .i64 a, .str c]] [(1, fmB true m (f7 2 3 np)), (2, fmB true m (f8 np sp)), (3, fmB false m (f9 B))] (isOut (.int .i64 (mvE (B.getD i bk0) f t c a)) [(3, fmB false m (f9 (B.set i ((B.getD i bk0).mv f t c a))))] 4) := by
  have c0 := fc_fam [(1, ⟨i, fun x => x < m, f7 2 3 np⟩), (2, ⟨i, fun x => x < m, f8 np sp⟩), (3, ⟨i, fun x => x < m, f9 B⟩)] (by
    refine ⟨⟨by decide, by decide, _, _, rfl, hi, ?_, .inl rfl⟩, ⟨by decide, by decide, _, _, rfl, hi, rfl, .inl rfl⟩, ⟨by decide, by decide, _, _, rfl, hi, rfl, .inr ⟨rfl, _, rfl⟩⟩, trivial⟩
    show Blk.cells [.sl 2 i 0 np, .map 3 i] = .cells [.sl 2 (0 + i) 0 np, .map 3 (0 + i)]
    rw [Nat.zero_add]) (by exact ⟨rfl, rfl, rfl, trivial⟩) (by exact ⟨rfl, trivial⟩) (allRw_cons allRw_nil) (pos_MoveX h hn hp f t c a)
  have e : SV.mems (fmu [(1, ⟨i, fun x => x < m, f7 2 3 np⟩), (2, ⟨i, fun x => x < m, f8 np sp⟩), (3, ⟨i, fun x => x < m, f9 B⟩)]) [.ptr 1 0 0 0, .str f, .str t, .agg [.int .i64 a, .str c]] = [.ptr 1 i 0 0, .str f, .str t, .agg [.int .i64 a, .str c]] := by
    show [SV.ptr 1 (0 + i) 0 0, .str f, .str t, .agg [.int .i64 a, .str c]] = _
    rw [Nat.zero_add]
  rw [e] at c0
  have e2 : f9 (B.set i ((B.getD i bk0).mv f t c a)) = fun x => if x = i then bkMb ((B.getD i bk0).mv f t c a) else f9 B x := funext fun x => (f9_set (by omega) _ x).symm
  rw [e2]
  exact c0
abbrev bksH (h5 h7 h8 h9 np m : Nat) (ds : List Int) (B : List Bk) (sp : List ByteArray) : Heap := [(h5, cyB false h7 m ds), (h7, fmB false m (f7 h8 h9 np)), (h8, fmB false m (f8 np sp)), (h9, fmB false m (f9 B))]
theorem cy_book_old {np m : Nat} {ds : List Int} (hds : ds.length = m) (cut d : Int) (h : d ∈ ds) : FC Tryz.prog 10 37 [.ptr 1 0 0 0, .int .i64 d] [(1, cyC true 2 4 5 6 np cut), (5, cyB true 7 m ds)] (isOut (.tup [.ptr 7 (iidx ds d) 0 0, .int .i64 0]) [] 10) := by
  have hi : iidx ds d < m := by rw [← hds]; exact iidx_lt.2 h
  have hfd : foundS false m [.ptrs 7 m] (iidx ds d) = .ptr 7 (iidx ds d) 0 0 := by
    show (bif decide (iidx ds d < m) then SV.ptr 7 (iidx ds d) 0 0 else .nptr) = _
    rw [decide_eq_true hi]; rfl
  have hdec : decide (iidx ds d < m) = true := decide_eq_true hi
  refine fc_of mixed T_ok Tryz.func37 rfl (by kernel_rfl) (by kernel_rfl) (by kernel_rfl) ?_
  repeat' ((conv => whnf); first | (rw [hfd, hdec]) | ((first | apply br_dec | apply br_ndec) <;> intro h <;> try (exfalso; (try dsimp only at h); omega)) | ((first | apply br_seq | apply br_nseq | apply br_not | apply br_intro) <;> intro h) | refine cond_a ?_)
  all_goals (conv => whnf)
  all_goals first
    | exact ret_out (l := [0, 1, 2, 3, 4, 5, 6, 7, 8, 9]) rfl rfl trivial allRw_nil
    | (exfalso; omega)
    | trace_state
theorem cy_book_new {np m : Nat} {ds : List Int} {pr : List ByteArray} (hds : ds.length = m) (hp : pr.length = np) (he : nwErr pr = 0) (cut d : Int) (h : ¬ d ∈ ds) : FC Tryz.prog 10 37 [.ptr 1 0 0 0, .int .i64 d] [(1, cyC true 2 4 5 6 np cut), (4, cyP true np pr), (5, cyB true 7 m ds)] (isOut (.tup [.ptr 10 0 0 0, .int .i64 0]) [(10, bkC false 11 12 np), (11, cyP false np (sortS pr)), (12, bkM false (nwB pr))] 13) := by
  subst hp
  have hi : ¬ iidx ds d < m := by rw [← hds]; exact fun q => h (iidx_lt.1 q)
  have hdec : decide (iidx ds d < m) = false := decide_eq_false hi
  have hfd : foundS false m [.ptrs 7 m] (iidx ds d) = .nptr := by
    show (bif decide (iidx ds d < m) then SV.ptr 7 (iidx ds d) 0 0 else .nptr) = _
    rw [hdec]; rfl
  have c := pos_NewA pr pr.length rfl
  unfold nwOut at c
  rw [if_neg (by rw [he]; simp)] at c
  refine fc_of mixed T_ok Tryz.func37 rfl (by kernel_rfl) (by kernel_rfl) (by kernel_rfl) ?_
  repeat' ((conv => whnf); first | (rw [hfd, hdec]) | refine vcall_o (l := [0, 4]) (c) ?_ | ((first | apply br_dec | apply br_ndec) <;> intro h <;> try (exfalso; (try dsimp only at h); omega)) | ((first | apply br_seq | apply br_nseq | apply br_not | apply br_intro) <;> intro h) | refine cond_a ?_)
  all_goals (conv => whnf)
  all_goals first
    | exact ret_out (l := [0, 1, 2, 3, 4, 5, 6, 7, 8, 9, 10, 11, 12]) rfl rfl ⟨rfl, rfl, rfl, trivial⟩ (allRw_cons (allRw_cons (allRw_cons allRw_nil)))
    | (exfalso; omega)
    | trace_state
end Go.Proofs.YtkdjnmcaifejjaaGreatDoor

/- Contract of package cycle: moves. -/
namespace Go.Proofs.YtkdjnmcaifejjaaGreatDoor
open Go.RowKit Go.Sy
attribute [local irreducible] vcall vloop vcallD retP sortI
set_option maxRecDepth 100000
set_option linter.unusedVariables false
set_option linter.unusedSimpArgs false

/-- The first cycle at a date or later that is not closed; none: -1. -/
def mvF (hs cd : List Int) : Nat → Int → Int
  | 0, _ => -1
  | k + 1, x => if x < 0 then -1 else if x ∈ cd then mvF hs cd k (nxI hs (x + 1)) else x
@[irreducible] def mvD (hs cd : List Int) (x : Int) : Int := mvF hs cd 100001 x
theorem mvF_neg {hs cd : List Int} {x : Int} (h : x < 0) : ∀ k, mvF hs cd k x = -1
  | 0 => rfl
  | k + 1 => by simp only [mvF]; rw [if_pos h]
def ofP (x : Int) : Int := if x < 0 then 0 else x
def ofQ (x : Int) : Int := if x < 0 then 14 else 0
theorem ofV_eq (x : Int) : ofV x = .tup [.int .i64 (ofP x), .int .i64 (ofQ x)] := by unfold ofV ofP ofQ; split <;> rfl
theorem ofI_le {hs : List Int} {cut t : Int} : ofI hs cut t ≤ 99999 := by
  unfold ofI
  split
  · omega
  · rename_i h
    have := dayI_ok h
    split
    · omega
    · by_cases q : nxI hs (dayI t + 1) < 0
      · omega
      · exact (nxI_ok q).2.1
/-- The book of a date; what a move makes of the dates and the books. -/
def bkAt (ds : List Int) (B : List Bk) (pr : List ByteArray) (d : Int) : Bk := if d ∈ ds then B.getD (iidx ds d) bk0 else nwB pr
def mvDs (ds : List Int) (d : Int) : List Int := if d ∈ ds then ds else ds ++ [d]
def mvBs (ds : List Int) (B : List Bk) (d : Int) (b : Bk) : List Bk := if d ∈ ds then B.set (iidx ds d) b else B ++ [b]
def mvX (hs ds cd : List Int) (B : List Bk) (pr : List ByteArray) (D : Int) (f t c : ByteArray) (a : Int) : Int := if D < 0 then 14 else mvE (bkAt ds B pr D) f t c a
def mvO (np m : Nat) (hs ds cd : List Int) (B : List Bk) (pr : List ByteArray) (D : Int) (f t c : ByteArray) (a : Int) : SV → Heap → Nat → Prop :=
  if mvX hs ds cd B pr D f t c a = 0 then isOut (.tup [.int .i64 D, .int .i64 0]) (bksH 5 10 11 12 np (mvDs ds D).length (mvDs ds D) (mvBs ds B D ((bkAt ds B pr D).mv f t c a)) (sortS pr)) 13
  else isOut (.tup [.int .i64 0, .int .i64 (mvX hs ds cd B pr D f t c a)]) (bksH 5 7 8 9 np m ds B (sortS pr)) 10
abbrev mvH (np m hn nc : Nat) (cut : Int) (hs ds cd : List Int) (B : List Bk) (pr : List ByteArray) : Heap := (1, cyC true 2 4 5 6 np cut) :: (2, calC true 3) :: (3, tmM true hn hs) :: (4, cyP true np pr) :: (6, tmM true nc cd) :: bksH 5 7 8 9 np m ds B (sortS pr)
theorem f9_app_lt {B : List Bk} {q : Nat} (h : q < B.length) (b : Bk) : f9 (B ++ [b]) q = f9 B q := by
  unfold f9
  rw [List.getD, List.getD, List.getElem?_append_left h]
theorem f9_app_at {B : List Bk} {m : Nat} (h : B.length = m) (b : Bk) : f9 (B ++ [b]) m = bkMb b := by
  unfold f9
  rw [List.getD, List.getElem?_append_right (by omega), ← h, Nat.sub_self]; rfl
theorem mvO_none {np m : Nat} {hs ds cd : List Int} {B : List Bk} {pr : List ByteArray} {D : Int} {f t c : ByteArray} {a : Int} (h : D < 0) : mvO np m hs ds cd B pr D f t c a = isOut (.tup [.int .i64 0, .int .i64 14]) (bksH 5 7 8 9 np m ds B (sortS pr)) 10 := by
  unfold mvO mvX
  rw [if_pos h, if_neg (by decide)]
theorem mvO_err {np m : Nat} {hs ds cd : List Int} {B : List Bk} {pr : List ByteArray} {D : Int} {f t c : ByteArray} {a : Int} (h : ¬ D < 0) (he : ¬ mvE (bkAt ds B pr D) f t c a = 0) : mvO np m hs ds cd B pr D f t c a = isOut (.tup [.int .i64 0, .int .i64 (mvE (bkAt ds B pr D) f t c a)]) (bksH 5 7 8 9 np m ds B (sortS pr)) 10 := by
  unfold mvO mvX
  rw [if_neg h, if_neg he]
theorem mvO_old {np m : Nat} {hs ds cd : List Int} {B : List Bk} {pr : List ByteArray} {D : Int} {f t c : ByteArray} {a : Int} (h : ¬ D < 0) (he : mvE (bkAt ds B pr D) f t c a = 0) (hd : D ∈ ds) (hm : ds.length = m) : mvO np m hs ds cd B pr D f t c a = isOut (.tup [.int .i64 D, .int .i64 0]) (bksH 5 10 11 12 np m ds (B.set (iidx ds D) ((bkAt ds B pr D).mv f t c a)) (sortS pr)) 13 := by
  unfold mvO mvX mvDs mvBs
  rw [if_neg h, if_pos he, if_pos hd, if_pos hd, hm]
theorem mvO_new {np m : Nat} {hs ds cd : List Int} {B : List Bk} {pr : List ByteArray} {D : Int} {f t c : ByteArray} {a : Int} (h : ¬ D < 0) (he : mvE (bkAt ds B pr D) f t c a = 0) (hd : ¬ D ∈ ds) (hm : ds.length = m) : mvO np m hs ds cd B pr D f t c a = isOut (.tup [.int .i64 D, .int .i64 0]) (bksH 5 10 11 12 np (m + 1) (ds ++ [D]) (B ++ [(bkAt ds B pr D).mv f t c a]) (sortS pr)) 13 := by
  unfold mvO mvX mvDs mvBs
  rw [if_neg h, if_pos he, if_neg hd, if_neg hd, List.length_append, hm]; rfl
theorem ptrs_ren {n m h h' : Nat} {R : Nat → Nat → Option (Nat × Nat)} (hn : n ≤ h') (h1 : ∀ q, q < m → R h' q = some (h, q)) : ∀ i, i < m → SLe n R ((BCol.svs (ptrL h m)).at i) ((BCol.ptrs h' m).at i) := by
  intro i hi
  have e1 : (BCol.svs (ptrL h m)).at i = .ptr h i 0 0 := ptrL_at hi
  rw [e1]
  exact sle_ptr hn (h1 i hi)
theorem bkPut_old {ds : List Int} {m : Nat} (hm : ds.length = m) {D : Int} (hd : D ∈ ds) : (some (HB.one false (.obj (.map false false (if iidx ds D < m then m else m + 1) [.ints .i64 (putL (iidx ds D) D ds)] [.svs (putL (iidx ds D) (.ptr 7 (iidx ds D) 0 0) (ptrL 7 m))] (if iidx ds D < m then List.range m else List.range m ++ [m]) (if iidx ds D < m then m else m + 1)))) : Option HB) = some (.one false (.obj (.map false false m [.ints .i64 ds] [.svs (ptrL 7 m)] (List.range m) m))) := by
  have hi := iidx_lt.2 hd
  rw [iput_key, if_pos hi, if_pos (by omega), if_pos (by omega), ptrL_put (by omega)]
theorem bkPut_new {ds : List Int} {m h : Nat} (hm : ds.length = m) {D : Int} (hd : ¬ D ∈ ds) : (some (HB.one false (.obj (.map false false (if iidx ds D < m then m else m + 1) [.ints .i64 (putL (iidx ds D) D ds)] [.svs (putL (iidx ds D) (.ptr h 0 0 0) (ptrL 7 m))] (if iidx ds D < m then List.range m else List.range m ++ [m]) (if iidx ds D < m then m else m + 1)))) : Option HB) = some (.one false (.obj (.map false false (m + 1) [.ints .i64 (ds ++ [D])] [.svs (ptrL 7 m ++ [.ptr h 0 0 0])] (List.range (m + 1)) (m + 1)))) := by
  have hi : ¬ iidx ds D < ds.length := fun q => hd (iidx_lt.1 q)
  have e : iidx ds D = m := by have := iidx_le ds D; omega
  rw [iput_key, if_neg hi, if_neg (by omega), if_neg (by omega), e, ptrL_new, List.range_succ]
theorem bks_rw {h5 h7 h8 h9 np m : Nat} {ds : List Int} {B : List Bk} {sp : List ByteArray} : allRw (bksH h5 h7 h8 h9 np m ds B sp) := allRw_cons (allRw_fam (allRw_fam (allRw_fam allRw_nil)))
/-- The books get new names; a new one is gathered with them. -/
abbrev odD (n np : Nat) (B : List Bk) (sp : List ByteArray) : List RD := [⟨7, f7 (n + 1) (n + 2) np⟩, ⟨8, f8 np sp⟩, ⟨9, f9 B⟩]
theorem bks_old {H : Heap} {n m np : Nat} {ds : List Int} {B : List Bk} {sp : List ByteArray} (hn : 10 ≤ n) (h5 : hget H 5 = some (.one false (.obj (.map false false m [.ints .i64 ds] [.svs (ptrL 7 m)] (List.range m) m)))) (h7 : hget H 7 = fmB false m (f7 8 9 np)) (h8 : hget H 8 = fmB false m (f8 np sp)) (h9 : hget H 9 = fmB false m (f9 B)) :
    Relab H n (rdR n m (odD n np B sp)) (fun _ => 0) ((5, cyB false n m ds) :: rdN n m 0 (odD n np B sp)) [7, 8, 9] 3 := by
  have r0 : ∀ q, q < m → rdR n m (odD n np B sp) n q = some (7, q) := fun q hq => rdR_at (D := odD n np B sp) (i := 0) (d := ⟨7, f7 (n + 1) (n + 2) np⟩) rfl hq
  have r1 : ∀ q, q < m → rdR n m (odD n np B sp) (n + 1) q = some (8, q) := fun q hq => rdR_at (D := odD n np B sp) (i := 1) (d := ⟨8, f8 np sp⟩) rfl hq
  have r2 : ∀ q, q < m → rdR n m (odD n np B sp) (n + 2) q = some (9, q) := fun q hq => rdR_at (D := odD n np B sp) (i := 2) (d := ⟨9, f9 B⟩) rfl hq
  exact relab_ren (n := n) (th := 5) (odD n np B sp) (by omega) h5 (ble_map1 rfl (ptrs_ren (by omega) r0))
    ⟨⟨(show (7 : Nat) ≠ 5 by decide), _, _, h7, fun q hq => ⟨hq, ble_cells ⟨sle_sl (by omega) (r1 q hq), sle_map (by omega) (r2 q hq), trivial⟩⟩⟩, ⟨(show (8 : Nat) ≠ 5 by decide), _, _, h8, fun q hq => ⟨hq, .inl rfl⟩⟩, ⟨(show (9 : Nat) ≠ 5 by decide), _, _, h9, fun q hq => ⟨hq, .inl rfl⟩⟩, trivial⟩ rfl
abbrev nwD (n h np : Nat) (B : List Bk) (sp : List ByteArray) : List GD := [⟨7, h, f7 (n + 1) (n + 2) np⟩, ⟨8, h + 1, f8 np sp⟩, ⟨9, h + 2, f9 B⟩]
theorem bks_new {H : Heap} {n m np h : Nat} {ds : List Int} {B : List Bk} {b : Bk} {sp : List ByteArray} (hn : 10 ≤ n) (hh : 10 ≤ h) (hB : B.length = m) (h5 : hget H 5 = some (.one false (.obj (.map false false (m + 1) [.ints .i64 ds] [.svs (ptrL 7 m ++ [.ptr h 0 0 0])] (List.range (m + 1)) (m + 1))))) (h7 : hget H 7 = fmB false m (f7 8 9 np)) (h8 : hget H 8 = fmB false m (f8 np sp)) (h9 : hget H 9 = fmB false m (f9 B)) (k7 : hget H h = bkC false (h + 1) (h + 2) np) (k8 : hget H (h + 1) = cyP false np sp) (k9 : hget H (h + 2) = bkM false b) (hdist : gdDist (nwD n h np (B ++ [b]) sp) = true) :
    Relab H n (gdR n m (nwD n h np (B ++ [b]) sp)) (fun _ => 0) ((5, cyB false n (m + 1) ds) :: gdN n (m + 1) 0 (nwD n h np (B ++ [b]) sp)) [7, h, 8, h + 1, 9, h + 2] 3 := by
  have r0 : ∀ q, q < m → gdR n m (nwD n h np (B ++ [b]) sp) n q = some (7, q) := fun q hq => gdR_old (D := nwD n h np (B ++ [b]) sp) (i := 0) (d := ⟨7, h, f7 (n + 1) (n + 2) np⟩) rfl hq
  have r1 : ∀ q, q < m → gdR n m (nwD n h np (B ++ [b]) sp) (n + 1) q = some (8, q) := fun q hq => gdR_old (D := nwD n h np (B ++ [b]) sp) (i := 1) (d := ⟨8, h + 1, f8 np sp⟩) rfl hq
  have r2 : ∀ q, q < m → gdR n m (nwD n h np (B ++ [b]) sp) (n + 2) q = some (9, q) := fun q hq => gdR_old (D := nwD n h np (B ++ [b]) sp) (i := 2) (d := ⟨9, h + 2, f9 (B ++ [b])⟩) rfl hq
  have s0 : gdR n m (nwD n h np (B ++ [b]) sp) n m = some (h, 0) := gdR_new (D := nwD n h np (B ++ [b]) sp) (i := 0) (d := ⟨7, h, f7 (n + 1) (n + 2) np⟩) rfl
  have s1 : gdR n m (nwD n h np (B ++ [b]) sp) (n + 1) m = some (h + 1, 0) := gdR_new (D := nwD n h np (B ++ [b]) sp) (i := 1) (d := ⟨8, h + 1, f8 np sp⟩) rfl
  have s2 : gdR n m (nwD n h np (B ++ [b]) sp) (n + 2) m = some (h + 2, 0) := gdR_new (D := nwD n h np (B ++ [b]) sp) (i := 2) (d := ⟨9, h + 2, f9 (B ++ [b])⟩) rfl
  exact relab_fams (n := n) (th := 5) (nwD n h np (B ++ [b]) sp) (by omega) h5 (ble_map1 rfl (ptrs_put (by omega) r0 s0))
    ⟨⟨(show (7 : Nat) ≠ 5 by decide), (show h ≠ 5 by omega), ⟨_, _, h7, fun q hq => ⟨hq, ble_cells ⟨sle_sl (by omega) (r1 q hq), sle_map (by omega) (r2 q hq), trivial⟩⟩⟩, _, k7, ble_cells ⟨sle_sl (by omega) s1, sle_map (by omega) s2, trivial⟩⟩,
      ⟨(show (8 : Nat) ≠ 5 by decide), (show h + 1 ≠ 5 by omega), ⟨_, _, h8, fun q hq => ⟨hq, .inl rfl⟩⟩, _, k8, .inl rfl⟩,
      ⟨(show (9 : Nat) ≠ 5 by decide), (show h + 2 ≠ 5 by omega), ⟨_, _, h9, fun q hq => ⟨hq, .inl (f9_app_lt (by rw [hB]; exact hq) b)⟩⟩, _, k9, .inl (f9_app_at hB b)⟩, trivial⟩ hdist
set_option maxHeartbeats 1000000 in
theorem cy_Move {np m hn nc : Nat} {hs ds cd : List Int} {B : List Bk} {pr : List ByteArray} (hb : BksI ds B m np (sortS pr)) (hh : hs.length = hn) (hc : cd.length = nc) (hp : pr.length = np) (he : nwErr pr = 0) (cut t : Int) (f g c : ByteArray) (a : Int) : FC Tryz.prog 10 16 [.ptr 1 0 0 0, .int .i64 t, .str f, .str g, .agg [.int .i64 a, .str c]] (mvH np m hn nc cut hs ds cd B pr) (mvO np m hs ds cd B pr (mvD hs cd (ofI hs cut t)) f g c a) := by
  have c1 := cy_Of np hn cut hs hh t
  rw [ofV_eq] at c1
  have hX := ofI_le (hs := hs) (cut := cut) (t := t)
  have hg : ∀ d, (List.replicate nc true).getD (iidx cd d) false = decide (d ∈ cd) := tm_get hc
  generalize ofI hs cut t = X at *
  have hD : mvF hs cd 100001 X = mvD hs cd X := by unfold mvD; rfl
  generalize mvD hs cd X = D at *
  obtain ⟨K0, hK⟩ : ∃ K : Nat, K = 100001 := ⟨_, rfl⟩
  rw [← hK] at hD
  refine fc_of mixed T_ok Tryz.func16 rfl (by kernel_rfl) (by kernel_rfl) (by kernel_rfl) ?_
  repeat' ((conv => whnf); first | refine vcall_o (l := [0, 1, 2, 3, 4, 5, 6, 7, 8, 9]) (c1) ?_ | ((first | apply br_dec | apply br_ndec) <;> intro h <;> try (exfalso; (try dsimp only at h); omega)) | ((first | apply br_seq | apply br_nseq | apply br_not | apply br_intro) <;> intro h) | refine cond_a ?_)
  all_goals (conv => whnf)
  refine vloop_of (fun x : Nat × Int => ⟨[(0, .ptr 1 0 0 0), (2, .str f), (3, .str g), (9, .ptr 10 0 0 0), (12, .int .i64 (ofP x.2)), (13, .int .i64 (ofQ x.2))], (10, some (.one false (.cells [.int .i64 a, .str c]))) :: mvH np m hn nc cut hs ds cd B pr, 11⟩) (fun x => mvF hs cd x.1 x.2 = D ∧ x.2 ≤ 99999 ∧ (x.2 < 0 ∨ 100001 - x.2 ≤ (x.1 : Int))) (fun x => x.1) (K0, X) [0, 1, 2, 3, 4, 5, 6, 7, 8, 9, 10] [] ⟨rfl, ⟨rfl, rfl, rfl, rfl, rfl, rfl, trivial⟩, ⟨rfl, rfl, rfl, rfl, rfl, rfl, rfl, rfl, rfl, rfl, trivial⟩⟩ ⟨hD, hX, by dsimp only; omega⟩ ?_
  rintro ⟨k, x⟩ ⟨hF, hx, hk⟩
  dsimp only at hF hx hk
  clear hD hX hK c1
  by_cases h0 : x < 0
  · have e1 : ofP x = 0 := if_pos h0
    have e2 : ofQ x = 14 := if_pos h0
    dsimp only
    rw [e1, e2]
    rw [mvF_neg h0] at hF
    subst hF
    rw [mvO_none (by decide)]
    repeat' ((conv => whnf); first | ((first | apply br_dec | apply br_ndec) <;> intro h <;> try (exfalso; (try dsimp only at h); omega)) | ((first | apply br_seq | apply br_nseq | apply br_not | apply br_intro) <;> intro h) | refine cond_a ?_)
    all_goals (conv => whnf)
    all_goals first
      | exact ret_out (l := [0, 1, 2, 3, 4, 5, 6, 7, 8, 9]) rfl rfl ⟨rfl, rfl, rfl, rfl, trivial⟩ bks_rw
      | (exfalso; omega)
      | trace_state
  · have e1 : ofP x = x := if_neg h0
    have e2 : ofQ x = 0 := if_neg h0
    dsimp only
    rw [e1, e2]
    obtain ⟨k, rfl⟩ : ∃ j, k = j + 1 := ⟨k - 1, by omega⟩
    simp only [mvF] at hF
    rw [if_neg h0] at hF
    have hgx := hg x
    by_cases hxc : x ∈ cd
    · rw [if_pos hxc] at hF
      rw [decide_eq_true hxc] at hgx
      have c2 := cy_later np hn cut hs hh x (by omega) hx
      rw [ofV_eq] at c2
      have hN : nxI hs (x + 1) ≤ 99999 ∧ (nxI hs (x + 1) < 0 ∨ x + 1 ≤ nxI hs (x + 1)) := by
        by_cases q : nxI hs (x + 1) < 0
        · exact ⟨by omega, .inl q⟩
        · have := nxI_ok q
          exact ⟨this.2.1, .inr this.1⟩
      generalize nxI hs (x + 1) = y at *
      repeat' ((conv => whnf); first | refine vcall_o (l := [0, 1, 2, 3, 4, 5, 6, 7, 8, 9]) (c2) ?_ | ((first | apply br_dec | apply br_ndec) <;> intro h <;> try (exfalso; (try dsimp only at h); omega)) | ((first | apply br_seq | apply br_nseq | apply br_not | apply br_intro) <;> intro h) | refine cond_a ?_)
      all_goals (conv => whnf)
      all_goals first
        | exact ⟨(k, y), [0, 1, 2, 3, 4, 5, 6, 7, 8, 9, 10], [], ⟨hF, hN.1, by dsimp only; omega⟩, Nat.lt_succ_self k, ⟨rfl, ⟨rfl, rfl, rfl, rfl, rfl, rfl, trivial⟩, ⟨rfl, rfl, rfl, rfl, rfl, rfl, rfl, rfl, rfl, rfl, trivial⟩⟩⟩
        | (exfalso; rw [hgx] at h; cases h; done)
        | (exfalso; omega)
        | trace_state
    · rw [if_neg hxc] at hF
      rw [decide_eq_false hxc] at hgx
      subst hF
      by_cases hd : x ∈ ds
      · have hi : iidx ds x < m := by rw [← hb.dl]; exact iidx_lt.2 hd
        obtain ⟨b1, b2, b3, b4⟩ := hb.I _ hi
        have c3 := cy_book_old (np := np) hb.dl cut x hd
        have c4 := pos_MoveF hi hb.bl b1 b2 b3 f g c a
        have hat : bkAt ds B pr x = B.getD (iidx ds x) bk0 := if_pos hd
        have hput := bkPut_old hb.dl hd
        rw [← hat] at c4
        by_cases hz : mvE (bkAt ds B pr x) f g c a = 0
        · rw [mvO_old h0 hz hd hb.dl]
          rw [hz] at c4
          generalize (bkAt ds B pr x).mv f g c a = b' at *
          repeat' ((conv => whnf); first | refine vcall_o (l := [0, 1, 2, 3, 4, 5, 6, 7, 8, 9]) (c3) ?_ | refine vcall_o (l := [0, 7, 8, 9]) (c4) ?_ | ((first | apply br_dec | apply br_ndec) <;> intro h <;> try (exfalso; (try dsimp only at h); omega)) | ((first | apply br_seq | apply br_nseq | apply br_not | apply br_intro) <;> intro h) | refine cond_a ?_)
          all_goals (conv => whnf)
          all_goals first
            | exact ret_up (l := [0, 1, 2, 3, 4, 5, 6, 7, 8, 9, 11, 12, 13]) [.relab (rdR 11 m (odD 11 np (B.set (iidx ds x) b') (sortS pr))) (fun _ => 0) ((5, cyB false 11 m ds) :: rdN 11 m 0 (odD 11 np (B.set (iidx ds x) b') (sortS pr))) [7, 8, 9] 3] ⟨bks_old (n := 11) (by decide) hput rfl rfl rfl, rfl, rfl, ⟨rfl, rfl, rfl, rfl, trivial⟩⟩ bks_rw
            | (exfalso; rw [hgx] at h; cases h; done)
            | (exfalso; omega)
            | trace_state
        · rw [mvO_err h0 hz]
          have hbs : mvE (bkAt ds B pr x) f g c a ≠ 0 := hz
          have hmv : (bkAt ds B pr x).mv f g c a = bkAt ds B pr x := if_neg hz
          have hset : B.set (iidx ds x) (bkAt ds B pr x) = B := by
            rw [hat]
            refine List.ext_getElem? fun j => ?_
            rw [List.getElem?_set]
            split
            · rename_i e
              subst e
              rw [if_pos (by rw [hb.bl]; exact hi), List.getD, List.getElem?_eq_getElem (by rw [hb.bl]; exact hi)]; rfl
            · rfl
          rw [hmv, hset] at c4
          generalize mvE (bkAt ds B pr x) f g c a = e at *
          repeat' ((conv => whnf); first | refine vcall_o (l := [0, 1, 2, 3, 4, 5, 6, 7, 8, 9]) (c3) ?_ | refine vcall_o (l := [0, 7, 8, 9]) (c4) ?_ | ((first | apply br_dec | apply br_ndec) <;> intro h <;> try (exfalso; (try dsimp only at h); omega)) | ((first | apply br_seq | apply br_nseq | apply br_not | apply br_intro) <;> intro h) | refine cond_a ?_)
          all_goals (conv => whnf)
          all_goals first
            | exact ret_out (l := [0, 1, 2, 3, 4, 5, 6, 7, 8, 9]) rfl rfl ⟨rfl, rfl, rfl, rfl, trivial⟩ bks_rw
            | (exfalso; rw [hgx] at h; cases h; done)
            | (exfalso; omega)
            | trace_state
      · have c3 := cy_book_new hb.dl hp he cut x hd
        have hat : bkAt ds B pr x = nwB pr := if_neg hd
        have c4 := pos_MoveX ((nwB_I he).up (B' := 4503599627370496) (by decide)) hp rfl f g c a
        have hput := bkPut_new (h := 11) hb.dl hd
        rw [← hat] at c4
        by_cases hz : mvE (bkAt ds B pr x) f g c a = 0
        · rw [mvO_new h0 hz hd hb.dl]
          rw [hz] at c4
          rw [hat] at c4
          rw [hat]
          have hsp : (nwB pr).ps = sortS pr := rfl
          generalize hbb : (nwB pr).mv f g c a = b' at *
          repeat' ((conv => whnf); first | refine vcall_o (l := [0, 1, 2, 3, 4, 5, 6, 7, 8, 9]) (c3) ?_ | refine vcall_o (l := [0, 11, 12, 13]) (c4) ?_ | ((first | apply br_dec | apply br_ndec) <;> intro h <;> try (exfalso; (try dsimp only at h); omega)) | ((first | apply br_seq | apply br_nseq | apply br_not | apply br_intro) <;> intro h) | refine cond_a ?_)
          all_goals (conv => whnf)
          all_goals first
            | exact ret_up (l := [0, 1, 2, 3, 4, 5, 6, 7, 8, 9, 14, 15, 16]) [.relab (gdR 14 m (nwD 14 11 np (B ++ [b']) (sortS pr))) (fun _ => 0) ((5, cyB false 14 (m + 1) (ds ++ [x])) :: gdN 14 (m + 1) 0 (nwD 14 11 np (B ++ [b']) (sortS pr))) [7, 11, 8, 12, 9, 13] 3] ⟨bks_new (n := 14) (h := 11) (by decide) (by decide) hb.bl hput rfl rfl rfl rfl rfl rfl rfl, rfl, rfl, ⟨rfl, rfl, rfl, rfl, trivial⟩⟩ bks_rw
            | (exfalso; rw [hgx] at h; cases h; done)
            | (exfalso; omega)
            | trace_state
        · rw [mvO_err h0 hz]
          rw [hat] at c4 hz ⊢
          generalize mvE (nwB pr) f g c a = e at *
          repeat' ((conv => whnf); first | refine vcall_o (l := [0, 1, 2, 3, 4, 5, 6, 7, 8, 9]) (c3) ?_ | refine vcall_o (l := [0, 11, 12, 13]) (c4) ?_ | ((first | apply br_dec | apply br_ndec) <;> intro h <;> try (exfalso; (try dsimp only at h); omega)) | ((first | apply br_seq | apply br_nseq | apply br_not | apply br_intro) <;> intro h) | refine cond_a ?_)
          all_goals (conv => whnf)
          all_goals first
            | exact ret_out (l := [0, 1, 2, 3, 4, 5, 6, 7, 8, 9]) rfl rfl ⟨rfl, rfl, rfl, rfl, trivial⟩ bks_rw
            | (exfalso; rw [hgx] at h; cases h; done)
            | (exfalso; omega)
            | trace_state
end Go.Proofs.YtkdjnmcaifejjaaGreatDoor

/- Contracts of the law's helpers: new cycles of three parties, the example of the chapter. -/
namespace Go.Proofs.YtkdjnmcaifejjaaGreatDoor
open Go.RowKit Go.Sy
attribute [local irreducible] vcall vloop vcallD retP sortI
set_option maxRecDepth 100000
set_option linter.unusedVariables false
set_option linter.unusedSimpArgs false

theorem cal_NewN : FC Tryz.prog 1 6 [.nsl] [] (holO [] 0) :=
  fc_argnil (n := 1) (args := [.nsl]) (args1 := [.sl 1 0 0 0]) (cs := [.sc (.ints .i64 [])]) rfl (by exact ⟨.inr ⟨rfl, rfl⟩, trivial⟩) (cal_New [] 0 rfl)
theorem p3_err : nwErr p3 = 0 := by kernel_rfl
theorem p3_bk : nwB p3 = k0 := by unfold nwB; rw [p3_sort]; rfl
/-- Cycles, as the laws hold them. -/
abbrev cyH (np m hn nc : Nat) (cut : Int) (hs ds cd : List Int) (B : List Bk) (pr sp : List ByteArray) : Heap := (1, cyC false 2 4 5 6 np cut) :: (2, calC false 3) :: (3, tmM false hn hs) :: (4, cyP false np pr) :: (6, tmM false nc cd) :: bksH 5 7 8 9 np m ds B sp
def maO (cut : Int) : SV → Heap → Nat → Prop := if cut < 0 ∨ 86400 < cut then isOut (.tup [.nptr, .int .i64 4]) [] 1 else isOut (.tup [.ptr 1 0 0 0, .int .i64 0]) (cyH 3 0 0 0 cut [] [] [] [] p3 p3) 10
theorem law_made (cut : Int) : FC Tryz.prog 1 15 [.int .i64 cut] [] (maO cut) := by
  have c1 := cal_NewN
  unfold holO at c1
  rw [if_pos (by rfl)] at c1
  have c2 := cy_New cut p3 3 rfl
  unfold cnO cnE at c2
  rw [p3_err, p3_sort] at c2
  unfold maO
  by_cases h : cut < 0 ∨ 86400 < cut
  · rw [if_pos h, if_neg (by decide)] at c2
    rw [if_pos h]
    refine fc_of mixed T_ok Tryz.func15 rfl (by kernel_rfl) (by kernel_rfl) (by kernel_rfl) ?_
    repeat' ((conv => whnf); first | refine vcall_o (l := [0]) (c1) ?_ | refine vcall_o (l := [0, 2, 4]) (c2) ?_ | ((first | apply br_dec | apply br_ndec) <;> intro h <;> try (exfalso; (try dsimp only at h); omega)) | ((first | apply br_seq | apply br_nseq | apply br_not | apply br_intro) <;> intro h) | refine cond_a ?_)
    all_goals (conv => whnf)
    all_goals first
      | exact ret_out (l := [0]) rfl rfl trivial allRw_nil
      | (exfalso; omega)
      | trace_state
  · rw [if_neg h, if_pos rfl] at c2
    rw [if_neg h]
    refine fc_of mixed T_ok Tryz.func15 rfl (by kernel_rfl) (by kernel_rfl) (by kernel_rfl) ?_
    repeat' ((conv => whnf); first | refine vcall_o (l := [0]) (c1) ?_ | refine vcall_o (l := [0, 2, 4]) (c2) ?_ | ((first | apply br_dec | apply br_ndec) <;> intro h <;> try (exfalso; (try dsimp only at h); omega)) | ((first | apply br_seq | apply br_nseq | apply br_not | apply br_intro) <;> intro h) | refine cond_a ?_)
    all_goals (conv => whnf)
    all_goals first
      | (exfalso; omega)
      | exact ret_out (l := [0, 5, 2, 3, 6, 7, 8, 9, 10, 11]) rfl rfl ⟨rfl, rfl, rfl, rfl, rfl, rfl, rfl, rfl, rfl, trivial⟩ (allRw_cons (allRw_cons (allRw_cons (allRw_cons (allRw_cons bks_rw)))))
      | trace_state
/-- The example: a movement goes behind a closed cycle. -/
def k5 : Bk := ⟨3, p3, 1, [sUsd], [[-5, 5, 0, 0, 0, 0, 0, 0, 0, 0, 0, 0, 0, 0, 0, 0]], [0], 1⟩
def l5 : List Px := [⟨⟨#[97]⟩, -5, sUsd⟩, ⟨⟨#[98]⟩, 5, sUsd⟩]
theorem k0_mvE : mvE k0 ⟨#[97]⟩ ⟨#[98]⟩ sUsd 5 = 0 := by kernel_rfl
theorem k0_mv : k0.mv ⟨#[97]⟩ ⟨#[98]⟩ sUsd 5 = k5 := by kernel_rfl
theorem k0_I : BkI k0 4503599627370496 := by
  have h := (nwB_I p3_err).up (B' := 4503599627370496) (by decide)
  rwa [p3_bk] at h
theorem k5_I : BkI k5 4503599627370496 := by rw [← k0_mv]; exact mv_I k0_I _ _ _ _
theorem k5_list : k5.list = l5 := by
  unfold Bk.list
  rw [show sortS k5.cs = [sUsd] from one_sort sUsd]
  kernel_rfl
theorem nx_two : nxI [] 2 = 4 := by
  rw [nxI_no (by decide) (by decide), show (2 : Int) + 1 = 3 from rfl, nxI_no (by decide) (by decide), show (3 : Int) + 1 = 4 from rfl, nxI_yes (by decide) (by decide)]
theorem nx_one : nxI [] 1 = 1 := nxI_yes (by decide) (by decide)
theorem mvD_one : mvD [] [1] 1 = 4 := by
  have e : ∀ k, mvF [] [1] (k + 1 + 1) 1 = 4 := by
    intro k
    simp only [mvF]
    rw [if_neg (by decide), if_pos (by decide), show (1 : Int) + 1 = 2 from rfl, nx_two, if_neg (by decide), if_neg (by decide)]
  unfold mvD
  exact e 99999
theorem law_awake : Pure Tryz.prog 5 [] (.bool true) := by
  have c1 := law_made 3600
  unfold maO at c1
  rw [if_neg (by decide)] at c1
  have c2 := cy_Of 3 0 3600 [] rfl 3599
  rw [show ofV (ofI [] 3600 3599) = .tup [.int .i64 0, .int .i64 0] from by rfl] at c2
  have c3 := cy_Of 3 0 3600 [] rfl 3600
  have e3 : ofI [] 3600 3600 = 1 := by
    unfold ofI
    rw [if_neg (by decide), if_neg (by decide), show dayI 3600 + 1 = 1 from rfl, nx_one]
  rw [e3, show ofV 1 = .tup [.int .i64 1, .int .i64 0] from by rfl] at c3
  have hb0 : BksI [] [] 0 3 p3 := ⟨rfl, rfl, List.nodup_nil, fun i h => by omega⟩
  have c4 := cy_Close (hs := []) (cd := []) hb0 rfl rfl (by decide) 3600 1
  have e4 : clE [] [] [] 1 = 0 := by
    unfold clE
    rw [if_neg (by decide), if_neg (by simp), if_neg (by simp [openS, sortI])]
  unfold clO at c4
  rw [e4, if_pos rfl, show posL [] [] 1 = [] from rfl] at c4
  have c5 := cy_Move (np := 3) (hs := []) (cd := [1]) (pr := p3) (by rw [p3_sort]; exact hb0) rfl rfl rfl p3_err 3600 3600 ⟨#[97]⟩ ⟨#[98]⟩ sUsd 5
  have hO : mvO 3 0 [] [] [1] [] p3 4 ⟨#[97]⟩ ⟨#[98]⟩ sUsd 5 = isOut (.tup [.int .i64 4, .int .i64 0]) (bksH 5 10 11 12 3 1 [4] [k5] p3) 13 := by
    have hat : bkAt [] [] p3 4 = k0 := p3_bk
    rw [mvO_new (m := 0) (by decide) (by rw [hat]; exact k0_mvE) (by simp) rfl, hat, k0_mv, p3_sort]; rfl
  rw [e3, mvD_one, hO] at c5
  have hb5 : BksI [4] [k5] 1 3 p3 := ⟨rfl, rfl, by simp, fun i h => by
    obtain rfl : i = 0 := by omega
    exact ⟨k5_I, rfl, rfl, by decide⟩⟩
  have c6 := cy_Positions hb5 3600 4
  rw [show posL [4] [k5] 4 = l5 from by unfold posL; rw [if_pos (by simp)]; exact k5_list] at c6
  unfold mvH at c5
  rw [p3_sort] at c5
  refine fc_of mixed T_ok Tryz.func5 rfl (by kernel_rfl) (by kernel_rfl) (by kernel_rfl) ?_
  repeat' ((conv => whnf); first | refine vcall_o (l := [0]) (c1) ?_ | refine vcall_o (l := [0, 1, 2, 3, 4, 5, 6, 7, 8, 9]) (c2) ?_ | refine vcall_o (l := [0, 1, 2, 3, 4, 5, 6, 7, 8, 9]) (c3) ?_ | refine vcall_o (l := [0, 1, 2, 3, 4, 5, 6, 7, 8, 9]) (c4) ?_ | refine vcall_o (l := [0, 1, 2, 3, 4, 5, 6, 7, 8, 9]) (c5) ?_ | refine vcall_o (l := [0, 1, 2, 3, 4, 5, 6, 11, 12, 13]) (c6) ?_ | ((first | apply br_dec | apply br_ndec) <;> intro h <;> try (exfalso; (try dsimp only at h); omega)) | ((first | apply br_seq | apply br_nseq | apply br_not | apply br_intro) <;> intro h) | refine cond_a ?_)
  all_goals (conv => whnf)
  all_goals first
    | exact ret_pure rfl
    | trace_state
end Go.Proofs.YtkdjnmcaifejjaaGreatDoor

/- Plain facts: positions add up to zero, also after conversion. No program in sight. -/
namespace Go.Proofs.YtkdjnmcaifejjaaGreatDoor
open Go.RowKit Go.Sy
set_option linter.unusedVariables false
set_option linter.unusedSimpArgs false

end Go.Proofs.YtkdjnmcaifejjaaGreatDoor

/- The law PositionOrder. -/
namespace Go.Proofs.YtkdjnmcaifejjaaGreatDoor
open Go.RowKit Go.Sy
attribute [local irreducible] vcall vloop vcallD retP
set_option maxRecDepth 100000
set_option linter.unusedVariables false
set_option linter.unusedSimpArgs false

end Go.Proofs.YtkdjnmcaifejjaaGreatDoor

/- The law PositionZero. -/
namespace Go.Proofs.YtkdjnmcaifejjaaGreatDoor
open Go.RowKit Go.Sy
attribute [local irreducible] vcall vloop vcallD retP
set_option maxRecDepth 100000
set_option linter.unusedVariables false
set_option linter.unusedSimpArgs false

theorem pos_ConvertX {b : Bk} (h : BkI b 4503599627370496) {np : Nat} {ps : List ByteArray} (hn : b.n = np) (hp : b.ps = ps) (hm : b.m ≤ 100000) (q : RL) (hq : q.l ≤ 1000) (t p : ByteArray) : FC Tryz.prog 5 39 [.ptr 1 0 0 0, .sl 4 0 0 q.l, .str t, .str p] ((0, some (GB glT)) :: (4, some (.one true (rlB q))) :: bkX true np ps b) (cvOut b q t p) := by
  subst hn hp; exact pos_Convert b (h.ok (Int.le_refl _)) (h.cok hm) q hq t p
end Go.Proofs.YtkdjnmcaifejjaaGreatDoor

/- Contracts: the conversion of a book that is one of many; the transfers of a closed cycle. -/
namespace Go.Proofs.YtkdjnmcaifejjaaGreatDoor
open Go.RowKit Go.Sy
attribute [local irreducible] vcall vloop vcallD retP sortI
set_option maxRecDepth 100000
set_option linter.unusedVariables false
set_option linter.unusedSimpArgs false

theorem pos_ConvertF {B : List Bk} {m i np : Nat} {sp : List ByteArray} (hi : i < m) (h : BkI (B.getD i bk0) 4503599627370496) (hn : (B.getD i bk0).n = np) (hp : (B.getD i bk0).ps = sp) (hm : (B.getD i bk0).m ≤ 100000) (q : RL) (hq : q.l ≤ 1000) (t p : ByteArray) : FC Tryz.prog 5 39 [.ptr 1 i 0 0, .sl 4 0 0 q.l, .str t, .str p] [(0, some (GB glT)), (4, some (.one true (rlB q))), (1, fmB true m (f7 2 3 np)), (2, fmB true m (f8 np sp)), (3, fmB true m (f9 B))] (cvOut (B.getD i bk0) q t p) := by
  have c0 := pos_ConvertX h hn hp hm q hq t p
  have e : SV.mems (fmu [(1, ⟨i, fun x => x < m, f7 2 3 np⟩), (2, ⟨i, fun x => x < m, f8 np sp⟩), (3, ⟨i, fun x => x < m, f9 B⟩)]) [.ptr 1 0 0 0, .sl 4 0 0 q.l, .str t, .str p] = [.ptr 1 i 0 0, .sl 4 0 0 q.l, .str t, .str p] := by
    show [SV.ptr 1 (0 + i) 0 0, .sl 4 (0 + 0) 0 q.l, .str t, .str p] = _
    rw [Nat.zero_add]
  have eH : famH [(1, ⟨i, fun x => x < m, f7 2 3 np⟩), (2, ⟨i, fun x => x < m, f8 np sp⟩), (3, ⟨i, fun x => x < m, f9 B⟩)] ((0, some (GB glT)) :: (4, some (.one true (rlB q))) :: bkX true np sp (B.getD i bk0)) = [(0, some (GB glT)), (4, some (.one true (rlB q))), (1, fmB true m (f7 2 3 np)), (2, fmB true m (f8 np sp)), (3, fmB true m (f9 B))] := by
    show (0, some (famHB _ 0 (GB glT))) :: _ = _
    rw [gb_fam]; rfl
  unfold cvOut at c0 ⊢
  by_cases hz : (B.getD i bk0).cvE q t p ≠ 0
  · rw [if_pos hz] at c0 ⊢
    have c := fc_fam [(1, ⟨i, fun x => x < m, f7 2 3 np⟩), (2, ⟨i, fun x => x < m, f8 np sp⟩), (3, ⟨i, fun x => x < m, f9 B⟩)] (by
      refine ⟨⟨by decide, by decide, _, _, rfl, hi, ?_, .inl rfl⟩, ⟨by decide, by decide, _, _, rfl, hi, rfl, .inl rfl⟩, ⟨by decide, by decide, _, _, rfl, hi, rfl, .inl rfl⟩, trivial⟩
      show Blk.cells [.sl 2 i 0 np, .map 3 i] = .cells [.sl 2 (0 + i) 0 np, .map 3 (0 + i)]
      rw [Nat.zero_add]) (by exact ⟨gb_mok _ _, rfl, rfl, rfl, rfl, trivial⟩) (by exact trivial) allRw_nil c0
    rw [e, eH] at c
    exact c
  · rw [if_neg hz] at c0 ⊢
    have c := fc_fam [(1, ⟨i, fun x => x < m, f7 2 3 np⟩), (2, ⟨i, fun x => x < m, f8 np sp⟩), (3, ⟨i, fun x => x < m, f9 B⟩)] (by
      refine ⟨⟨by decide, by decide, _, _, rfl, hi, ?_, .inl rfl⟩, ⟨by decide, by decide, _, _, rfl, hi, rfl, .inl rfl⟩, ⟨by decide, by decide, _, _, rfl, hi, rfl, .inl rfl⟩, trivial⟩
      show Blk.cells [.sl 2 i 0 np, .map 3 i] = .cells [.sl 2 (0 + i) 0 np, .map 3 (0 + i)]
      rw [Nat.zero_add]) (by exact ⟨gb_mok _ _, rfl, rfl, rfl, rfl, trivial⟩) (by exact ⟨rfl, trivial⟩) (allRw_cons allRw_nil) c0
    rw [e, eH] at c
    exact c
end Go.Proofs.YtkdjnmcaifejjaaGreatDoor

/- Plain facts on positions: columns, their order, sorting. No program in sight. -/
namespace Go.Proofs.YtkdjnmcaifejjaaGreatDoor
open Go.RowKit Go.Sy
set_option linter.unusedVariables false
set_option linter.unusedSimpArgs false

/-- A position. -/
structure Ps where
  p : ByteArray
  a : Int
  c : ByteArray
/-- Positions as columns. -/
structure Pc where
  p : List ByteArray
  a : List Int
  c : List ByteArray
def pcOf (l : List Ps) : Pc := ⟨l.map Ps.p, l.map Ps.a, l.map Ps.c⟩
abbrev ps0 : Ps := ⟨⟨#[]⟩, 0, ⟨#[]⟩⟩
instance : Inhabited Ps := ⟨ps0⟩
def psB (n : Nat) (r : Pc) : Blk := .cols n [.sc (.strs r.p), .sc (.ints .i64 r.a), .sc (.strs r.c)]
/-- A position is before another one. -/
def plt_n (x y : Ps) : Bool := strLt x.c y.c || (seq x.c y.c && strLt x.p y.p)
theorem seq_true_n {a b : ByteArray} : seq a b = true ↔ a = b := by unfold seq; exact decide_eq_true_iff
theorem plt_iff_n {x y : Ps} : plt_n x y = true ↔ strLt x.c y.c = true ∨ (x.c = y.c ∧ strLt x.p y.p = true) := by
  unfold plt_n
  rw [Bool.or_eq_true, Bool.and_eq_true, seq_true_n]
theorem plt_irrefl_n (x : Ps) : plt_n x x = false := by
  cases h : plt_n x x with
  | false => rfl
  | true =>
    rcases plt_iff_n.1 h with h | ⟨_, h⟩
    · rw [strLt_irrefl] at h; cases h
    · rw [strLt_irrefl] at h; cases h
theorem plt_trans_n {x y z : Ps} (h : plt_n x y = true) (k : plt_n y z = true) : plt_n x z = true := by
  rw [plt_iff_n] at *
  rcases h with h | ⟨h1, h2⟩
  · rcases k with k | ⟨k1, k2⟩
    · exact .inl (strLt_trans h k)
    · exact .inl (k1 ▸ h)
  · rcases k with k | ⟨k1, k2⟩
    · exact .inl (h1 ▸ k)
    · exact .inr ⟨h1.trans k1, strLt_trans h2 k2⟩
theorem plt_asymm_n {x y : Ps} (h : plt_n x y = true) : plt_n y x = false := by
  cases k : plt_n y x with
  | false => rfl
  | true =>
    have := plt_trans_n h k
    rw [plt_irrefl_n] at this; cases this
/-- Two positions of one place. -/
def same2_n (x y : Ps) : Prop := x.p = y.p ∧ x.c = y.c
theorem plt_total_n {x y : Ps} (h : plt_n x y = false) (hne : ¬ same2_n x y) : plt_n y x = true := by
  rw [plt_iff_n]
  by_cases hc : x.c = y.c
  · by_cases hp : x.p = y.p
    · exact absurd ⟨hp, hc⟩ hne
    · right
      refine ⟨hc.symm, ?_⟩
      cases k : strLt x.p y.p with
      | true => rw [plt_iff_n.2 (.inr ⟨hc, k⟩)] at h; cases h
      | false => exact strLt_total k hp
  · left
    cases k : strLt x.c y.c with
    | true => rw [plt_iff_n.2 (.inl k)] at h; cases h
    | false => exact strLt_total k hc
/-- Positions in strictly ascending order are told by their elements. -/
theorem asc_unique_n {l m : List Ps} (hp : l.Perm m) (hl : l.Pairwise (fun a b => plt_n a b = true)) (hm : m.Pairwise (fun a b => plt_n a b = true)) : l = m :=
  List.Perm.eq_of_pairwise (le := fun a b => plt_n a b = true) (fun a b _ _ h1 h2 => by rw [plt_asymm_n h1] at h2; cases h2) hl hm hp
/-- All places are different. -/
def Dist_n (l : List Ps) : Prop := l.Pairwise (fun a b => ¬ same2_n a b)
theorem same2_symm_n {a b : Ps} (h : same2_n a b) : same2_n b a := ⟨h.1.symm, h.2.symm⟩
theorem dist_perm_n {l m : List Ps} (h : l.Perm m) (hl : Dist_n l) : Dist_n m := List.Perm.pairwise h hl (fun {a b} h k => h (same2_symm_n k))
theorem dist_asc_n {l : List Ps} (h : l.Pairwise (fun a b => plt_n a b = true)) : Dist_n l := by
  refine h.imp fun {a b} hab e => ?_
  rcases plt_iff_n.1 hab with k | ⟨_, k⟩
  · rw [e.2, strLt_irrefl] at k; cases k
  · rw [e.1, strLt_irrefl] at k; cases k
/-- The positions in their order. -/
def srt_n (l : List Ps) : List Ps := l.mergeSort (fun x y => !plt_n y x)
theorem srt_perm_n (l : List Ps) : (srt_n l).Perm l := List.mergeSort_perm l _
theorem nplt_trans_n {x y z : Ps} (h : plt_n y x = false) (k : plt_n z y = false) : plt_n z x = false := by
  cases e : plt_n z x with
  | false => rfl
  | true =>
    by_cases hs : same2_n x y
    · have : plt_n z y = true := by
        rw [plt_iff_n] at e ⊢
        rw [← hs.1, ← hs.2]; exact e
      rw [this] at k; cases k
    · have := plt_trans_n e (plt_total_n h (fun q => hs (same2_symm_n q)))
      rw [this] at k; cases k
theorem srt_asc_n {l : List Ps} (hd : Dist_n l) : (srt_n l).Pairwise (fun a b => plt_n a b = true) := by
  have h1 := List.pairwise_mergeSort (le := fun x y : Ps => !plt_n y x) (fun a b c h k => by
    simp only [Bool.not_eq_true'] at *
    exact nplt_trans_n h k) (fun a b => by
    cases h : plt_n b a with
    | false => rfl
    | true => simp [plt_asymm_n h]) l
  have h2 : Dist_n (srt_n l) := dist_perm_n (srt_perm_n l).symm hd
  refine (h1.and h2).imp ?_
  rintro a b ⟨k1, k2⟩
  simp only [Bool.not_eq_true'] at k1
  exact plt_total_n k1 (fun q => k2 (same2_symm_n q))
theorem srt_of_n {l m : List Ps} (hp : m.Perm l) (hm : m.Pairwise (fun a b => plt_n a b = true)) : srt_n l = m :=
  asc_unique_n ((srt_perm_n l).trans hp.symm) (srt_asc_n (dist_perm_n hp (dist_asc_n hm))) hm
end Go.Proofs.YtkdjnmcaifejjaaGreatDoor

/- Contracts of package netting and of its reference: names, amounts, places. -/
namespace Go.Proofs.YtkdjnmcaifejjaaGreatDoor
open Go.RowKit Go.Sy
attribute [local irreducible] vcall vloop vcallD retP
set_option maxRecDepth 100000
set_option linter.unusedVariables false
set_option linter.unusedSimpArgs false

/-- A byte that may stand in a name. -/
def nmOk (first : Bool) (b : Int) : Bool := decide (97 ≤ b ∧ b ≤ 122 ∨ 65 ≤ b ∧ b ≤ 90) || (!first && decide (b = 95 ∨ 48 ≤ b ∧ b ≤ 57))
def nmTo (s : ByteArray) : Nat → Bool
  | 0 => true
  | k + 1 => nmTo s k && nmOk (decide (k = 0)) (byteAt s (k : Int))
/-- A name. -/
def nmB_n (s : ByteArray) : Bool := decide (1 ≤ s.size ∧ s.size ≤ 16) && nmTo s s.size
theorem nmTo_false {s : ByteArray} {k : Nat} (h : nmOk (decide (k = 0)) (byteAt s (k : Int)) = false) : ∀ n, k < n → nmTo s n = false
  | 0, hh => by omega
  | n + 1, hh => by
    simp only [nmTo]
    by_cases e : k = n
    · subst e; rw [h, Bool.and_false]
    · rw [nmTo_false h n (by omega), Bool.false_and]
theorem nmB_no {s : ByteArray} {k : Nat} (hk : k < s.size) (h : nmOk (decide (k = 0)) (byteAt s (k : Int)) = false) : nmB_n s = false := by
  unfold nmB_n; rw [nmTo_false h _ hk, Bool.and_false]
theorem nmOk_iff {f : Bool} {b : Int} : nmOk f b = true ↔ (97 ≤ b ∧ b ≤ 122 ∨ 65 ≤ b ∧ b ≤ 90) ∨ (f = false ∧ (b = 95 ∨ 48 ≤ b ∧ b ≤ 57)) := by
  unfold nmOk
  rw [Bool.or_eq_true, Bool.and_eq_true, decide_eq_true_eq, decide_eq_true_eq, Bool.not_eq_true']
attribute [irreducible] nmB_n nmOk
theorem net_isName (s : ByteArray) : Pure Tryz.prog 158 [.str s] (.bool (nmB_n s)) := by
  refine fc_of mixed T_ok Tryz.func158 rfl (by kernel_rfl) (by kernel_rfl) (by kernel_rfl) ?_
  repeat' ((conv => whnf); first | (refine br_dec (fun h => ?_) (fun h => ?_) <;> try (exfalso; (try dsimp only at h); omega)) | (refine br_ndec (fun h => ?_) (fun h => ?_) <;> try (exfalso; (try dsimp only at h); omega)) | refine br_seq (fun h => ?_) (fun h => ?_) | refine br_nseq (fun h => ?_) (fun h => ?_) | refine br_not (fun h => ?_) (fun h => ?_) | refine br_intro (fun h => ?_) (fun h => ?_) | refine cond_intro rfl ?_ | (refine cond_intro ⟨rfl, ?_⟩ ?_; (first | omega | (dsimp only; omega) | decide)) | (refine cond_intro ?_ ?_; (first | omega | (dsimp only; omega) | decide | (simp only [Nat.add_zero, Int.toNat_natCast, *]; omega))))
  all_goals (conv => whnf)
  · exact ret_pure (congrArg SV.bool (by unfold nmB_n; rw [decide_eq_false (by omega), Bool.false_and]))
  · exact ret_pure (congrArg SV.bool (by unfold nmB_n; rw [decide_eq_false (by omega), Bool.false_and]))
  refine vloop_of (fun k : Nat => ⟨[(0, .str s), (15, .int .i64 s.size), (16, .int .i64 k)], [], 1⟩) (fun k => k ≤ s.size ∧ nmTo s k = true) (fun k => s.size - k) 0 [0] [] ⟨rfl, ⟨rfl, rfl, rfl, trivial⟩, trivial⟩ ⟨by omega, rfl⟩ ?_
  rintro k ⟨hk, hc⟩
  have hb := byteAt_bd s (k : Int)
  by_cases hk2 : k < s.size
  · cases ho : nmOk (decide (k = 0)) (byteAt s (k : Int)) with
    | true =>
      have hst : nmTo s (k + 1) = true := by simp only [nmTo, hc, ho]; rfl
      have hoi := nmOk_iff.1 ho
      rw [decide_eq_false_iff_not] at hoi
      repeat' ((conv => whnf); first | (refine br_dec (fun h => ?_) (fun h => ?_) <;> try (exfalso; (try dsimp only at h); omega)) | (refine br_ndec (fun h => ?_) (fun h => ?_) <;> try (exfalso; (try dsimp only at h); omega)) | refine br_seq (fun h => ?_) (fun h => ?_) | refine br_nseq (fun h => ?_) (fun h => ?_) | refine br_not (fun h => ?_) (fun h => ?_) | refine br_intro (fun h => ?_) (fun h => ?_) | refine cond_intro rfl ?_ | (refine cond_intro ⟨rfl, ?_⟩ ?_; (first | omega | (dsimp only; omega) | decide)) | (refine cond_intro ?_ ?_; (first | omega | (dsimp only; omega) | decide | (simp only [Nat.add_zero, Int.toNat_natCast, *]; omega))))
      all_goals (conv => whnf)
      all_goals first
        | exact ⟨k + 1, [0], [], ⟨by omega, hst⟩, by omega, ⟨rfl, ⟨rfl, rfl, congrArg (fun z => some (SV.int .i64 z)) (i64_succ (by omega)), trivial⟩, trivial⟩⟩
        | (exfalso; omega)
        | trace_state
    | false =>
      rw [nmB_no hk2 ho]
      have hoi : ¬ ((97 ≤ byteAt s (k : Int) ∧ byteAt s (k : Int) ≤ 122 ∨ 65 ≤ byteAt s (k : Int) ∧ byteAt s (k : Int) ≤ 90) ∨ (decide (k = 0) = false ∧ (byteAt s (k : Int) = 95 ∨ 48 ≤ byteAt s (k : Int) ∧ byteAt s (k : Int) ≤ 57))) := fun h => by rw [nmOk_iff.2 h] at ho; cases ho
      rw [decide_eq_false_iff_not] at hoi
      repeat' ((conv => whnf); first | (refine br_dec (fun h => ?_) (fun h => ?_) <;> try (exfalso; (try dsimp only at h); omega)) | (refine br_ndec (fun h => ?_) (fun h => ?_) <;> try (exfalso; (try dsimp only at h); omega)) | refine br_seq (fun h => ?_) (fun h => ?_) | refine br_nseq (fun h => ?_) (fun h => ?_) | refine br_not (fun h => ?_) (fun h => ?_) | refine br_intro (fun h => ?_) (fun h => ?_) | refine cond_intro rfl ?_ | (refine cond_intro ⟨rfl, ?_⟩ ?_; (first | omega | (dsimp only; omega) | decide)) | (refine cond_intro ?_ ?_; (first | omega | (dsimp only; omega) | decide | (simp only [Nat.add_zero, Int.toNat_natCast, *]; omega))))
      all_goals (conv => whnf)
      all_goals first
        | exact ret_pure rfl
        | (exfalso; omega)
        | trace_state
  · have e : k = s.size := by omega
    subst e
    have : nmB_n s = true := by unfold nmB_n; rw [hc, decide_eq_true (by omega)]; rfl
    rw [this]
    repeat' ((conv => whnf); first | (refine br_dec (fun h => ?_) (fun h => ?_) <;> try (exfalso; (try dsimp only at h); omega)) | (refine br_ndec (fun h => ?_) (fun h => ?_) <;> try (exfalso; (try dsimp only at h); omega)) | refine br_seq (fun h => ?_) (fun h => ?_) | refine br_nseq (fun h => ?_) (fun h => ?_) | refine br_not (fun h => ?_) (fun h => ?_) | refine br_intro (fun h => ?_) (fun h => ?_) | refine cond_intro rfl ?_ | (refine cond_intro ⟨rfl, ?_⟩ ?_; (first | omega | (dsimp only; omega) | decide)) | (refine cond_intro ?_ ?_; (first | omega | (dsimp only; omega) | decide | (simp only [Nat.add_zero, Int.toNat_natCast, *]; omega))))
    all_goals (conv => whnf)
    all_goals first
      | exact ret_pure rfl
      | (exfalso; omega)
theorem net_placeOf (p : ByteArray) (a : Int) (c : ByteArray) : Pure Tryz.prog 74 [.agg [.str p, .int .i64 a, .str c]] (.agg [.str c, .str p]) := by
  refine fc_of mixed T_ok Tryz.func74 rfl (by kernel_rfl) (by kernel_rfl) (by kernel_rfl) ?_
  repeat' ((conv => whnf); first | (refine br_dec (fun h => ?_) (fun h => ?_) <;> try (exfalso; (try dsimp only at h); omega)) | (refine br_ndec (fun h => ?_) (fun h => ?_) <;> try (exfalso; (try dsimp only at h); omega)) | refine br_seq (fun h => ?_) (fun h => ?_) | refine br_nseq (fun h => ?_) (fun h => ?_) | refine br_not (fun h => ?_) (fun h => ?_) | refine br_intro (fun h => ?_) (fun h => ?_) | refine cond_intro rfl ?_ | (refine cond_intro ⟨rfl, ?_⟩ ?_; (first | omega | (dsimp only; omega) | decide)) | (refine cond_intro ?_ ?_; (first | omega | (dsimp only; omega) | decide | (simp only [Nat.add_zero, Int.toNat_natCast, *]; omega))))
  all_goals (conv => whnf)
  all_goals exact ret_pure rfl
end Go.Proofs.YtkdjnmcaifejjaaGreatDoor

