/- The law on made rates: products of fractions, a rate with a markup. -/
import Derived.Test.YtpmgaanpbbplbaaDoorRateL
namespace Go.Proofs.YtpmgaanpbbplbaaDoor
open Go.RowKit Go.Sy
attribute [local irreducible] vcall vloop vcallD retP
set_option maxRecDepth 100000
set_option linter.unusedVariables false
set_option linter.unusedSimpArgs false

theorem red_uniq {g p q : Nat} (hg : 0 < g) (hc : p.Coprime q) : g * p / Nat.gcd (g * p) (g * q) = p ∧ g * q / Nat.gcd (g * p) (g * q) = q := by
  rw [Nat.gcd_mul_left, hc.gcd_eq_one, Nat.mul_one]
  exact ⟨Nat.mul_div_cancel_left _ hg, Nat.mul_div_cancel_left _ hg⟩
theorem split_gcd (a b : Nat) (h : 0 < a) : ∃ g x y, 0 < g ∧ a = g * x ∧ b = g * y ∧ x.Coprime y ∧ x = a / Nat.gcd a b ∧ y = b / Nat.gcd a b := by
  have hg : 0 < Nat.gcd a b := Nat.gcd_pos_of_pos_left _ h
  exact ⟨Nat.gcd a b, _, _, hg, (Nat.mul_div_cancel' (Nat.gcd_dvd_left a b)).symm, (Nat.mul_div_cancel' (Nat.gcd_dvd_right a b)).symm, Nat.coprime_div_gcd_div_gcd hg, rfl, rfl⟩
theorem red_prod (a b c d : Nat) (ha : 0 < a) (hb : 0 < b) (hc : 0 < c) (hd : 0 < d) (a1 b1 c1 d1 a2 b2 c2 d2 : Nat)
    (e1 : a1 = a / Nat.gcd a b) (e2 : b1 = b / Nat.gcd a b) (e3 : c1 = c / Nat.gcd c d) (e4 : d1 = d / Nat.gcd c d)
    (e5 : a2 = a1 / Nat.gcd a1 d1) (e6 : d2 = d1 / Nat.gcd a1 d1) (e7 : c2 = c1 / Nat.gcd c1 b1) (e8 : b2 = b1 / Nat.gcd c1 b1) :
    a * c / Nat.gcd (a * c) (b * d) = a2 * c2 ∧ b * d / Nat.gcd (a * c) (b * d) = b2 * d2 := by
  obtain ⟨g1, x1, y1, p1, q1, r1, s1, t1, u1⟩ := split_gcd a b ha
  rw [← e1] at t1; rw [← e2] at u1; subst t1; subst u1
  obtain ⟨g2, x2, y2, p2, q2, r2, s2, t2, u2⟩ := split_gcd c d hc
  rw [← e3] at t2; rw [← e4] at u2; subst t2; subst u2
  have pa : 0 < x1 := Nat.pos_of_ne_zero (fun h => by subst h; simp at q1; omega)
  have pc : 0 < x2 := Nat.pos_of_ne_zero (fun h => by subst h; simp at q2; omega)
  obtain ⟨g3, x3, y3, p3, q3, r3, s3, t3, u3⟩ := split_gcd x1 y2 pa
  rw [← e5] at t3; rw [← e6] at u3; subst t3; subst u3
  obtain ⟨g4, x4, y4, p4, q4, r4, s4, t4, u4⟩ := split_gcd x2 y1 pc
  rw [← e7] at t4; rw [← e8] at u4; subst t4; subst u4
  have k1 : a * c = (g1 * g2 * g3 * g4) * (x3 * x4) := by
    rw [q1, q2, q3, q4]; ac_rfl
  have k2 : b * d = (g1 * g2 * g3 * g4) * (y4 * y3) := by
    rw [r1, r2, r3, r4]; ac_rfl
  rw [k1, k2]
  refine red_uniq (Nat.mul_pos (Nat.mul_pos (Nat.mul_pos p1 p2) p3) p4) ?_
  have f1 : x3.Coprime y4 := Nat.Coprime.coprime_dvd_left ⟨g3, by rw [Nat.mul_comm]; exact q3⟩ (Nat.Coprime.coprime_dvd_right ⟨g4, by rw [Nat.mul_comm]; exact r4⟩ s1)
  have f2 : x4.Coprime y3 := Nat.Coprime.coprime_dvd_left ⟨g4, by rw [Nat.mul_comm]; exact q4⟩ (Nat.Coprime.coprime_dvd_right ⟨g3, by rw [Nat.mul_comm]; exact r3⟩ s2)
  exact Nat.Coprime.mul_left (Nat.Coprime.mul_right f1 s3) (Nat.Coprime.mul_right s4 f2)

theorem redN_nat {a b : Int} (ha : 1 ≤ a) (hb : 1 ≤ b) : redN a b = ((a.toNat / Nat.gcd a.toNat b.toNat : Nat) : Int) := by
  unfold redN gcdI
  rw [if_neg (by omega)]
  obtain ⟨x, rfl⟩ : ∃ x : Nat, a = x := ⟨a.toNat, by omega⟩
  rfl
theorem redD_nat {a b : Int} (ha : 1 ≤ a) (hb : 1 ≤ b) : redD a b = ((b.toNat / Nat.gcd a.toNat b.toNat : Nat) : Int) := by
  unfold redD gcdI
  rw [if_neg (by omega)]
  obtain ⟨x, rfl⟩ : ∃ x : Nat, b = x := ⟨b.toNat, by omega⟩
  rfl
theorem red_mul {a b c d : Int} (ha : 1 ≤ a) (hb : 1 ≤ b) (hc : 1 ≤ c) (hd : 1 ≤ d) : redN (a * c) (b * d) = pA a b c d * pC a b c d ∧ redD (a * c) (b * d) = pB a b c d * pD a b c d := by
  obtain ⟨x1, x2, x3, x4⟩ := red_bd ha hb
  obtain ⟨y1, y2, y3, y4⟩ := red_bd hc hd
  have k1 : 1 ≤ a * c := Int.mul_pos (by omega) (by omega)
  have k2 : 1 ≤ b * d := Int.mul_pos (by omega) (by omega)
  have h := red_prod a.toNat b.toNat c.toNat d.toNat (by omega) (by omega) (by omega) (by omega) (redN a b).toNat (redD a b).toNat (redN c d).toNat (redD c d).toNat (pA a b c d).toNat (pB a b c d).toNat (pC a b c d).toNat (pD a b c d).toNat
    (by rw [redN_nat ha hb]; rfl) (by rw [redD_nat ha hb]; rfl) (by rw [redN_nat hc hd]; rfl) (by rw [redD_nat hc hd]; rfl)
    (by unfold pA; rw [redN_nat x1 y3]; rfl) (by unfold pD; rw [redD_nat x1 y3]; rfl) (by unfold pC; rw [redN_nat y1 x3]; rfl) (by unfold pB; rw [redD_nat y1 x3]; rfl)
  obtain ⟨⟨a1, _⟩, ⟨b1, _⟩, ⟨c1, _⟩, ⟨d1, _⟩⟩ := p_bd ha hb hc hd
  rw [redN_nat k1 k2, redD_nat k1 k2, Int.toNat_mul (by omega) (by omega), Int.toNat_mul (by omega) (by omega), h.1, h.2]
  constructor
  · rw [Int.natCast_mul, Int.toNat_of_nonneg (by omega), Int.toNat_of_nonneg (by omega)]
  · rw [Int.natCast_mul, Int.toNat_of_nonneg (by omega), Int.toNat_of_nonneg (by omega)]

theorem tdiv_lt_iff' {m x y : Int} (hm : 0 ≤ m) (hy : 1 ≤ y) : m.tdiv y < x ↔ m < x * y := by
  rw [Int.tdiv_eq_ediv_of_nonneg hm]
  exact Int.ediv_lt_iff_lt_mul (by omega)

/-- The error of a rate with a markup. -/
def mkE (f t : ByteArray) (n d b : Int) : Int := if rchk f t n d ≠ 0 then rchk f t n d else if b < -9999 ∨ 100000 < b then 4 else prE n d (10000 + b) 10000
attribute [irreducible] mkE

theorem rate_Markup (f t : ByteArray) (n d b : Int) : Glob Tryd.prog glT 24 [.agg [.str f, .str t, .int .i64 n, .int .i64 d], .int .i64 b] (rT (mkE f t n d b) f t (pA n d (10000 + b) 10000 * pC n d (10000 + b) 10000) (pB n d (10000 + b) 10000 * pD n d (10000 + b) 10000)) := by
  have c1 := rate_Check f t n d
  refine fc_of mixed T_ok Tryd.func24 rfl (by kernel_rfl) (by kernel_rfl) (by kernel_rfl) ?_
  by_cases e1 : rchk f t n d = 0
  · rw [e1] at c1
    obtain ⟨_, _, _, b1, b2, b3, b4⟩ := rchk_ok e1
    by_cases e2 : b < -9999 ∨ 100000 < b
    · have he : mkE f t n d b = 4 := by unfold mkE; rw [if_neg (by omega), if_pos e2]
      rw [he, rT_err (by omega)]
      repeat' ((conv => whnf); first | (refine vcall_glob (c1) rfl rfl rfl rfl ?_) | (refine br_dec (fun h => ?_) (fun h => ?_) <;> try (exfalso; omega)) | (refine br_ndec (fun h => ?_) (fun h => ?_) <;> try (exfalso; omega)) | refine br_seq (fun h => ?_) (fun h => ?_) | refine br_nseq (fun h => ?_) (fun h => ?_) | refine br_not (fun h => ?_) (fun h => ?_) | refine br_intro (fun h => ?_) (fun h => ?_) | refine cond_intro rfl ?_ | (refine cond_intro ⟨rfl, ?_⟩ ?_; (first | omega | (dsimp only; omega) | decide)) | (refine cond_intro ?_ ?_; (first | omega | (dsimp only; omega) | decide | (simp only [Nat.add_zero, Int.toNat_natCast, *]; omega))))
      all_goals (conv => whnf)
      all_goals exact ret_pure rfl
    · have he : mkE f t n d b = prE n d (10000 + b) 10000 := by unfold mkE; rw [if_neg (by omega), if_neg e2]
      obtain ⟨r1, r2⟩ := red_mul b1 b3 (show 1 ≤ 10000 + b by omega) (show (1 : Int) ≤ 10000 by omega)
      obtain ⟨⟨a1, _⟩, ⟨k1, _⟩, ⟨m1, _⟩, ⟨o1, _⟩⟩ := p_bd b1 b3 (show 1 ≤ 10000 + b by omega) (show (1 : Int) ≤ 10000 by omega)
      have hm1 : n * (10000 + b) ≤ 1099511627776 * 110000 := Int.mul_le_mul b2 (by omega) (by omega) (by omega)
      have hm2 : 0 ≤ n * (10000 + b) := Int.mul_nonneg (by omega) (by omega)
      have w1 : IntKind.i64.wrap (n * IntKind.i64.wrap (10000 + b)) = n * (10000 + b) := by
        rw [w64_in (n := 10000 + b) (by omega) (by omega), w64_in (by omega) (by omega)]
      have w2 : IntKind.i64.wrap (d * 10000) = d * 10000 := w64_in (by omega) (by omega)
      have c2 := rate_Reduce (IntKind.i64.wrap (n * IntKind.i64.wrap (10000 + b))) (IntKind.i64.wrap (d * 10000)) (by rw [w1]; omega) (by rw [w2]; omega)
      rw [show redN (IntKind.i64.wrap (n * IntKind.i64.wrap (10000 + b))) (IntKind.i64.wrap (d * 10000)) = pA n d (10000 + b) 10000 * pC n d (10000 + b) 10000 from by rw [w1, w2, r1], show redD (IntKind.i64.wrap (n * IntKind.i64.wrap (10000 + b))) (IntKind.i64.wrap (d * 10000)) = pB n d (10000 + b) 10000 * pD n d (10000 + b) 10000 from by rw [w1, w2, r2]] at c2
      have hQ : prE n d (10000 + b) 10000 = if 1099511627776 < pA n d (10000 + b) 10000 * pC n d (10000 + b) 10000 ∨ 1099511627776 < pB n d (10000 + b) 10000 * pD n d (10000 + b) 10000 then 4 else 0 := by
        unfold prE; simp only [tdiv_lt_iff' (show (0 : Int) ≤ 1099511627776 by omega) m1, tdiv_lt_iff' (show (0 : Int) ≤ 1099511627776 by omega) o1]
      rw [he]
      generalize pA n d (10000 + b) 10000 * pC n d (10000 + b) 10000 = X at *
      generalize pB n d (10000 + b) 10000 * pD n d (10000 + b) 10000 = Y at *
      rw [hQ]
      by_cases hor : 1099511627776 < X ∨ 1099511627776 < Y
      · rw [if_pos hor, rT_err (by omega)]
        repeat' ((conv => whnf); first | (refine vcall_glob (c1) rfl rfl rfl rfl ?_) | (refine vcall_pure (c2) rfl rfl rfl ?_) | (refine br_dec (fun h => ?_) (fun h => ?_) <;> try (exfalso; omega)) | (refine br_ndec (fun h => ?_) (fun h => ?_) <;> try (exfalso; omega)) | refine br_seq (fun h => ?_) (fun h => ?_) | refine br_nseq (fun h => ?_) (fun h => ?_) | refine br_not (fun h => ?_) (fun h => ?_) | refine br_intro (fun h => ?_) (fun h => ?_) | refine cond_intro rfl ?_ | (refine cond_intro ⟨rfl, ?_⟩ ?_; (first | omega | (dsimp only; omega) | decide)) | (refine cond_intro ?_ ?_; (first | omega | (dsimp only; omega) | decide | (simp only [Nat.add_zero, Int.toNat_natCast, *]; omega))))
        all_goals (conv => whnf)
        all_goals exact ret_pure rfl
      · rw [if_neg hor, rT_ok]
        repeat' ((conv => whnf); first | (refine vcall_glob (c1) rfl rfl rfl rfl ?_) | (refine vcall_pure (c2) rfl rfl rfl ?_) | (refine br_dec (fun h => ?_) (fun h => ?_) <;> try (exfalso; omega)) | (refine br_ndec (fun h => ?_) (fun h => ?_) <;> try (exfalso; omega)) | refine br_seq (fun h => ?_) (fun h => ?_) | refine br_nseq (fun h => ?_) (fun h => ?_) | refine br_not (fun h => ?_) (fun h => ?_) | refine br_intro (fun h => ?_) (fun h => ?_) | refine cond_intro rfl ?_ | (refine cond_intro ⟨rfl, ?_⟩ ?_; (first | omega | (dsimp only; omega) | decide)) | (refine cond_intro ?_ ?_; (first | omega | (dsimp only; omega) | decide | (simp only [Nat.add_zero, Int.toNat_natCast, *]; omega))))
        all_goals (conv => whnf)
        all_goals exact ret_pure rfl
  · have he : mkE f t n d b = rchk f t n d := by unfold mkE; rw [if_pos e1]
    rw [he, rT_err e1]
    repeat' ((conv => whnf); first | (refine vcall_glob (c1) rfl rfl rfl rfl ?_) | (refine br_dec (fun h => ?_) (fun h => ?_) <;> try (exfalso; omega)) | (refine br_ndec (fun h => ?_) (fun h => ?_) <;> try (exfalso; omega)) | refine br_seq (fun h => ?_) (fun h => ?_) | refine br_nseq (fun h => ?_) (fun h => ?_) | refine br_not (fun h => ?_) (fun h => ?_) | refine br_intro (fun h => ?_) (fun h => ?_) | refine cond_intro rfl ?_ | (refine cond_intro ⟨rfl, ?_⟩ ?_; (first | omega | (dsimp only; omega) | decide)) | (refine cond_intro ?_ ?_; (first | omega | (dsimp only; omega) | decide | (simp only [Nat.add_zero, Int.toNat_natCast, *]; omega))))
    all_goals (conv => whnf)
    all_goals exact ret_pure rfl

theorem ref02_product (a b c d : Int) (ha : 1 ≤ a) (hb : 1 ≤ b) (hc : 1 ≤ c) (hd : 1 ≤ d) (ha' : a ≤ 1099511627776) (hb' : b ≤ 1099511627776) (hc' : c ≤ 1099511627776) (hd' : d ≤ 1099511627776) :
    Pure Tryd.prog 38 [.int .i64 a, .int .i64 b, .int .i64 c, .int .i64 d] (.tup [.int .i64 (orN (prE a b c d) (pA a b c d * pC a b c d)), .int .i64 (orN (prE a b c d) (pB a b c d * pD a b c d)), .bool (decide (prE a b c d = 0))]) := by
  obtain ⟨x1, x2, x3, x4⟩ := red_bd ha hb
  obtain ⟨y1, y2, y3, y4⟩ := red_bd hc hd
  have r1 := ref02_Reduce a b (by omega) (by omega)
  have r2 := ref02_Reduce c d (by omega) (by omega)
  have r3 := ref02_Reduce (redN a b) (redD c d) (by omega) (by omega)
  have r4 := ref02_Reduce (redN c d) (redD a b) (by omega) (by omega)
  obtain ⟨⟨a1, _⟩, ⟨k1, _⟩, ⟨m1, _⟩, ⟨o1, _⟩⟩ := p_bd ha hb hc hd
  rw [show redN (redN a b) (redD c d) = pA a b c d from by unfold pA; rfl, show redD (redN a b) (redD c d) = pD a b c d from by unfold pD; rfl] at r3
  rw [show redN (redN c d) (redD a b) = pC a b c d from by unfold pC; rfl, show redD (redN c d) (redD a b) = pB a b c d from by unfold pB; rfl] at r4
  have tb : ∀ x : Int, 1 ≤ x → IntKind.i64.wrap ((1099511627776 : Int).tdiv x) = (1099511627776 : Int).tdiv x := fun x hx => by
    have h1 := Int.tdiv_nonneg (a := 1099511627776) (b := x) (by omega) (by omega)
    have h2 := Int.tdiv_le_self (a := 1099511627776) x (by omega)
    rw [w64_in (by omega) (by omega)]
  have t1 := tb _ m1
  have t2 := tb _ o1
  have hP := prE_ok ha hb hc hd
  have hQ : prE a b c d = if (1099511627776 : Int).tdiv (pC a b c d) < pA a b c d ∨ (1099511627776 : Int).tdiv (pD a b c d) < pB a b c d then 4 else 0 := by unfold prE; rfl
  refine fc_of mixed T_ok Tryd.func38 rfl (by kernel_rfl) (by kernel_rfl) (by kernel_rfl) ?_
  by_cases hor : (1099511627776 : Int).tdiv (pC a b c d) < pA a b c d ∨ (1099511627776 : Int).tdiv (pD a b c d) < pB a b c d
  · rw [if_pos hor] at hQ
    rw [hQ]
    unfold orN
    rw [if_neg (by omega), if_neg (by omega), decide_eq_false (by omega)]
    repeat' ((conv => whnf); first | (refine vcall_pure (r1) rfl rfl rfl ?_) | (refine vcall_pure (r2) rfl rfl rfl ?_) | (refine vcall_pure (r3) rfl rfl rfl ?_) | (refine vcall_pure (r4) rfl rfl rfl ?_) | (refine br_dec (fun h => ?_) (fun h => ?_) <;> try (exfalso; omega)) | (refine br_ndec (fun h => ?_) (fun h => ?_) <;> try (exfalso; omega)) | refine br_seq (fun h => ?_) (fun h => ?_) | refine br_nseq (fun h => ?_) (fun h => ?_) | refine br_not (fun h => ?_) (fun h => ?_) | refine br_intro (fun h => ?_) (fun h => ?_) | refine cond_intro rfl ?_ | (refine cond_intro ⟨rfl, ?_⟩ ?_; (first | omega | (dsimp only; omega) | decide)) | (refine cond_intro ?_ ?_; (first | omega | (dsimp only; omega) | decide | (simp only [Nat.add_zero, Int.toNat_natCast, *]; omega))))
    all_goals (conv => whnf)
    all_goals first | exact ret_pure rfl | (exfalso; omega)
  · rw [if_neg hor] at hQ
    obtain ⟨q1, q2, q3, q4⟩ := hP hQ
    have s1 : pA a b c d * pC a b c d = IntKind.i64.wrap (pA a b c d * pC a b c d) := by rw [w64_in (by omega) (by omega)]
    have s2 : pB a b c d * pD a b c d = IntKind.i64.wrap (pB a b c d * pD a b c d) := by rw [w64_in (by omega) (by omega)]
    rw [hQ]
    unfold orN
    rw [if_pos rfl, if_pos rfl, decide_eq_true rfl, s1, s2]
    repeat' ((conv => whnf); first | (refine vcall_pure (r1) rfl rfl rfl ?_) | (refine vcall_pure (r2) rfl rfl rfl ?_) | (refine vcall_pure (r3) rfl rfl rfl ?_) | (refine vcall_pure (r4) rfl rfl rfl ?_) | (refine br_dec (fun h => ?_) (fun h => ?_) <;> try (exfalso; omega)) | (refine br_ndec (fun h => ?_) (fun h => ?_) <;> try (exfalso; omega)) | refine br_seq (fun h => ?_) (fun h => ?_) | refine br_nseq (fun h => ?_) (fun h => ?_) | refine br_not (fun h => ?_) (fun h => ?_) | refine br_intro (fun h => ?_) (fun h => ?_) | refine cond_intro rfl ?_ | (refine cond_intro ⟨rfl, ?_⟩ ?_; (first | omega | (dsimp only; omega) | decide)) | (refine cond_intro ?_ ?_; (first | omega | (dsimp only; omega) | decide | (simp only [Nat.add_zero, Int.toNat_natCast, *]; omega))))
    all_goals (conv => whnf)
    all_goals first | exact ret_pure rfl | (exfalso; omega)

theorem prE_dec {a b c d : Int} : prE a b c d = 0 ∨ prE a b c d = 4 := by rcases prE_or a b c d with h | h <;> simp [h]

theorem ref02_Cross (f t : ByteArray) (n d : Int) (f' t' : ByteArray) (n' d' : Int) (hf : f.size ≤ 9223372036854775000) (ht : t.size ≤ 9223372036854775000) (hf' : f'.size ≤ 9223372036854775000) (ht' : t'.size ≤ 9223372036854775000) :
    Pure Tryd.prog 23 [.agg [.str f, .str t, .int .i64 n, .int .i64 d], .agg [.str f', .str t', .int .i64 n', .int .i64 d']] (rT (crE f t n d f' t' n' d') f t' (pA n d n' d' * pC n d n' d') (pB n d n' d' * pD n d n' d')) := by
  have c1 := ref02_Check f t n d hf ht
  have c2 := ref02_Check f' t' n' d' hf' ht'
  refine fc_of mixed T_ok Tryd.func23 rfl (by kernel_rfl) (by kernel_rfl) (by kernel_rfl) ?_
  by_cases e1 : rchk f t n d = 0
  · rw [e1] at c1
    by_cases e2 : rchk f' t' n' d' = 0
    · rw [e2] at c2
      by_cases e3 : t ≠ f' ∨ f = t'
      · have he : crE f t n d f' t' n' d' = 11 := by unfold crE; rw [if_neg (by omega), if_neg (by omega), if_pos e3]
        rw [he, rT_err (by omega)]
        repeat' ((conv => whnf); first | (refine vcall_pure (c1) rfl rfl rfl ?_) | (refine vcall_pure (c2) rfl rfl rfl ?_) | (refine br_dec (fun h => ?_) (fun h => ?_) <;> try (exfalso; omega)) | (refine br_ndec (fun h => ?_) (fun h => ?_) <;> try (exfalso; omega)) | refine br_seq (fun h => ?_) (fun h => ?_) | refine br_nseq (fun h => ?_) (fun h => ?_) | refine br_not (fun h => ?_) (fun h => ?_) | refine br_intro (fun h => ?_) (fun h => ?_) | refine cond_intro rfl ?_ | (refine cond_intro ⟨rfl, ?_⟩ ?_; (first | omega | (dsimp only; omega) | decide)) | (refine cond_intro ?_ ?_; (first | omega | (dsimp only; omega) | decide | (simp only [Nat.add_zero, Int.toNat_natCast, *]; omega))))
        all_goals (conv => whnf)
        all_goals first | exact ret_pure rfl | (exfalso; simp_all; done)
      · obtain ⟨_, _, _, b1, b2, b3, b4⟩ := rchk_ok e1
        obtain ⟨_, _, _, b1', b2', b3', b4'⟩ := rchk_ok e2
        have he : crE f t n d f' t' n' d' = prE n d n' d' := by unfold crE; rw [if_neg (by omega), if_neg (by omega), if_neg e3]
        have c3 := ref02_product n d n' d' b1 b3 b1' b3' b2 b4 b2' b4'
        rw [he]
        rcases prE_dec (a := n) (b := d) (c := n') (d := d') with hp | hp
        · rw [hp, rT_ok]
          rw [hp, decide_eq_true rfl] at c3
          unfold orN at c3
          rw [if_pos rfl, if_pos rfl] at c3
          repeat' ((conv => whnf); first | (refine vcall_pure (c1) rfl rfl rfl ?_) | (refine vcall_pure (c2) rfl rfl rfl ?_) | (refine vcall_pure (c3) rfl rfl rfl ?_) | (refine br_nseq (fun h => ?_) (fun h => ?_) <;> try (exfalso; exact e3 (.inl h))) | (refine br_seq (fun h => ?_) (fun h => ?_) <;> try (exfalso; exact e3 (.inr h))) | (refine br_dec (fun h => ?_) (fun h => ?_) <;> try (exfalso; omega)) | (refine br_ndec (fun h => ?_) (fun h => ?_) <;> try (exfalso; omega)) | refine br_seq (fun h => ?_) (fun h => ?_) | refine br_nseq (fun h => ?_) (fun h => ?_) | refine br_not (fun h => ?_) (fun h => ?_) | refine br_intro (fun h => ?_) (fun h => ?_) | refine cond_intro rfl ?_ | (refine cond_intro ⟨rfl, ?_⟩ ?_; (first | omega | (dsimp only; omega) | decide)) | (refine cond_intro ?_ ?_; (first | omega | (dsimp only; omega) | decide | (simp only [Nat.add_zero, Int.toNat_natCast, *]; omega))))
          all_goals (conv => whnf)
          all_goals exact ret_pure rfl
        · rw [hp, rT_err (by omega)]
          rw [hp, decide_eq_false (by omega)] at c3
          repeat' ((conv => whnf); first | (refine vcall_pure (c1) rfl rfl rfl ?_) | (refine vcall_pure (c2) rfl rfl rfl ?_) | (refine vcall_pure (c3) rfl rfl rfl ?_) | (refine br_nseq (fun h => ?_) (fun h => ?_) <;> try (exfalso; exact e3 (.inl h))) | (refine br_seq (fun h => ?_) (fun h => ?_) <;> try (exfalso; exact e3 (.inr h))) | (refine br_dec (fun h => ?_) (fun h => ?_) <;> try (exfalso; omega)) | (refine br_ndec (fun h => ?_) (fun h => ?_) <;> try (exfalso; omega)) | refine br_seq (fun h => ?_) (fun h => ?_) | refine br_nseq (fun h => ?_) (fun h => ?_) | refine br_not (fun h => ?_) (fun h => ?_) | refine br_intro (fun h => ?_) (fun h => ?_) | refine cond_intro rfl ?_ | (refine cond_intro ⟨rfl, ?_⟩ ?_; (first | omega | (dsimp only; omega) | decide)) | (refine cond_intro ?_ ?_; (first | omega | (dsimp only; omega) | decide | (simp only [Nat.add_zero, Int.toNat_natCast, *]; omega))))
          all_goals (conv => whnf)
          all_goals exact ret_pure rfl
    · have he : crE f t n d f' t' n' d' = rchk f' t' n' d' := by unfold crE; rw [if_neg (by omega), if_pos e2]
      rw [he, rT_err e2]
      repeat' ((conv => whnf); first | (refine vcall_pure (c1) rfl rfl rfl ?_) | (refine vcall_pure (c2) rfl rfl rfl ?_) | (refine br_dec (fun h => ?_) (fun h => ?_) <;> try (exfalso; omega)) | (refine br_ndec (fun h => ?_) (fun h => ?_) <;> try (exfalso; omega)) | refine br_seq (fun h => ?_) (fun h => ?_) | refine br_nseq (fun h => ?_) (fun h => ?_) | refine br_not (fun h => ?_) (fun h => ?_) | refine br_intro (fun h => ?_) (fun h => ?_) | refine cond_intro rfl ?_ | (refine cond_intro ⟨rfl, ?_⟩ ?_; (first | omega | (dsimp only; omega) | decide)) | (refine cond_intro ?_ ?_; (first | omega | (dsimp only; omega) | decide | (simp only [Nat.add_zero, Int.toNat_natCast, *]; omega))))
      all_goals (conv => whnf)
      all_goals exact ret_pure rfl
  · have he : crE f t n d f' t' n' d' = rchk f t n d := by unfold crE; rw [if_pos e1]
    rw [he, rT_err e1]
    repeat' ((conv => whnf); first | (refine vcall_pure (c1) rfl rfl rfl ?_) | (refine vcall_pure (c2) rfl rfl rfl ?_) | (refine br_dec (fun h => ?_) (fun h => ?_) <;> try (exfalso; omega)) | (refine br_ndec (fun h => ?_) (fun h => ?_) <;> try (exfalso; omega)) | refine br_seq (fun h => ?_) (fun h => ?_) | refine br_nseq (fun h => ?_) (fun h => ?_) | refine br_not (fun h => ?_) (fun h => ?_) | refine br_intro (fun h => ?_) (fun h => ?_) | refine cond_intro rfl ?_ | (refine cond_intro ⟨rfl, ?_⟩ ?_; (first | omega | (dsimp only; omega) | decide)) | (refine cond_intro ?_ ?_; (first | omega | (dsimp only; omega) | decide | (simp only [Nat.add_zero, Int.toNat_natCast, *]; omega))))
    all_goals (conv => whnf)
    all_goals exact ret_pure rfl

theorem ref02_Markup (f t : ByteArray) (n d b : Int) (hf : f.size ≤ 9223372036854775000) (ht : t.size ≤ 9223372036854775000) : Pure Tryd.prog 25 [.agg [.str f, .str t, .int .i64 n, .int .i64 d], .int .i64 b] (rT (mkE f t n d b) f t (pA n d (10000 + b) 10000 * pC n d (10000 + b) 10000) (pB n d (10000 + b) 10000 * pD n d (10000 + b) 10000)) := by
  have c1 := ref02_Check f t n d hf ht
  refine fc_of mixed T_ok Tryd.func25 rfl (by kernel_rfl) (by kernel_rfl) (by kernel_rfl) ?_
  by_cases e1 : rchk f t n d = 0
  · rw [e1] at c1
    obtain ⟨_, _, _, b1, b2, b3, b4⟩ := rchk_ok e1
    by_cases e2 : b < -9999 ∨ 100000 < b
    · have he : mkE f t n d b = 4 := by unfold mkE; rw [if_neg (by omega), if_pos e2]
      rw [he, rT_err (by omega)]
      repeat' ((conv => whnf); first | (refine vcall_pure (c1) rfl rfl rfl ?_) | (refine br_dec (fun h => ?_) (fun h => ?_) <;> try (exfalso; omega)) | (refine br_ndec (fun h => ?_) (fun h => ?_) <;> try (exfalso; omega)) | refine br_seq (fun h => ?_) (fun h => ?_) | refine br_nseq (fun h => ?_) (fun h => ?_) | refine br_not (fun h => ?_) (fun h => ?_) | refine br_intro (fun h => ?_) (fun h => ?_) | refine cond_intro rfl ?_ | (refine cond_intro ⟨rfl, ?_⟩ ?_; (first | omega | (dsimp only; omega) | decide)) | (refine cond_intro ?_ ?_; (first | omega | (dsimp only; omega) | decide | (simp only [Nat.add_zero, Int.toNat_natCast, *]; omega))))
      all_goals (conv => whnf)
      all_goals exact ret_pure rfl
    · have he : mkE f t n d b = prE n d (10000 + b) 10000 := by unfold mkE; rw [if_neg (by omega), if_neg e2]
      have w1 : IntKind.i64.wrap (10000 + b) = 10000 + b := w64_in (by omega) (by omega)
      have c3 := ref02_product n d (IntKind.i64.wrap (10000 + b)) 10000 b1 b3 (by omega) (by omega) b2 b4 (by omega) (by omega)
      rw [show prE n d (IntKind.i64.wrap (10000 + b)) 10000 = prE n d (10000 + b) 10000 from by rw [w1], show pA n d (IntKind.i64.wrap (10000 + b)) 10000 = pA n d (10000 + b) 10000 from by rw [w1], show pB n d (IntKind.i64.wrap (10000 + b)) 10000 = pB n d (10000 + b) 10000 from by rw [w1], show pC n d (IntKind.i64.wrap (10000 + b)) 10000 = pC n d (10000 + b) 10000 from by rw [w1], show pD n d (IntKind.i64.wrap (10000 + b)) 10000 = pD n d (10000 + b) 10000 from by rw [w1]] at c3
      rw [he]
      rcases prE_dec (a := n) (b := d) (c := 10000 + b) (d := 10000) with hp | hp
      · rw [hp, rT_ok]
        rw [hp, decide_eq_true rfl] at c3
        unfold orN at c3
        rw [if_pos rfl, if_pos rfl] at c3
        repeat' ((conv => whnf); first | (refine vcall_pure (c1) rfl rfl rfl ?_) | (refine vcall_pure (c3) rfl rfl rfl ?_) | (refine br_dec (fun h => ?_) (fun h => ?_) <;> try (exfalso; omega)) | (refine br_ndec (fun h => ?_) (fun h => ?_) <;> try (exfalso; omega)) | refine br_seq (fun h => ?_) (fun h => ?_) | refine br_nseq (fun h => ?_) (fun h => ?_) | refine br_not (fun h => ?_) (fun h => ?_) | refine br_intro (fun h => ?_) (fun h => ?_) | refine cond_intro rfl ?_ | (refine cond_intro ⟨rfl, ?_⟩ ?_; (first | omega | (dsimp only; omega) | decide)) | (refine cond_intro ?_ ?_; (first | omega | (dsimp only; omega) | decide | (simp only [Nat.add_zero, Int.toNat_natCast, *]; omega))))
        all_goals (conv => whnf)
        all_goals exact ret_pure rfl
      · rw [hp, rT_err (by omega)]
        rw [hp, decide_eq_false (by omega)] at c3
        repeat' ((conv => whnf); first | (refine vcall_pure (c1) rfl rfl rfl ?_) | (refine vcall_pure (c3) rfl rfl rfl ?_) | (refine br_dec (fun h => ?_) (fun h => ?_) <;> try (exfalso; omega)) | (refine br_ndec (fun h => ?_) (fun h => ?_) <;> try (exfalso; omega)) | refine br_seq (fun h => ?_) (fun h => ?_) | refine br_nseq (fun h => ?_) (fun h => ?_) | refine br_not (fun h => ?_) (fun h => ?_) | refine br_intro (fun h => ?_) (fun h => ?_) | refine cond_intro rfl ?_ | (refine cond_intro ⟨rfl, ?_⟩ ?_; (first | omega | (dsimp only; omega) | decide)) | (refine cond_intro ?_ ?_; (first | omega | (dsimp only; omega) | decide | (simp only [Nat.add_zero, Int.toNat_natCast, *]; omega))))
        all_goals (conv => whnf)
        all_goals exact ret_pure rfl
  · have he : mkE f t n d b = rchk f t n d := by unfold mkE; rw [if_pos e1]
    rw [he, rT_err e1]
    repeat' ((conv => whnf); first | (refine vcall_pure (c1) rfl rfl rfl ?_) | (refine br_dec (fun h => ?_) (fun h => ?_) <;> try (exfalso; omega)) | (refine br_ndec (fun h => ?_) (fun h => ?_) <;> try (exfalso; omega)) | refine br_seq (fun h => ?_) (fun h => ?_) | refine br_nseq (fun h => ?_) (fun h => ?_) | refine br_not (fun h => ?_) (fun h => ?_) | refine br_intro (fun h => ?_) (fun h => ?_) | refine cond_intro rfl ?_ | (refine cond_intro ⟨rfl, ?_⟩ ?_; (first | omega | (dsimp only; omega) | decide)) | (refine cond_intro ?_ ?_; (first | omega | (dsimp only; omega) | decide | (simp only [Nat.add_zero, Int.toNat_natCast, *]; omega))))
    all_goals (conv => whnf)
    all_goals exact ret_pure rfl

theorem rateMakes_fc (x0_0 : ByteArray) (hx0_0 : x0_0.size ≤ maxLen) (x0_1 : ByteArray) (hx0_1 : x0_1.size ≤ maxLen) (x0_2 : Int) (hx0_2 : (Lit.int .i64 x0_2).wf = true) (x0_3 : Int) (hx0_3 : (Lit.int .i64 x0_3).wf = true) (x1_0 : ByteArray) (hx1_0 : x1_0.size ≤ maxLen) (x1_1 : ByteArray) (hx1_1 : x1_1.size ≤ maxLen) (x1_2 : Int) (hx1_2 : (Lit.int .i64 x1_2).wf = true) (x1_3 : Int) (hx1_3 : (Lit.int .i64 x1_3).wf = true) (n2 : Int) (hw2 : (Lit.int .i64 n2).wf = true) :
    FC Tryd.prog 1 6 [.agg [.str x0_0, .str x0_1, .int .i64 x0_2, .int .i64 x0_3], .agg [.str x1_0, .str x1_1, .int .i64 x1_2, .int .i64 x1_3], .int .i64 n2] [(0, some (GB glT))] (isOut (.bool true) [] 1) := by
  have a1 := law_small x0_0 x0_1 x0_2 x0_3
  have a2 := law_small x1_0 x1_1 x1_2 x1_3
  have c1 := rate_Inverse x0_0 x0_1 x0_2 x0_3
  have c2 := fun h1 h2 => ref02_Inverse x0_0 x0_1 x0_2 x0_3 h1 h2
  have c3 := rate_Cross x0_0 x0_1 x0_2 x0_3 x1_0 x1_1 x1_2 x1_3
  have c4 := fun h1 h2 h3 h4 => ref02_Cross x0_0 x0_1 x0_2 x0_3 x1_0 x1_1 x1_2 x1_3 h1 h2 h3 h4
  have c5 := rate_Markup x0_0 x0_1 x0_2 x0_3 n2
  have c6 := fun h1 h2 => ref02_Markup x0_0 x0_1 x0_2 x0_3 n2 h1 h2
  have c7 := law_awake
  refine fc_of mixed T_ok Tryd.func6 rfl (by kernel_rfl) (by kernel_rfl) (by kernel_rfl) ?_
  by_cases hs : (x0_0.size ≤ 20 ∧ x0_1.size ≤ 20) ∧ (x1_0.size ≤ 20 ∧ x1_1.size ≤ 20)
  · have d2 := c2 (by omega) (by omega)
    have d4 := c4 (by omega) (by omega) (by omega) (by omega)
    have d6 := c6 (by omega) (by omega)
    clear c2 c4 c6
    repeat' ((conv => whnf); first | (refine vcall_pure (a1) rfl rfl rfl ?_) | (refine vcallD_pure (a1) rfl rfl rfl ?_) | (refine vcall_pure (a2) rfl rfl rfl ?_) | (refine vcallD_pure (a2) rfl rfl rfl ?_) | (refine vcall_glob (c1) rfl rfl rfl rfl ?_) | (refine vcallD_glob (c1) rfl rfl rfl rfl ?_) | (refine vcall_pure (d2) rfl rfl rfl ?_) | (refine vcallD_pure (d2) rfl rfl rfl ?_) | (refine vcall_glob (c3) rfl rfl rfl rfl ?_) | (refine vcallD_glob (c3) rfl rfl rfl rfl ?_) | (refine vcall_pure (d4) rfl rfl rfl ?_) | (refine vcallD_pure (d4) rfl rfl rfl ?_) | (refine vcall_glob (c5) rfl rfl rfl rfl ?_) | (refine vcallD_glob (c5) rfl rfl rfl rfl ?_) | (refine vcall_pure (d6) rfl rfl rfl ?_) | (refine vcallD_pure (d6) rfl rfl rfl ?_) | (refine vcall_glob (c7) rfl rfl rfl rfl ?_) | (refine vcallD_glob (c7) rfl rfl rfl rfl ?_) | (refine br_dec (fun h => ?_) (fun h => ?_) <;> try (exfalso; omega)) | (refine br_ndec (fun h => ?_) (fun h => ?_) <;> try (exfalso; omega)) | refine br_seq (fun h => ?_) (fun h => ?_) | refine br_nseq (fun h => ?_) (fun h => ?_) | refine br_not (fun h => ?_) (fun h => ?_) | refine br_intro (fun h => ?_) (fun h => ?_) | refine cond_intro rfl ?_ | (refine cond_intro ⟨rfl, ?_⟩ ?_; (first | omega | (dsimp only; omega) | decide)) | (refine cond_intro ?_ ?_; (first | omega | (dsimp only; omega) | decide | (simp only [Nat.add_zero, Int.toNat_natCast, *]; omega))))
    all_goals (conv => whnf)
    all_goals first | exact ret_pure rfl | (exfalso; clear c1 d2 c3 d4 c5 d6 c7 a1 a2; simp_all [seq]; done)
  · clear c2 c4 c6
    repeat' ((conv => whnf); first | (refine vcall_pure (a1) rfl rfl rfl ?_) | (refine vcallD_pure (a1) rfl rfl rfl ?_) | (refine vcall_pure (a2) rfl rfl rfl ?_) | (refine vcallD_pure (a2) rfl rfl rfl ?_) | (refine vcall_glob (c7) rfl rfl rfl rfl ?_) | (refine vcallD_glob (c7) rfl rfl rfl rfl ?_) | (refine br_dec (fun h => ?_) (fun h => ?_) <;> try (exfalso; omega)) | (refine br_ndec (fun h => ?_) (fun h => ?_) <;> try (exfalso; omega)) | refine br_seq (fun h => ?_) (fun h => ?_) | refine br_nseq (fun h => ?_) (fun h => ?_) | refine br_not (fun h => ?_) (fun h => ?_) | refine br_intro (fun h => ?_) (fun h => ?_) | refine cond_intro rfl ?_ | (refine cond_intro ⟨rfl, ?_⟩ ?_; (first | omega | (dsimp only; omega) | decide)) | (refine cond_intro ?_ ?_; (first | omega | (dsimp only; omega) | decide | (simp only [Nat.add_zero, Int.toNat_natCast, *]; omega))))
    all_goals (conv => whnf)
    all_goals first | exact ret_pure rfl | (exfalso; omega)
end Go.Proofs.YtpmgaanpbbplbaaDoor
