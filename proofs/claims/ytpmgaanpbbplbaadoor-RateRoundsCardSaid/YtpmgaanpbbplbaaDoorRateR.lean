/- The law on rounding. -/
import Derived.Test.YtpmgaanpbbplbaaDoorRateF
namespace Go.Proofs.YtpmgaanpbbplbaaDoor
open Go.RowKit Go.Sy
attribute [local irreducible] vcall vloop vcallD retP
set_option maxRecDepth 100000
set_option linter.unusedVariables false
set_option linter.unusedSimpArgs false

theorem law_abs (n : Int) (h1 : -9223372036854775807 ≤ n) (h2 : n ≤ 9223372036854775807) : Pure Tryd.prog 19 [.int .i64 n] (.int .i64 (n.natAbs : Int)) := by
  refine fc_of mixed T_ok Tryd.func19 rfl (by kernel_rfl) (by kernel_rfl) (by kernel_rfl) ?_
  repeat' ((conv => whnf); first | (refine br_dec (fun h => ?_) (fun h => ?_) <;> try (exfalso; omega)) | (refine br_ndec (fun h => ?_) (fun h => ?_) <;> try (exfalso; omega)) | refine br_seq (fun h => ?_) (fun h => ?_) | refine br_nseq (fun h => ?_) (fun h => ?_) | refine br_not (fun h => ?_) (fun h => ?_) | refine br_intro (fun h => ?_) (fun h => ?_) | refine cond_intro rfl ?_ | (refine cond_intro ⟨rfl, ?_⟩ ?_; (first | omega | (dsimp only; omega) | decide)) | (refine cond_intro ?_ ?_; (first | omega | (dsimp only; omega) | decide | (simp only [Nat.add_zero, Int.toNat_natCast, *]; omega))))
  all_goals (conv => whnf)
  · exact ret_pure (congrArg (SV.int .i64) (by rw [w64_in (by omega) (by omega)]; omega))
  · exact ret_pure (congrArg (SV.int .i64) (by omega))

theorem cvE_ok {a : Int} {c f t : ByteArray} {n d mode : Int} (h : cvE a c f t n d mode = 0) : mchk a c = 0 ∧ rchk f t n d = 0 ∧ c = f ∧ sclE a c n d mode = 0 := by
  unfold cvE at h
  split at h
  · omega
  · split at h
    · omega
    · split at h
      · omega
      · rename_i h1 h2 h3
        exact ⟨by omega, by omega, by simpa using h3, h⟩
theorem cvE_mk {a : Int} {c f t : ByteArray} {n d mode : Int} (h1 : mchk a c = 0) (h2 : rchk f t n d = 0) (h3 : c = f) (h4 : sclE a c n d mode = 0) : cvE a c f t n d mode = 0 := by
  unfold cvE; rw [if_neg (by omega), if_neg (by omega), if_neg (by simp [h3]), h4]
theorem sclE_ok {a : Int} {c : ByteArray} {n d mode : Int} (h : sclE a c n d mode = 0) : 1 ≤ mode ∧ mode ≤ 4 ∧ sclN a n d mode ≤ 4503599627370496 := by
  unfold sclE at h
  split at h
  · omega
  · split at h
    · omega
    · split at h
      · omega
      · omega
theorem sclE_mk {a : Int} {c : ByteArray} {n d mode : Int} (h1 : mchk a c = 0) (h2 : ¬ (d < 1 ∨ 1099511627776 < d ∨ n < -1099511627776 ∨ 1099511627776 < n ∨ mode < 1 ∨ 4 < mode)) (h3 : sclN a n d mode ≤ 4503599627370496) : sclE a c n d mode = 0 := by
  unfold sclE; rw [if_neg (by omega), if_neg h2, if_neg (by omega)]
theorem mchk_mk {a : Int} {c : ByteArray} (h1 : curB c = true) (h2 : -4503599627370496 ≤ a) (h3 : a ≤ 4503599627370496) : mchk a c = 0 := by
  unfold mchk; rw [if_neg (by simp [h1]), if_pos ⟨h2, h3⟩]

/-- What rounding does: Q D + R is the exact magnitude. -/
theorem rnd_cases (Q R D : Nat) (mode : Int) (hR : R < D) (h1 : 1 ≤ mode) (h4 : mode ≤ 4) :
    (rnd Q R D mode = Q ∧ (mode = 2 → R = 0) ∧ (3 ≤ mode → 2 * R ≤ D)) ∨ (rnd Q R D mode = Q + 1 ∧ mode ≠ 1 ∧ (mode = 2 → 0 < R) ∧ (3 ≤ mode → D ≤ 2 * R)) := by
  unfold rnd
  split
  · right; refine ⟨rfl, ?_, ?_, ?_⟩ <;> omega
  · left; refine ⟨rfl, ?_, ?_⟩ <;> omega
theorem rnd_zero (Q D : Nat) (mode : Int) (hD : 1 ≤ D) : rnd Q 0 D mode = Q := by
  unfold rnd; rw [if_neg (by omega)]

/-- The amount that is made, over the divisor, against the exact one. -/
theorem scl_facts {a n d mode : Int} (hn : 1 ≤ n) (hd : 1 ≤ d) (h1 : 1 ≤ mode) (h4 : mode ≤ 4) :
    ∃ N R : Nat, R < d.toNat ∧ sclN a n d mode = N ∧ (sclA a n d mode = if a < 0 then -(N : Int) else (N : Int)) ∧
      (((N : Int) * d + R = (a.natAbs : Int) * n ∧ (mode = 2 → R = 0) ∧ (3 ≤ mode → 2 * (R : Int) ≤ d)) ∨ ((N : Int) * d + R = (a.natAbs : Int) * n + d ∧ mode ≠ 1 ∧ (mode = 2 → 0 < R) ∧ (3 ≤ mode → d ≤ 2 * (R : Int)))) := by
  have hR : sclR a n d < d.toNat := by unfold sclR; exact Nat.mod_lt _ (by omega)
  have hdm := Nat.div_add_mod (a.natAbs * n.natAbs) d.toNat
  have hQ : d.toNat * sclQ a n d + sclR a n d = a.natAbs * n.natAbs := by unfold sclQ sclR; exact hdm
  have hz : (d.toNat : Int) = d := by omega
  have hz2 : (n.natAbs : Int) = n := by omega
  have hQ' : d * (sclQ a n d : Int) + (sclR a n d : Int) = (a.natAbs : Int) * n := by
    have := congrArg (fun x : Nat => (x : Int)) hQ
    simp only [Int.natCast_add, Int.natCast_mul, hz, hz2] at this
    exact this
  refine ⟨sclN a n d mode, sclR a n d, hR, rfl, ?_, ?_⟩
  · unfold sclA
    by_cases ha : a < 0
    · rw [if_pos ha, if_neg (by rw [decide_eq_true ha, decide_eq_false (by omega)]; simp)]
    · rw [if_neg ha, if_pos (by rw [decide_eq_false ha, decide_eq_false (by omega)])]
  · have e : sclN a n d mode = rnd (sclQ a n d) (sclR a n d) d.toNat mode := by unfold sclN; rfl
    rcases rnd_cases (sclQ a n d) (sclR a n d) d.toNat mode hR h1 h4 with ⟨k1, k2, k3⟩ | ⟨k1, k2, k3, k4⟩
    · left
      rw [e, k1, Int.mul_comm]
      exact ⟨hQ', k2, fun h => by have := k3 h; omega⟩
    · right
      rw [e, k1, Int.natCast_add, Int.add_mul, Int.mul_comm (sclQ a n d : Int)]
      refine ⟨by omega, k2, k3, fun h => by have := k4 h; omega⟩

/-- Back by the inverse rate: exact amounts come back. -/
theorem back_facts {a n d mode : Int} {N : Nat} (hn : 1 ≤ n) (hd : 1 ≤ d) (hN : (N : Int) * d = (a.natAbs : Int) * n) (x : Int) (hx : x.natAbs = N) :
    sclN x (redN d n) (redD d n) mode = a.natAbs := by
  have h1 : (redN d n).natAbs = d.toNat / Nat.gcd d.toNat n.toNat := by rw [redN_nat hd hn]; rfl
  have h2 : (redD d n).toNat = n.toNat / Nat.gcd d.toNat n.toNat := by rw [redD_nat hd hn]; rfl
  obtain ⟨g, p, q, hg, e1, e2, _, e3, e4⟩ := split_gcd d.toNat n.toNat (by omega)
  rw [← e3] at h1
  rw [← e4] at h2
  have hq : 1 ≤ q := by
    rcases Nat.eq_zero_or_pos q with h | h
    · subst h; simp at e2; omega
    · exact h
  have hz : N * d.toNat = a.natAbs * n.toNat := by
    have : ((N * d.toNat : Nat) : Int) = ((a.natAbs * n.toNat : Nat) : Int) := by
      rw [Int.natCast_mul, Int.natCast_mul, Int.toNat_of_nonneg (by omega), Int.toNat_of_nonneg (by omega)]; exact hN
    exact Int.ofNat_inj.1 this
  rw [e1, e2, Nat.mul_left_comm, Nat.mul_left_comm _ g] at hz
  have hz' : N * p = a.natAbs * q := Nat.eq_of_mul_eq_mul_left hg hz
  have k1 : sclQ x (redN d n) (redD d n) = a.natAbs := by
    unfold sclQ; rw [h1, h2, hx, hz', Nat.mul_div_cancel _ (by omega)]
  have k2 : sclR x (redN d n) (redD d n) = 0 := by
    unfold sclR; rw [h1, h2, hx, hz', Nat.mul_mod_left]
  unfold sclN
  rw [k1, k2, h2, rnd_zero _ _ _ hq]

set_option maxHeartbeats 2000000 in
theorem rateRounds_fc (x0_0 : Int) (hx0_0 : (Lit.int .i64 x0_0).wf = true) (x0_1 : ByteArray) (hx0_1 : x0_1.size ≤ maxLen) (x1_0 : ByteArray) (hx1_0 : x1_0.size ≤ maxLen) (x1_1 : ByteArray) (hx1_1 : x1_1.size ≤ maxLen) (x1_2 : Int) (hx1_2 : (Lit.int .i64 x1_2).wf = true) (x1_3 : Int) (hx1_3 : (Lit.int .i64 x1_3).wf = true) (n2 : Int) (hw2 : (Lit.int .i64 n2).wf = true) :
    FC Tryd.prog 1 5 [.agg [.int .i64 x0_0, .str x0_1], .agg [.str x1_0, .str x1_1, .int .i64 x1_2, .int .i64 x1_3], .int .i64 n2] [(0, some (GB glT))] (isOut (.bool true) [] 1) := by
  have w2 := wf_i64 hx1_2
  have a1 := law_small x1_0 x1_1 x1_2 x1_3
  have c1 := rate_Convert x0_0 x0_1 x1_0 x1_1 x1_2 x1_3 n2 w2.1 w2.2
  have c7 := law_awake
  refine fc_of mixed T_ok Tryd.func5 rfl (by kernel_rfl) (by kernel_rfl) (by kernel_rfl) ?_
  by_cases hg : x0_0 < -1048576 ∨ 1048576 < x0_0 ∨ 1048576 < x1_2 ∨ 1048576 < x1_3 ∨ ¬ (x1_0.size ≤ 20 ∧ x1_1.size ≤ 20) ∨ 20 < x0_1.size
  · repeat' ((conv => whnf); first | (refine vcall_pure (a1) rfl rfl rfl ?_) | (refine vcall_glob (c7) rfl rfl rfl rfl ?_) | (refine br_dec (fun h => ?_) (fun h => ?_) <;> try (exfalso; omega)) | (refine br_ndec (fun h => ?_) (fun h => ?_) <;> try (exfalso; omega)) | refine br_seq (fun h => ?_) (fun h => ?_) | refine br_nseq (fun h => ?_) (fun h => ?_) | refine br_not (fun h => ?_) (fun h => ?_) | refine br_intro (fun h => ?_) (fun h => ?_) | refine cond_intro rfl ?_ | (refine cond_intro ⟨rfl, ?_⟩ ?_; (first | omega | (dsimp only; omega) | decide)) | (refine cond_intro ?_ ?_; (first | omega | (dsimp only; omega) | decide | (simp only [Nat.add_zero, Int.toNat_natCast, *]; omega))))
    all_goals (conv => whnf)
    all_goals first | exact ret_pure rfl | (exfalso; omega)
  · by_cases he : cvE x0_0 x0_1 x1_0 x1_1 x1_2 x1_3 n2 = 0
    · rw [cvT_ok he] at c1
      obtain ⟨k1, k2, k3, k4⟩ := cvE_ok he
      obtain ⟨m1, m2, m3⟩ := sclE_ok k4
      obtain ⟨r1, r2, r3, r4, r5, r6, r7⟩ := rchk_ok k2
      obtain ⟨N, R, hR, hN, hA, hor⟩ := scl_facts (a := x0_0) r4 r6 m1 m2
      have cI := rate_Inverse x1_0 x1_1 x1_2 x1_3
      rw [k2, rT_ok] at cI
      rw [hN] at m3
      subst k3
      have mk := mchk_or x0_0 x0_1
      obtain ⟨T, hT⟩ : ∃ T : Int, T = (x0_0.natAbs : Int) * x1_2 := ⟨_, rfl⟩
      obtain ⟨U, hU⟩ : ∃ U : Int, U = (N : Int) * x1_3 := ⟨_, rfl⟩
      rw [← hT, ← hU] at hor
      have bT : T ≤ 1048576 * 1048576 := by rw [hT]; exact Int.mul_le_mul (by omega) (by omega) (by omega) (by omega)
      have bT0 : 0 ≤ T := by rw [hT]; exact Int.mul_nonneg (by omega) (by omega)
      have bU0 : 0 ≤ U := by rw [hU]; exact Int.mul_nonneg (by omega) (by omega)
      have bN : (N : Int) ≤ U := by
        have := Int.mul_le_mul_of_nonneg_left r6 (show (0 : Int) ≤ (N : Int) by omega)
        rw [Int.mul_one] at this; omega
      obtain ⟨A, hAe⟩ : ∃ A : Int, A = sclA x0_0 x1_2 x1_3 n2 := ⟨_, rfl⟩
      rw [← hAe] at hA c1
      have sg : (x0_0 < 0 ∧ A = -(N : Int) ∧ x0_0 * x1_2 = -T ∧ A * x1_3 = -U) ∨ (0 ≤ x0_0 ∧ A = (N : Int) ∧ x0_0 * x1_2 = T ∧ A * x1_3 = U) := by
        by_cases ha : x0_0 < 0
        · left
          rw [if_pos ha] at hA
          refine ⟨ha, hA, ?_, ?_⟩
          · rw [hT, ← Int.neg_mul]; congr 1; omega
          · rw [hA, hU, Int.neg_mul]
        · right
          rw [if_neg ha] at hA
          refine ⟨by omega, hA, ?_, ?_⟩
          · rw [hT]; congr 1; omega
          · rw [hA, hU]
      have e1 : IntKind.i64.wrap (x0_0 * x1_2) = x0_0 * x1_2 := by rcases sg with h | h <;> exact w64_in (by omega) (by omega)
      have e2 : IntKind.i64.wrap (A * x1_3) = A * x1_3 := by rcases sg with h | h <;> exact w64_in (by omega) (by omega)
      have e3 : IntKind.i64.wrap (IntKind.i64.wrap (A * x1_3) - IntKind.i64.wrap (x0_0 * x1_2)) = A * x1_3 - x0_0 * x1_2 := by rw [e1, e2]; rcases sg with h | h <;> exact w64_in (by omega) (by omega)
      have e4 : IntKind.i64.wrap (0 - IntKind.i64.wrap (IntKind.i64.wrap (A * x1_3) - IntKind.i64.wrap (x0_0 * x1_2))) = x0_0 * x1_2 - A * x1_3 := by rw [e3]; rcases sg with h | h <;> (rw [w64_in (by omega) (by omega)]; omega)
      have e5 : IntKind.i64.wrap (2 * IntKind.i64.wrap (IntKind.i64.wrap (A * x1_3) - IntKind.i64.wrap (x0_0 * x1_2))) = 2 * (A * x1_3 - x0_0 * x1_2) := by rw [e3]; rcases sg with h | h <;> exact w64_in (by omega) (by omega)
      have e6 : IntKind.i64.wrap (2 * IntKind.i64.wrap (0 - IntKind.i64.wrap (IntKind.i64.wrap (A * x1_3) - IntKind.i64.wrap (x0_0 * x1_2)))) = 2 * (x0_0 * x1_2 - A * x1_3) := by rw [e4]; rcases sg with h | h <;> exact w64_in (by omega) (by omega)
      have b1 := law_abs (IntKind.i64.wrap (A * x1_3)) (by rw [e2]; rcases sg with h | h <;> omega) (by rw [e2]; rcases sg with h | h <;> omega)
      have b2 := law_abs (IntKind.i64.wrap (x0_0 * x1_2)) (by rw [e1]; rcases sg with h | h <;> omega) (by rw [e1]; rcases sg with h | h <;> omega)
      have z1 : (IntKind.i64.wrap (A * x1_3)).natAbs = U.toNat := by rw [e2]; rcases sg with h | h <;> omega
      have z2 : (IntKind.i64.wrap (x0_0 * x1_2)).natAbs = T.toNat := by rw [e1]; rcases sg with h | h <;> omega
      rw [z1] at b1
      rw [z2] at b2
      by_cases hUT : U = T
      · have hNd : (N : Int) * x1_3 = (x0_0.natAbs : Int) * x1_2 := by rw [← hT, ← hU]; exact hUT
        have hAN : A.natAbs = N := by rcases sg with h | h <;> omega
        have bk := back_facts (mode := n2) r4 r6 hNd A hAN
        have rb := red_bd r6 r4
        have ckA : mchk A x1_1 = 0 := mchk_mk r2 (by rcases sg with h | h <;> omega) (by rcases sg with h | h <;> omega)
        have ckR : rchk x1_1 x0_1 (redN x1_3 x1_2) (redD x1_3 x1_2) = 0 := rchk_mk r2 r1 (fun e => r3 e.symm) rb.1 (by omega) rb.2.2.1 (by omega)
        have hE : cvE A x1_1 x1_1 x0_1 (redN x1_3 x1_2) (redD x1_3 x1_2) n2 = 0 := cvE_mk ckA ckR rfl (sclE_mk ckA (by omega) (by rw [bk]; omega))
        have hB : sclA A (redN x1_3 x1_2) (redD x1_3 x1_2) n2 = x0_0 := by
          obtain ⟨N', R', _, q1, q2, _⟩ := scl_facts (a := A) (mode := n2) rb.1 rb.2.2.1 m1 m2
          rw [q2, ← q1, bk]
          rcases sg with h | h
          · have : 1 ≤ T := by rw [hT]; exact Int.mul_pos (by omega) (by omega)
            have : N ≠ 0 := by intro h0; subst h0; simp at hU; omega
            rw [if_pos (by omega)]; omega
          · rw [if_neg (by omega)]; omega
        have cB := rate_Convert A x1_1 x1_1 x0_1 (redN x1_3 x1_2) (redD x1_3 x1_2) n2 (by omega) (by omega)
        rw [cvT_ok hE, hB] at cB
        clear hE bk hB ckA ckR hNd hAN hA hAe k1 k4 he mk
        repeat' ((conv => whnf); first | (refine vcall_pure (a1) rfl rfl rfl ?_) | (refine vcall_glob (c1) rfl rfl rfl rfl ?_) | (refine vcall_glob (cI) rfl rfl rfl rfl ?_) | (refine vcall_glob (cB) rfl rfl rfl rfl ?_) | (refine vcall_pure (b1) rfl rfl rfl ?_) | (refine vcall_pure (b2) rfl rfl rfl ?_) | (refine vcall_glob (c7) rfl rfl rfl rfl ?_) | (refine br_nseq (fun h => ?_) (fun h => ?_) <;> try (exact absurd rfl h)) | (refine br_dec (fun h => ?_) (fun h => ?_) <;> try (exfalso; rcases sg with g | g <;> omega)) | (refine br_ndec (fun h => ?_) (fun h => ?_) <;> try (exfalso; rcases sg with g | g <;> omega)) | (refine br_dec (fun h => ?_) (fun h => ?_) <;> try (exfalso; omega)) | (refine br_ndec (fun h => ?_) (fun h => ?_) <;> try (exfalso; omega)) | refine br_seq (fun h => ?_) (fun h => ?_) | refine br_nseq (fun h => ?_) (fun h => ?_) | refine br_not (fun h => ?_) (fun h => ?_) | refine br_intro (fun h => ?_) (fun h => ?_) | refine cond_intro rfl ?_ | (refine cond_intro ⟨rfl, ?_⟩ ?_; (first | omega | (dsimp only; omega) | decide)) | (refine cond_intro ?_ ?_; (first | omega | (dsimp only; omega) | decide | (simp only [Nat.add_zero, Int.toNat_natCast, *]; omega))))
        all_goals (conv => whnf)
        all_goals first | exact ret_pure rfl | (exfalso; rcases sg with g | g <;> omega) | (exfalso; clear a1 c1 cI cB b1 b2 c7; simp_all [seq]; done)
      · clear hA hAe k1 k4 he mk
        repeat' ((conv => whnf); first | (refine vcall_pure (a1) rfl rfl rfl ?_) | (refine vcall_glob (c1) rfl rfl rfl rfl ?_) | (refine vcall_pure (b1) rfl rfl rfl ?_) | (refine vcall_pure (b2) rfl rfl rfl ?_) | (refine vcall_glob (c7) rfl rfl rfl rfl ?_) | (refine br_nseq (fun h => ?_) (fun h => ?_) <;> try (exact absurd rfl h)) | (refine br_dec (fun h => ?_) (fun h => ?_) <;> try (exfalso; rcases sg with g | g <;> omega)) | (refine br_ndec (fun h => ?_) (fun h => ?_) <;> try (exfalso; rcases sg with g | g <;> omega)) | (refine br_dec (fun h => ?_) (fun h => ?_) <;> try (exfalso; omega)) | (refine br_ndec (fun h => ?_) (fun h => ?_) <;> try (exfalso; omega)) | refine br_seq (fun h => ?_) (fun h => ?_) | refine br_nseq (fun h => ?_) (fun h => ?_) | refine br_not (fun h => ?_) (fun h => ?_) | refine br_intro (fun h => ?_) (fun h => ?_) | refine cond_intro rfl ?_ | (refine cond_intro ⟨rfl, ?_⟩ ?_; (first | omega | (dsimp only; omega) | decide)) | (refine cond_intro ?_ ?_; (first | omega | (dsimp only; omega) | decide | (simp only [Nat.add_zero, Int.toNat_natCast, *]; omega))))
        all_goals (conv => whnf)
        all_goals first | exact ret_pure rfl | (exfalso; rcases sg with g | g <;> omega)
    · rw [cvT_err rfl he] at c1
      generalize cvE x0_0 x0_1 x1_0 x1_1 x1_2 x1_3 n2 = e at *
      repeat' ((conv => whnf); first | (refine vcall_pure (a1) rfl rfl rfl ?_) | (refine vcall_glob (c1) rfl rfl rfl rfl ?_) | (refine vcall_glob (c7) rfl rfl rfl rfl ?_) | (refine br_dec (fun h => ?_) (fun h => ?_) <;> try (exfalso; omega)) | (refine br_ndec (fun h => ?_) (fun h => ?_) <;> try (exfalso; omega)) | refine br_seq (fun h => ?_) (fun h => ?_) | refine br_nseq (fun h => ?_) (fun h => ?_) | refine br_not (fun h => ?_) (fun h => ?_) | refine br_intro (fun h => ?_) (fun h => ?_) | refine cond_intro rfl ?_ | (refine cond_intro ⟨rfl, ?_⟩ ?_; (first | omega | (dsimp only; omega) | decide)) | (refine cond_intro ?_ ?_; (first | omega | (dsimp only; omega) | decide | (simp only [Nat.add_zero, Int.toNat_natCast, *]; omega))))
      all_goals (conv => whnf)
      all_goals first | exact ret_pure rfl | (exfalso; omega)
end Go.Proofs.YtpmgaanpbbplbaaDoor
