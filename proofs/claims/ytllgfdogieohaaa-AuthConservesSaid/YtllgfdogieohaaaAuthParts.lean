/- The laws of package auth: AuthParts. -/
import Derived.Test.YtllgfdogieohaaaAuthL
namespace Go.Proofs.Ytllgfdogieohaaa
open Go.RowKit Go.Sx
attribute [local irreducible] vcall vloop callQ
set_option maxRecDepth 100000
set_option linter.unusedVariables false

abbrev Au.l (a : Au) : List SV := [.str a.id, .str a.cur, .int .i64 a.app, .int .i64 a.rev, .int .i64 a.cle, .int .i64 a.exp, .int .i64 a.st, .int .i64 a.att, .int .i64 a.unt, .int .i64 a.pa]

/-- An authorization of n, of which u has been cleared in k parts. -/
@[irreducible] def pA (n u : Int) (k : Nat) : Au := ⟨⟨#[120]⟩, ⟨#[69, 85, 82]⟩, n, 0, u, 0, (if u < n then 1 else 2), 0, 10, k⟩
theorem pA_pa (n u : Int) (k : Nat) : (pA n u k).pa = k := by unfold pA; rfl
theorem idx : idB ⟨#[120]⟩ = true := by kernel_rfl
theorem curx : curB ⟨#[69, 85, 82]⟩ = true := by kernel_rfl
theorem pA_state (n u : Int) (k : Nat) (h1 : 1 ≤ n) (h2 : n ≤ 999999999999) (h3 : 0 ≤ u) (h4 : u ≤ n) (h5 : k = 0 → u = 0) (h6 : u = n → 0 < u) : stateOf (pA n u k) = (if u < n then 1 else 2) ∧ fundsW (pA n u k) = n - u := by
  have e : fundsW (pA n u k) = n - u := by
    unfold pA
    rw [fundsW_eq _ (by simp; omega) (by simp; omega) (by simp) (by simp) (by simp; omega) (by simp; omega) (by simp) (by simp)]
    simp
  refine ⟨?_, e⟩
  unfold stateOf
  rw [e]
  unfold pA
  simp only
  by_cases h : u < n
  · rw [if_pos (by omega), if_pos h]
  · rw [if_neg (by omega), if_neg (by omega), if_pos (by omega), if_neg h]
theorem pA_check (n u : Int) (k : Nat) (h1 : 1 ≤ n) (h2 : n ≤ 999999999999) (h3 : 0 ≤ u) (h4 : u ≤ n) (h5 : k = 0 ↔ u = 0) (h6 : (k : Int) ≤ u) (h7 : k ≤ 8) : checkZ (pA n u k) = 0 := by
  obtain ⟨hs, hf⟩ := pA_state n u k h1 h2 h3 h4 (fun h => h5.1 h) (by omega)
  refine of_facts ⟨?_, ?_, ?_, ?_, ?_, ?_, ?_, by omega, ?_, ?_, ?_, ?_⟩
  · unfold pA; exact idx
  · unfold pA; exact curx
  · unfold pA; simp; omega
  · unfold pA; simp
  · unfold pA; simp; omega
  · unfold pA; simp
  · rw [hf]; unfold pA; simp
  · unfold pA; simp
  · unfold pA; simp only; omega
  · rw [hs]; unfold pA; rfl
  · intro _; unfold pA; rfl
theorem pA_new (n : Int) (h1 : 1 ≤ n) (h2 : n ≤ 999999999999) : newZ ⟨#[120]⟩ ⟨#[69, 85, 82]⟩ n 0 10 = (pA n 0 0, 0) := by
  have hc := pA_check n 0 0 h1 h2 (by omega) (by omega) (by simp) (by simp) (by omega)
  have e : pA n 0 0 = ⟨⟨#[120]⟩, ⟨#[69, 85, 82]⟩, n, 0, 0, 0, 1, 0, 10, 0⟩ := by unfold pA; rw [if_pos (by omega)]; rfl
  unfold newZ
  rw [e] at hc ⊢
  simp [hc]
theorem new_bad (n : Int) (h : ¬ (1 ≤ n ∧ n ≤ 999999999999)) : newZ ⟨#[120]⟩ ⟨#[69, 85, 82]⟩ n 0 10 = (Au.zero, 4) := by
  have : checkZ ⟨⟨#[120]⟩, ⟨#[69, 85, 82]⟩, n, 0, 0, 0, 1, 0, 10, 0⟩ = 4 := by
    unfold checkZ
    rw [if_neg (by rw [idx]; simp), if_neg (by rw [curx]; simp), if_pos (by simp only; omega)]
  unfold newZ
  simp [this]
theorem pA_clear (n u p : Int) (k : Nat) (h1 : 1 ≤ n) (h2 : n ≤ 999999999999) (h3 : 0 ≤ u) (h4 : u < n) (h5 : k = 0 ↔ u = 0) (h6 : (k : Int) ≤ u) (h7 : k < 8) (h8 : 1 ≤ p) (h9 : p ≤ 999999999999) :
    clearZ (pA n u k) p false = (pA n (u + min p (n - u)) (k + 1), min p (n - u), 0, 0) := by
  have hc := pA_check n u k h1 h2 h3 (by omega) h5 h6 (by omega)
  obtain ⟨hs, hf⟩ := pA_state n u k h1 h2 h3 (by omega) (fun h => h5.1 h) (by omega)
  have hst : (pA n u k).st = 1 := by unfold pA; simp [h4]
  have hu := usable_of hc hst
  obtain ⟨hs', hf'⟩ := pA_state n (u + min p (n - u)) (k + 1) h1 h2 (by omega) (by omega) (by omega) (by omega)
  unfold clearZ
  rw [if_neg (by rw [hu]; simp), if_neg (by omega), if_neg (by rw [pA_pa]; omega), hf]
  have e : pA n (u + min p (n - u)) (k + 1) = { pA n u k with cle := (pA n u k).cle + min p (n - u), rev := (pA n u k).rev + 0, pa := (pA n u k).pa + 1, st := (if u + min p (n - u) < n then 1 else 2) } := by
    unfold pA; simp
  have e2 : stateOf { pA n u k with cle := (pA n u k).cle + min p (n - u), rev := (pA n u k).rev + 0, pa := (pA n u k).pa + 1 } = (if u + min p (n - u) < n then 1 else 2) := by
    rw [← hs', e, ← stateOf_st _ (if u + min p (n - u) < n then 1 else 2)]
  simp only [Bool.false_eq_true, if_false, e2]
  rw [e]
theorem pA_closed (n p : Int) (k : Nat) (h1 : 1 ≤ n) (h2 : n ≤ 999999999999) (h5 : k = 0 ↔ n = 0) (h6 : (k : Int) ≤ n) (h7 : k ≤ 8) : clearZ (pA n n k) p false = (Au.zero, 0, 0, 8) := by
  have hc := pA_check n n k h1 h2 (by omega) (by omega) h5 h6 h7
  have hu := usable_not hc (by unfold pA; simp)
  unfold clearZ
  simp [hu]

/-- The sum of the first k parts. -/
def sumTo (q : List Int) (k : Nat) : Int := (q.take k).sum
theorem sumTo_succ (q : List Int) (k : Nat) (h : k < q.length) : sumTo q (k + 1) = sumTo q k + q.getD k 0 := by
  unfold sumTo
  rw [List.take_succ_eq_append_getElem h, List.sum_append, List.sum_cons, List.sum_nil]
  simp [List.getD, h]
def partsIn (q : List Int) (k : Nat) : Prop := ∀ i, i < k → 1 ≤ q.getD i 0 ∧ q.getD i 0 ≤ 999999999999
theorem sumTo_bd (q : List Int) : ∀ k : Nat, k ≤ q.length → partsIn q k → (k : Int) ≤ sumTo q k ∧ sumTo q k ≤ 999999999999 * k
  | 0, _, _ => by simp [sumTo]
  | k + 1, h, hp => by
    have := sumTo_bd q k (by omega) (fun i hi => hp i (by omega))
    rw [sumTo_succ q k (by omega)]
    have := hp k (by omega)
    omega

theorem authParts_fc (n0 : Int) (hw0 : (Lit.int .i64 n0).wf = true) (l1 c1 : Nat) (hl1 : l1 ≤ c1) (hc1 : c1 ≤ maxLen) (q1_0 : List Int) (eq1_0 : q1_0.length = l1) (wq1_0 : ∀ x ∈ q1_0, (Lit.int .i64 x).wf = true) :
    FC Try.prog 1 3 [.int .i64 n0, .sl 0 0 l1 c1] [(0, ⟨true, .cols l1 [.ints .i64 q1_0]⟩)] (fun sv _ _ => sv = .bool true) := by
  by_cases hn : 1 ≤ n0 ∧ n0 ≤ 999999999999
  · obtain ⟨hn1, hn2⟩ := hn
    have hnew : Pure Try.prog 8 [.str ⟨#[120]⟩, .str ⟨#[69, 85, 82]⟩, .int .i64 n0, .int .i64 0, .int .i64 10] (t2 (pA n0 0 0, 0)) := pA_new n0 hn1 hn2 ▸ auth_new _ _ _ _ _
    refine fc_of mixed T_ok Try.func3 rfl (by kernel_rfl) (by kernel_rfl) (by kernel_rfl) ?_
    repeat' ((conv => whnf); first | (refine vcall_pure (hnew) rfl rfl ?_) | (refine vcall_pure (law_awake) rfl rfl ?_) | (refine br_dec (fun h => ?_) (fun h => ?_) <;> try (exfalso; omega)) | (refine br_ndec (fun h => ?_) (fun h => ?_) <;> try (exfalso; omega)) | refine br_seq (fun h => ?_) (fun h => ?_) | refine br_nseq (fun h => ?_) (fun h => ?_) | refine br_not (fun h => ?_) (fun h => ?_) | refine br_intro (fun h => ?_) (fun h => ?_) | (refine idx_intro ?_ ?_ ?_; (omega); (omega)) | (refine nz_intro ?_ ?_; (first | decide | omega)) | (refine lt_intro ?_ ?_; (omega)))
    · (conv => whnf); rfl
    (conv => whnf)
    refine vloop_of (fun k : Nat => ⟨[(0, .int .i64 n0), (1, .sl 0 0 l1 c1), (5, .ptr 1 0 0), (7, .int .i64 (sumTo q1_0 k)), (8, .int .i64 (min (sumTo q1_0 k) n0)), (9, .int .i64 k)], [(1, ⟨false, .cells (pA n0 (min (sumTo q1_0 k) n0) k).l⟩), (0, ⟨true, .cols l1 [.ints .i64 q1_0]⟩)], 2⟩)
      (fun k => k ≤ l1 ∧ partsIn q1_0 k ∧ (k = 0 ∨ sumTo q1_0 (k - 1) < n0)) (fun k => l1 - k) 0 ?_ ⟨Nat.zero_le _, fun i hi => absurd hi (Nat.not_lt_zero _), .inl rfl⟩ ?_
    · have e0 : min (sumTo q1_0 0) n0 = 0 := by simp [sumTo]; omega
      rw [e0]
      exact weak_mk rfl rfl rfl (weakEnv_cons rfl (weakEnv_cons rfl (weakEnv_cons rfl (weakEnv_cons rfl (weakEnv_cons rfl (weakEnv_cons rfl weakEnv_nil)))))) (weakHeap_cons rfl (weakHeap_cons rfl weakHeap_nil))
    rintro k ⟨hk, hp, hpre⟩
    have hb := sumTo_bd q1_0 k (by omega) hp
    have hk8 : k ≤ 8 := by omega
    by_cases hlt : k < l1
    · have hsc := sumTo_succ q1_0 k (by omega)
      by_cases hpk : 1 ≤ q1_0.getD k 0 ∧ q1_0.getD k 0 ≤ 999999999999
      · by_cases ho : sumTo q1_0 k < n0
        · have em : min (sumTo q1_0 k) n0 = sumTo q1_0 k := by omega
          have hcl : Pure Try.prog 10 [(pA n0 (min (sumTo q1_0 k) n0) k).s, .int .i64 (q1_0.getD k 0), .bool false] (t4 (pA n0 (min (sumTo q1_0 (k + 1)) n0) (k + 1), min (q1_0.getD k 0) (n0 - sumTo q1_0 k), 0, 0)) := by
            have := auth_clear (pA n0 (min (sumTo q1_0 k) n0) k) (q1_0.getD k 0) false
            rw [em] at this ⊢
            rw [pA_clear n0 (sumTo q1_0 k) (q1_0.getD k 0) k hn1 hn2 (by omega) ho (by omega) (by omega) (by omega) (by omega) (by omega)] at this
            rw [show min (sumTo q1_0 (k + 1)) n0 = sumTo q1_0 k + min (q1_0.getD k 0) (n0 - sumTo q1_0 k) from by omega]
            exact this
          have e7 : IntKind.i64.wrap (sumTo q1_0 k + q1_0.getD k 0) = sumTo q1_0 (k + 1) := by rw [w64_in (by omega) (by omega)]; omega
          have e8 : IntKind.i64.wrap (min (sumTo q1_0 k) n0 + min (q1_0.getD k 0) (n0 - sumTo q1_0 k)) = min (sumTo q1_0 (k + 1)) n0 := by rw [w64_in (by omega) (by omega)]; omega
          have e9 : IntKind.i64.wrap ((k : Int) + 1) = ((k + 1 : Nat) : Int) := by rw [w64_in (by omega) (by omega)]; rfl
          repeat' ((conv => whnf); first | (refine callQ_pure (hcl) rfl ?_) | (refine vcall_pure (law_awake) rfl rfl ?_) | (refine br_dec (fun h => ?_) (fun h => ?_) <;> try (exfalso; omega)) | (refine br_ndec (fun h => ?_) (fun h => ?_) <;> try (exfalso; omega)) | refine br_seq (fun h => ?_) (fun h => ?_) | refine br_nseq (fun h => ?_) (fun h => ?_) | refine br_not (fun h => ?_) (fun h => ?_) | refine br_intro (fun h => ?_) (fun h => ?_) | (refine idx_intro ?_ ?_ ?_; (omega); (omega)) | (refine nz_intro ?_ ?_; (first | decide | omega)) | (refine lt_intro ?_ ?_; (omega)))
          all_goals (conv => whnf)
          all_goals try simp only [Int.toNat_natCast, Nat.add_zero] at *
          all_goals first
            | rfl
            | (exfalso; omega)
            | (exfalso; rename_i h; rw [pA_pa, e9] at h; exact h rfl)
            | (exfalso; rename_i h; rw [e7, e8] at h; exact h rfl)
            | (refine ⟨k + 1, ⟨by omega, fun i hi => ?_, .inr ho⟩, by omega, weak_mk rfl rfl rfl (weakEnv_cons rfl (weakEnv_cons rfl (weakEnv_cons rfl (weakEnv_cons (congrArg (fun z => some (SV.int .i64 z)) e7) (weakEnv_cons (congrArg (fun z => some (SV.int .i64 z)) e8) (weakEnv_cons (congrArg (fun z => some (SV.int .i64 z)) e9) weakEnv_nil)))))) (weakHeap_cons rfl (weakHeap_cons rfl weakHeap_nil))⟩
               by_cases e : i = k
               · subst e; exact hpk
               · exact hp i (by omega))
        · have em : min (sumTo q1_0 k) n0 = n0 := by omega
          have hkn : (k : Int) ≤ n0 := by
            rcases hpre with h0 | h0
            · omega
            · have := sumTo_bd q1_0 (k - 1) (by omega) (fun i hi => hp i (by omega))
              omega
          have hcl : Pure Try.prog 10 [(pA n0 (min (sumTo q1_0 k) n0) k).s, .int .i64 (q1_0.getD k 0), .bool false] (t4 (Au.zero, 0, 0, 8)) := by
            have := auth_clear (pA n0 (min (sumTo q1_0 k) n0) k) (q1_0.getD k 0) false
            rw [em] at this ⊢
            rw [pA_closed n0 (q1_0.getD k 0) k hn1 hn2 (by omega) hkn (by omega)] at this
            exact this
          repeat' ((conv => whnf); first | (refine callQ_pure (hcl) rfl ?_) | (refine vcall_pure (law_awake) rfl rfl ?_) | (refine br_dec (fun h => ?_) (fun h => ?_) <;> try (exfalso; omega)) | (refine br_ndec (fun h => ?_) (fun h => ?_) <;> try (exfalso; omega)) | refine br_seq (fun h => ?_) (fun h => ?_) | refine br_nseq (fun h => ?_) (fun h => ?_) | refine br_not (fun h => ?_) (fun h => ?_) | refine br_intro (fun h => ?_) (fun h => ?_) | (refine idx_intro ?_ ?_ ?_; (omega); (omega)) | (refine nz_intro ?_ ?_; (first | decide | omega)) | (refine lt_intro ?_ ?_; (omega)))
          all_goals (conv => whnf)
          all_goals try simp only [Int.toNat_natCast, Nat.add_zero] at *
          all_goals first
            | rfl
            | (exfalso; omega)
      · repeat' ((conv => whnf); first | (refine vcall_pure (law_awake) rfl rfl ?_) | (refine br_dec (fun h => ?_) (fun h => ?_) <;> try (exfalso; omega)) | (refine br_ndec (fun h => ?_) (fun h => ?_) <;> try (exfalso; omega)) | refine br_seq (fun h => ?_) (fun h => ?_) | refine br_nseq (fun h => ?_) (fun h => ?_) | refine br_not (fun h => ?_) (fun h => ?_) | refine br_intro (fun h => ?_) (fun h => ?_) | (refine idx_intro ?_ ?_ ?_; (omega); (omega)) | (refine nz_intro ?_ ?_; (first | decide | omega)) | (refine lt_intro ?_ ?_; (omega)))
        all_goals (conv => whnf)
        all_goals try simp only [Int.toNat_natCast, Nat.add_zero] at *
        all_goals first
          | rfl
          | (exfalso; omega)
    · repeat' ((conv => whnf); first | (refine vcall_pure (law_awake) rfl rfl ?_) | (refine br_dec (fun h => ?_) (fun h => ?_) <;> try (exfalso; omega)) | (refine br_ndec (fun h => ?_) (fun h => ?_) <;> try (exfalso; omega)) | refine br_seq (fun h => ?_) (fun h => ?_) | refine br_nseq (fun h => ?_) (fun h => ?_) | refine br_not (fun h => ?_) (fun h => ?_) | refine br_intro (fun h => ?_) (fun h => ?_) | (refine idx_intro ?_ ?_ ?_; (omega); (omega)) | (refine nz_intro ?_ ?_; (first | decide | omega)) | (refine lt_intro ?_ ?_; (omega)))
      all_goals (conv => whnf)
      all_goals rfl
  · have hnew : Pure Try.prog 8 [.str ⟨#[120]⟩, .str ⟨#[69, 85, 82]⟩, .int .i64 n0, .int .i64 0, .int .i64 10] (t2 (Au.zero, 4)) := new_bad n0 hn ▸ auth_new _ _ _ _ _
    refine fc_of mixed T_ok Try.func3 rfl (by kernel_rfl) (by kernel_rfl) (by kernel_rfl) ?_
    repeat' ((conv => whnf); first | (refine vcall_pure (hnew) rfl rfl ?_) | (refine vcall_pure (law_awake) rfl rfl ?_) | (refine br_dec (fun h => ?_) (fun h => ?_) <;> try (exfalso; omega)) | (refine br_ndec (fun h => ?_) (fun h => ?_) <;> try (exfalso; omega)) | refine br_seq (fun h => ?_) (fun h => ?_) | refine br_nseq (fun h => ?_) (fun h => ?_) | refine br_not (fun h => ?_) (fun h => ?_) | refine br_intro (fun h => ?_) (fun h => ?_) | (refine idx_intro ?_ ?_ ?_; (omega); (omega)) | (refine nz_intro ?_ ?_; (first | decide | omega)) | (refine lt_intro ?_ ?_; (omega)))
    all_goals (conv => whnf)
    all_goals rfl
end Go.Proofs.Ytllgfdogieohaaa
