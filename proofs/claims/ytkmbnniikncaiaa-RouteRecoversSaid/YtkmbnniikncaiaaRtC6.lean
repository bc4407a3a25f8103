/- Contracts of package route: a new router. -/
import Derived.Test.YtkmbnniikncaiaaRtC5
namespace Go.Proofs.Ytkmbnniikncaiaa
open Go.RowKit Go.Sy
attribute [local irreducible] vcall vloop vcallD retP
set_option maxRecDepth 100000
set_option linter.unusedVariables false
set_option linter.unusedSimpArgs false

/-- The error of a backup. -/
def beK (L : Rg) (bi bp : List ByteArray) (k : Nat) : Int := if (nmB (bi.getD k ⟨#[]⟩) && nmB (bp.getD k ⟨#[]⟩)) = false then 5 else if ¬ 0 ≤ isX L (bi.getD k ⟨#[]⟩) L.n then 6 else if bp.getD k ⟨#[]⟩ = bi.getD k ⟨#[]⟩ then 4 else if 0 ≤ bkX bi bp (bi.getD k ⟨#[]⟩) (bp.getD k ⟨#[]⟩) k then 7 else 0
def beA (L : Rg) (bi bp : List ByteArray) : Nat → Int
  | 0 => 0
  | k + 1 => if beA L bi bp k ≠ 0 then beA L bi bp k else beK L bi bp k
theorem beA_stop {L : Rg} {bi bp : List ByteArray} {k : Nat} (h0 : beA L bi bp k = 0) (h1 : beK L bi bp k ≠ 0) : ∀ n, k < n → beA L bi bp n = beK L bi bp k
  | 0, hh => by omega
  | n + 1, hh => by
    simp only [beA]
    by_cases e : k = n
    · subst e; rw [h0, if_neg (by decide)]
    · rw [beA_stop h0 h1 n (by omega), if_pos h1]
theorem beA_zero {L : Rg} {bi bp : List ByteArray} {k : Nat} : ∀ n, beA L bi bp n = 0 → k < n → beK L bi bp k = 0
  | 0, _, hh => by omega
  | n + 1, h, hh => by
    simp only [beA] at h
    by_cases e : beA L bi bp n ≠ 0
    · rw [if_pos e] at h; exact absurd h e
    · rw [if_neg e] at h
      by_cases e2 : k = n
      · subst e2; exact h
      · exact beA_zero n (Classical.not_not.1 e) (by omega)
theorem beK_zero {L : Rg} {bi bp : List ByteArray} {k : Nat} (h : beK L bi bp k = 0) : nmB (bi.getD k ⟨#[]⟩) = true ∧ nmB (bp.getD k ⟨#[]⟩) = true ∧ 0 ≤ isX L (bi.getD k ⟨#[]⟩) L.n ∧ ¬ bp.getD k ⟨#[]⟩ = bi.getD k ⟨#[]⟩ ∧ ¬ 0 ≤ bkX bi bp (bi.getD k ⟨#[]⟩) (bp.getD k ⟨#[]⟩) k := by
  unfold beK at h
  by_cases h1 : (nmB (bi.getD k ⟨#[]⟩) && nmB (bp.getD k ⟨#[]⟩)) = false
  · rw [if_pos h1] at h; omega
  · rw [if_neg h1] at h
    by_cases h2 : ¬ 0 ≤ isX L (bi.getD k ⟨#[]⟩) L.n
    · rw [if_pos h2] at h; omega
    · rw [if_neg h2] at h
      by_cases h3 : bp.getD k ⟨#[]⟩ = bi.getD k ⟨#[]⟩
      · rw [if_pos h3] at h; omega
      · rw [if_neg h3] at h
        by_cases h4 : 0 ≤ bkX bi bp (bi.getD k ⟨#[]⟩) (bp.getD k ⟨#[]⟩) k
        · rw [if_pos h4] at h; omega
        · simp only [Bool.and_eq_false_iff, not_or, Bool.not_eq_false] at h1
          exact ⟨h1.1, h1.2, by omega, h3, h4⟩
def nwE (L : Rg) (m : Nat) (bi bp : List ByteArray) (f : Int) : Int := if exR L ≠ 0 then exR L else if beA L bi bp m ≠ 0 then beA L bi bp m else if f < 1 ∨ 100 < f then 4 else 0
theorem nwE_zero {L : Rg} {m : Nat} {bi bp : List ByteArray} {f : Int} (h : nwE L m bi bp f = 0) : exR L = 0 ∧ beA L bi bp m = 0 ∧ 1 ≤ f ∧ f ≤ 100 := by
  unfold nwE at h
  by_cases h1 : exR L ≠ 0
  · rw [if_pos h1] at h; omega
  · rw [if_neg h1] at h
    by_cases h2 : beA L bi bp m ≠ 0
    · rw [if_pos h2] at h; omega
    · rw [if_neg h2] at h
      by_cases h3 : f < 1 ∨ 100 < f
      · rw [if_pos h3] at h; omega
      · omega
/-- A table of parties, all without failures. -/
def nwA (r : Rt) (nm : Nat → ByteArray) : Nat → Rt
  | 0 => r
  | k + 1 => (nwA r nm k).put (nm k) 0
def nwR (L : Rg) (m : Nat) (bi bp : List ByteArray) (f : Int) : Rt := nwA (nwA ⟨L, m, bi, bp, f, 0, [], [], [], 0⟩ L.s L.n) (fun k => bp.getD k ⟨#[]⟩) m
/-- The router with the counts of another one. -/
abbrev Rt.wi (r d : Rt) : Rt := ⟨r.L, r.m, r.bi, r.bp, r.f, d.n, d.ks, d.vs, d.bs, d.ck⟩
abbrev nwO (L : Rg) (m : Nat) (bi bp : List ByteArray) (f : Int) (d : Rt) : Heap := [(3, some (.one false (.cells [.sl 4 0 0 L.n, .sl 5 0 0 m, .int .i64 f, .map 6 0]))), (4, some (rgW L)), (5, some (bkW m bi bp)), (6, some (.one false (.obj (.map false false d.n [.strs d.ks] [.sc (.ints .i64 d.vs)] d.bs d.ck))))]
theorem rt_New_err (L : Rg) (m : Nat) (bi bp : List ByteArray) (f : Int) (hm : m ≤ 1000000) (hn : L.n ≤ 1000000) (he : nwE L m bi bp f ≠ 0) : FC Try.prog 3 8 [.sl 1 0 0 L.n, .sl 2 0 0 m, .int .i64 f] [(1, some (rgB L)), (2, some (bkB m bi bp))] (isOut (.tup [.nptr, .int .i64 (nwE L m bi bp f)]) [] 3) := by
  have c1 := bin_Check L
  by_cases hx : exR L = 0
  · have e1 : nwE L m bi bp f = if beA L bi bp m ≠ 0 then beA L bi bp m else if f < 1 ∨ 100 < f then 4 else 0 := if_neg (fun h => h hx)
    rw [e1] at he ⊢
    rw [hx] at c1
    refine fc_of mixed T_ok Try.func8 rfl (by kernel_rfl) (by kernel_rfl) (by kernel_rfl) ?_
    repeat' ((conv => whnf); first | (refine vcall_out (l :=  [0, 1]) (c1 ) ⟨rfl, rfl, rfl, rfl, (by (repeat' (first | exact trivial | exact GB_wf | constructor)); first | done | fail), (by (repeat' (first | exact trivial | exact GB_fits rfl | constructor)); first | done | fail)⟩ ?_) | (refine vcallD_out (l :=  [0, 1]) (c1 ) ⟨rfl, rfl, rfl, rfl, (by (repeat' (first | exact trivial | exact GB_wf | constructor)); first | done | fail), (by (repeat' (first | exact trivial | exact GB_fits rfl | constructor)); first | done | fail)⟩ ?_) | (refine br_dec (fun h => ?_) (fun h => ?_) <;> try (exfalso; (try dsimp only at h); omega)) | (refine br_ndec (fun h => ?_) (fun h => ?_) <;> try (exfalso; (try dsimp only at h); omega)) | refine br_seq (fun h => ?_) (fun h => ?_) | refine br_nseq (fun h => ?_) (fun h => ?_) | refine br_not (fun h => ?_) (fun h => ?_) | refine br_intro (fun h => ?_) (fun h => ?_) | refine cond_intro rfl ?_ | (refine cond_intro ⟨rfl, ?_⟩ ?_; (first | omega | (dsimp only; omega) | decide)) | (refine cond_intro ?_ ?_; (first | omega | (dsimp only; omega) | decide | (simp only [Nat.add_zero, Int.toNat_natCast, *]; omega))))
    all_goals (conv => whnf)
    refine vloop_of (fun k : Nat => ⟨[(0, .sl 1 0 0 L.n), (1, .sl 2 0 0 m), (2, .int .i64 f), (21, .sl 2 0 0 m), (22, .int .i64 m), (23, .int .i64 k)], [(1, some (rgB L)), (2, some (bkB m bi bp))], 3⟩) (fun k => k ≤ m ∧ beA L bi bp k = 0) (fun k => m - k) 0 [0, 1, 2] [] ⟨rfl, ⟨rfl, rfl, rfl, rfl, rfl, rfl, trivial⟩, ⟨rfl, rfl, trivial⟩⟩ ⟨by omega, rfl⟩ ?_
    rintro k ⟨hk, hc⟩
    by_cases hk2 : k < m
    · have d1 := rt_isName (bi.getD k ⟨#[]⟩)
      have d2 := rt_isName (bp.getD k ⟨#[]⟩)
      have d3 := rt_isIssuer L (bi.getD k ⟨#[]⟩) hn
      have d4 := bk_Contains m bi bp (bi.getD k ⟨#[]⟩) (bp.getD k ⟨#[]⟩) k (by omega) hm
      by_cases hb : beK L bi bp k = 0
      · obtain ⟨n1, n2, n3, n4, n5⟩ := beK_zero hb
        rw [n1] at d1
        rw [n2] at d2
        rw [decide_eq_true n3] at d3
        rw [decide_eq_false n5] at d4
        have e2 : beA L bi bp (k + 1) = 0 := by simp only [beA, hc, hb]; rfl
        repeat' ((conv => whnf); first | (refine vcall_pure (d1) rfl rfl rfl ?_) | (refine vcallD_pure (d1) rfl rfl rfl ?_) | (refine vcall_pure (d2) rfl rfl rfl ?_) | (refine vcallD_pure (d2) rfl rfl rfl ?_) | (refine vcall_out (l :=  [0, 1]) (d3 ) ⟨rfl, rfl, rfl, rfl, (by (repeat' (first | exact trivial | exact GB_wf | constructor)); first | done | fail), (by (repeat' (first | exact trivial | exact GB_fits rfl | constructor)); first | done | fail)⟩ ?_) | (refine vcallD_out (l :=  [0, 1]) (d3 ) ⟨rfl, rfl, rfl, rfl, (by (repeat' (first | exact trivial | exact GB_wf | constructor)); first | done | fail), (by (repeat' (first | exact trivial | exact GB_fits rfl | constructor)); first | done | fail)⟩ ?_) | (refine vcall_out (l :=  [0, 2]) (d4 ) ⟨rfl, rfl, rfl, rfl, (by (repeat' (first | exact trivial | exact GB_wf | constructor)); first | done | fail), (by (repeat' (first | exact trivial | exact GB_fits rfl | constructor)); first | done | fail)⟩ ?_) | (refine vcallD_out (l :=  [0, 2]) (d4 ) ⟨rfl, rfl, rfl, rfl, (by (repeat' (first | exact trivial | exact GB_wf | constructor)); first | done | fail), (by (repeat' (first | exact trivial | exact GB_fits rfl | constructor)); first | done | fail)⟩ ?_) | (refine br_seq (fun h => absurd h n4) (fun h => ?_)) | (refine br_dec (fun h => ?_) (fun h => ?_) <;> try (exfalso; (try dsimp only at h); omega)) | (refine br_ndec (fun h => ?_) (fun h => ?_) <;> try (exfalso; (try dsimp only at h); omega)) | refine br_seq (fun h => ?_) (fun h => ?_) | refine br_nseq (fun h => ?_) (fun h => ?_) | refine br_not (fun h => ?_) (fun h => ?_) | refine br_intro (fun h => ?_) (fun h => ?_) | refine cond_intro rfl ?_ | (refine cond_intro ⟨rfl, ?_⟩ ?_; (first | omega | (dsimp only; omega) | decide)) | (refine cond_intro ?_ ?_; (first | omega | (dsimp only; omega) | decide | (simp only [Nat.add_zero, Int.toNat_natCast, *]; omega))))
        all_goals (conv => whnf)
        all_goals first
          | exact ⟨k + 1, [0, 1, 2], [], ⟨by omega, e2⟩, by omega, ⟨rfl, ⟨rfl, rfl, rfl, rfl, rfl, congrArg (fun z => some (SV.int .i64 z)) (i64_succ (by omega)), trivial⟩, ⟨rfl, rfl, trivial⟩⟩⟩
          | (exfalso; omega)
      · rw [beA_stop hc hb m hk2, if_pos hb]
        unfold beK
        generalize decide (0 ≤ bkX bi bp (bi.getD k ⟨#[]⟩) (bp.getD k ⟨#[]⟩) k) = b4 at *
        cases n1 : nmB (bi.getD k ⟨#[]⟩) with
        | false =>
          rw [n1] at d1
          rw [if_pos (show (false && nmB (bp.getD k ⟨#[]⟩)) = false from rfl)]
          repeat' ((conv => whnf); first | (refine vcall_pure (d1) rfl rfl rfl ?_) | (refine vcallD_pure (d1) rfl rfl rfl ?_) | (refine br_dec (fun h => ?_) (fun h => ?_) <;> try (exfalso; (try dsimp only at h); omega)) | (refine br_ndec (fun h => ?_) (fun h => ?_) <;> try (exfalso; (try dsimp only at h); omega)) | refine br_seq (fun h => ?_) (fun h => ?_) | refine br_nseq (fun h => ?_) (fun h => ?_) | refine br_not (fun h => ?_) (fun h => ?_) | refine br_intro (fun h => ?_) (fun h => ?_) | refine cond_intro rfl ?_ | (refine cond_intro ⟨rfl, ?_⟩ ?_; (first | omega | (dsimp only; omega) | decide)) | (refine cond_intro ?_ ?_; (first | omega | (dsimp only; omega) | decide | (simp only [Nat.add_zero, Int.toNat_natCast, *]; omega))))
          all_goals (conv => whnf)
          all_goals first
            | exact ret_out (l := [0, 1, 2]) rfl rfl trivial allRw_nil
            | (exfalso; omega)
        | true =>
          rw [n1] at d1
          cases n2 : nmB (bp.getD k ⟨#[]⟩) with
          | false =>
            rw [n2] at d2
            rw [if_pos (show (true && false) = false from rfl)]
            repeat' ((conv => whnf); first | (refine vcall_pure (d1) rfl rfl rfl ?_) | (refine vcallD_pure (d1) rfl rfl rfl ?_) | (refine vcall_pure (d2) rfl rfl rfl ?_) | (refine vcallD_pure (d2) rfl rfl rfl ?_) | (refine br_dec (fun h => ?_) (fun h => ?_) <;> try (exfalso; (try dsimp only at h); omega)) | (refine br_ndec (fun h => ?_) (fun h => ?_) <;> try (exfalso; (try dsimp only at h); omega)) | refine br_seq (fun h => ?_) (fun h => ?_) | refine br_nseq (fun h => ?_) (fun h => ?_) | refine br_not (fun h => ?_) (fun h => ?_) | refine br_intro (fun h => ?_) (fun h => ?_) | refine cond_intro rfl ?_ | (refine cond_intro ⟨rfl, ?_⟩ ?_; (first | omega | (dsimp only; omega) | decide)) | (refine cond_intro ?_ ?_; (first | omega | (dsimp only; omega) | decide | (simp only [Nat.add_zero, Int.toNat_natCast, *]; omega))))
            all_goals (conv => whnf)
            all_goals first
              | exact ret_out (l := [0, 1, 2]) rfl rfl trivial allRw_nil
              | (exfalso; omega)
          | true =>
            rw [n2] at d2
            rw [if_neg (by decide)]
            by_cases n3 : 0 ≤ isX L (bi.getD k ⟨#[]⟩) L.n
            · rw [decide_eq_true n3] at d3
              rw [if_neg (fun h => h n3)]
              by_cases n4 : bp.getD k ⟨#[]⟩ = bi.getD k ⟨#[]⟩
              · rw [if_pos n4]
                repeat' ((conv => whnf); first | (refine vcall_pure (d1) rfl rfl rfl ?_) | (refine vcallD_pure (d1) rfl rfl rfl ?_) | (refine vcall_pure (d2) rfl rfl rfl ?_) | (refine vcallD_pure (d2) rfl rfl rfl ?_) | (refine vcall_out (l :=  [0, 1]) (d3 ) ⟨rfl, rfl, rfl, rfl, (by (repeat' (first | exact trivial | exact GB_wf | constructor)); first | done | fail), (by (repeat' (first | exact trivial | exact GB_fits rfl | constructor)); first | done | fail)⟩ ?_) | (refine vcallD_out (l :=  [0, 1]) (d3 ) ⟨rfl, rfl, rfl, rfl, (by (repeat' (first | exact trivial | exact GB_wf | constructor)); first | done | fail), (by (repeat' (first | exact trivial | exact GB_fits rfl | constructor)); first | done | fail)⟩ ?_) | (refine br_seq (fun h => ?_) (fun h => absurd n4 h)) | (refine br_dec (fun h => ?_) (fun h => ?_) <;> try (exfalso; (try dsimp only at h); omega)) | (refine br_ndec (fun h => ?_) (fun h => ?_) <;> try (exfalso; (try dsimp only at h); omega)) | refine br_seq (fun h => ?_) (fun h => ?_) | refine br_nseq (fun h => ?_) (fun h => ?_) | refine br_not (fun h => ?_) (fun h => ?_) | refine br_intro (fun h => ?_) (fun h => ?_) | refine cond_intro rfl ?_ | (refine cond_intro ⟨rfl, ?_⟩ ?_; (first | omega | (dsimp only; omega) | decide)) | (refine cond_intro ?_ ?_; (first | omega | (dsimp only; omega) | decide | (simp only [Nat.add_zero, Int.toNat_natCast, *]; omega))))
                all_goals (conv => whnf)
                all_goals first
                  | exact ret_out (l := [0, 1, 2]) rfl rfl trivial allRw_nil
                  | (exfalso; omega)
              · rw [if_neg n4]
                have d5 := bk_Contains m bi bp (bi.getD k ⟨#[]⟩) (bp.getD k ⟨#[]⟩) k (by omega) hm
                have n5 : 0 ≤ bkX bi bp (bi.getD k ⟨#[]⟩) (bp.getD k ⟨#[]⟩) k := by
                  refine Classical.byContradiction (fun h => hb ?_)
                  unfold beK
                  rw [n1, n2, if_neg (by decide), if_neg (fun h => h n3), if_neg n4, if_neg h]
                rw [decide_eq_true n5] at d5
                rw [if_pos n5]
                repeat' ((conv => whnf); first | (refine vcall_pure (d1) rfl rfl rfl ?_) | (refine vcallD_pure (d1) rfl rfl rfl ?_) | (refine vcall_pure (d2) rfl rfl rfl ?_) | (refine vcallD_pure (d2) rfl rfl rfl ?_) | (refine vcall_out (l :=  [0, 1]) (d3 ) ⟨rfl, rfl, rfl, rfl, (by (repeat' (first | exact trivial | exact GB_wf | constructor)); first | done | fail), (by (repeat' (first | exact trivial | exact GB_fits rfl | constructor)); first | done | fail)⟩ ?_) | (refine vcallD_out (l :=  [0, 1]) (d3 ) ⟨rfl, rfl, rfl, rfl, (by (repeat' (first | exact trivial | exact GB_wf | constructor)); first | done | fail), (by (repeat' (first | exact trivial | exact GB_fits rfl | constructor)); first | done | fail)⟩ ?_) | (refine vcall_out (l :=  [0, 2]) (d5 ) ⟨rfl, rfl, rfl, rfl, (by (repeat' (first | exact trivial | exact GB_wf | constructor)); first | done | fail), (by (repeat' (first | exact trivial | exact GB_fits rfl | constructor)); first | done | fail)⟩ ?_) | (refine vcallD_out (l :=  [0, 2]) (d5 ) ⟨rfl, rfl, rfl, rfl, (by (repeat' (first | exact trivial | exact GB_wf | constructor)); first | done | fail), (by (repeat' (first | exact trivial | exact GB_fits rfl | constructor)); first | done | fail)⟩ ?_) | (refine br_seq (fun h => absurd h n4) (fun h => ?_)) | (refine br_dec (fun h => ?_) (fun h => ?_) <;> try (exfalso; (try dsimp only at h); omega)) | (refine br_ndec (fun h => ?_) (fun h => ?_) <;> try (exfalso; (try dsimp only at h); omega)) | refine br_seq (fun h => ?_) (fun h => ?_) | refine br_nseq (fun h => ?_) (fun h => ?_) | refine br_not (fun h => ?_) (fun h => ?_) | refine br_intro (fun h => ?_) (fun h => ?_) | refine cond_intro rfl ?_ | (refine cond_intro ⟨rfl, ?_⟩ ?_; (first | omega | (dsimp only; omega) | decide)) | (refine cond_intro ?_ ?_; (first | omega | (dsimp only; omega) | decide | (simp only [Nat.add_zero, Int.toNat_natCast, *]; omega))))
                all_goals (conv => whnf)
                all_goals first
                  | exact ret_out (l := [0, 1, 2]) rfl rfl trivial allRw_nil
                  | (exfalso; omega)
            · rw [decide_eq_false n3] at d3
              rw [if_pos n3]
              repeat' ((conv => whnf); first | (refine vcall_pure (d1) rfl rfl rfl ?_) | (refine vcallD_pure (d1) rfl rfl rfl ?_) | (refine vcall_pure (d2) rfl rfl rfl ?_) | (refine vcallD_pure (d2) rfl rfl rfl ?_) | (refine vcall_out (l :=  [0, 1]) (d3 ) ⟨rfl, rfl, rfl, rfl, (by (repeat' (first | exact trivial | exact GB_wf | constructor)); first | done | fail), (by (repeat' (first | exact trivial | exact GB_fits rfl | constructor)); first | done | fail)⟩ ?_) | (refine vcallD_out (l :=  [0, 1]) (d3 ) ⟨rfl, rfl, rfl, rfl, (by (repeat' (first | exact trivial | exact GB_wf | constructor)); first | done | fail), (by (repeat' (first | exact trivial | exact GB_fits rfl | constructor)); first | done | fail)⟩ ?_) | (refine br_dec (fun h => ?_) (fun h => ?_) <;> try (exfalso; (try dsimp only at h); omega)) | (refine br_ndec (fun h => ?_) (fun h => ?_) <;> try (exfalso; (try dsimp only at h); omega)) | refine br_seq (fun h => ?_) (fun h => ?_) | refine br_nseq (fun h => ?_) (fun h => ?_) | refine br_not (fun h => ?_) (fun h => ?_) | refine br_intro (fun h => ?_) (fun h => ?_) | refine cond_intro rfl ?_ | (refine cond_intro ⟨rfl, ?_⟩ ?_; (first | omega | (dsimp only; omega) | decide)) | (refine cond_intro ?_ ?_; (first | omega | (dsimp only; omega) | decide | (simp only [Nat.add_zero, Int.toNat_natCast, *]; omega))))
              all_goals (conv => whnf)
              all_goals first
                | exact ret_out (l := [0, 1, 2]) rfl rfl trivial allRw_nil
                | (exfalso; omega)
    · have e : k = m := by omega
      subst e
      rw [hc, if_neg (fun h => h rfl)] at he ⊢
      have hf : f < 1 ∨ 100 < f := Classical.byContradiction (fun h => he (if_neg h))
      rw [if_pos hf]
      by_cases hf1 : f < 1
      · repeat' ((conv => whnf); first | (refine br_dec (fun h => ?_) (fun h => ?_) <;> try (exfalso; (try dsimp only at h); omega)) | (refine br_ndec (fun h => ?_) (fun h => ?_) <;> try (exfalso; (try dsimp only at h); omega)) | refine br_seq (fun h => ?_) (fun h => ?_) | refine br_nseq (fun h => ?_) (fun h => ?_) | refine br_not (fun h => ?_) (fun h => ?_) | refine br_intro (fun h => ?_) (fun h => ?_) | refine cond_intro rfl ?_ | (refine cond_intro ⟨rfl, ?_⟩ ?_; (first | omega | (dsimp only; omega) | decide)) | (refine cond_intro ?_ ?_; (first | omega | (dsimp only; omega) | decide | (simp only [Nat.add_zero, Int.toNat_natCast, *]; omega))))
        all_goals (conv => whnf)
        all_goals first
          | exact ret_out (l := [0, 1, 2]) rfl rfl trivial allRw_nil
          | (exfalso; omega)
      · repeat' ((conv => whnf); first | (refine br_dec (fun h => ?_) (fun h => ?_) <;> try (exfalso; (try dsimp only at h); omega)) | (refine br_ndec (fun h => ?_) (fun h => ?_) <;> try (exfalso; (try dsimp only at h); omega)) | refine br_seq (fun h => ?_) (fun h => ?_) | refine br_nseq (fun h => ?_) (fun h => ?_) | refine br_not (fun h => ?_) (fun h => ?_) | refine br_intro (fun h => ?_) (fun h => ?_) | refine cond_intro rfl ?_ | (refine cond_intro ⟨rfl, ?_⟩ ?_; (first | omega | (dsimp only; omega) | decide)) | (refine cond_intro ?_ ?_; (first | omega | (dsimp only; omega) | decide | (simp only [Nat.add_zero, Int.toNat_natCast, *]; omega))))
        all_goals (conv => whnf)
        all_goals first
          | exact ret_out (l := [0, 1, 2]) rfl rfl trivial allRw_nil
          | (exfalso; omega)
  · have e1 : nwE L m bi bp f = exR L := if_pos hx
    rw [e1]
    generalize exR L = x at *
    refine fc_of mixed T_ok Try.func8 rfl (by kernel_rfl) (by kernel_rfl) (by kernel_rfl) ?_
    repeat' ((conv => whnf); first | (refine vcall_out (l :=  [0, 1]) (c1 ) ⟨rfl, rfl, rfl, rfl, (by (repeat' (first | exact trivial | exact GB_wf | constructor)); first | done | fail), (by (repeat' (first | exact trivial | exact GB_fits rfl | constructor)); first | done | fail)⟩ ?_) | (refine vcallD_out (l :=  [0, 1]) (c1 ) ⟨rfl, rfl, rfl, rfl, (by (repeat' (first | exact trivial | exact GB_wf | constructor)); first | done | fail), (by (repeat' (first | exact trivial | exact GB_fits rfl | constructor)); first | done | fail)⟩ ?_) | (refine br_dec (fun h => ?_) (fun h => ?_) <;> try (exfalso; (try dsimp only at h); omega)) | (refine br_ndec (fun h => ?_) (fun h => ?_) <;> try (exfalso; (try dsimp only at h); omega)) | refine br_seq (fun h => ?_) (fun h => ?_) | refine br_nseq (fun h => ?_) (fun h => ?_) | refine br_not (fun h => ?_) (fun h => ?_) | refine br_intro (fun h => ?_) (fun h => ?_) | refine cond_intro rfl ?_ | (refine cond_intro ⟨rfl, ?_⟩ ?_; (first | omega | (dsimp only; omega) | decide)) | (refine cond_intro ?_ ?_; (first | omega | (dsimp only; omega) | decide | (simp only [Nat.add_zero, Int.toNat_natCast, *]; omega))))
    all_goals (conv => whnf)
    all_goals first
      | exact ret_out (l := [0, 1, 2]) rfl rfl trivial allRw_nil
      | (exfalso; omega)
theorem rt_New_ok (L : Rg) (m : Nat) (bi bp : List ByteArray) (f : Int) (hm : m ≤ 1000000) (hn : L.n ≤ 1000000) (he : nwE L m bi bp f = 0) (h1 : L.lo.length = L.n) (h2 : L.hi.length = L.n) (h3 : L.is.length = L.n) (h4 : L.pr.length = L.n) (h5 : bi.length = m) (h6 : bp.length = m) : FC Try.prog 3 8 [.sl 1 0 0 L.n, .sl 2 0 0 m, .int .i64 f] [(1, some (rgB L)), (2, some (bkB m bi bp))] (isOut (.tup [.ptr 3 0 0 0, .int .i64 0]) (nwO L m bi bp f (nwR L m bi bp f)) 7) := by
  obtain ⟨hx, hbe, hf1, hf2⟩ := nwE_zero he
  have c1 := bin_Check L
  have c2 := rg_Clone L hn h1 h2 h3 h4
  have c3 := bk_Clone m bi bp hm h5 h6
  rw [hx] at c1
  clear he
  refine fc_of mixed T_ok Try.func8 rfl (by kernel_rfl) (by kernel_rfl) (by kernel_rfl) ?_
  repeat' ((conv => whnf); first | (refine vcall_out (l :=  [0, 1]) (c1 ) ⟨rfl, rfl, rfl, rfl, (by (repeat' (first | exact trivial | exact GB_wf | constructor)); first | done | fail), (by (repeat' (first | exact trivial | exact GB_fits rfl | constructor)); first | done | fail)⟩ ?_) | (refine vcallD_out (l :=  [0, 1]) (c1 ) ⟨rfl, rfl, rfl, rfl, (by (repeat' (first | exact trivial | exact GB_wf | constructor)); first | done | fail), (by (repeat' (first | exact trivial | exact GB_fits rfl | constructor)); first | done | fail)⟩ ?_) | (refine br_dec (fun h => ?_) (fun h => ?_) <;> try (exfalso; (try dsimp only at h); omega)) | (refine br_ndec (fun h => ?_) (fun h => ?_) <;> try (exfalso; (try dsimp only at h); omega)) | refine br_seq (fun h => ?_) (fun h => ?_) | refine br_nseq (fun h => ?_) (fun h => ?_) | refine br_not (fun h => ?_) (fun h => ?_) | refine br_intro (fun h => ?_) (fun h => ?_) | refine cond_intro rfl ?_ | (refine cond_intro ⟨rfl, ?_⟩ ?_; (first | omega | (dsimp only; omega) | decide)) | (refine cond_intro ?_ ?_; (first | omega | (dsimp only; omega) | decide | (simp only [Nat.add_zero, Int.toNat_natCast, *]; omega))))
  all_goals (conv => whnf)
  refine vloop_of (fun k : Nat => ⟨[(0, .sl 1 0 0 L.n), (1, .sl 2 0 0 m), (2, .int .i64 f), (21, .sl 2 0 0 m), (22, .int .i64 m), (23, .int .i64 k)], [(1, some (rgB L)), (2, some (bkB m bi bp))], 3⟩) (fun k => k ≤ m) (fun k => m - k) 0 [0, 1, 2] [] ⟨rfl, ⟨rfl, rfl, rfl, rfl, rfl, rfl, trivial⟩, ⟨rfl, rfl, trivial⟩⟩ (by omega) ?_
  intro k hk
  by_cases hk2 : k < m
  · have d1 := rt_isName (bi.getD k ⟨#[]⟩)
    have d2 := rt_isName (bp.getD k ⟨#[]⟩)
    have d3 := rt_isIssuer L (bi.getD k ⟨#[]⟩) hn
    have d4 := bk_Contains m bi bp (bi.getD k ⟨#[]⟩) (bp.getD k ⟨#[]⟩) k (by omega) hm
    obtain ⟨n1, n2, n3, n4, n5⟩ := beK_zero (beA_zero m hbe hk2)
    rw [n1] at d1
    rw [n2] at d2
    rw [decide_eq_true n3] at d3
    rw [decide_eq_false n5] at d4
    clear c2 c3
    repeat' ((conv => whnf); first | (refine vcall_pure (d1) rfl rfl rfl ?_) | (refine vcallD_pure (d1) rfl rfl rfl ?_) | (refine vcall_pure (d2) rfl rfl rfl ?_) | (refine vcallD_pure (d2) rfl rfl rfl ?_) | (refine vcall_out (l :=  [0, 1]) (d3 ) ⟨rfl, rfl, rfl, rfl, (by (repeat' (first | exact trivial | exact GB_wf | constructor)); first | done | fail), (by (repeat' (first | exact trivial | exact GB_fits rfl | constructor)); first | done | fail)⟩ ?_) | (refine vcallD_out (l :=  [0, 1]) (d3 ) ⟨rfl, rfl, rfl, rfl, (by (repeat' (first | exact trivial | exact GB_wf | constructor)); first | done | fail), (by (repeat' (first | exact trivial | exact GB_fits rfl | constructor)); first | done | fail)⟩ ?_) | (refine vcall_out (l :=  [0, 2]) (d4 ) ⟨rfl, rfl, rfl, rfl, (by (repeat' (first | exact trivial | exact GB_wf | constructor)); first | done | fail), (by (repeat' (first | exact trivial | exact GB_fits rfl | constructor)); first | done | fail)⟩ ?_) | (refine vcallD_out (l :=  [0, 2]) (d4 ) ⟨rfl, rfl, rfl, rfl, (by (repeat' (first | exact trivial | exact GB_wf | constructor)); first | done | fail), (by (repeat' (first | exact trivial | exact GB_fits rfl | constructor)); first | done | fail)⟩ ?_) | (refine br_seq (fun h => absurd h n4) (fun h => ?_)) | (refine br_dec (fun h => ?_) (fun h => ?_) <;> try (exfalso; (try dsimp only at h); omega)) | (refine br_ndec (fun h => ?_) (fun h => ?_) <;> try (exfalso; (try dsimp only at h); omega)) | refine br_seq (fun h => ?_) (fun h => ?_) | refine br_nseq (fun h => ?_) (fun h => ?_) | refine br_not (fun h => ?_) (fun h => ?_) | refine br_intro (fun h => ?_) (fun h => ?_) | refine cond_intro rfl ?_ | (refine cond_intro ⟨rfl, ?_⟩ ?_; (first | omega | (dsimp only; omega) | decide)) | (refine cond_intro ?_ ?_; (first | omega | (dsimp only; omega) | decide | (simp only [Nat.add_zero, Int.toNat_natCast, *]; omega))))
    all_goals (conv => whnf)
    all_goals first
      | exact ⟨k + 1, [0, 1, 2], [], by omega, by omega, ⟨rfl, ⟨rfl, rfl, rfl, rfl, rfl, congrArg (fun z => some (SV.int .i64 z)) (i64_succ (by omega)), trivial⟩, ⟨rfl, rfl, trivial⟩⟩⟩
      | (exfalso; omega)
  · have e : k = m := by omega
    subst e
    repeat' ((conv => whnf); first | (refine vcall_out (l :=  [0, 1]) (c2 ) ⟨rfl, rfl, rfl, rfl, (by (repeat' (first | exact trivial | exact GB_wf | constructor)); first | done | fail), (by (repeat' (first | exact trivial | exact GB_fits rfl | constructor)); first | done | fail)⟩ ?_) | (refine vcallD_out (l :=  [0, 1]) (c2 ) ⟨rfl, rfl, rfl, rfl, (by (repeat' (first | exact trivial | exact GB_wf | constructor)); first | done | fail), (by (repeat' (first | exact trivial | exact GB_fits rfl | constructor)); first | done | fail)⟩ ?_) | (refine vcall_out (l :=  [0, 2]) (c3 ) ⟨rfl, rfl, rfl, rfl, (by (repeat' (first | exact trivial | exact GB_wf | constructor)); first | done | fail), (by (repeat' (first | exact trivial | exact GB_fits rfl | constructor)); first | done | fail)⟩ ?_) | (refine vcallD_out (l :=  [0, 2]) (c3 ) ⟨rfl, rfl, rfl, rfl, (by (repeat' (first | exact trivial | exact GB_wf | constructor)); first | done | fail), (by (repeat' (first | exact trivial | exact GB_fits rfl | constructor)); first | done | fail)⟩ ?_) | (refine br_dec (fun h => ?_) (fun h => ?_) <;> try (exfalso; (try dsimp only at h); omega)) | (refine br_ndec (fun h => ?_) (fun h => ?_) <;> try (exfalso; (try dsimp only at h); omega)) | refine br_seq (fun h => ?_) (fun h => ?_) | refine br_nseq (fun h => ?_) (fun h => ?_) | refine br_not (fun h => ?_) (fun h => ?_) | refine br_intro (fun h => ?_) (fun h => ?_) | refine cond_intro rfl ?_ | (refine cond_intro ⟨rfl, ?_⟩ ?_; (first | omega | (dsimp only; omega) | decide)) | (refine cond_intro ?_ ?_; (first | omega | (dsimp only; omega) | decide | (simp only [Nat.add_zero, Int.toNat_natCast, *]; omega))))
    all_goals (conv => whnf)
    refine vloop_of (fun i : Nat => ⟨[(0, .sl 1 0 0 L.n), (1, .sl 2 0 0 k), (11, .ptr 3 0 0 0), (68, .sl 1 0 0 L.n), (69, .int .i64 L.n), (70, .int .i64 i)], (1, some (rgB L)) :: (2, some (bkB k bi bp)) :: nwO L k bi bp f (nwA ⟨L, k, bi, bp, f, 0, [], [], [], 0⟩ L.s i), 7⟩) (fun i => i ≤ L.n) (fun i => L.n - i) 0 [0, 1, 2, 6, 3, 4, 5] [] ⟨rfl, ⟨rfl, rfl, rfl, rfl, rfl, rfl, trivial⟩, ⟨rfl, rfl, rfl, rfl, rfl, rfl, trivial⟩⟩ (by omega) ?_
    intro i hi
    by_cases hi2 : i < L.n
    · clear c1 c2 c3
      repeat' ((conv => whnf); first | (refine br_dec (fun h => ?_) (fun h => ?_) <;> try (exfalso; (try dsimp only at h); omega)) | (refine br_ndec (fun h => ?_) (fun h => ?_) <;> try (exfalso; (try dsimp only at h); omega)) | refine br_seq (fun h => ?_) (fun h => ?_) | refine br_nseq (fun h => ?_) (fun h => ?_) | refine br_not (fun h => ?_) (fun h => ?_) | refine br_intro (fun h => ?_) (fun h => ?_) | refine cond_intro rfl ?_ | (refine cond_intro ⟨rfl, ?_⟩ ?_; (first | omega | (dsimp only; omega) | decide)) | (refine cond_intro ?_ ?_; (first | omega | (dsimp only; omega) | decide | (simp only [Nat.add_zero, Int.toNat_natCast, *]; omega))))
      all_goals (conv => whnf)
      all_goals first
        | exact ⟨i + 1, [0, 1, 2, 3, 4, 5, 6], [], by omega, by omega, ⟨rfl, ⟨rfl, rfl, rfl, rfl, rfl, congrArg (fun z => some (SV.int .i64 z)) (i64_succ (by omega)), trivial⟩, ⟨rfl, rfl, rfl, rfl, rfl, rfl, trivial⟩⟩⟩
        | (exfalso; omega)
    · have e : i = L.n := by omega
      subst e
      clear c1 c2 c3
      unfold nwR
      generalize nwA ⟨L, k, bi, bp, f, 0, [], [], [], 0⟩ L.s L.n = r1
      repeat' ((conv => whnf); first | (refine br_dec (fun h => ?_) (fun h => ?_) <;> try (exfalso; (try dsimp only at h); omega)) | (refine br_ndec (fun h => ?_) (fun h => ?_) <;> try (exfalso; (try dsimp only at h); omega)) | refine br_seq (fun h => ?_) (fun h => ?_) | refine br_nseq (fun h => ?_) (fun h => ?_) | refine br_not (fun h => ?_) (fun h => ?_) | refine br_intro (fun h => ?_) (fun h => ?_) | refine cond_intro rfl ?_ | (refine cond_intro ⟨rfl, ?_⟩ ?_; (first | omega | (dsimp only; omega) | decide)) | (refine cond_intro ?_ ?_; (first | omega | (dsimp only; omega) | decide | (simp only [Nat.add_zero, Int.toNat_natCast, *]; omega))))
      all_goals (conv => whnf)
      refine vloop_of (fun i : Nat => ⟨[(1, .sl 2 0 0 k), (11, .ptr 3 0 0 0), (81, .sl 2 0 0 k), (82, .int .i64 k), (83, .int .i64 i)], (1, some (rgB L)) :: (2, some (bkB k bi bp)) :: nwO L k bi bp f (nwA r1 (fun k => bp.getD k ⟨#[]⟩) i), 7⟩) (fun i => i ≤ k) (fun i => k - i) 0 [0, 1, 2, 3, 4, 5, 6] [] ⟨rfl, ⟨rfl, rfl, rfl, rfl, rfl, trivial⟩, ⟨rfl, rfl, rfl, rfl, rfl, rfl, trivial⟩⟩ (by omega) ?_
      intro j hj
      by_cases hj2 : j < k
      · repeat' ((conv => whnf); first | (refine br_dec (fun h => ?_) (fun h => ?_) <;> try (exfalso; (try dsimp only at h); omega)) | (refine br_ndec (fun h => ?_) (fun h => ?_) <;> try (exfalso; (try dsimp only at h); omega)) | refine br_seq (fun h => ?_) (fun h => ?_) | refine br_nseq (fun h => ?_) (fun h => ?_) | refine br_not (fun h => ?_) (fun h => ?_) | refine br_intro (fun h => ?_) (fun h => ?_) | refine cond_intro rfl ?_ | (refine cond_intro ⟨rfl, ?_⟩ ?_; (first | omega | (dsimp only; omega) | decide)) | (refine cond_intro ?_ ?_; (first | omega | (dsimp only; omega) | decide | (simp only [Nat.add_zero, Int.toNat_natCast, *]; omega))))
        all_goals (conv => whnf)
        all_goals first
          | exact ⟨j + 1, [0, 1, 2, 3, 4, 5, 6], [], by omega, by omega, ⟨rfl, ⟨rfl, rfl, rfl, rfl, congrArg (fun z => some (SV.int .i64 z)) (i64_succ (by omega)), trivial⟩, ⟨rfl, rfl, rfl, rfl, rfl, rfl, trivial⟩⟩⟩
          | (exfalso; omega)
      · have e : j = k := by omega
        subst e
        repeat' ((conv => whnf); first | (refine br_dec (fun h => ?_) (fun h => ?_) <;> try (exfalso; (try dsimp only at h); omega)) | (refine br_ndec (fun h => ?_) (fun h => ?_) <;> try (exfalso; (try dsimp only at h); omega)) | refine br_seq (fun h => ?_) (fun h => ?_) | refine br_nseq (fun h => ?_) (fun h => ?_) | refine br_not (fun h => ?_) (fun h => ?_) | refine br_intro (fun h => ?_) (fun h => ?_) | refine cond_intro rfl ?_ | (refine cond_intro ⟨rfl, ?_⟩ ?_; (first | omega | (dsimp only; omega) | decide)) | (refine cond_intro ?_ ?_; (first | omega | (dsimp only; omega) | decide | (simp only [Nat.add_zero, Int.toNat_natCast, *]; omega))))
        all_goals (conv => whnf)
        all_goals first
          | exact ret_out (l := [0, 1, 2, 3, 4, 5, 6]) rfl rfl ⟨rfl, rfl, rfl, rfl, trivial⟩ (allRw_cons (allRw_cons (allRw_cons (allRw_cons allRw_nil))))
          | (exfalso; omega)
end Go.Proofs.Ytkmbnniikncaiaa
