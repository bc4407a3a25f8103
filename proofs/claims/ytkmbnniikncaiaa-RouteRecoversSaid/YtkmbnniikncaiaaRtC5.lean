/- Contracts of package route: the index of a party, the choices. -/
import Derived.Test.YtkmbnniikncaiaaRtC4
namespace Go.Proofs.Ytkmbnniikncaiaa
open Go.RowKit Go.Sy
attribute [local irreducible] vcall vloop vcallD retP
set_option maxRecDepth 100000
set_option linter.unusedVariables false
set_option linter.unusedSimpArgs false

/-- The first place of a text, or -1. -/
def stX (l : List ByteArray) (x : ByteArray) : Nat → Int
  | 0 => -1
  | k + 1 => if 0 ≤ stX l x k then stX l x k else if seq x (l.getD k ⟨#[]⟩) = true then (k : Int) else -1
theorem stX_stop {l : List ByteArray} {x : ByteArray} {k : Nat} (h0 : stX l x k = -1) (h : seq x (l.getD k ⟨#[]⟩) = true) : ∀ n, k < n → stX l x n = k
  | 0, hh => by omega
  | n + 1, hh => by
    simp only [stX]
    by_cases e : k = n
    · subst e; rw [h0, if_neg (by omega), if_pos h]
    · rw [stX_stop h0 h n (by omega), if_pos (by omega)]
theorem str_Index (n : Nat) (l : List ByteArray) (x : ByteArray) (hn : n ≤ 1000000) : FC Try.prog 2 25 [.sl 1 0 0 n, .str x] [(1, some (.one true (.cols n [.sc (.strs l)])))] (isOut (.int .i64 (stX l x n)) [] 2) := by
  refine fc_of mixed T_ok Try.func25 rfl (by kernel_rfl) (by kernel_rfl) (by kernel_rfl) ?_
  (conv => whnf)
  refine vloop_of (fun k : Nat => ⟨[(0, .sl 1 0 0 n), (1, .str x), (6, .sl 1 0 0 n), (7, .int .i64 n), (8, .int .i64 k)], [(1, some (.one true (.cols n [.sc (.strs l)])))], 2⟩) (fun k => k ≤ n ∧ stX l x k = -1) (fun k => n - k) 0 [0, 1] [] ⟨rfl, ⟨rfl, rfl, rfl, rfl, rfl, trivial⟩, ⟨rfl, trivial⟩⟩ ⟨by omega, rfl⟩ ?_
  rintro k ⟨hk, hx⟩
  by_cases hk2 : k < n
  · cases hq : seq x (l.getD k ⟨#[]⟩) with
    | true =>
      rw [stX_stop hx hq _ hk2]
      repeat' ((conv => whnf); first | (refine br_intro (fun h => ?_) (fun h => absurd (hq.symm.trans h) (by decide))) | (refine br_dec (fun h => ?_) (fun h => ?_) <;> try (exfalso; (try dsimp only at h); omega)) | (refine br_ndec (fun h => ?_) (fun h => ?_) <;> try (exfalso; (try dsimp only at h); omega)) | refine br_seq (fun h => ?_) (fun h => ?_) | refine br_nseq (fun h => ?_) (fun h => ?_) | refine br_not (fun h => ?_) (fun h => ?_) | refine br_intro (fun h => ?_) (fun h => ?_) | refine cond_intro rfl ?_ | (refine cond_intro ⟨rfl, ?_⟩ ?_; (first | omega | (dsimp only; omega) | decide)) | (refine cond_intro ?_ ?_; (first | omega | (dsimp only; omega) | decide | (simp only [Nat.add_zero, Int.toNat_natCast, *]; omega))))
      all_goals (conv => whnf)
      all_goals first
        | exact ret_out (l := [0, 1]) rfl rfl trivial allRw_nil
        | (exfalso; omega)
    | false =>
      have e : stX l x (k + 1) = -1 := by simp only [stX, hx, hq]; rfl
      repeat' ((conv => whnf); first | (refine br_intro (fun h => absurd (hq.symm.trans h) (by decide)) (fun h => ?_)) | (refine br_dec (fun h => ?_) (fun h => ?_) <;> try (exfalso; (try dsimp only at h); omega)) | (refine br_ndec (fun h => ?_) (fun h => ?_) <;> try (exfalso; (try dsimp only at h); omega)) | refine br_seq (fun h => ?_) (fun h => ?_) | refine br_nseq (fun h => ?_) (fun h => ?_) | refine br_not (fun h => ?_) (fun h => ?_) | refine br_intro (fun h => ?_) (fun h => ?_) | refine cond_intro rfl ?_ | (refine cond_intro ⟨rfl, ?_⟩ ?_; (first | omega | (dsimp only; omega) | decide)) | (refine cond_intro ?_ ?_; (first | omega | (dsimp only; omega) | decide | (simp only [Nat.add_zero, Int.toNat_natCast, *]; omega))))
      all_goals (conv => whnf)
      all_goals first
        | exact ⟨k + 1, [0, 1], [], ⟨by omega, e⟩, by omega, ⟨rfl, ⟨rfl, rfl, rfl, rfl, congrArg (fun z => some (SV.int .i64 z)) (i64_succ (by omega)), trivial⟩, ⟨rfl, trivial⟩⟩⟩
        | (exfalso; omega)
  · have e : k = n := by omega
    subst e
    rw [hx]
    repeat' ((conv => whnf); first | (refine br_dec (fun h => ?_) (fun h => ?_) <;> try (exfalso; (try dsimp only at h); omega)) | (refine br_ndec (fun h => ?_) (fun h => ?_) <;> try (exfalso; (try dsimp only at h); omega)) | refine br_seq (fun h => ?_) (fun h => ?_) | refine br_nseq (fun h => ?_) (fun h => ?_) | refine br_not (fun h => ?_) (fun h => ?_) | refine br_intro (fun h => ?_) (fun h => ?_) | refine cond_intro rfl ?_ | (refine cond_intro ⟨rfl, ?_⟩ ?_; (first | omega | (dsimp only; omega) | decide)) | (refine cond_intro ?_ ?_; (first | omega | (dsimp only; omega) | decide | (simp only [Nat.add_zero, Int.toNat_natCast, *]; omega))))
    all_goals (conv => whnf)
    all_goals first
      | exact ret_out (l := [0, 1]) rfl rfl trivial allRw_nil
      | (exfalso; omega)
theorem stX_bd (l : List ByteArray) (x : ByteArray) : ∀ n, -1 ≤ stX l x n ∧ stX l x n < n
  | 0 => by simp [stX]
  | n + 1 => by
    have := stX_bd l x n
    simp only [stX]
    split
    · omega
    · split <;> omega

def chE (r : Rt) (s : ByteArray) : Int := if panE s ≠ 0 then panE s else if (fdR r.L s).isSome = true then 0 else 20
def chS (r : Rt) (s : ByteArray) : SV := if chE r s = 0 then .agg [.str (optS r.L.s (fdR r.L s)), .str (optS r.L.p (fdR r.L s)), .str (ptX r (optS r.L.s (fdR r.L s))), .int .i64 (mdX r (optS r.L.s (fdR r.L s)))] else .agg [.str ⟨#[]⟩, .str ⟨#[]⟩, .str ⟨#[]⟩, .int .i64 0]
theorem rt_Choose (r : Rt) (s : ByteArray) (hm : r.m ≤ 1000000) (hn : r.L.n ≤ 1000000) : FC Try.prog 5 10 [.ptr 1 0 0 0, .str s] (rtR r) (isOut (.tup [chS r s, .int .i64 (chE r s)]) [] 5) := by
  have c1 := pan_Check s
  have c2 := bin_Find r.L s hn
  have c3 := rt_first1 r (optS r.L.s (fdR r.L s)) (optS r.L.p (fdR r.L s)) ⟨#[]⟩ 0 hm
  unfold chS chE
  generalize panE s = e at *
  generalize hl : optS r.L.l (fdR r.L s) = xl at *
  generalize hh : optS r.L.h (fdR r.L s) = xh at *
  generalize hs : optS r.L.s (fdR r.L s) = xs at *
  generalize hp : optS r.L.p (fdR r.L s) = xp at *
  have hrg : rgS r.L (fdR r.L s) = .agg [.str xl, .str xh, .str xs, .str xp] := by unfold rgS; rw [hl, hh, hs, hp]
  rw [hrg] at c2
  generalize (fdR r.L s).isSome = b at *
  generalize ptX r xs = px at *
  generalize mdX r xs = mx at *
  by_cases he : e = 0
  · subst he
    cases b with
    | true =>
      rw [show (if (0 : Int) ≠ 0 then (0 : Int) else if true = true then 0 else 20) = 0 from rfl, if_pos rfl]
      refine fc_of mixed T_ok Try.func10 rfl (by kernel_rfl) (by kernel_rfl) (by kernel_rfl) ?_
      repeat' ((conv => whnf); first | (refine vcall_pure (c1) rfl rfl rfl ?_) | (refine vcallD_pure (c1) rfl rfl rfl ?_) | (refine vcall_out (l :=  [0, 2]) (c2 ) ⟨rfl, rfl, rfl, rfl, (by (repeat' (first | exact trivial | exact GB_wf | constructor)); first | done | fail), (by (repeat' (first | exact trivial | exact GB_fits rfl | constructor)); first | done | fail)⟩ ?_) | (refine vcallD_out (l :=  [0, 2]) (c2 ) ⟨rfl, rfl, rfl, rfl, (by (repeat' (first | exact trivial | exact GB_wf | constructor)); first | done | fail), (by (repeat' (first | exact trivial | exact GB_fits rfl | constructor)); first | done | fail)⟩ ?_) | (refine vcall_out (l :=  [0, 1, 2, 3, 4]) (c3 ) ⟨rfl, rfl, rfl, rfl, (by (repeat' (first | exact trivial | exact GB_wf | constructor)); first | done | fail), (by (repeat' (first | exact trivial | exact GB_fits rfl | constructor)); first | done | fail)⟩ ?_) | (refine vcallD_out (l :=  [0, 1, 2, 3, 4]) (c3 ) ⟨rfl, rfl, rfl, rfl, (by (repeat' (first | exact trivial | exact GB_wf | constructor)); first | done | fail), (by (repeat' (first | exact trivial | exact GB_fits rfl | constructor)); first | done | fail)⟩ ?_) | (refine br_dec (fun h => ?_) (fun h => ?_) <;> try (exfalso; (try dsimp only at h); omega)) | (refine br_ndec (fun h => ?_) (fun h => ?_) <;> try (exfalso; (try dsimp only at h); omega)) | refine br_seq (fun h => ?_) (fun h => ?_) | refine br_nseq (fun h => ?_) (fun h => ?_) | refine br_not (fun h => ?_) (fun h => ?_) | refine br_intro (fun h => ?_) (fun h => ?_) | refine cond_intro rfl ?_ | (refine cond_intro ⟨rfl, ?_⟩ ?_; (first | omega | (dsimp only; omega) | decide)) | (refine cond_intro ?_ ?_; (first | omega | (dsimp only; omega) | decide | (simp only [Nat.add_zero, Int.toNat_natCast, *]; omega))))
      all_goals (conv => whnf)
      all_goals first
        | exact ret_out (l := [0, 1, 2, 3, 4]) rfl rfl trivial allRw_nil
        | (exfalso; omega)
    | false =>
      rw [show (if (0 : Int) ≠ 0 then (0 : Int) else if false = true then 0 else 20) = 20 from rfl, if_neg (by decide)]
      refine fc_of mixed T_ok Try.func10 rfl (by kernel_rfl) (by kernel_rfl) (by kernel_rfl) ?_
      repeat' ((conv => whnf); first | (refine vcall_pure (c1) rfl rfl rfl ?_) | (refine vcallD_pure (c1) rfl rfl rfl ?_) | (refine vcall_out (l :=  [0, 2]) (c2 ) ⟨rfl, rfl, rfl, rfl, (by (repeat' (first | exact trivial | exact GB_wf | constructor)); first | done | fail), (by (repeat' (first | exact trivial | exact GB_fits rfl | constructor)); first | done | fail)⟩ ?_) | (refine vcallD_out (l :=  [0, 2]) (c2 ) ⟨rfl, rfl, rfl, rfl, (by (repeat' (first | exact trivial | exact GB_wf | constructor)); first | done | fail), (by (repeat' (first | exact trivial | exact GB_fits rfl | constructor)); first | done | fail)⟩ ?_) | (refine br_dec (fun h => ?_) (fun h => ?_) <;> try (exfalso; (try dsimp only at h); omega)) | (refine br_ndec (fun h => ?_) (fun h => ?_) <;> try (exfalso; (try dsimp only at h); omega)) | refine br_seq (fun h => ?_) (fun h => ?_) | refine br_nseq (fun h => ?_) (fun h => ?_) | refine br_not (fun h => ?_) (fun h => ?_) | refine br_intro (fun h => ?_) (fun h => ?_) | refine cond_intro rfl ?_ | (refine cond_intro ⟨rfl, ?_⟩ ?_; (first | omega | (dsimp only; omega) | decide)) | (refine cond_intro ?_ ?_; (first | omega | (dsimp only; omega) | decide | (simp only [Nat.add_zero, Int.toNat_natCast, *]; omega))))
      all_goals (conv => whnf)
      all_goals first
        | exact ret_out (l := [0, 1, 2, 3, 4]) rfl rfl trivial allRw_nil
        | (exfalso; omega)
  · rw [show (if e ≠ 0 then e else if b = true then 0 else 20) = e from if_pos he, if_neg he]
    refine fc_of mixed T_ok Try.func10 rfl (by kernel_rfl) (by kernel_rfl) (by kernel_rfl) ?_
    repeat' ((conv => whnf); first | (refine vcall_pure (c1) rfl rfl rfl ?_) | (refine vcallD_pure (c1) rfl rfl rfl ?_) | (refine br_dec (fun h => ?_) (fun h => ?_) <;> try (exfalso; (try dsimp only at h); omega)) | (refine br_ndec (fun h => ?_) (fun h => ?_) <;> try (exfalso; (try dsimp only at h); omega)) | refine br_seq (fun h => ?_) (fun h => ?_) | refine br_nseq (fun h => ?_) (fun h => ?_) | refine br_not (fun h => ?_) (fun h => ?_) | refine br_intro (fun h => ?_) (fun h => ?_) | refine cond_intro rfl ?_ | (refine cond_intro ⟨rfl, ?_⟩ ?_; (first | omega | (dsimp only; omega) | decide)) | (refine cond_intro ?_ ?_; (first | omega | (dsimp only; omega) | decide | (simp only [Nat.add_zero, Int.toNat_natCast, *]; omega))))
    all_goals (conv => whnf)
    all_goals first
      | exact ret_out (l := [0, 1, 2, 3, 4]) rfl rfl trivial allRw_nil
      | (exfalso; omega)

/-- What follows a route: its error, and the choice. -/
def afE (r : Rt) (a p : ByteArray) (m : Int) : Int := if 0 ≤ isX r.L a r.L.n ∧ ((m = 1 ∧ p = a) ∨ (m = 2 ∧ 0 ≤ stX (paL r.bi r.bp a r.m) p (paN r.bi a r.m))) then 0 else 6
def afI (r : Rt) (a p : ByteArray) (m : Int) : Nat := if m = 1 then 0 else (stX (paL r.bi r.bp a r.m) p (paN r.bi a r.m)).toNat + 1
def afS (r : Rt) (a b p : ByteArray) (m : Int) : SV := if afE r a p m = 0 then .agg [.str a, .str b, .str (fsP r a (afI r a p m)), .int .i64 (fsM r a (afI r a p m))] else .agg [.str ⟨#[]⟩, .str ⟨#[]⟩, .str ⟨#[]⟩, .int .i64 0]
theorem rt_After (r : Rt) (a b p : ByteArray) (m : Int) (hm : r.m ≤ 1000000) (hn : r.L.n ≤ 1000000) : FC Try.prog 5 12 [.ptr 1 0 0 0, .agg [.str a, .str b, .str p, .int .i64 m]] (rtR r) (isOut (.tup [afS r a b p m, .int .i64 (afE r a p m)]) [] 5) := by
  have c1 := rt_isIssuer r.L a hn
  have c2 := rt_partners r a hm
  have hle := paN_le r.bi a r.m
  have c3 := str_Index (paN r.bi a r.m) (paL r.bi r.bp a r.m) p (by omega)
  have hb := stX_bd (paL r.bi r.bp a r.m) p (paN r.bi a r.m)
  have c4 := fun (i : Nat) hi => rt_first2 r a b p m i hm hi
  unfold afS
  by_cases hi : 0 ≤ isX r.L a r.L.n
  · rw [decide_eq_true hi] at c1
    by_cases h1 : m = 1
    · subst h1
      by_cases hp : p = a
      · have e0 : afE r a p 1 = 0 := if_pos ⟨hi, .inl ⟨rfl, hp⟩⟩
        have e1 : afI r a p 1 = 0 := if_pos rfl
        rw [e0, e1, if_pos rfl]
        have c5 := c4 0 (Nat.zero_le _)
        clear c2 c3 c4
        generalize fsP r a 0 = px at *
        generalize fsM r a 0 = mx at *
        refine fc_of mixed T_ok Try.func12 rfl (by kernel_rfl) (by kernel_rfl) (by kernel_rfl) ?_
        repeat' ((conv => whnf); first | (refine vcall_out (l :=  [0, 2]) (c1 ) ⟨rfl, rfl, rfl, rfl, (by (repeat' (first | exact trivial | exact GB_wf | constructor)); first | done | fail), (by (repeat' (first | exact trivial | exact GB_fits rfl | constructor)); first | done | fail)⟩ ?_) | (refine vcallD_out (l :=  [0, 2]) (c1 ) ⟨rfl, rfl, rfl, rfl, (by (repeat' (first | exact trivial | exact GB_wf | constructor)); first | done | fail), (by (repeat' (first | exact trivial | exact GB_fits rfl | constructor)); first | done | fail)⟩ ?_) | (refine vcall_out (l :=  [0, 1, 2, 3, 4]) (c5 ) ⟨rfl, rfl, rfl, rfl, (by (repeat' (first | exact trivial | exact GB_wf | constructor)); first | done | fail), (by (repeat' (first | exact trivial | exact GB_fits rfl | constructor)); first | done | fail)⟩ ?_) | (refine vcallD_out (l :=  [0, 1, 2, 3, 4]) (c5 ) ⟨rfl, rfl, rfl, rfl, (by (repeat' (first | exact trivial | exact GB_wf | constructor)); first | done | fail), (by (repeat' (first | exact trivial | exact GB_fits rfl | constructor)); first | done | fail)⟩ ?_) | (refine br_dec (fun h => ?_) (fun h => ?_) <;> try (exfalso; (try dsimp only at h); omega)) | (refine br_ndec (fun h => ?_) (fun h => ?_) <;> try (exfalso; (try dsimp only at h); omega)) | refine br_seq (fun h => ?_) (fun h => ?_) | refine br_nseq (fun h => ?_) (fun h => ?_) | refine br_not (fun h => ?_) (fun h => ?_) | refine br_intro (fun h => ?_) (fun h => ?_) | refine cond_intro rfl ?_ | (refine cond_intro ⟨rfl, ?_⟩ ?_; (first | omega | (dsimp only; omega) | decide)) | (refine cond_intro ?_ ?_; (first | omega | (dsimp only; omega) | decide | (simp only [Nat.add_zero, Int.toNat_natCast, *]; omega))))
        all_goals (conv => whnf)
        all_goals first
          | exact ret_out (l := [0, 1, 2, 3, 4]) rfl rfl trivial allRw_nil
          | (exfalso; omega)
          | (exfalso; exact absurd hp (by assumption))
      · have e0 : afE r a p 1 = 6 := if_neg (fun h => by rcases h.2 with h | h; exact hp h.2; omega)
        rw [e0, if_neg (by decide)]
        clear c2 c3 c4
        refine fc_of mixed T_ok Try.func12 rfl (by kernel_rfl) (by kernel_rfl) (by kernel_rfl) ?_
        repeat' ((conv => whnf); first | (refine vcall_out (l :=  [0, 2]) (c1 ) ⟨rfl, rfl, rfl, rfl, (by (repeat' (first | exact trivial | exact GB_wf | constructor)); first | done | fail), (by (repeat' (first | exact trivial | exact GB_fits rfl | constructor)); first | done | fail)⟩ ?_) | (refine vcallD_out (l :=  [0, 2]) (c1 ) ⟨rfl, rfl, rfl, rfl, (by (repeat' (first | exact trivial | exact GB_wf | constructor)); first | done | fail), (by (repeat' (first | exact trivial | exact GB_fits rfl | constructor)); first | done | fail)⟩ ?_) | (refine br_dec (fun h => ?_) (fun h => ?_) <;> try (exfalso; (try dsimp only at h); omega)) | (refine br_ndec (fun h => ?_) (fun h => ?_) <;> try (exfalso; (try dsimp only at h); omega)) | refine br_seq (fun h => ?_) (fun h => ?_) | refine br_nseq (fun h => ?_) (fun h => ?_) | refine br_not (fun h => ?_) (fun h => ?_) | refine br_intro (fun h => ?_) (fun h => ?_) | refine cond_intro rfl ?_ | (refine cond_intro ⟨rfl, ?_⟩ ?_; (first | omega | (dsimp only; omega) | decide)) | (refine cond_intro ?_ ?_; (first | omega | (dsimp only; omega) | decide | (simp only [Nat.add_zero, Int.toNat_natCast, *]; omega))))
        all_goals (conv => whnf)
        all_goals first
          | exact ret_out (l := [0, 1, 2, 3, 4]) rfl rfl trivial allRw_nil
          | (exfalso; omega)
          | (exfalso; exact absurd (by assumption) hp)
    · by_cases h2 : m = 2
      · subst h2
        by_cases hs : 0 ≤ stX (paL r.bi r.bp a r.m) p (paN r.bi a r.m)
        · have e0 : afE r a p 2 = 0 := if_pos ⟨hi, .inr ⟨rfl, hs⟩⟩
          have e1 : afI r a p 2 = (stX (paL r.bi r.bp a r.m) p (paN r.bi a r.m)).toNat + 1 := if_neg (by decide)
          rw [e0, e1, if_pos rfl]
          obtain ⟨j, hj⟩ : ∃ j : Nat, stX (paL r.bi r.bp a r.m) p (paN r.bi a r.m) = (j : Int) := ⟨_, (Int.toNat_of_nonneg hs).symm⟩
          rw [hj] at c3 hb ⊢
          rw [Int.toNat_natCast]
          have c5 := c4 (j + 1) (by omega)
          clear c4
          generalize fsP r a (j + 1) = px at *
          generalize fsM r a (j + 1) = mx at *
          generalize paN r.bi a r.m = N at *
          generalize paL r.bi r.bp a r.m = l at *
          have c6 : FC Try.prog 5 24 [.ptr 1 0 0 0, .agg [.str a, .str b, .str p, .int .i64 2], .int .i64 2, .int .i64 (IntKind.i64.wrap ((j : Int) + 1))] (roR r) (isOut (.agg [.str a, .str b, .str px, .int .i64 mx]) [] 5) := by rw [i64_succ (by omega)]; exact c5
          refine fc_of mixed T_ok Try.func12 rfl (by kernel_rfl) (by kernel_rfl) (by kernel_rfl) ?_
          repeat' ((conv => whnf); first | (refine vcall_out (l :=  [0, 2]) (c1 ) ⟨rfl, rfl, rfl, rfl, (by (repeat' (first | exact trivial | exact GB_wf | constructor)); first | done | fail), (by (repeat' (first | exact trivial | exact GB_fits rfl | constructor)); first | done | fail)⟩ ?_) | (refine vcallD_out (l :=  [0, 2]) (c1 ) ⟨rfl, rfl, rfl, rfl, (by (repeat' (first | exact trivial | exact GB_wf | constructor)); first | done | fail), (by (repeat' (first | exact trivial | exact GB_fits rfl | constructor)); first | done | fail)⟩ ?_) | (refine vcall_out (l :=  [0, 1, 2, 3, 4]) (c2 ) ⟨rfl, rfl, rfl, rfl, (by (repeat' (first | exact trivial | exact GB_wf | constructor)); first | done | fail), (by (repeat' (first | exact trivial | exact GB_fits rfl | constructor)); first | done | fail)⟩ ?_) | (refine vcallD_out (l :=  [0, 1, 2, 3, 4]) (c2 ) ⟨rfl, rfl, rfl, rfl, (by (repeat' (first | exact trivial | exact GB_wf | constructor)); first | done | fail), (by (repeat' (first | exact trivial | exact GB_fits rfl | constructor)); first | done | fail)⟩ ?_) | (refine vcall_out (l :=  [0, 7]) (c3 ) ⟨rfl, rfl, rfl, rfl, (by (repeat' (first | exact trivial | exact GB_wf | constructor)); first | done | fail), (by (repeat' (first | exact trivial | exact GB_fits rfl | constructor)); first | done | fail)⟩ ?_) | (refine vcallD_out (l :=  [0, 7]) (c3 ) ⟨rfl, rfl, rfl, rfl, (by (repeat' (first | exact trivial | exact GB_wf | constructor)); first | done | fail), (by (repeat' (first | exact trivial | exact GB_fits rfl | constructor)); first | done | fail)⟩ ?_) | (refine vcall_out (l :=  [0, 1, 2, 3, 4]) (c6 ) ⟨rfl, rfl, rfl, rfl, (by (repeat' (first | exact trivial | exact GB_wf | constructor)); first | done | fail), (by (repeat' (first | exact trivial | exact GB_fits rfl | constructor)); first | done | fail)⟩ ?_) | (refine vcallD_out (l :=  [0, 1, 2, 3, 4]) (c6 ) ⟨rfl, rfl, rfl, rfl, (by (repeat' (first | exact trivial | exact GB_wf | constructor)); first | done | fail), (by (repeat' (first | exact trivial | exact GB_fits rfl | constructor)); first | done | fail)⟩ ?_) | (refine br_dec (fun h => ?_) (fun h => ?_) <;> try (exfalso; (try dsimp only at h); omega)) | (refine br_ndec (fun h => ?_) (fun h => ?_) <;> try (exfalso; (try dsimp only at h); omega)) | refine br_seq (fun h => ?_) (fun h => ?_) | refine br_nseq (fun h => ?_) (fun h => ?_) | refine br_not (fun h => ?_) (fun h => ?_) | refine br_intro (fun h => ?_) (fun h => ?_) | refine cond_intro rfl ?_ | (refine cond_intro ⟨rfl, ?_⟩ ?_; (first | omega | (dsimp only; omega) | decide)) | (refine cond_intro ?_ ?_; (first | omega | (dsimp only; omega) | decide | (simp only [Nat.add_zero, Int.toNat_natCast, *]; omega))))
          all_goals (conv => whnf)
          all_goals first
            | exact ret_out (l := [0, 1, 2, 3, 4]) rfl rfl trivial allRw_nil
            | (exfalso; omega)
        · have e0 : afE r a p 2 = 6 := if_neg (fun h => by rcases h.2 with h | h; omega; exact hs h.2)
          rw [e0, if_neg (by decide)]
          have e1 : stX (paL r.bi r.bp a r.m) p (paN r.bi a r.m) = -1 := by omega
          rw [e1] at c3
          clear c4
          generalize paN r.bi a r.m = N at *
          generalize paL r.bi r.bp a r.m = l at *
          refine fc_of mixed T_ok Try.func12 rfl (by kernel_rfl) (by kernel_rfl) (by kernel_rfl) ?_
          repeat' ((conv => whnf); first | (refine vcall_out (l :=  [0, 2]) (c1 ) ⟨rfl, rfl, rfl, rfl, (by (repeat' (first | exact trivial | exact GB_wf | constructor)); first | done | fail), (by (repeat' (first | exact trivial | exact GB_fits rfl | constructor)); first | done | fail)⟩ ?_) | (refine vcallD_out (l :=  [0, 2]) (c1 ) ⟨rfl, rfl, rfl, rfl, (by (repeat' (first | exact trivial | exact GB_wf | constructor)); first | done | fail), (by (repeat' (first | exact trivial | exact GB_fits rfl | constructor)); first | done | fail)⟩ ?_) | (refine vcall_out (l :=  [0, 1, 2, 3, 4]) (c2 ) ⟨rfl, rfl, rfl, rfl, (by (repeat' (first | exact trivial | exact GB_wf | constructor)); first | done | fail), (by (repeat' (first | exact trivial | exact GB_fits rfl | constructor)); first | done | fail)⟩ ?_) | (refine vcallD_out (l :=  [0, 1, 2, 3, 4]) (c2 ) ⟨rfl, rfl, rfl, rfl, (by (repeat' (first | exact trivial | exact GB_wf | constructor)); first | done | fail), (by (repeat' (first | exact trivial | exact GB_fits rfl | constructor)); first | done | fail)⟩ ?_) | (refine vcall_out (l :=  [0, 7]) (c3 ) ⟨rfl, rfl, rfl, rfl, (by (repeat' (first | exact trivial | exact GB_wf | constructor)); first | done | fail), (by (repeat' (first | exact trivial | exact GB_fits rfl | constructor)); first | done | fail)⟩ ?_) | (refine vcallD_out (l :=  [0, 7]) (c3 ) ⟨rfl, rfl, rfl, rfl, (by (repeat' (first | exact trivial | exact GB_wf | constructor)); first | done | fail), (by (repeat' (first | exact trivial | exact GB_fits rfl | constructor)); first | done | fail)⟩ ?_) | (refine br_dec (fun h => ?_) (fun h => ?_) <;> try (exfalso; (try dsimp only at h); omega)) | (refine br_ndec (fun h => ?_) (fun h => ?_) <;> try (exfalso; (try dsimp only at h); omega)) | refine br_seq (fun h => ?_) (fun h => ?_) | refine br_nseq (fun h => ?_) (fun h => ?_) | refine br_not (fun h => ?_) (fun h => ?_) | refine br_intro (fun h => ?_) (fun h => ?_) | refine cond_intro rfl ?_ | (refine cond_intro ⟨rfl, ?_⟩ ?_; (first | omega | (dsimp only; omega) | decide)) | (refine cond_intro ?_ ?_; (first | omega | (dsimp only; omega) | decide | (simp only [Nat.add_zero, Int.toNat_natCast, *]; omega))))
          all_goals (conv => whnf)
          all_goals first
            | exact ret_out (l := [0, 1, 2, 3, 4]) rfl rfl trivial allRw_nil
            | (exfalso; omega)
      · have e0 : afE r a p m = 6 := if_neg (fun h => by rcases h.2 with h | h <;> omega)
        rw [e0, if_neg (by decide)]
        clear c2 c3 c4
        refine fc_of mixed T_ok Try.func12 rfl (by kernel_rfl) (by kernel_rfl) (by kernel_rfl) ?_
        repeat' ((conv => whnf); first | (refine vcall_out (l :=  [0, 2]) (c1 ) ⟨rfl, rfl, rfl, rfl, (by (repeat' (first | exact trivial | exact GB_wf | constructor)); first | done | fail), (by (repeat' (first | exact trivial | exact GB_fits rfl | constructor)); first | done | fail)⟩ ?_) | (refine vcallD_out (l :=  [0, 2]) (c1 ) ⟨rfl, rfl, rfl, rfl, (by (repeat' (first | exact trivial | exact GB_wf | constructor)); first | done | fail), (by (repeat' (first | exact trivial | exact GB_fits rfl | constructor)); first | done | fail)⟩ ?_) | (refine br_dec (fun h => ?_) (fun h => ?_) <;> try (exfalso; (try dsimp only at h); omega)) | (refine br_ndec (fun h => ?_) (fun h => ?_) <;> try (exfalso; (try dsimp only at h); omega)) | refine br_seq (fun h => ?_) (fun h => ?_) | refine br_nseq (fun h => ?_) (fun h => ?_) | refine br_not (fun h => ?_) (fun h => ?_) | refine br_intro (fun h => ?_) (fun h => ?_) | refine cond_intro rfl ?_ | (refine cond_intro ⟨rfl, ?_⟩ ?_; (first | omega | (dsimp only; omega) | decide)) | (refine cond_intro ?_ ?_; (first | omega | (dsimp only; omega) | decide | (simp only [Nat.add_zero, Int.toNat_natCast, *]; omega))))
        all_goals (conv => whnf)
        all_goals first
          | exact ret_out (l := [0, 1, 2, 3, 4]) rfl rfl trivial allRw_nil
          | (exfalso; omega)
  · rw [decide_eq_false hi] at c1
    have e0 : afE r a p m = 6 := if_neg (fun h => hi h.1)
    rw [e0, if_neg (by decide)]
    clear c2 c3 c4
    refine fc_of mixed T_ok Try.func12 rfl (by kernel_rfl) (by kernel_rfl) (by kernel_rfl) ?_
    repeat' ((conv => whnf); first | (refine vcall_out (l :=  [0, 2]) (c1 ) ⟨rfl, rfl, rfl, rfl, (by (repeat' (first | exact trivial | exact GB_wf | constructor)); first | done | fail), (by (repeat' (first | exact trivial | exact GB_fits rfl | constructor)); first | done | fail)⟩ ?_) | (refine vcallD_out (l :=  [0, 2]) (c1 ) ⟨rfl, rfl, rfl, rfl, (by (repeat' (first | exact trivial | exact GB_wf | constructor)); first | done | fail), (by (repeat' (first | exact trivial | exact GB_fits rfl | constructor)); first | done | fail)⟩ ?_) | (refine br_dec (fun h => ?_) (fun h => ?_) <;> try (exfalso; (try dsimp only at h); omega)) | (refine br_ndec (fun h => ?_) (fun h => ?_) <;> try (exfalso; (try dsimp only at h); omega)) | refine br_seq (fun h => ?_) (fun h => ?_) | refine br_nseq (fun h => ?_) (fun h => ?_) | refine br_not (fun h => ?_) (fun h => ?_) | refine br_intro (fun h => ?_) (fun h => ?_) | refine cond_intro rfl ?_ | (refine cond_intro ⟨rfl, ?_⟩ ?_; (first | omega | (dsimp only; omega) | decide)) | (refine cond_intro ?_ ?_; (first | omega | (dsimp only; omega) | decide | (simp only [Nat.add_zero, Int.toNat_natCast, *]; omega))))
    all_goals (conv => whnf)
    all_goals exact ret_out (l := [0, 1, 2, 3, 4]) rfl rfl trivial allRw_nil
end Go.Proofs.Ytkmbnniikncaiaa
