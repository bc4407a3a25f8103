/- Contracts of package route: the first place that is not down. -/
import Derived.Test.YtkmbnniikncaiaaRtC3
namespace Go.Proofs.Ytkmbnniikncaiaa
open Go.RowKit Go.Sy
attribute [local irreducible] vcall vloop vcallD retP
set_option maxRecDepth 100000
set_option linter.unusedVariables false
set_option linter.unusedSimpArgs false

abbrev roR (r : Rt) : Heap := [(1, some (.one true (.cells [.sl 2 0 0 r.L.n, .sl 3 0 0 r.m, .int .i64 r.f, .map 4 0]))), (3, some (bkB r.m r.bi r.bp)), (4, some (.one true (.obj (.map false false r.n [.strs r.ks] [.sc (.ints .i64 r.vs)] r.bs r.ck))))]
/-- The first of the parties from i on that is not down, counted from i, or -1. -/
def fsX (r : Rt) (l : List ByteArray) (i : Nat) : Nat → Int
  | 0 => -1
  | k + 1 => if 0 ≤ fsX r l i k then fsX r l i k else if r.dn (l.getD (k + i) ⟨#[]⟩) = false then (k : Int) else -1
theorem fsX_stop {r : Rt} {l : List ByteArray} {i k : Nat} (h0 : fsX r l i k = -1) (h : r.dn (l.getD (k + i) ⟨#[]⟩) = false) : ∀ n, k < n → fsX r l i n = k
  | 0, hh => by omega
  | n + 1, hh => by
    simp only [fsX]
    by_cases e : k = n
    · subst e; rw [h0, if_neg (by omega), if_pos h]
    · rw [fsX_stop h0 h n (by omega), if_pos (by omega)]
def fsP (r : Rt) (nm : ByteArray) (i : Nat) : ByteArray := if 0 ≤ fsX r (paL r.bi r.bp nm r.m) i (paN r.bi nm r.m - i) then (paL r.bi r.bp nm r.m).getD ((fsX r (paL r.bi r.bp nm r.m) i (paN r.bi nm r.m - i)).toNat + i) ⟨#[]⟩ else ⟨#[]⟩
def fsM (r : Rt) (nm : ByteArray) (i : Nat) : Int := if 0 ≤ fsX r (paL r.bi r.bp nm r.m) i (paN r.bi nm r.m - i) then 2 else 3
theorem rt_first2 (r : Rt) (a b c : ByteArray) (m0 : Int) (i : Nat) (hm : r.m ≤ 1000000) (hi : i ≤ paN r.bi a r.m) : FC Try.prog 5 24 [.ptr 1 0 0 0, .agg [.str a, .str b, .str c, .int .i64 m0], .int .i64 2, .int .i64 i] (roR r) (isOut (.agg [.str a, .str b, .str (fsP r a i), .int .i64 (fsM r a i)]) [] 5) := by
  have c1 := rt_partners r a hm
  have hle := paN_le r.bi a r.m
  unfold fsP fsM
  generalize hN : paN r.bi a r.m = N at *
  generalize hL : paL r.bi r.bp a r.m = l at *
  refine fc_of mixed T_ok Try.func24 rfl (by kernel_rfl) (by kernel_rfl) (by kernel_rfl) ?_
  repeat' ((conv => whnf); first | (refine vcall_out (l :=  [0, 1, 2, 3, 4]) (c1 ) ⟨rfl, rfl, rfl, rfl, (by (repeat' (first | exact trivial | exact GB_wf | constructor)); first | done | fail), (by (repeat' (first | exact trivial | exact GB_fits rfl | constructor)); first | done | fail)⟩ ?_) | (refine vcallD_out (l :=  [0, 1, 2, 3, 4]) (c1 ) ⟨rfl, rfl, rfl, rfl, (by (repeat' (first | exact trivial | exact GB_wf | constructor)); first | done | fail), (by (repeat' (first | exact trivial | exact GB_fits rfl | constructor)); first | done | fail)⟩ ?_) | (refine br_dec (fun h => ?_) (fun h => ?_) <;> try (exfalso; (try dsimp only at h); omega)) | (refine br_ndec (fun h => ?_) (fun h => ?_) <;> try (exfalso; (try dsimp only at h); omega)) | refine br_seq (fun h => ?_) (fun h => ?_) | refine br_nseq (fun h => ?_) (fun h => ?_) | refine br_not (fun h => ?_) (fun h => ?_) | refine br_intro (fun h => ?_) (fun h => ?_) | refine cond_intro rfl ?_ | (refine cond_intro ⟨rfl, ?_⟩ ?_; (first | omega | (dsimp only; omega) | decide)) | (refine cond_intro ?_ ?_; (first | omega | (dsimp only; omega) | decide | (simp only [Nat.add_zero, Int.toNat_natCast, *]; omega))))
  all_goals (conv => whnf)
  refine vloop_of (fun k : Nat => ⟨[(0, .ptr 1 0 0 0), (5, .ptr 5 0 0 0), (8, .ptr 6 0 0 0), (31, .sl 7 0 i (N - i)), (32, .int .i64 ((N - i : Nat) : Int)), (33, .int .i64 k)], (7, some (.one false (.cols N [.sc (.strs l)]))) :: (6, some (.one false (.cells [.str ⟨#[]⟩, .str ⟨#[]⟩, .str ⟨#[]⟩, .int .i64 0]))) :: (5, some (.one false (.cells [.str a, .str b, .str c, .int .i64 m0]))) :: roR r, 8⟩) (fun k => k ≤ N - i ∧ fsX r l i k = -1) (fun k => N - i - k) 0 [0, 1, 2, 3, 4, 5, 6, 7] [] ⟨rfl, ⟨rfl, rfl, rfl, rfl, rfl, rfl, trivial⟩, ⟨rfl, rfl, rfl, rfl, rfl, rfl, trivial⟩⟩ ⟨by omega, rfl⟩ ?_
  rintro k ⟨hk, hx⟩
  by_cases hk2 : k < N - i
  · have c2 := rt_Down r (l.getD (k + i) ⟨#[]⟩)
    cases hd : r.dn (l.getD (k + i) ⟨#[]⟩) with
    | false =>
      rw [hd] at c2
      rw [fsX_stop hx hd _ hk2, if_pos (by omega), if_pos (by omega), Int.toNat_natCast]
      repeat' ((conv => whnf); first | (refine vcall_out (l :=  [0, 1, 2, 3, 4]) (c2 ) ⟨rfl, rfl, rfl, rfl, (by (repeat' (first | exact trivial | exact GB_wf | constructor)); first | done | fail), (by (repeat' (first | exact trivial | exact GB_fits rfl | constructor)); first | done | fail)⟩ ?_) | (refine vcallD_out (l :=  [0, 1, 2, 3, 4]) (c2 ) ⟨rfl, rfl, rfl, rfl, (by (repeat' (first | exact trivial | exact GB_wf | constructor)); first | done | fail), (by (repeat' (first | exact trivial | exact GB_fits rfl | constructor)); first | done | fail)⟩ ?_) | (refine br_dec (fun h => ?_) (fun h => ?_) <;> try (exfalso; (try dsimp only at h); omega)) | (refine br_ndec (fun h => ?_) (fun h => ?_) <;> try (exfalso; (try dsimp only at h); omega)) | refine br_seq (fun h => ?_) (fun h => ?_) | refine br_nseq (fun h => ?_) (fun h => ?_) | refine br_not (fun h => ?_) (fun h => ?_) | refine br_intro (fun h => ?_) (fun h => ?_) | refine cond_intro rfl ?_ | (refine cond_intro ⟨rfl, ?_⟩ ?_; (first | omega | (dsimp only; omega) | decide)) | (refine cond_intro ?_ ?_; (first | omega | (dsimp only; omega) | decide | (simp only [Nat.add_zero, Int.toNat_natCast, *]; omega))))
      all_goals (conv => whnf)
      all_goals first
        | exact ret_out (l := [0, 1, 2, 3, 4]) rfl rfl trivial allRw_nil
        | (exfalso; omega)
    | true =>
      rw [hd] at c2
      have e : fsX r l i (k + 1) = -1 := by simp only [fsX, hx, hd]; rfl
      repeat' ((conv => whnf); first | (refine vcall_out (l :=  [0, 1, 2, 3, 4]) (c2 ) ⟨rfl, rfl, rfl, rfl, (by (repeat' (first | exact trivial | exact GB_wf | constructor)); first | done | fail), (by (repeat' (first | exact trivial | exact GB_fits rfl | constructor)); first | done | fail)⟩ ?_) | (refine vcallD_out (l :=  [0, 1, 2, 3, 4]) (c2 ) ⟨rfl, rfl, rfl, rfl, (by (repeat' (first | exact trivial | exact GB_wf | constructor)); first | done | fail), (by (repeat' (first | exact trivial | exact GB_fits rfl | constructor)); first | done | fail)⟩ ?_) | (refine br_dec (fun h => ?_) (fun h => ?_) <;> try (exfalso; (try dsimp only at h); omega)) | (refine br_ndec (fun h => ?_) (fun h => ?_) <;> try (exfalso; (try dsimp only at h); omega)) | refine br_seq (fun h => ?_) (fun h => ?_) | refine br_nseq (fun h => ?_) (fun h => ?_) | refine br_not (fun h => ?_) (fun h => ?_) | refine br_intro (fun h => ?_) (fun h => ?_) | refine cond_intro rfl ?_ | (refine cond_intro ⟨rfl, ?_⟩ ?_; (first | omega | (dsimp only; omega) | decide)) | (refine cond_intro ?_ ?_; (first | omega | (dsimp only; omega) | decide | (simp only [Nat.add_zero, Int.toNat_natCast, *]; omega))))
      all_goals (conv => whnf)
      all_goals first
        | exact ⟨k + 1, [0, 1, 2, 3, 4, 5, 6, 7], [], ⟨by omega, e⟩, by omega, ⟨rfl, ⟨rfl, rfl, rfl, rfl, rfl, congrArg (fun z => some (SV.int .i64 z)) (i64_succ (by omega)), trivial⟩, ⟨rfl, rfl, rfl, rfl, rfl, rfl, trivial⟩⟩⟩
        | (exfalso; omega)
  · have e : k = N - i := by omega
    subst e
    rw [hx]
    repeat' ((conv => whnf); first | (refine br_dec (fun h => ?_) (fun h => ?_) <;> try (exfalso; (try dsimp only at h); omega)) | (refine br_ndec (fun h => ?_) (fun h => ?_) <;> try (exfalso; (try dsimp only at h); omega)) | refine br_seq (fun h => ?_) (fun h => ?_) | refine br_nseq (fun h => ?_) (fun h => ?_) | refine br_not (fun h => ?_) (fun h => ?_) | refine br_intro (fun h => ?_) (fun h => ?_) | refine cond_intro rfl ?_ | (refine cond_intro ⟨rfl, ?_⟩ ?_; (first | omega | (dsimp only; omega) | decide)) | (refine cond_intro ?_ ?_; (first | omega | (dsimp only; omega) | decide | (simp only [Nat.add_zero, Int.toNat_natCast, *]; omega))))
    all_goals (conv => whnf)
    all_goals first
      | exact ret_out (l := [0, 1, 2, 3, 4]) rfl rfl trivial allRw_nil
      | (exfalso; omega)

def ptX (r : Rt) (a : ByteArray) : ByteArray := if r.dn a = false then a else fsP r a 0
def mdX (r : Rt) (a : ByteArray) : Int := if r.dn a = false then 1 else fsM r a 0
theorem rt_first1 (r : Rt) (a b c : ByteArray) (m0 : Int) (hm : r.m ≤ 1000000) : FC Try.prog 5 24 [.ptr 1 0 0 0, .agg [.str a, .str b, .str c, .int .i64 m0], .int .i64 1, .int .i64 0] (roR r) (isOut (.agg [.str a, .str b, .str (ptX r a), .int .i64 (mdX r a)]) [] 5) := by
  have c1 := rt_partners r a hm
  have hle := paN_le r.bi a r.m
  unfold ptX mdX
  have c0 := rt_Down r a
  cases hdn : r.dn a with
  | false =>
    rw [hdn] at c0
    rw [if_pos rfl, if_pos rfl]
    refine fc_of mixed T_ok Try.func24 rfl (by kernel_rfl) (by kernel_rfl) (by kernel_rfl) ?_
    repeat' ((conv => whnf); first | (refine vcall_out (l :=  [0, 1, 2, 3, 4]) (c0 ) ⟨rfl, rfl, rfl, rfl, (by (repeat' (first | exact trivial | exact GB_wf | constructor)); first | done | fail), (by (repeat' (first | exact trivial | exact GB_fits rfl | constructor)); first | done | fail)⟩ ?_) | (refine vcallD_out (l :=  [0, 1, 2, 3, 4]) (c0 ) ⟨rfl, rfl, rfl, rfl, (by (repeat' (first | exact trivial | exact GB_wf | constructor)); first | done | fail), (by (repeat' (first | exact trivial | exact GB_fits rfl | constructor)); first | done | fail)⟩ ?_) | (refine br_dec (fun h => ?_) (fun h => ?_) <;> try (exfalso; (try dsimp only at h); omega)) | (refine br_ndec (fun h => ?_) (fun h => ?_) <;> try (exfalso; (try dsimp only at h); omega)) | refine br_seq (fun h => ?_) (fun h => ?_) | refine br_nseq (fun h => ?_) (fun h => ?_) | refine br_not (fun h => ?_) (fun h => ?_) | refine br_intro (fun h => ?_) (fun h => ?_) | refine cond_intro rfl ?_ | (refine cond_intro ⟨rfl, ?_⟩ ?_; (first | omega | (dsimp only; omega) | decide)) | (refine cond_intro ?_ ?_; (first | omega | (dsimp only; omega) | decide | (simp only [Nat.add_zero, Int.toNat_natCast, *]; omega))))
    all_goals (conv => whnf)
    all_goals exact ret_out (l := [0, 1, 2, 3, 4]) rfl rfl trivial allRw_nil
  | true =>
    rw [hdn] at c0
    rw [if_neg (by decide), if_neg (by decide)]
    unfold fsP fsM
    rw [Nat.sub_zero]
    generalize hN : paN r.bi a r.m = N at *
    generalize hL : paL r.bi r.bp a r.m = l at *
    refine fc_of mixed T_ok Try.func24 rfl (by kernel_rfl) (by kernel_rfl) (by kernel_rfl) ?_
    repeat' ((conv => whnf); first | (refine vcall_out (l :=  [0, 1, 2, 3, 4]) (c0 ) ⟨rfl, rfl, rfl, rfl, (by (repeat' (first | exact trivial | exact GB_wf | constructor)); first | done | fail), (by (repeat' (first | exact trivial | exact GB_fits rfl | constructor)); first | done | fail)⟩ ?_) | (refine vcall_out (l :=  [0, 1, 2, 3, 4]) (c1 ) ⟨rfl, rfl, rfl, rfl, (by (repeat' (first | exact trivial | exact GB_wf | constructor)); first | done | fail), (by (repeat' (first | exact trivial | exact GB_fits rfl | constructor)); first | done | fail)⟩ ?_) | (refine vcallD_out (l :=  [0, 1, 2, 3, 4]) (c1 ) ⟨rfl, rfl, rfl, rfl, (by (repeat' (first | exact trivial | exact GB_wf | constructor)); first | done | fail), (by (repeat' (first | exact trivial | exact GB_fits rfl | constructor)); first | done | fail)⟩ ?_) | (refine br_dec (fun h => ?_) (fun h => ?_) <;> try (exfalso; (try dsimp only at h); omega)) | (refine br_ndec (fun h => ?_) (fun h => ?_) <;> try (exfalso; (try dsimp only at h); omega)) | refine br_seq (fun h => ?_) (fun h => ?_) | refine br_nseq (fun h => ?_) (fun h => ?_) | refine br_not (fun h => ?_) (fun h => ?_) | refine br_intro (fun h => ?_) (fun h => ?_) | refine cond_intro rfl ?_ | (refine cond_intro ⟨rfl, ?_⟩ ?_; (first | omega | (dsimp only; omega) | decide)) | (refine cond_intro ?_ ?_; (first | omega | (dsimp only; omega) | decide | (simp only [Nat.add_zero, Int.toNat_natCast, *]; omega))))
    all_goals (conv => whnf)
    refine vloop_of (fun k : Nat => ⟨[(0, .ptr 1 0 0 0), (5, .ptr 5 0 0 0), (8, .ptr 6 0 0 0), (31, .sl 7 0 0 N), (32, .int .i64 (N : Int)), (33, .int .i64 k)], (7, some (.one false (.cols N [.sc (.strs l)]))) :: (6, some (.one false (.cells [.str ⟨#[]⟩, .str ⟨#[]⟩, .str ⟨#[]⟩, .int .i64 0]))) :: (5, some (.one false (.cells [.str a, .str b, .str c, .int .i64 m0]))) :: roR r, 8⟩) (fun k => k ≤ N ∧ fsX r l 0 k = -1) (fun k => N - k) 0 [0, 1, 2, 3, 4, 5, 6, 7] [] ⟨rfl, ⟨rfl, rfl, rfl, rfl, rfl, rfl, trivial⟩, ⟨rfl, rfl, rfl, rfl, rfl, rfl, trivial⟩⟩ ⟨by omega, rfl⟩ ?_
    rintro k ⟨hk, hx⟩
    by_cases hk2 : k < N
    · have c2 := rt_Down r (l.getD (k + 0) ⟨#[]⟩)
      cases hd : r.dn (l.getD (k + 0) ⟨#[]⟩) with
      | false =>
        rw [hd] at c2
        rw [fsX_stop hx hd _ hk2, if_pos (by omega), if_pos (by omega), Int.toNat_natCast]
        repeat' ((conv => whnf); first | (refine vcall_out (l :=  [0, 1, 2, 3, 4]) (c2 ) ⟨rfl, rfl, rfl, rfl, (by (repeat' (first | exact trivial | exact GB_wf | constructor)); first | done | fail), (by (repeat' (first | exact trivial | exact GB_fits rfl | constructor)); first | done | fail)⟩ ?_) | (refine vcallD_out (l :=  [0, 1, 2, 3, 4]) (c2 ) ⟨rfl, rfl, rfl, rfl, (by (repeat' (first | exact trivial | exact GB_wf | constructor)); first | done | fail), (by (repeat' (first | exact trivial | exact GB_fits rfl | constructor)); first | done | fail)⟩ ?_) | (refine br_dec (fun h => ?_) (fun h => ?_) <;> try (exfalso; (try dsimp only at h); omega)) | (refine br_ndec (fun h => ?_) (fun h => ?_) <;> try (exfalso; (try dsimp only at h); omega)) | refine br_seq (fun h => ?_) (fun h => ?_) | refine br_nseq (fun h => ?_) (fun h => ?_) | refine br_not (fun h => ?_) (fun h => ?_) | refine br_intro (fun h => ?_) (fun h => ?_) | refine cond_intro rfl ?_ | (refine cond_intro ⟨rfl, ?_⟩ ?_; (first | omega | (dsimp only; omega) | decide)) | (refine cond_intro ?_ ?_; (first | omega | (dsimp only; omega) | decide | (simp only [Nat.add_zero, Int.toNat_natCast, *]; omega))))
        all_goals (conv => whnf)
        all_goals first
          | exact ret_out (l := [0, 1, 2, 3, 4]) rfl rfl trivial allRw_nil
          | (exfalso; omega)
      | true =>
        rw [hd] at c2
        have e : fsX r l 0 (k + 1) = -1 := by simp only [fsX, hx, hd]; rfl
        repeat' ((conv => whnf); first | (refine vcall_out (l :=  [0, 1, 2, 3, 4]) (c2 ) ⟨rfl, rfl, rfl, rfl, (by (repeat' (first | exact trivial | exact GB_wf | constructor)); first | done | fail), (by (repeat' (first | exact trivial | exact GB_fits rfl | constructor)); first | done | fail)⟩ ?_) | (refine vcallD_out (l :=  [0, 1, 2, 3, 4]) (c2 ) ⟨rfl, rfl, rfl, rfl, (by (repeat' (first | exact trivial | exact GB_wf | constructor)); first | done | fail), (by (repeat' (first | exact trivial | exact GB_fits rfl | constructor)); first | done | fail)⟩ ?_) | (refine br_dec (fun h => ?_) (fun h => ?_) <;> try (exfalso; (try dsimp only at h); omega)) | (refine br_ndec (fun h => ?_) (fun h => ?_) <;> try (exfalso; (try dsimp only at h); omega)) | refine br_seq (fun h => ?_) (fun h => ?_) | refine br_nseq (fun h => ?_) (fun h => ?_) | refine br_not (fun h => ?_) (fun h => ?_) | refine br_intro (fun h => ?_) (fun h => ?_) | refine cond_intro rfl ?_ | (refine cond_intro ⟨rfl, ?_⟩ ?_; (first | omega | (dsimp only; omega) | decide)) | (refine cond_intro ?_ ?_; (first | omega | (dsimp only; omega) | decide | (simp only [Nat.add_zero, Int.toNat_natCast, *]; omega))))
        all_goals (conv => whnf)
        all_goals first
          | exact ⟨k + 1, [0, 1, 2, 3, 4, 5, 6, 7], [], ⟨by omega, e⟩, by omega, ⟨rfl, ⟨rfl, rfl, rfl, rfl, rfl, congrArg (fun z => some (SV.int .i64 z)) (i64_succ (by omega)), trivial⟩, ⟨rfl, rfl, rfl, rfl, rfl, rfl, trivial⟩⟩⟩
          | (exfalso; omega)
    · have e : k = N := by omega
      subst e
      rw [hx]
      repeat' ((conv => whnf); first | (refine br_dec (fun h => ?_) (fun h => ?_) <;> try (exfalso; (try dsimp only at h); omega)) | (refine br_ndec (fun h => ?_) (fun h => ?_) <;> try (exfalso; (try dsimp only at h); omega)) | refine br_seq (fun h => ?_) (fun h => ?_) | refine br_nseq (fun h => ?_) (fun h => ?_) | refine br_not (fun h => ?_) (fun h => ?_) | refine br_intro (fun h => ?_) (fun h => ?_) | refine cond_intro rfl ?_ | (refine cond_intro ⟨rfl, ?_⟩ ?_; (first | omega | (dsimp only; omega) | decide)) | (refine cond_intro ?_ ?_; (first | omega | (dsimp only; omega) | decide | (simp only [Nat.add_zero, Int.toNat_natCast, *]; omega))))
      all_goals (conv => whnf)
      all_goals first
        | exact ret_out (l := [0, 1, 2, 3, 4]) rfl rfl trivial allRw_nil
        | (exfalso; omega)
end Go.Proofs.Ytkmbnniikncaiaa
