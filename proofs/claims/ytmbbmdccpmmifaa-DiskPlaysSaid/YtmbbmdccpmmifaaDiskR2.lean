/- Contracts of package cardnetref48: Write, Flush, Read, New. -/
import Derived.Test.YtmbbmdccpmmifaaDiskR
namespace Go.Proofs.Ytmbbmdccpmmifaa
open Go.RowKit Go.Sy
attribute [local irreducible] vcall vloop vcallD retP
set_option maxRecDepth 100000
set_option linter.unusedVariables false

theorem ref_crashZ (d : Dk) (h0 : d.ok) (m : Int) (hm : 0 ≤ m ∧ m < 2 ^ 64) : FC Try.prog 4 38 [.ptr 1 0 0 0, .int .u64 m] (rkH 3 d) (isOut (.tup []) (rkH 4 (crashD m d)) 5) := by
  obtain ⟨k, rfl⟩ := Int.eq_ofNat_of_zero_le hm.1
  exact ref_crash d h0 k (by omega)
theorem ref_CrashZ (d : Dk) (h0 : d.ok) (m : Int) (hm : 0 ≤ m ∧ m < 2 ^ 64) : FC Try.prog 4 33 [.ptr 1 0 0 0, .int .u64 m] (rkH 3 d) (isOut (.int .i64 (runE d)) (rkH 4 (crashed m d)) 5) := by
  obtain ⟨k, rfl⟩ := Int.eq_ofNat_of_zero_le hm.1
  exact ref_Crash d h0 k (by omega)

theorem ref_Write (d : Dk) (h0 : d.ok) (hm : 0 ≤ d.mask ∧ d.mask < 2 ^ 64) (n : Int) (s : ByteArray) : FC Try.prog 4 30 [.ptr 1 0 0 0, .int .i64 n, .str s] (rkH 3 d) (isOut (.int .i64 (writeD d n s).2) (rkH 4 (writeD d n s).1) 5) := by
  have hpm := h0.pm
  rcases run_cases d with ⟨hr, hd⟩ | ⟨hr, hd⟩
  · rw [show writeD d n s = (d, 13) from by simp [writeD, hd]]
    refine fc_of mixed T_ok Try.func30 rfl (by kernel_rfl) (by kernel_rfl) (by kernel_rfl) ?_
    repeat' ((conv => whnf); first | (refine br_dec (fun h => ?_) (fun h => ?_) <;> try (exfalso; omega)) | (refine br_ndec (fun h => ?_) (fun h => ?_) <;> try (exfalso; omega)) | refine br_seq (fun h => ?_) (fun h => ?_) | refine br_nseq (fun h => ?_) (fun h => ?_) | refine br_not (fun h => ?_) (fun h => ?_) | refine br_intro (fun h => ?_) (fun h => ?_) | (refine cond_intro ?_ ?_; (first | omega | (dsimp only; omega) | decide | (simp only [Nat.add_zero, Int.toNat_natCast, *]; omega))))
    all_goals first | (exfalso; simp_all; done) | ((conv => whnf); exact ret_out (l := [0, 1, 2, 3, 3]) rfl rfl ⟨rfl, rfl, rfl, trivial⟩ (rkH_rw _ _))
  · by_cases hn : n < 0 ∨ d.nn ≤ n
    · rw [show writeD d n s = (d, 4) from by simp [writeD, hd, hn]]
      refine fc_of mixed T_ok Try.func30 rfl (by kernel_rfl) (by kernel_rfl) (by kernel_rfl) ?_
      repeat' ((conv => whnf); first | (refine br_dec (fun h => ?_) (fun h => ?_) <;> try (exfalso; omega)) | (refine br_ndec (fun h => ?_) (fun h => ?_) <;> try (exfalso; omega)) | refine br_seq (fun h => ?_) (fun h => ?_) | refine br_nseq (fun h => ?_) (fun h => ?_) | refine br_not (fun h => ?_) (fun h => ?_) | refine br_intro (fun h => ?_) (fun h => ?_) | (refine cond_intro ?_ ?_; (first | omega | (dsimp only; omega) | decide | (simp only [Nat.add_zero, Int.toNat_natCast, *]; omega))))
      all_goals first | (exfalso; simp_all; done) | ((conv => whnf); exact ret_out (l := [0, 1, 2, 3, 3]) rfl rfl ⟨rfl, rfl, rfl, trivial⟩ (rkH_rw _ _))
    by_cases hs : 64 < s.size
    · rw [show writeD d n s = (d, 3) from by simp [writeD, hd, hn, hs]]
      refine fc_of mixed T_ok Try.func30 rfl (by kernel_rfl) (by kernel_rfl) (by kernel_rfl) ?_
      repeat' ((conv => whnf); first | (refine br_dec (fun h => ?_) (fun h => ?_) <;> try (exfalso; omega)) | (refine br_ndec (fun h => ?_) (fun h => ?_) <;> try (exfalso; omega)) | refine br_seq (fun h => ?_) (fun h => ?_) | refine br_nseq (fun h => ?_) (fun h => ?_) | refine br_not (fun h => ?_) (fun h => ?_) | refine br_intro (fun h => ?_) (fun h => ?_) | (refine cond_intro ?_ ?_; (first | omega | (dsimp only; omega) | decide | (simp only [Nat.add_zero, Int.toNat_natCast, *]; omega))))
      all_goals first | (exfalso; simp_all; done) | ((conv => whnf); exact ret_out (l := [0, 1, 2, 3, 3]) rfl rfl ⟨rfl, rfl, rfl, trivial⟩ (rkH_rw _ _))
    by_cases hp : 4096 ≤ d.np
    · rw [show writeD d n s = (d, 12) from by simp [writeD, hd, hn, hs, hp]]
      refine fc_of mixed T_ok Try.func30 rfl (by kernel_rfl) (by kernel_rfl) (by kernel_rfl) ?_
      repeat' ((conv => whnf); first | (refine br_dec (fun h => ?_) (fun h => ?_) <;> try (exfalso; omega)) | (refine br_ndec (fun h => ?_) (fun h => ?_) <;> try (exfalso; omega)) | refine br_seq (fun h => ?_) (fun h => ?_) | refine br_nseq (fun h => ?_) (fun h => ?_) | refine br_not (fun h => ?_) (fun h => ?_) | refine br_intro (fun h => ?_) (fun h => ?_) | (refine cond_intro ?_ ?_; (first | omega | (dsimp only; omega) | decide | (simp only [Nat.add_zero, Int.toNat_natCast, *]; omega))))
      all_goals first | (exfalso; simp_all; done) | ((conv => whnf); exact ret_out (l := [0, 1, 2, 3, 3]) rfl rfl ⟨rfl, rfl, rfl, trivial⟩ (rkH_rw _ _))
    have hok := putD_ok (s := s) h0 (n := n) (by omega) (by omega)
    have hfa := ref_fails (putD d n s) h0.sb
    by_cases ht : d.steps = 1
    · rw [show writeD d n s = (crashD d.mask (putD d n s), 13) from by simp [writeD, hd, hn, hs, hp, ht]]
      have hcr := ref_crashZ (countD (putD d n s)) (countD_ok hok) d.mask hm
      rw [show decide ((putD d n s).steps = 1) = true from decide_eq_true ht] at hfa
      refine fc_of mixed T_ok Try.func30 rfl (by kernel_rfl) (by kernel_rfl) (by kernel_rfl) ?_
      repeat' ((conv => whnf); first | (refine vcall_out (l :=  [0, 1, 2, 5]) (hfa ) ⟨rfl, rfl, rfl, rfl, (by (repeat' (first | exact trivial | constructor)); first | done | fail), (by (repeat' (first | exact trivial | constructor)); first | done | fail)⟩ ?_) | (refine vcall_out (l :=  [0, 1, 2, 5]) (hcr ) ⟨rfl, rfl, rfl, rfl, (by (repeat' (first | exact trivial | constructor)); first | done | fail), (by (repeat' (first | exact trivial | constructor)); first | done | fail)⟩ ?_) | (refine br_dec (fun h => ?_) (fun h => ?_) <;> try (exfalso; omega)) | (refine br_ndec (fun h => ?_) (fun h => ?_) <;> try (exfalso; omega)) | refine br_seq (fun h => ?_) (fun h => ?_) | refine br_nseq (fun h => ?_) (fun h => ?_) | refine br_not (fun h => ?_) (fun h => ?_) | refine br_intro (fun h => ?_) (fun h => ?_) | (refine cond_intro ?_ ?_; (first | omega | (dsimp only; omega) | decide | (simp only [Nat.add_zero, Int.toNat_natCast, *]; omega))))
      all_goals first | (exfalso; simp_all; done) | ((conv => whnf); exact ret_out (l := [0, 1, 2, 3, 6]) rfl rfl ⟨rfl, rfl, rfl, trivial⟩ (rkH_rw _ _))
    · rw [show writeD d n s = (countD (putD d n s), 0) from by simp [writeD, hd, hn, hs, hp, ht]]
      rw [show decide ((putD d n s).steps = 1) = false from decide_eq_false ht] at hfa
      refine fc_of mixed T_ok Try.func30 rfl (by kernel_rfl) (by kernel_rfl) (by kernel_rfl) ?_
      repeat' ((conv => whnf); first | (refine vcall_out (l :=  [0, 1, 2, 5]) (hfa ) ⟨rfl, rfl, rfl, rfl, (by (repeat' (first | exact trivial | constructor)); first | done | fail), (by (repeat' (first | exact trivial | constructor)); first | done | fail)⟩ ?_) | (refine br_dec (fun h => ?_) (fun h => ?_) <;> try (exfalso; omega)) | (refine br_ndec (fun h => ?_) (fun h => ?_) <;> try (exfalso; omega)) | refine br_seq (fun h => ?_) (fun h => ?_) | refine br_nseq (fun h => ?_) (fun h => ?_) | refine br_not (fun h => ?_) (fun h => ?_) | refine br_intro (fun h => ?_) (fun h => ?_) | (refine cond_intro ?_ ?_; (first | omega | (dsimp only; omega) | decide | (simp only [Nat.add_zero, Int.toNat_natCast, *]; omega))))
      all_goals first | (exfalso; simp_all; done) | ((conv => whnf); exact ret_out (l := [0, 1, 2, 3, 5]) rfl rfl ⟨rfl, rfl, rfl, trivial⟩ (rkH_rw _ _))

theorem ref_Flush (d : Dk) (h0 : d.ok) (hm : 0 ≤ d.mask ∧ d.mask < 2 ^ 64) : FC Try.prog 4 32 [.ptr 1 0 0 0] (rkH 3 d) (isOut (.int .i64 (flushD d).2) (rkH 4 (flushD d).1) 5) := by
  have hpm := h0.pm
  have hpl := h0.pl
  rcases run_cases d with ⟨hr, hd⟩ | ⟨hr, hd⟩
  · rw [show flushD d = (d, 13) from by simp [flushD, hd]]
    refine fc_of mixed T_ok Try.func32 rfl (by kernel_rfl) (by kernel_rfl) (by kernel_rfl) ?_
    repeat' ((conv => whnf); first | (refine br_dec (fun h => ?_) (fun h => ?_) <;> try (exfalso; omega)) | (refine br_ndec (fun h => ?_) (fun h => ?_) <;> try (exfalso; omega)) | refine br_seq (fun h => ?_) (fun h => ?_) | refine br_nseq (fun h => ?_) (fun h => ?_) | refine br_not (fun h => ?_) (fun h => ?_) | refine br_intro (fun h => ?_) (fun h => ?_) | (refine cond_intro ?_ ?_; (first | omega | (dsimp only; omega) | decide | (simp only [Nat.add_zero, Int.toNat_natCast, *]; omega))))
    all_goals first | (exfalso; simp_all; done) | ((conv => whnf); exact ret_out (l := [0, 1, 2, 3, 3]) rfl rfl ⟨rfl, rfl, rfl, trivial⟩ (rkH_rw _ _))
  · have hfa := ref_fails d h0.sb
    by_cases ht : d.steps = 1
    · rw [show flushD d = (crashD d.mask d, 13) from by simp [flushD, hd, ht]]
      have hcr := ref_crashZ (countD d) (countD_ok h0) d.mask hm
      rw [show decide (d.steps = 1) = true from decide_eq_true ht] at hfa
      refine fc_of mixed T_ok Try.func32 rfl (by kernel_rfl) (by kernel_rfl) (by kernel_rfl) ?_
      repeat' ((conv => whnf); first | (refine vcall_out (l :=  [0, 1, 2, 3]) (hfa ) ⟨rfl, rfl, rfl, rfl, (by (repeat' (first | exact trivial | constructor)); first | done | fail), (by (repeat' (first | exact trivial | constructor)); first | done | fail)⟩ ?_) | (refine vcall_out (l :=  [0, 1, 2, 3]) (hcr ) ⟨rfl, rfl, rfl, rfl, (by (repeat' (first | exact trivial | constructor)); first | done | fail), (by (repeat' (first | exact trivial | constructor)); first | done | fail)⟩ ?_) | (refine br_dec (fun h => ?_) (fun h => ?_) <;> try (exfalso; omega)) | (refine br_ndec (fun h => ?_) (fun h => ?_) <;> try (exfalso; omega)) | refine br_seq (fun h => ?_) (fun h => ?_) | refine br_nseq (fun h => ?_) (fun h => ?_) | refine br_not (fun h => ?_) (fun h => ?_) | refine br_intro (fun h => ?_) (fun h => ?_) | (refine cond_intro ?_ ?_; (first | omega | (dsimp only; omega) | decide | (simp only [Nat.add_zero, Int.toNat_natCast, *]; omega))))
      all_goals first | (exfalso; simp_all; done) | ((conv => whnf); exact ret_out (l := [0, 1, 2, 3, 4]) rfl rfl ⟨rfl, rfl, rfl, trivial⟩ (rkH_rw _ _))
    · rw [show flushD d = (countD (keepD d), 0) from by simp [flushD, hd, ht]]
      rw [show decide (d.steps = 1) = false from decide_eq_false ht] at hfa
      refine fc_of mixed T_ok Try.func32 rfl (by kernel_rfl) (by kernel_rfl) (by kernel_rfl) ?_
      repeat' ((conv => whnf); first | (refine vcall_out (l :=  [0, 1, 2, 3]) (hfa ) ⟨rfl, rfl, rfl, rfl, (by (repeat' (first | exact trivial | constructor)); first | done | fail), (by (repeat' (first | exact trivial | constructor)); first | done | fail)⟩ ?_) | (refine br_dec (fun h => ?_) (fun h => ?_) <;> try (exfalso; omega)) | (refine br_ndec (fun h => ?_) (fun h => ?_) <;> try (exfalso; omega)) | refine br_seq (fun h => ?_) (fun h => ?_) | refine br_nseq (fun h => ?_) (fun h => ?_) | refine br_not (fun h => ?_) (fun h => ?_) | refine br_intro (fun h => ?_) (fun h => ?_) | (refine cond_intro ?_ ?_; (first | omega | (dsimp only; omega) | decide | (simp only [Nat.add_zero, Int.toNat_natCast, *]; omega))))
      all_goals try (exfalso; simp_all; done)
      (conv => whnf)
      refine vloop_of (fun k : Nat => ⟨[(0, .ptr 1 0 0 0), (3, .int .i64 k)],
        [(1, some (.one false (.cells (rkC 3 (countD d))))), (2, some (.one false (.cols d.nn [.sc (.strs (crashTo allB d.pn d.ps k d.kept))]))),
         (3, some (.one false (.cols d.np [.sc (.ints .i64 d.pn), .sc (.strs d.ps)])))], 4⟩) (fun k => k ≤ d.np) (fun k => d.np - k) 0 [0, 1, 2, 3] [] ⟨rfl, ⟨rfl, rfl, trivial⟩, ⟨rfl, rfl, rfl, trivial⟩⟩ (by omega) ?_
      intro k hk
      have hcn : (countD d).np = d.np := rfl
      by_cases hlt : k < d.np
      · have hb := h0.pb _ (getD_mem d.pn k 0 (by omega))
        repeat' ((conv => whnf); first | (refine cond_intro hb ?_) | (refine br_dec (fun h => ?_) (fun h => ?_) <;> try (exfalso; omega)) | (refine br_ndec (fun h => ?_) (fun h => ?_) <;> try (exfalso; omega)) | refine br_seq (fun h => ?_) (fun h => ?_) | refine br_nseq (fun h => ?_) (fun h => ?_) | refine br_not (fun h => ?_) (fun h => ?_) | refine br_intro (fun h => ?_) (fun h => ?_) | (refine cond_intro ?_ ?_; (first | omega | (dsimp only; omega) | decide | (simp only [Nat.add_zero, Int.toNat_natCast, *]; omega))))
        all_goals (conv => whnf)
        all_goals refine ⟨k + 1, [0, 1, 2, 3], [], by omega, by omega, ⟨rfl, ⟨rfl, congrArg (fun z => some (SV.int .i64 z)) (i64_succ (by omega)), trivial⟩, ⟨rfl, rfl, rfl, trivial⟩⟩⟩
      · have e : k = d.np := by omega
        subst e
        repeat' ((conv => whnf); first | (refine br_dec (fun h => ?_) (fun h => ?_) <;> try (exfalso; omega)) | (refine br_ndec (fun h => ?_) (fun h => ?_) <;> try (exfalso; omega)) | refine br_seq (fun h => ?_) (fun h => ?_) | refine br_nseq (fun h => ?_) (fun h => ?_) | refine br_not (fun h => ?_) (fun h => ?_) | refine br_intro (fun h => ?_) (fun h => ?_) | (refine cond_intro ?_ ?_; (first | omega | (dsimp only; omega) | decide | (simp only [Nat.add_zero, Int.toNat_natCast, *]; omega))))
        all_goals (conv => whnf)
        exact ret_up (l := [0, 1, 2, 3, 4]) [.cell 1 1 [.sc (.ints .i64 []), .sc (.strs [])]] ⟨rfl, rfl, rfl, rfl, rfl, trivial⟩ (rkH_rw _ _)

theorem getD_set {α : Type} (l : List α) (i j : Nat) (x z : α) (h : j < l.length) : (l.set i x).getD j z = if i = j then x else l.getD j z := by
  rw [List.getD, List.getD, List.getElem?_set]
  by_cases e : i = j
  · subst e; simp [h]
  · rw [if_neg e, if_neg e]

theorem ref_Read (d : Dk) (h0 : d.ok) (w : Whole d) (n : Int) : FC Try.prog 4 31 [.ptr 1 0 0 0, .int .i64 n] [(1, some (.one true (.cells (rkC 3 d)))), (2, some (.one true (.cols d.nn [.sc (.strs d.kept)]))), (3, some (.one true (.cols d.np [.sc (.ints .i64 d.pn), .sc (.strs d.ps)])))] (isOut (.tup [.str (readD d n).1, .int .i64 (readD d n).2]) [] 4) := by
  have hpm := h0.pm
  have hpl := h0.pl
  rcases run_cases d with ⟨hr, hd⟩ | ⟨hr, hd⟩
  · rw [show readD d n = (⟨#[]⟩, 13) from by simp [readD, hd]]
    refine fc_of mixed T_ok Try.func31 rfl (by kernel_rfl) (by kernel_rfl) (by kernel_rfl) ?_
    repeat' ((conv => whnf); first | (refine br_dec (fun h => ?_) (fun h => ?_) <;> try (exfalso; omega)) | (refine br_ndec (fun h => ?_) (fun h => ?_) <;> try (exfalso; omega)) | refine br_seq (fun h => ?_) (fun h => ?_) | refine br_nseq (fun h => ?_) (fun h => ?_) | refine br_not (fun h => ?_) (fun h => ?_) | refine br_intro (fun h => ?_) (fun h => ?_) | (refine cond_intro ?_ ?_; (first | omega | (dsimp only; omega) | decide | (simp only [Nat.add_zero, Int.toNat_natCast, *]; omega))))
    all_goals first | (exfalso; simp_all; done) | ((conv => whnf); exact ret_out (l := [0, 1, 2, 3]) rfl rfl trivial allRw_nil)
  · by_cases hn : n < 0 ∨ d.nn ≤ n
    · rw [show readD d n = (⟨#[]⟩, 4) from by simp [readD, hd, hn]]
      refine fc_of mixed T_ok Try.func31 rfl (by kernel_rfl) (by kernel_rfl) (by kernel_rfl) ?_
      repeat' ((conv => whnf); first | (refine br_dec (fun h => ?_) (fun h => ?_) <;> try (exfalso; omega)) | (refine br_ndec (fun h => ?_) (fun h => ?_) <;> try (exfalso; omega)) | refine br_seq (fun h => ?_) (fun h => ?_) | refine br_nseq (fun h => ?_) (fun h => ?_) | refine br_not (fun h => ?_) (fun h => ?_) | refine br_intro (fun h => ?_) (fun h => ?_) | (refine cond_intro ?_ ?_; (first | omega | (dsimp only; omega) | decide | (simp only [Nat.add_zero, Int.toNat_natCast, *]; omega))))
      all_goals first | (exfalso; simp_all; done) | ((conv => whnf); exact ret_out (l := [0, 1, 2, 3]) rfl rfl trivial allRw_nil)
    · rw [show readD d n = ((crashTo allB d.pn d.ps d.np d.kept).getD n.toNat ⟨#[]⟩, 0) from by rw [show crashTo allB d.pn d.ps d.np d.kept = d.now from w]; simp [readD, hd, hn]]
      refine fc_of mixed T_ok Try.func31 rfl (by kernel_rfl) (by kernel_rfl) (by kernel_rfl) ?_
      repeat' ((conv => whnf); first | (refine br_dec (fun h => ?_) (fun h => ?_) <;> try (exfalso; omega)) | (refine br_ndec (fun h => ?_) (fun h => ?_) <;> try (exfalso; omega)) | refine br_seq (fun h => ?_) (fun h => ?_) | refine br_nseq (fun h => ?_) (fun h => ?_) | refine br_not (fun h => ?_) (fun h => ?_) | refine br_intro (fun h => ?_) (fun h => ?_) | (refine cond_intro ?_ ?_; (first | omega | (dsimp only; omega) | decide | (simp only [Nat.add_zero, Int.toNat_natCast, *]; omega))))
      all_goals try (exfalso; simp_all; done)
      (conv => whnf)
      refine vloop_of (fun k : Nat => ⟨[(0, .ptr 1 0 0 0), (1, .int .i64 n), (6, .str ((crashTo allB d.pn d.ps k d.kept).getD n.toNat ⟨#[]⟩)), (7, .int .i64 k)],
        [(1, some (.one true (.cells (rkC 3 d)))), (2, some (.one true (.cols d.nn [.sc (.strs d.kept)]))), (3, some (.one true (.cols d.np [.sc (.ints .i64 d.pn), .sc (.strs d.ps)])))], 4⟩) (fun k => k ≤ d.np) (fun k => d.np - k) 0 [0, 1, 2, 3] [] ⟨rfl, ⟨rfl, rfl, rfl, rfl, trivial⟩, ⟨rfl, rfl, rfl, trivial⟩⟩ (by omega) ?_
      intro k hk
      by_cases hlt : k < d.np
      · have hb := h0.pb _ (getD_mem d.pn k 0 (by omega))
        have hst : (crashTo allB d.pn d.ps (k + 1) d.kept).getD n.toNat ⟨#[]⟩ = if (d.pn.getD k 0).toNat = n.toNat then d.ps.getD k ⟨#[]⟩ else (crashTo allB d.pn d.ps k d.kept).getD n.toNat ⟨#[]⟩ := by
          simp only [crashTo, allB, cond_true]
          exact getD_set _ _ _ _ _ (by rw [crashTo_length, h0.kl]; omega)
        repeat' ((conv => whnf); first | (refine br_dec (fun h => ?_) (fun h => ?_) <;> try (exfalso; omega)) | (refine br_ndec (fun h => ?_) (fun h => ?_) <;> try (exfalso; omega)) | refine br_seq (fun h => ?_) (fun h => ?_) | refine br_nseq (fun h => ?_) (fun h => ?_) | refine br_not (fun h => ?_) (fun h => ?_) | refine br_intro (fun h => ?_) (fun h => ?_) | (refine cond_intro ?_ ?_; (first | omega | (dsimp only; omega) | decide | (simp only [Nat.add_zero, Int.toNat_natCast, *]; omega))))
        all_goals (conv => whnf)
        all_goals refine ⟨k + 1, [0, 1, 2, 3], [], by omega, by omega, ⟨rfl, ⟨rfl, rfl, ?_, congrArg (fun z => some (SV.int .i64 z)) (i64_succ (by omega)), trivial⟩, ⟨rfl, rfl, rfl, trivial⟩⟩⟩
        · refine congrArg (fun z => some (SV.str z)) ?_
          have h' : d.pn.getD k 0 = n := h
          rw [hst, if_pos (by rw [h'])]; rfl
        · refine congrArg (fun z => some (SV.str z)) ?_
          have h' : ¬ d.pn.getD k 0 = n := h
          rw [hst, if_neg (by omega)]
      · have e : k = d.np := by omega
        subst e
        repeat' ((conv => whnf); first | (refine br_dec (fun h => ?_) (fun h => ?_) <;> try (exfalso; omega)) | (refine br_ndec (fun h => ?_) (fun h => ?_) <;> try (exfalso; omega)) | refine br_seq (fun h => ?_) (fun h => ?_) | refine br_nseq (fun h => ?_) (fun h => ?_) | refine br_not (fun h => ?_) (fun h => ?_) | refine br_intro (fun h => ?_) (fun h => ?_) | (refine cond_intro ?_ ?_; (first | omega | (dsimp only; omega) | decide | (simp only [Nat.add_zero, Int.toNat_natCast, *]; omega))))
        all_goals (conv => whnf)
        exact ret_out (l := [0, 1, 2, 3]) rfl rfl trivial allRw_nil

theorem ref_New_no (n : Int) (h : n < 1 ∨ 4096 < n) : Pure Try.prog 21 [.int .i64 n] (.tup [.nptr, .int .i64 4]) := by
  refine fc_of mixed T_ok Try.func21 rfl (by kernel_rfl) (by kernel_rfl) (by kernel_rfl) ?_
  repeat' ((conv => whnf); first | (refine br_dec (fun h => ?_) (fun h => ?_) <;> try (exfalso; omega)) | (refine br_ndec (fun h => ?_) (fun h => ?_) <;> try (exfalso; omega)) | refine br_seq (fun h => ?_) (fun h => ?_) | refine br_nseq (fun h => ?_) (fun h => ?_) | refine br_not (fun h => ?_) (fun h => ?_) | refine br_intro (fun h => ?_) (fun h => ?_) | (refine cond_intro ?_ ?_; (first | omega | (dsimp only; omega) | decide | (simp only [Nat.add_zero, Int.toNat_natCast, *]; omega))))
  all_goals (conv => whnf)
  all_goals exact ret_pure rfl

theorem ref_New (n : Nat) (h : 1 ≤ n ∧ n ≤ 4096) : FC Try.prog 1 21 [.int .i64 n] [] (isOut (.tup [.ptr 1 0 0 0, .int .i64 0]) (rkH 3 (newD n)) 4) := by
  refine fc_of mixed T_ok Try.func21 rfl (by kernel_rfl) (by kernel_rfl) (by kernel_rfl) ?_
  repeat' ((conv => whnf); first | (refine br_dec (fun h => ?_) (fun h => ?_) <;> try (exfalso; omega)) | (refine br_ndec (fun h => ?_) (fun h => ?_) <;> try (exfalso; omega)) | refine br_seq (fun h => ?_) (fun h => ?_) | refine br_nseq (fun h => ?_) (fun h => ?_) | refine br_not (fun h => ?_) (fun h => ?_) | refine br_intro (fun h => ?_) (fun h => ?_) | (refine cond_intro ?_ ?_; (first | omega | (dsimp only; omega) | decide | (simp only [Nat.add_zero, Int.toNat_natCast, *]; omega))))
  all_goals (conv => whnf)
  exact ret_up (l := [0, 2, 1, 3]) [.cell 2 1 [.sc (.ints .i64 []), .sc (.strs [])]] ⟨rfl, rfl, rfl, rfl, rfl, trivial⟩ (rkH_rw _ _)
end Go.Proofs.Ytmbbmdccpmmifaa
