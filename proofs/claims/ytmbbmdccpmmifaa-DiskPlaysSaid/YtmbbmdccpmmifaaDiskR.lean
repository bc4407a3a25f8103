/- Contracts of package cardnetref48: its disk is a function of the program's disk. -/
import Derived.Test.YtmbbmdccpmmifaaDiskCr
namespace Go.Proofs.Ytmbbmdccpmmifaa
open Go.RowKit Go.Sy
attribute [local irreducible] vcall vloop vcallD retP
set_option maxRecDepth 100000
set_option linter.unusedVariables false

def rkC (p : Nat) (d : Dk) : List SV := [.sl 2 0 0 d.nn, .sl p 0 0 d.np, .bool d.down, .int .i64 d.steps, .int .u64 d.mask]
/-- The reference's disk in memory: handles 1, 2, and p for the pending writes. -/
def rkH (p : Nat) (d : Dk) : Heap :=
  [(1, some (.one false (.cells (rkC p d)))), (2, some (.one false (.cols d.nn [.sc (.strs d.kept)]))),
   (p, some (.one false (.cols d.np [.sc (.ints .i64 d.pn), .sc (.strs d.ps)])))]
theorem rkH_rw (p : Nat) (d : Dk) : allRw (rkH p d) := allRw_cons (allRw_cons (allRw_cons allRw_nil))

theorem ref_Blocks (d : Dk) : FC Try.prog 4 24 [.ptr 1 0 0 0] [(1, some (.one true (.cells (rkC 3 d))))] (isOut (.int .i64 d.nn) [] 4) := by
  refine fc_of mixed T_ok Try.func24 rfl (by kernel_rfl) (by kernel_rfl) (by kernel_rfl) ?_
  repeat' ((conv => whnf); first | (refine br_dec (fun h => ?_) (fun h => ?_) <;> try (exfalso; omega)) | (refine br_ndec (fun h => ?_) (fun h => ?_) <;> try (exfalso; omega)) | refine br_seq (fun h => ?_) (fun h => ?_) | refine br_nseq (fun h => ?_) (fun h => ?_) | refine br_not (fun h => ?_) (fun h => ?_) | refine br_intro (fun h => ?_) (fun h => ?_) | (refine cond_intro ?_ ?_; (first | omega | (dsimp only; omega) | decide | (simp only [Nat.add_zero, Int.toNat_natCast, *]; omega))))
  all_goals (conv => whnf)
  exact ret_out (l := [0, 1, 2, 3]) rfl rfl trivial allRw_nil
theorem ref_Pending (d : Dk) : FC Try.prog 4 25 [.ptr 1 0 0 0] [(1, some (.one true (.cells (rkC 3 d))))] (isOut (.int .i64 d.np) [] 4) := by
  refine fc_of mixed T_ok Try.func25 rfl (by kernel_rfl) (by kernel_rfl) (by kernel_rfl) ?_
  repeat' ((conv => whnf); first | (refine br_dec (fun h => ?_) (fun h => ?_) <;> try (exfalso; omega)) | (refine br_ndec (fun h => ?_) (fun h => ?_) <;> try (exfalso; omega)) | refine br_seq (fun h => ?_) (fun h => ?_) | refine br_nseq (fun h => ?_) (fun h => ?_) | refine br_not (fun h => ?_) (fun h => ?_) | refine br_intro (fun h => ?_) (fun h => ?_) | (refine cond_intro ?_ ?_; (first | omega | (dsimp only; omega) | decide | (simp only [Nat.add_zero, Int.toNat_natCast, *]; omega))))
  all_goals (conv => whnf)
  exact ret_out (l := [0, 1, 2, 3]) rfl rfl trivial allRw_nil
theorem ref_Down (d : Dk) : FC Try.prog 4 26 [.ptr 1 0 0 0] [(1, some (.one true (.cells (rkC 3 d))))] (isOut (.bool d.down) [] 4) := by
  refine fc_of mixed T_ok Try.func26 rfl (by kernel_rfl) (by kernel_rfl) (by kernel_rfl) ?_
  repeat' ((conv => whnf); first | (refine br_dec (fun h => ?_) (fun h => ?_) <;> try (exfalso; omega)) | (refine br_ndec (fun h => ?_) (fun h => ?_) <;> try (exfalso; omega)) | refine br_seq (fun h => ?_) (fun h => ?_) | refine br_nseq (fun h => ?_) (fun h => ?_) | refine br_not (fun h => ?_) (fun h => ?_) | refine br_intro (fun h => ?_) (fun h => ?_) | (refine cond_intro ?_ ?_; (first | omega | (dsimp only; omega) | decide | (simp only [Nat.add_zero, Int.toNat_natCast, *]; omega))))
  all_goals (conv => whnf)
  exact ret_out (l := [0, 1, 2, 3]) rfl rfl trivial allRw_nil

theorem ref_fails (d : Dk) (hs : 0 ≤ d.steps ∧ d.steps ≤ 1000000) : FC Try.prog 4 37 [.ptr 1 0 0 0] [(1, some (.one false (.cells (rkC 3 d))))]
    (isOut (.bool (decide (d.steps = 1))) [(1, some (.one false (.cells (rkC 3 (countD d)))))] 4) := by
  have hz : IntKind.i64.wrap (d.steps - 1) = d.steps - 1 := w64_in (by omega) (by omega)
  refine fc_of mixed T_ok Try.func37 rfl (by kernel_rfl) (by kernel_rfl) (by kernel_rfl) ?_
  repeat' ((conv => whnf); first | (refine br_dec (fun h => ?_) (fun h => ?_) <;> try (exfalso; omega)) | (refine br_ndec (fun h => ?_) (fun h => ?_) <;> try (exfalso; omega)) | refine br_seq (fun h => ?_) (fun h => ?_) | refine br_nseq (fun h => ?_) (fun h => ?_) | refine br_not (fun h => ?_) (fun h => ?_) | refine br_intro (fun h => ?_) (fun h => ?_) | (refine cond_intro ?_ ?_; (first | omega | (dsimp only; omega) | decide | (simp only [Nat.add_zero, Int.toNat_natCast, *]; omega))))
  all_goals (conv => whnf)
  · refine ret_out (l := [0, 1, 2, 3]) rfl ?_ ⟨?_, trivial⟩ (allRw_cons allRw_nil)
    · rw [show decide (d.steps = 1) = false from decide_eq_false (by omega)]; rfl
    · have e : countZ d.steps = d.steps := by unfold countZ; rw [if_neg (by omega)]
      unfold countD; rw [e]; rfl
  · refine ret_out (l := [0, 1, 2, 3]) rfl ?_ ⟨?_, trivial⟩ (allRw_cons allRw_nil)
    · show SV.bool (decide (IntKind.i64.wrap (d.steps - 1) = 0)) = SV.bool (decide (d.steps = 1))
      rw [hz]
      exact congrArg SV.bool (decide_eq_decide.mpr (by omega))
    · have e : countZ d.steps = IntKind.i64.wrap (d.steps - 1) := by rw [hz]; unfold countZ; rw [if_pos (by omega)]
      unfold countD; rw [e]; rfl

theorem ref_crash (d : Dk) (h0 : d.ok) (m : Nat) (hm : m < 2 ^ 64) : FC Try.prog 4 38 [.ptr 1 0 0 0, .int .u64 m] (rkH 3 d) (isOut (.tup []) (rkH 4 (crashD m d)) 5) := by
  have hpm := h0.pm
  have hpl := h0.pl
  refine fc_of mixed T_ok Try.func38 rfl (by kernel_rfl) (by kernel_rfl) (by kernel_rfl) ?_
  repeat' ((conv => whnf); first | (refine br_dec (fun h => ?_) (fun h => ?_) <;> try (exfalso; omega)) | (refine br_ndec (fun h => ?_) (fun h => ?_) <;> try (exfalso; omega)) | refine br_seq (fun h => ?_) (fun h => ?_) | refine br_nseq (fun h => ?_) (fun h => ?_) | refine br_not (fun h => ?_) (fun h => ?_) | refine br_intro (fun h => ?_) (fun h => ?_) | (refine cond_intro ?_ ?_; (first | omega | (dsimp only; omega) | decide | (simp only [Nat.add_zero, Int.toNat_natCast, *]; omega))))
  (conv => whnf)
  refine vloop_of (fun k : Nat => ⟨[(0, .ptr 1 0 0 0), (1, .int .u64 m), (4, .int .i64 k)],
    [(1, some (.one false (.cells (rkC 3 d)))), (2, some (.one false (.cols d.nn [.sc (.strs (crashTo (crashB m) d.pn d.ps k d.kept))]))),
     (3, some (.one false (.cols d.np [.sc (.ints .i64 d.pn), .sc (.strs d.ps)])))], 4⟩) (fun k => k ≤ d.np) (fun k => d.np - k) 0 [0, 1, 2, 3] [] ⟨rfl, ⟨rfl, rfl, rfl, trivial⟩, ⟨rfl, rfl, rfl, trivial⟩⟩ (by omega) ?_
  intro k hk
  by_cases hlt : k < d.np
  · have hk64 : (k : Int).tmod 64 = ((k % 64 : Nat) : Int) := by rw [Int.tmod_eq_emod_of_nonneg (by omega)]; omega
    have hku : IntKind.u64.wrap ((k : Int).tmod 64) = ((k % 64 : Nat) : Int) := by rw [hk64]; exact w64u_nat _ (by omega)
    have hb := h0.pb _ (getD_mem d.pn k 0 (by omega))
    have hc : crashB m k = decide (iand .u64 (ishr .u64 (m : Int) (IntKind.u64.wrap ((k : Int).tmod 64))) 1 = 1) := by
      rw [hku, ← bit_eq m (k % 64) hm (Nat.mod_lt _ (by omega))]
      unfold crashB; rw [Nat.mod_mod]
    repeat' ((conv => whnf); first | (refine cond_intro hb ?_) | (refine cond_intro (by rw [hku]; omega) ?_) | (refine br_dec (fun h => ?_) (fun h => ?_) <;> try (exfalso; omega)) | (refine br_ndec (fun h => ?_) (fun h => ?_) <;> try (exfalso; omega)) | refine br_seq (fun h => ?_) (fun h => ?_) | refine br_nseq (fun h => ?_) (fun h => ?_) | refine br_not (fun h => ?_) (fun h => ?_) | refine br_intro (fun h => ?_) (fun h => ?_) | (refine cond_intro ?_ ?_; (first | omega | (dsimp only; omega) | decide | (simp only [Nat.add_zero, Int.toNat_natCast, *]; omega))))
    all_goals (conv => whnf)
    all_goals first | rw [decide_eq_true (by assumption)] at hc | rw [decide_eq_false (by assumption)] at hc
    all_goals refine ⟨k + 1, [0, 1, 2, 3], [], by omega, by omega, ⟨rfl, ⟨rfl, rfl, congrArg (fun z => some (SV.int .i64 z)) (i64_succ (by omega)), trivial⟩, ⟨rfl, ?_, rfl, trivial⟩⟩⟩
    all_goals refine congrArg (fun z => some (HB.one false (.cols d.nn [.sc (.strs z)]))) ?_
    all_goals (simp only [crashTo, hc]; rfl)
  · have e : k = d.np := by omega
    subst e
    repeat' ((conv => whnf); first | (refine br_dec (fun h => ?_) (fun h => ?_) <;> try (exfalso; omega)) | (refine br_ndec (fun h => ?_) (fun h => ?_) <;> try (exfalso; omega)) | refine br_seq (fun h => ?_) (fun h => ?_) | refine br_nseq (fun h => ?_) (fun h => ?_) | refine br_not (fun h => ?_) (fun h => ?_) | refine br_intro (fun h => ?_) (fun h => ?_) | (refine cond_intro ?_ ?_; (first | omega | (dsimp only; omega) | decide | (simp only [Nat.add_zero, Int.toNat_natCast, *]; omega))))
    all_goals (conv => whnf)
    exact ret_up (l := [0, 1, 2, 3, 4]) [.cell 1 1 [.sc (.ints .i64 []), .sc (.strs [])]] ⟨rfl, rfl, rfl, rfl, rfl, trivial⟩ (rkH_rw _ _)

theorem ref_Crash (d : Dk) (h0 : d.ok) (m : Nat) (hm : m < 2 ^ 64) : FC Try.prog 4 33 [.ptr 1 0 0 0, .int .u64 m] (rkH 3 d) (isOut (.int .i64 (runE d)) (rkH 4 (crashed m d)) 5) := by
  rcases run_cases d with ⟨hr, hd⟩ | ⟨hr, hd⟩
  · rw [show crashed m d = d from by simp [crashed, hd], hr]
    refine fc_of mixed T_ok Try.func33 rfl (by kernel_rfl) (by kernel_rfl) (by kernel_rfl) ?_
    repeat' ((conv => whnf); first | (refine br_dec (fun h => ?_) (fun h => ?_) <;> try (exfalso; omega)) | (refine br_ndec (fun h => ?_) (fun h => ?_) <;> try (exfalso; omega)) | refine br_seq (fun h => ?_) (fun h => ?_) | refine br_nseq (fun h => ?_) (fun h => ?_) | refine br_not (fun h => ?_) (fun h => ?_) | refine br_intro (fun h => ?_) (fun h => ?_) | (refine cond_intro ?_ ?_; (first | omega | (dsimp only; omega) | decide | (simp only [Nat.add_zero, Int.toNat_natCast, *]; omega))))
    all_goals first | (exfalso; simp_all; done) | ((conv => whnf); exact ret_out (l := [0, 1, 2, 3, 3]) rfl rfl ⟨rfl, rfl, rfl, trivial⟩ (rkH_rw _ _))
  · rw [show crashed m d = crashD m d from by simp [crashed, hd], hr]
    refine fc_of mixed T_ok Try.func33 rfl (by kernel_rfl) (by kernel_rfl) (by kernel_rfl) ?_
    repeat' ((conv => whnf); first | (refine vcall_out (l :=  [0, 1, 2, 3]) (ref_crash d h0 m hm ) ⟨rfl, rfl, rfl, rfl, (by (repeat' (first | exact trivial | constructor)); first | done | fail), (by (repeat' (first | exact trivial | constructor)); first | done | fail)⟩ ?_) | (refine br_dec (fun h => ?_) (fun h => ?_) <;> try (exfalso; omega)) | (refine br_ndec (fun h => ?_) (fun h => ?_) <;> try (exfalso; omega)) | refine br_seq (fun h => ?_) (fun h => ?_) | refine br_nseq (fun h => ?_) (fun h => ?_) | refine br_not (fun h => ?_) (fun h => ?_) | refine br_intro (fun h => ?_) (fun h => ?_) | (refine cond_intro ?_ ?_; (first | omega | (dsimp only; omega) | decide | (simp only [Nat.add_zero, Int.toNat_natCast, *]; omega))))
    all_goals first | (exfalso; simp_all; done) | ((conv => whnf); exact ret_out (l := [0, 1, 2, 3, 4]) rfl rfl ⟨rfl, rfl, rfl, trivial⟩ (rkH_rw _ _))

theorem ref_Arm (d : Dk) (n m : Int) : FC Try.prog 4 34 [.ptr 1 0 0 0, .int .i64 n, .int .u64 m] [(1, some (.one false (.cells (rkC 3 d))))] (isOut (.int .i64 (armD d n m).2) [(1, some (.one false (.cells (rkC 3 (armD d n m).1))))] 4) := by
  rcases run_cases d with ⟨_, hd⟩ | ⟨_, hd⟩
  · rw [show armD d n m = (d, 13) from by simp [armD, hd]]
    refine fc_of mixed T_ok Try.func34 rfl (by kernel_rfl) (by kernel_rfl) (by kernel_rfl) ?_
    repeat' ((conv => whnf); first | (refine br_dec (fun h => ?_) (fun h => ?_) <;> try (exfalso; omega)) | (refine br_ndec (fun h => ?_) (fun h => ?_) <;> try (exfalso; omega)) | refine br_seq (fun h => ?_) (fun h => ?_) | refine br_nseq (fun h => ?_) (fun h => ?_) | refine br_not (fun h => ?_) (fun h => ?_) | refine br_intro (fun h => ?_) (fun h => ?_) | (refine cond_intro ?_ ?_; (first | omega | (dsimp only; omega) | decide | (simp only [Nat.add_zero, Int.toNat_natCast, *]; omega))))
    all_goals first | (exfalso; simp_all; done) | ((conv => whnf); exact ret_out (l := [0, 1, 2, 3]) rfl rfl ⟨rfl, trivial⟩ (allRw_cons allRw_nil))
  · by_cases hn : n < 0 ∨ 1000000 < n
    · rw [show armD d n m = (d, 4) from by simp [armD, hd, hn]]
      refine fc_of mixed T_ok Try.func34 rfl (by kernel_rfl) (by kernel_rfl) (by kernel_rfl) ?_
      repeat' ((conv => whnf); first | (refine br_dec (fun h => ?_) (fun h => ?_) <;> try (exfalso; omega)) | (refine br_ndec (fun h => ?_) (fun h => ?_) <;> try (exfalso; omega)) | refine br_seq (fun h => ?_) (fun h => ?_) | refine br_nseq (fun h => ?_) (fun h => ?_) | refine br_not (fun h => ?_) (fun h => ?_) | refine br_intro (fun h => ?_) (fun h => ?_) | (refine cond_intro ?_ ?_; (first | omega | (dsimp only; omega) | decide | (simp only [Nat.add_zero, Int.toNat_natCast, *]; omega))))
      all_goals first | (exfalso; simp_all; done) | ((conv => whnf); exact ret_out (l := [0, 1, 2, 3]) rfl rfl ⟨rfl, trivial⟩ (allRw_cons allRw_nil))
    · rw [show armD d n m = ({ d with steps := n, mask := m }, 0) from by simp [armD, hd, hn]]
      refine fc_of mixed T_ok Try.func34 rfl (by kernel_rfl) (by kernel_rfl) (by kernel_rfl) ?_
      repeat' ((conv => whnf); first | (refine br_dec (fun h => ?_) (fun h => ?_) <;> try (exfalso; omega)) | (refine br_ndec (fun h => ?_) (fun h => ?_) <;> try (exfalso; omega)) | refine br_seq (fun h => ?_) (fun h => ?_) | refine br_nseq (fun h => ?_) (fun h => ?_) | refine br_not (fun h => ?_) (fun h => ?_) | refine br_intro (fun h => ?_) (fun h => ?_) | (refine cond_intro ?_ ?_; (first | omega | (dsimp only; omega) | decide | (simp only [Nat.add_zero, Int.toNat_natCast, *]; omega))))
      all_goals first | (exfalso; simp_all; done) | ((conv => whnf); exact ret_out (l := [0, 1, 2, 3]) rfl rfl ⟨rfl, trivial⟩ (allRw_cons allRw_nil))

theorem ref_Recover (d : Dk) : FC Try.prog 4 35 [.ptr 1 0 0 0] [(1, some (.one false (.cells (rkC 3 d))))] (isOut (.int .i64 (recoverD d).2) [(1, some (.one false (.cells (rkC 3 (recoverD d).1))))] 4) := by
  rcases run_cases d with ⟨_, hd⟩ | ⟨_, hd⟩
  · rw [show recoverD d = ({ d with down := false }, 0) from by simp [recoverD, hd]]
    refine fc_of mixed T_ok Try.func35 rfl (by kernel_rfl) (by kernel_rfl) (by kernel_rfl) ?_
    repeat' ((conv => whnf); first | (refine br_dec (fun h => ?_) (fun h => ?_) <;> try (exfalso; omega)) | (refine br_ndec (fun h => ?_) (fun h => ?_) <;> try (exfalso; omega)) | refine br_seq (fun h => ?_) (fun h => ?_) | refine br_nseq (fun h => ?_) (fun h => ?_) | refine br_not (fun h => ?_) (fun h => ?_) | refine br_intro (fun h => ?_) (fun h => ?_) | (refine cond_intro ?_ ?_; (first | omega | (dsimp only; omega) | decide | (simp only [Nat.add_zero, Int.toNat_natCast, *]; omega))))
    all_goals first | (exfalso; simp_all; done) | ((conv => whnf); exact ret_out (l := [0, 1, 2, 3]) rfl rfl ⟨rfl, trivial⟩ (allRw_cons allRw_nil))
  · rw [show recoverD d = (d, 8) from by simp [recoverD, hd]]
    refine fc_of mixed T_ok Try.func35 rfl (by kernel_rfl) (by kernel_rfl) (by kernel_rfl) ?_
    repeat' ((conv => whnf); first | (refine br_dec (fun h => ?_) (fun h => ?_) <;> try (exfalso; omega)) | (refine br_ndec (fun h => ?_) (fun h => ?_) <;> try (exfalso; omega)) | refine br_seq (fun h => ?_) (fun h => ?_) | refine br_nseq (fun h => ?_) (fun h => ?_) | refine br_not (fun h => ?_) (fun h => ?_) | refine br_intro (fun h => ?_) (fun h => ?_) | (refine cond_intro ?_ ?_; (first | omega | (dsimp only; omega) | decide | (simp only [Nat.add_zero, Int.toNat_natCast, *]; omega))))
    all_goals first | (exfalso; simp_all; done) | ((conv => whnf); exact ret_out (l := [0, 1, 2, 3]) rfl rfl ⟨rfl, trivial⟩ (allRw_cons allRw_nil))
end Go.Proofs.Ytmbbmdccpmmifaa
