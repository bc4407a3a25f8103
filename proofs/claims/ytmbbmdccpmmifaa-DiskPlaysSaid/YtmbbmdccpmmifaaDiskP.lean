/- The law DiskPlays: its helpers. -/
import Derived.Test.YtmbbmdccpmmifaaDiskR2
namespace Go.Proofs.Ytmbbmdccpmmifaa
open Go.RowKit Go.Sy
attribute [local irreducible] vcall vloop vcallD retP
set_option maxRecDepth 100000
set_option linter.unusedVariables false

theorem nil_running : Pure Try.prog 27 [.nptr] (.int .i64 6) := by
  refine fc_of mixed T_ok Try.func27 rfl (by kernel_rfl) (by kernel_rfl) (by kernel_rfl) ?_
  repeat' ((conv => whnf); first | (refine br_dec (fun h => ?_) (fun h => ?_) <;> try (exfalso; omega)) | (refine br_ndec (fun h => ?_) (fun h => ?_) <;> try (exfalso; omega)) | refine br_seq (fun h => ?_) (fun h => ?_) | refine br_nseq (fun h => ?_) (fun h => ?_) | refine br_not (fun h => ?_) (fun h => ?_) | refine br_intro (fun h => ?_) (fun h => ?_) | (refine cond_intro ?_ ?_; (first | omega | (dsimp only; omega) | decide | (simp only [Nat.add_zero, Int.toNat_natCast, *]; omega))))
  all_goals (conv => whnf)
  all_goals exact ret_pure rfl
theorem nil_Write (n : Int) (s : ByteArray) : Pure Try.prog 19 [.nptr, .int .i64 n, .str s] (.int .i64 6) := by
  refine fc_of mixed T_ok Try.func19 rfl (by kernel_rfl) (by kernel_rfl) (by kernel_rfl) ?_
  repeat' ((conv => whnf); first | (refine vcall_pure (nil_running) rfl rfl rfl ?_) | (refine br_dec (fun h => ?_) (fun h => ?_) <;> try (exfalso; omega)) | (refine br_ndec (fun h => ?_) (fun h => ?_) <;> try (exfalso; omega)) | refine br_seq (fun h => ?_) (fun h => ?_) | refine br_nseq (fun h => ?_) (fun h => ?_) | refine br_not (fun h => ?_) (fun h => ?_) | refine br_intro (fun h => ?_) (fun h => ?_) | (refine cond_intro ?_ ?_; (first | omega | (dsimp only; omega) | decide | (simp only [Nat.add_zero, Int.toNat_natCast, *]; omega))))
  all_goals (conv => whnf)
  all_goals exact ret_pure rfl
theorem nil_Read (n : Int) : Pure Try.prog 17 [.nptr, .int .i64 n] (.tup [.str ⟨#[]⟩, .int .i64 6]) := by
  refine fc_of mixed T_ok Try.func17 rfl (by kernel_rfl) (by kernel_rfl) (by kernel_rfl) ?_
  repeat' ((conv => whnf); first | (refine vcall_pure (nil_running) rfl rfl rfl ?_) | (refine br_dec (fun h => ?_) (fun h => ?_) <;> try (exfalso; omega)) | (refine br_ndec (fun h => ?_) (fun h => ?_) <;> try (exfalso; omega)) | refine br_seq (fun h => ?_) (fun h => ?_) | refine br_nseq (fun h => ?_) (fun h => ?_) | refine br_not (fun h => ?_) (fun h => ?_) | refine br_intro (fun h => ?_) (fun h => ?_) | (refine cond_intro ?_ ?_; (first | omega | (dsimp only; omega) | decide | (simp only [Nat.add_zero, Int.toNat_natCast, *]; omega))))
  all_goals (conv => whnf)
  all_goals exact ret_pure rfl
theorem nil_Flush : Pure Try.prog 11 [.nptr] (.int .i64 6) := by
  refine fc_of mixed T_ok Try.func11 rfl (by kernel_rfl) (by kernel_rfl) (by kernel_rfl) ?_
  repeat' ((conv => whnf); first | (refine vcall_pure (nil_running) rfl rfl rfl ?_) | (refine br_dec (fun h => ?_) (fun h => ?_) <;> try (exfalso; omega)) | (refine br_ndec (fun h => ?_) (fun h => ?_) <;> try (exfalso; omega)) | refine br_seq (fun h => ?_) (fun h => ?_) | refine br_nseq (fun h => ?_) (fun h => ?_) | refine br_not (fun h => ?_) (fun h => ?_) | refine br_intro (fun h => ?_) (fun h => ?_) | (refine cond_intro ?_ ?_; (first | omega | (dsimp only; omega) | decide | (simp only [Nat.add_zero, Int.toNat_natCast, *]; omega))))
  all_goals (conv => whnf)
  all_goals exact ret_pure rfl
theorem nil_Crash (m : Int) : Pure Try.prog 12 [.nptr, .int .u64 m] (.int .i64 6) := by
  refine fc_of mixed T_ok Try.func12 rfl (by kernel_rfl) (by kernel_rfl) (by kernel_rfl) ?_
  repeat' ((conv => whnf); first | (refine vcall_pure (nil_running) rfl rfl rfl ?_) | (refine br_dec (fun h => ?_) (fun h => ?_) <;> try (exfalso; omega)) | (refine br_ndec (fun h => ?_) (fun h => ?_) <;> try (exfalso; omega)) | refine br_seq (fun h => ?_) (fun h => ?_) | refine br_nseq (fun h => ?_) (fun h => ?_) | refine br_not (fun h => ?_) (fun h => ?_) | refine br_intro (fun h => ?_) (fun h => ?_) | (refine cond_intro ?_ ?_; (first | omega | (dsimp only; omega) | decide | (simp only [Nat.add_zero, Int.toNat_natCast, *]; omega))))
  all_goals (conv => whnf)
  all_goals exact ret_pure rfl
theorem nil_Arm (n m : Int) : Pure Try.prog 18 [.nptr, .int .i64 n, .int .u64 m] (.int .i64 6) := by
  refine fc_of mixed T_ok Try.func18 rfl (by kernel_rfl) (by kernel_rfl) (by kernel_rfl) ?_
  repeat' ((conv => whnf); first | (refine vcall_pure (nil_running) rfl rfl rfl ?_) | (refine br_dec (fun h => ?_) (fun h => ?_) <;> try (exfalso; omega)) | (refine br_ndec (fun h => ?_) (fun h => ?_) <;> try (exfalso; omega)) | refine br_seq (fun h => ?_) (fun h => ?_) | refine br_nseq (fun h => ?_) (fun h => ?_) | refine br_not (fun h => ?_) (fun h => ?_) | refine br_intro (fun h => ?_) (fun h => ?_) | (refine cond_intro ?_ ?_; (first | omega | (dsimp only; omega) | decide | (simp only [Nat.add_zero, Int.toNat_natCast, *]; omega))))
  all_goals (conv => whnf)
  all_goals exact ret_pure rfl
theorem nil_Recover : Pure Try.prog 13 [.nptr] (.int .i64 6) := by
  refine fc_of mixed T_ok Try.func13 rfl (by kernel_rfl) (by kernel_rfl) (by kernel_rfl) ?_
  repeat' ((conv => whnf); first | (refine vcall_pure (nil_running) rfl rfl rfl ?_) | (refine br_dec (fun h => ?_) (fun h => ?_) <;> try (exfalso; omega)) | (refine br_ndec (fun h => ?_) (fun h => ?_) <;> try (exfalso; omega)) | refine br_seq (fun h => ?_) (fun h => ?_) | refine br_nseq (fun h => ?_) (fun h => ?_) | refine br_not (fun h => ?_) (fun h => ?_) | refine br_intro (fun h => ?_) (fun h => ?_) | (refine cond_intro ?_ ?_; (first | omega | (dsimp only; omega) | decide | (simp only [Nat.add_zero, Int.toNat_natCast, *]; omega))))
  all_goals (conv => whnf)
  all_goals exact ret_pure rfl
theorem nil_Blocks : Pure Try.prog 23 [.nptr] (.int .i64 0) := by
  refine fc_of mixed T_ok Try.func23 rfl (by kernel_rfl) (by kernel_rfl) (by kernel_rfl) ?_
  repeat' ((conv => whnf); first | (refine br_dec (fun h => ?_) (fun h => ?_) <;> try (exfalso; omega)) | (refine br_ndec (fun h => ?_) (fun h => ?_) <;> try (exfalso; omega)) | refine br_seq (fun h => ?_) (fun h => ?_) | refine br_nseq (fun h => ?_) (fun h => ?_) | refine br_not (fun h => ?_) (fun h => ?_) | refine br_intro (fun h => ?_) (fun h => ?_) | (refine cond_intro ?_ ?_; (first | omega | (dsimp only; omega) | decide | (simp only [Nat.add_zero, Int.toNat_natCast, *]; omega))))
  all_goals (conv => whnf)
  all_goals exact ret_pure rfl
theorem nil_Pending : Pure Try.prog 15 [.nptr] (.int .i64 0) := by
  refine fc_of mixed T_ok Try.func15 rfl (by kernel_rfl) (by kernel_rfl) (by kernel_rfl) ?_
  repeat' ((conv => whnf); first | (refine br_dec (fun h => ?_) (fun h => ?_) <;> try (exfalso; omega)) | (refine br_ndec (fun h => ?_) (fun h => ?_) <;> try (exfalso; omega)) | refine br_seq (fun h => ?_) (fun h => ?_) | refine br_nseq (fun h => ?_) (fun h => ?_) | refine br_not (fun h => ?_) (fun h => ?_) | refine br_intro (fun h => ?_) (fun h => ?_) | (refine cond_intro ?_ ?_; (first | omega | (dsimp only; omega) | decide | (simp only [Nat.add_zero, Int.toNat_natCast, *]; omega))))
  all_goals (conv => whnf)
  all_goals exact ret_pure rfl
theorem nil_Down : Pure Try.prog 16 [.nptr] (.bool false) := by
  refine fc_of mixed T_ok Try.func16 rfl (by kernel_rfl) (by kernel_rfl) (by kernel_rfl) ?_
  repeat' ((conv => whnf); first | (refine br_dec (fun h => ?_) (fun h => ?_) <;> try (exfalso; omega)) | (refine br_ndec (fun h => ?_) (fun h => ?_) <;> try (exfalso; omega)) | refine br_seq (fun h => ?_) (fun h => ?_) | refine br_nseq (fun h => ?_) (fun h => ?_) | refine br_not (fun h => ?_) (fun h => ?_) | refine br_intro (fun h => ?_) (fun h => ?_) | (refine cond_intro ?_ ?_; (first | omega | (dsimp only; omega) | decide | (simp only [Nat.add_zero, Int.toNat_natCast, *]; omega))))
  all_goals (conv => whnf)
  all_goals exact ret_pure rfl
theorem rnil_Write (n : Int) (s : ByteArray) : Pure Try.prog 30 [.nptr, .int .i64 n, .str s] (.int .i64 6) := by
  refine fc_of mixed T_ok Try.func30 rfl (by kernel_rfl) (by kernel_rfl) (by kernel_rfl) ?_
  repeat' ((conv => whnf); first | (refine br_dec (fun h => ?_) (fun h => ?_) <;> try (exfalso; omega)) | (refine br_ndec (fun h => ?_) (fun h => ?_) <;> try (exfalso; omega)) | refine br_seq (fun h => ?_) (fun h => ?_) | refine br_nseq (fun h => ?_) (fun h => ?_) | refine br_not (fun h => ?_) (fun h => ?_) | refine br_intro (fun h => ?_) (fun h => ?_) | (refine cond_intro ?_ ?_; (first | omega | (dsimp only; omega) | decide | (simp only [Nat.add_zero, Int.toNat_natCast, *]; omega))))
  all_goals (conv => whnf)
  all_goals exact ret_pure rfl
theorem rnil_Read (n : Int) : Pure Try.prog 31 [.nptr, .int .i64 n] (.tup [.str ⟨#[]⟩, .int .i64 6]) := by
  refine fc_of mixed T_ok Try.func31 rfl (by kernel_rfl) (by kernel_rfl) (by kernel_rfl) ?_
  repeat' ((conv => whnf); first | (refine br_dec (fun h => ?_) (fun h => ?_) <;> try (exfalso; omega)) | (refine br_ndec (fun h => ?_) (fun h => ?_) <;> try (exfalso; omega)) | refine br_seq (fun h => ?_) (fun h => ?_) | refine br_nseq (fun h => ?_) (fun h => ?_) | refine br_not (fun h => ?_) (fun h => ?_) | refine br_intro (fun h => ?_) (fun h => ?_) | (refine cond_intro ?_ ?_; (first | omega | (dsimp only; omega) | decide | (simp only [Nat.add_zero, Int.toNat_natCast, *]; omega))))
  all_goals (conv => whnf)
  all_goals exact ret_pure rfl
theorem rnil_Flush : Pure Try.prog 32 [.nptr] (.int .i64 6) := by
  refine fc_of mixed T_ok Try.func32 rfl (by kernel_rfl) (by kernel_rfl) (by kernel_rfl) ?_
  repeat' ((conv => whnf); first | (refine br_dec (fun h => ?_) (fun h => ?_) <;> try (exfalso; omega)) | (refine br_ndec (fun h => ?_) (fun h => ?_) <;> try (exfalso; omega)) | refine br_seq (fun h => ?_) (fun h => ?_) | refine br_nseq (fun h => ?_) (fun h => ?_) | refine br_not (fun h => ?_) (fun h => ?_) | refine br_intro (fun h => ?_) (fun h => ?_) | (refine cond_intro ?_ ?_; (first | omega | (dsimp only; omega) | decide | (simp only [Nat.add_zero, Int.toNat_natCast, *]; omega))))
  all_goals (conv => whnf)
  all_goals exact ret_pure rfl
theorem rnil_Crash (m : Int) : Pure Try.prog 33 [.nptr, .int .u64 m] (.int .i64 6) := by
  refine fc_of mixed T_ok Try.func33 rfl (by kernel_rfl) (by kernel_rfl) (by kernel_rfl) ?_
  repeat' ((conv => whnf); first | (refine br_dec (fun h => ?_) (fun h => ?_) <;> try (exfalso; omega)) | (refine br_ndec (fun h => ?_) (fun h => ?_) <;> try (exfalso; omega)) | refine br_seq (fun h => ?_) (fun h => ?_) | refine br_nseq (fun h => ?_) (fun h => ?_) | refine br_not (fun h => ?_) (fun h => ?_) | refine br_intro (fun h => ?_) (fun h => ?_) | (refine cond_intro ?_ ?_; (first | omega | (dsimp only; omega) | decide | (simp only [Nat.add_zero, Int.toNat_natCast, *]; omega))))
  all_goals (conv => whnf)
  all_goals exact ret_pure rfl
theorem rnil_Arm (n m : Int) : Pure Try.prog 34 [.nptr, .int .i64 n, .int .u64 m] (.int .i64 6) := by
  refine fc_of mixed T_ok Try.func34 rfl (by kernel_rfl) (by kernel_rfl) (by kernel_rfl) ?_
  repeat' ((conv => whnf); first | (refine br_dec (fun h => ?_) (fun h => ?_) <;> try (exfalso; omega)) | (refine br_ndec (fun h => ?_) (fun h => ?_) <;> try (exfalso; omega)) | refine br_seq (fun h => ?_) (fun h => ?_) | refine br_nseq (fun h => ?_) (fun h => ?_) | refine br_not (fun h => ?_) (fun h => ?_) | refine br_intro (fun h => ?_) (fun h => ?_) | (refine cond_intro ?_ ?_; (first | omega | (dsimp only; omega) | decide | (simp only [Nat.add_zero, Int.toNat_natCast, *]; omega))))
  all_goals (conv => whnf)
  all_goals exact ret_pure rfl
theorem rnil_Recover : Pure Try.prog 35 [.nptr] (.int .i64 6) := by
  refine fc_of mixed T_ok Try.func35 rfl (by kernel_rfl) (by kernel_rfl) (by kernel_rfl) ?_
  repeat' ((conv => whnf); first | (refine br_dec (fun h => ?_) (fun h => ?_) <;> try (exfalso; omega)) | (refine br_ndec (fun h => ?_) (fun h => ?_) <;> try (exfalso; omega)) | refine br_seq (fun h => ?_) (fun h => ?_) | refine br_nseq (fun h => ?_) (fun h => ?_) | refine br_not (fun h => ?_) (fun h => ?_) | refine br_intro (fun h => ?_) (fun h => ?_) | (refine cond_intro ?_ ?_; (first | omega | (dsimp only; omega) | decide | (simp only [Nat.add_zero, Int.toNat_natCast, *]; omega))))
  all_goals (conv => whnf)
  all_goals exact ret_pure rfl
theorem rnil_Blocks : Pure Try.prog 24 [.nptr] (.int .i64 0) := by
  refine fc_of mixed T_ok Try.func24 rfl (by kernel_rfl) (by kernel_rfl) (by kernel_rfl) ?_
  repeat' ((conv => whnf); first | (refine br_dec (fun h => ?_) (fun h => ?_) <;> try (exfalso; omega)) | (refine br_ndec (fun h => ?_) (fun h => ?_) <;> try (exfalso; omega)) | refine br_seq (fun h => ?_) (fun h => ?_) | refine br_nseq (fun h => ?_) (fun h => ?_) | refine br_not (fun h => ?_) (fun h => ?_) | refine br_intro (fun h => ?_) (fun h => ?_) | (refine cond_intro ?_ ?_; (first | omega | (dsimp only; omega) | decide | (simp only [Nat.add_zero, Int.toNat_natCast, *]; omega))))
  all_goals (conv => whnf)
  all_goals exact ret_pure rfl
theorem rnil_Pending : Pure Try.prog 25 [.nptr] (.int .i64 0) := by
  refine fc_of mixed T_ok Try.func25 rfl (by kernel_rfl) (by kernel_rfl) (by kernel_rfl) ?_
  repeat' ((conv => whnf); first | (refine br_dec (fun h => ?_) (fun h => ?_) <;> try (exfalso; omega)) | (refine br_ndec (fun h => ?_) (fun h => ?_) <;> try (exfalso; omega)) | refine br_seq (fun h => ?_) (fun h => ?_) | refine br_nseq (fun h => ?_) (fun h => ?_) | refine br_not (fun h => ?_) (fun h => ?_) | refine br_intro (fun h => ?_) (fun h => ?_) | (refine cond_intro ?_ ?_; (first | omega | (dsimp only; omega) | decide | (simp only [Nat.add_zero, Int.toNat_natCast, *]; omega))))
  all_goals (conv => whnf)
  all_goals exact ret_pure rfl
theorem rnil_Down : Pure Try.prog 26 [.nptr] (.bool false) := by
  refine fc_of mixed T_ok Try.func26 rfl (by kernel_rfl) (by kernel_rfl) (by kernel_rfl) ?_
  repeat' ((conv => whnf); first | (refine br_dec (fun h => ?_) (fun h => ?_) <;> try (exfalso; omega)) | (refine br_ndec (fun h => ?_) (fun h => ?_) <;> try (exfalso; omega)) | refine br_seq (fun h => ?_) (fun h => ?_) | refine br_nseq (fun h => ?_) (fun h => ?_) | refine br_not (fun h => ?_) (fun h => ?_) | refine br_intro (fun h => ?_) (fun h => ?_) | (refine cond_intro ?_ ?_; (first | omega | (dsimp only; omega) | decide | (simp only [Nat.add_zero, Int.toNat_natCast, *]; omega))))
  all_goals (conv => whnf)
  all_goals exact ret_pure rfl

/-- At most 80 calls, of strings of at most 200 bytes. -/
def fewB (n : Nat) (ct : List ByteArray) : Bool := decide (n ≤ 80 ∧ ∀ i, i < n → (ct.getD i ⟨#[]⟩).size ≤ 200)
theorem fewB_no {n k : Nat} {ct : List ByteArray} (h : k < n) (hk : 80 ≤ k ∨ 200 < (ct.getD k ⟨#[]⟩).size) : fewB n ct = false := by
  unfold fewB
  rw [decide_eq_false_iff_not]
  rintro ⟨h1, h2⟩
  rcases hk with hk | hk
  · omega
  · have := h2 k h; omega

theorem law_few (n : Nat) (c0 c1 : List Int) (ct : List ByteArray) (c3 : List Int) (hn : n ≤ maxLen) : FC Try.prog 2 20 [.sl 1 0 0 n] [(1, some (.one true (.cols n [.sc (.ints .u8 c0), .sc (.ints .i64 c1), .sc (.strs ct), .sc (.ints .u64 c3)])))] (isOut (.bool (fewB n ct)) [] 2) := by
  unfold maxLen at hn
  refine fc_of mixed T_ok Try.func20 rfl (by kernel_rfl) (by kernel_rfl) (by kernel_rfl) ?_
  (conv => whnf)
  refine vloop_of (fun k : Nat => ⟨[(0, .sl 1 0 0 n), (3, .int .i64 k)], [(1, some (.one true (.cols n [.sc (.ints .u8 c0), .sc (.ints .i64 c1), .sc (.strs ct), .sc (.ints .u64 c3)])))], 2⟩) (fun k => k ≤ n ∧ k ≤ 80 ∧ ∀ i, i < k → (ct.getD i ⟨#[]⟩).size ≤ 200) (fun k => n - k) 0 [0, 1] [] ⟨rfl, ⟨rfl, rfl, trivial⟩, ⟨rfl, trivial⟩⟩ ⟨by omega, by omega, fun i hi => by omega⟩ ?_
  rintro k ⟨hk, hk2, hall⟩
  repeat' ((conv => whnf); first | (refine br_dec (fun h => ?_) (fun h => ?_) <;> try (exfalso; omega)) | (refine br_ndec (fun h => ?_) (fun h => ?_) <;> try (exfalso; omega)) | refine br_seq (fun h => ?_) (fun h => ?_) | refine br_nseq (fun h => ?_) (fun h => ?_) | refine br_not (fun h => ?_) (fun h => ?_) | refine br_intro (fun h => ?_) (fun h => ?_) | (refine cond_intro ?_ ?_; (first | omega | (dsimp only; omega) | decide | (simp only [Nat.add_zero, Int.toNat_natCast, *]; omega))))
  all_goals (conv => whnf)
  all_goals first
    | (refine ret_out (l := [0, 1]) rfl ?_ trivial allRw_nil
       rw [fewB_no (k := k) (by omega) (by first | (left; omega) | (right; rename_i h; have h' : (200 : Int) < ((ct.getD k ⟨#[]⟩).size : Int) := h; omega))]; rfl)
    | (refine ⟨k + 1, [0, 1], [], ⟨by omega, by omega, ?_⟩, by omega, ⟨rfl, ⟨rfl, congrArg (fun z => some (SV.int .i64 z)) (i64_succ (by omega)), trivial⟩, ⟨rfl, trivial⟩⟩⟩
       intro i hi
       by_cases e : i = k
       · subst e; rename_i h; have h' : ¬ (200 : Int) < ((ct.getD i ⟨#[]⟩).size : Int) := h; omega
       · exact hall i (by omega))
    | (refine ret_out (l := [0, 1]) rfl ?_ trivial allRw_nil
       have e : k = n := by omega
       subst e
       rw [show fewB k ct = true from by unfold fewB; rw [decide_eq_true_eq]; exact ⟨hk2, hall⟩]; rfl)

/-- The reference's disk in memory: handles 5, 6, and p. -/
def rkP (p : Nat) (d : Dk) : Heap :=
  [(5, some (.one false (.cells [.sl 6 0 0 d.nn, .sl p 0 0 d.np, .bool d.down, .int .i64 d.steps, .int .u64 d.mask]))), (6, some (.one false (.cols d.nn [.sc (.strs d.kept)]))),
   (p, some (.one false (.cols d.np [.sc (.ints .i64 d.pn), .sc (.strs d.ps)])))]
def bothH (p q : Nat) (d : Dk) : Heap := dkH p d ++ rkP q d
theorem bothH_rw (p q : Nat) (d : Dk) : allRw (bothH p q d) := allRw_cons (allRw_cons (allRw_cons (allRw_cons (allRw_cons (allRw_cons (allRw_cons allRw_nil))))))

def playD (d : Dk) (c n : Int) (t : ByteArray) (m : Int) : Dk :=
  if c = 0 then (writeD d n t).1 else if c = 1 then d else if c = 2 then (flushD d).1 else if c = 3 then crashed m d else if c = 4 then (armD d n m).1 else (recoverD d).1

theorem law_play (d : Dk) (h0 : d.ok) (w : Whole d) (hm : 0 ≤ d.mask ∧ d.mask < 2 ^ 64) (c n : Int) (t : ByteArray) (m : Int) (hm2 : 0 ≤ m ∧ m < 2 ^ 64) :
    FC Try.prog 8 22 [.ptr 1 0 0 0, .ptr 5 0 0 0, .agg [.int .u8 c, .int .i64 n, .str t, .int .u64 m]] (bothH 4 7 d) (isOut (.bool true) (bothH 8 9 (playD d c n t m)) 10) := by
  by_cases c0 : c = 0
  · rw [show playD d c n t m = (writeD d n t).1 from by simp [playD, c0]]
    have k1 := disk_Write d h0 n t
    have k2 := ref_Write d h0 hm n t
    generalize writeD d n t = y at k1 k2
    obtain ⟨d', e⟩ := y
    refine fc_of mixed T_ok Try.func22 rfl (by kernel_rfl) (by kernel_rfl) (by kernel_rfl) ?_
    repeat' ((conv => whnf); first | (refine vcallD_out (l :=  [0, 1, 2, 3, 4]) (k1 ) ⟨rfl, rfl, rfl, rfl, (by (repeat' (first | exact trivial | constructor)); first | done | fail), (by (repeat' (first | exact trivial | constructor)); first | done | fail)⟩ ?_) | (refine vcallD_out (l :=  [0, 5, 6, 7]) (k2 ) ⟨rfl, rfl, rfl, rfl, (by (repeat' (first | exact trivial | constructor)); first | done | fail), (by (repeat' (first | exact trivial | constructor)); first | done | fail)⟩ ?_) | (refine br_dec (fun h => ?_) (fun h => ?_) <;> try (exfalso; omega)) | (refine br_ndec (fun h => ?_) (fun h => ?_) <;> try (exfalso; omega)) | refine br_seq (fun h => ?_) (fun h => ?_) | refine br_nseq (fun h => ?_) (fun h => ?_) | refine br_not (fun h => ?_) (fun h => ?_) | refine br_intro (fun h => ?_) (fun h => ?_) | (refine cond_intro ?_ ?_; (first | omega | (dsimp only; omega) | decide | (simp only [Nat.add_zero, Int.toNat_natCast, *]; omega))))
    all_goals (conv => whnf)
    exact ret_out (l := [0, 1, 2, 3, 4, 5, 6, 7, 9, 10]) rfl (congrArg SV.bool (decide_eq_true rfl)) ⟨rfl, rfl, rfl, rfl, rfl, rfl, rfl, trivial⟩ (bothH_rw _ _ _)
  by_cases c1 : c = 1
  · rw [show playD d c n t m = d from by simp [playD, c1]]
    have k1 := disk_Read d n
    have k2 := ref_Read d h0 w n
    generalize readD d n = y at k1 k2
    obtain ⟨s, e⟩ := y
    refine fc_of mixed T_ok Try.func22 rfl (by kernel_rfl) (by kernel_rfl) (by kernel_rfl) ?_
    repeat' ((conv => whnf); first | (refine vcall_out (l :=  [0, 1, 2, 3, 4]) (k1 ) ⟨rfl, rfl, rfl, rfl, (by (repeat' (first | exact trivial | constructor)); first | done | fail), (by (repeat' (first | exact trivial | constructor)); first | done | fail)⟩ ?_) | (refine vcall_out (l :=  [0, 5, 6, 7]) (k2 ) ⟨rfl, rfl, rfl, rfl, (by (repeat' (first | exact trivial | constructor)); first | done | fail), (by (repeat' (first | exact trivial | constructor)); first | done | fail)⟩ ?_) | (refine br_dec (fun h => ?_) (fun h => ?_) <;> try (exfalso; omega)) | (refine br_ndec (fun h => ?_) (fun h => ?_) <;> try (exfalso; omega)) | refine br_seq (fun h => ?_) (fun h => ?_) | refine br_nseq (fun h => ?_) (fun h => ?_) | refine br_not (fun h => ?_) (fun h => ?_) | refine br_intro (fun h => ?_) (fun h => ?_) | (refine cond_intro ?_ ?_; (first | omega | (dsimp only; omega) | decide | (simp only [Nat.add_zero, Int.toNat_natCast, *]; omega))))
    all_goals (conv => whnf)
    all_goals first | (exfalso; exact h rfl) | exact ret_out (l := [0, 1, 2, 3, 4, 5, 6, 7, 4, 7]) rfl (congrArg SV.bool (decide_eq_true rfl)) ⟨rfl, rfl, rfl, rfl, rfl, rfl, rfl, trivial⟩ (bothH_rw _ _ _)
  by_cases c2 : c = 2
  · rw [show playD d c n t m = (flushD d).1 from by simp [playD, c2]]
    have k1 := disk_Flush d h0
    have k2 := ref_Flush d h0 hm
    generalize flushD d = y at k1 k2
    obtain ⟨d', e⟩ := y
    refine fc_of mixed T_ok Try.func22 rfl (by kernel_rfl) (by kernel_rfl) (by kernel_rfl) ?_
    repeat' ((conv => whnf); first | (refine vcall_out (l :=  [0, 1, 2, 3, 4]) (k1 ) ⟨rfl, rfl, rfl, rfl, (by (repeat' (first | exact trivial | constructor)); first | done | fail), (by (repeat' (first | exact trivial | constructor)); first | done | fail)⟩ ?_) | (refine vcall_out (l :=  [0, 5, 6, 7]) (k2 ) ⟨rfl, rfl, rfl, rfl, (by (repeat' (first | exact trivial | constructor)); first | done | fail), (by (repeat' (first | exact trivial | constructor)); first | done | fail)⟩ ?_) | (refine br_dec (fun h => ?_) (fun h => ?_) <;> try (exfalso; omega)) | (refine br_ndec (fun h => ?_) (fun h => ?_) <;> try (exfalso; omega)) | refine br_seq (fun h => ?_) (fun h => ?_) | refine br_nseq (fun h => ?_) (fun h => ?_) | refine br_not (fun h => ?_) (fun h => ?_) | refine br_intro (fun h => ?_) (fun h => ?_) | (refine cond_intro ?_ ?_; (first | omega | (dsimp only; omega) | decide | (simp only [Nat.add_zero, Int.toNat_natCast, *]; omega))))
    all_goals (conv => whnf)
    exact ret_out (l := [0, 1, 2, 3, 4, 5, 6, 7, 9, 10]) rfl (congrArg SV.bool (decide_eq_true rfl)) ⟨rfl, rfl, rfl, rfl, rfl, rfl, rfl, trivial⟩ (bothH_rw _ _ _)
  by_cases c3 : c = 3
  · rw [show playD d c n t m = crashed m d from by simp [playD, c3]]
    have k1 := disk_Crash d h0 m
    have k2 := ref_CrashZ d h0 m hm2
    generalize crashed m d = d' at k1 k2
    generalize runE d = e at k1 k2
    refine fc_of mixed T_ok Try.func22 rfl (by kernel_rfl) (by kernel_rfl) (by kernel_rfl) ?_
    repeat' ((conv => whnf); first | (refine vcallD_out (l :=  [0, 1, 2, 3, 4]) (k1 ) ⟨rfl, rfl, rfl, rfl, (by (repeat' (first | exact trivial | constructor)); first | done | fail), (by (repeat' (first | exact trivial | constructor)); first | done | fail)⟩ ?_) | (refine vcallD_out (l :=  [0, 5, 6, 7]) (k2 ) ⟨rfl, rfl, rfl, rfl, (by (repeat' (first | exact trivial | constructor)); first | done | fail), (by (repeat' (first | exact trivial | constructor)); first | done | fail)⟩ ?_) | (refine br_dec (fun h => ?_) (fun h => ?_) <;> try (exfalso; omega)) | (refine br_ndec (fun h => ?_) (fun h => ?_) <;> try (exfalso; omega)) | refine br_seq (fun h => ?_) (fun h => ?_) | refine br_nseq (fun h => ?_) (fun h => ?_) | refine br_not (fun h => ?_) (fun h => ?_) | refine br_intro (fun h => ?_) (fun h => ?_) | (refine cond_intro ?_ ?_; (first | omega | (dsimp only; omega) | decide | (simp only [Nat.add_zero, Int.toNat_natCast, *]; omega))))
    all_goals (conv => whnf)
    exact ret_out (l := [0, 1, 2, 3, 4, 5, 6, 7, 9, 10]) rfl (congrArg SV.bool (decide_eq_true rfl)) ⟨rfl, rfl, rfl, rfl, rfl, rfl, rfl, trivial⟩ (bothH_rw _ _ _)
  by_cases c4 : c = 4
  · rw [show playD d c n t m = (armD d n m).1 from by simp [playD, c4]]
    have k1 := disk_Arm d n m
    have k2 := ref_Arm d n m
    have q1 : (armD d n m).1.kept = d.kept ∧ (armD d n m).1.now = d.now ∧ (armD d n m).1.nn = d.nn ∧ (armD d n m).1.pn = d.pn ∧ (armD d n m).1.ps = d.ps ∧ (armD d n m).1.np = d.np := by
      unfold armD; split
      · exact ⟨rfl, rfl, rfl, rfl, rfl, rfl⟩
      · split <;> exact ⟨rfl, rfl, rfl, rfl, rfl, rfl⟩
    generalize armD d n m = y at k1 k2 q1
    obtain ⟨⟨a1, a2, a3, a4, a5, a6, a7, a8, a9⟩, e⟩ := y
    obtain ⟨rfl, rfl, rfl, rfl, rfl, rfl⟩ := q1
    refine fc_of mixed T_ok Try.func22 rfl (by kernel_rfl) (by kernel_rfl) (by kernel_rfl) ?_
    repeat' ((conv => whnf); first | (refine vcallD_out (l :=  [0, 1, 2, 3, 4]) (k1 ) ⟨rfl, rfl, rfl, rfl, (by (repeat' (first | exact trivial | constructor)); first | done | fail), (by (repeat' (first | exact trivial | constructor)); first | done | fail)⟩ ?_) | (refine vcallD_out (l :=  [0, 5, 6, 7]) (k2 ) ⟨rfl, rfl, rfl, rfl, (by (repeat' (first | exact trivial | constructor)); first | done | fail), (by (repeat' (first | exact trivial | constructor)); first | done | fail)⟩ ?_) | (refine br_dec (fun h => ?_) (fun h => ?_) <;> try (exfalso; omega)) | (refine br_ndec (fun h => ?_) (fun h => ?_) <;> try (exfalso; omega)) | refine br_seq (fun h => ?_) (fun h => ?_) | refine br_nseq (fun h => ?_) (fun h => ?_) | refine br_not (fun h => ?_) (fun h => ?_) | refine br_intro (fun h => ?_) (fun h => ?_) | (refine cond_intro ?_ ?_; (first | omega | (dsimp only; omega) | decide | (simp only [Nat.add_zero, Int.toNat_natCast, *]; omega))))
    all_goals (conv => whnf)
    exact ret_out (l := [0, 1, 2, 3, 4, 5, 6, 7, 4, 7]) rfl (congrArg SV.bool (decide_eq_true rfl)) ⟨rfl, rfl, rfl, rfl, rfl, rfl, rfl, trivial⟩ (bothH_rw _ _ _)
  · rw [show playD d c n t m = (recoverD d).1 from by simp [playD, c0, c1, c2, c3, c4]]
    have k1 := disk_Recover d
    have k2 := ref_Recover d
    have q1 : (recoverD d).1.kept = d.kept ∧ (recoverD d).1.now = d.now ∧ (recoverD d).1.nn = d.nn ∧ (recoverD d).1.pn = d.pn ∧ (recoverD d).1.ps = d.ps ∧ (recoverD d).1.np = d.np := by
      unfold recoverD; split <;> exact ⟨rfl, rfl, rfl, rfl, rfl, rfl⟩
    generalize recoverD d = y at k1 k2 q1
    obtain ⟨⟨a1, a2, a3, a4, a5, a6, a7, a8, a9⟩, e⟩ := y
    obtain ⟨rfl, rfl, rfl, rfl, rfl, rfl⟩ := q1
    refine fc_of mixed T_ok Try.func22 rfl (by kernel_rfl) (by kernel_rfl) (by kernel_rfl) ?_
    repeat' ((conv => whnf); first | (refine vcall_out (l :=  [0, 1, 2, 3, 4]) (k1 ) ⟨rfl, rfl, rfl, rfl, (by (repeat' (first | exact trivial | constructor)); first | done | fail), (by (repeat' (first | exact trivial | constructor)); first | done | fail)⟩ ?_) | (refine vcall_out (l :=  [0, 5, 6, 7]) (k2 ) ⟨rfl, rfl, rfl, rfl, (by (repeat' (first | exact trivial | constructor)); first | done | fail), (by (repeat' (first | exact trivial | constructor)); first | done | fail)⟩ ?_) | (refine br_dec (fun h => ?_) (fun h => ?_) <;> try (exfalso; omega)) | (refine br_ndec (fun h => ?_) (fun h => ?_) <;> try (exfalso; omega)) | refine br_seq (fun h => ?_) (fun h => ?_) | refine br_nseq (fun h => ?_) (fun h => ?_) | refine br_not (fun h => ?_) (fun h => ?_) | refine br_intro (fun h => ?_) (fun h => ?_) | (refine cond_intro ?_ ?_; (first | omega | (dsimp only; omega) | decide | (simp only [Nat.add_zero, Int.toNat_natCast, *]; omega))))
    all_goals (conv => whnf)
    exact ret_out (l := [0, 1, 2, 3, 4, 5, 6, 7, 4, 7]) rfl (congrArg SV.bool (decide_eq_true rfl)) ⟨rfl, rfl, rfl, rfl, rfl, rfl, rfl, trivial⟩ (bothH_rw _ _ _)

theorem law_play_nil (c n : Int) (t : ByteArray) (m : Int) : Pure Try.prog 22 [.nptr, .nptr, .agg [.int .u8 c, .int .i64 n, .str t, .int .u64 m]] (.bool true) := by
  have k1 := nil_Write n t
  have k2 := rnil_Write n t
  have k3 := nil_Read n
  have k4 := rnil_Read n
  have k5 := nil_Crash m
  have k6 := rnil_Crash m
  have k7 := nil_Arm n m
  have k8 := rnil_Arm n m
  refine fc_of mixed T_ok Try.func22 rfl (by kernel_rfl) (by kernel_rfl) (by kernel_rfl) ?_
  repeat' ((conv => whnf); first | (refine vcallD_pure (k1) rfl rfl rfl ?_) | (refine vcallD_pure (k2) rfl rfl rfl ?_) | (refine vcall_pure (k3) rfl rfl rfl ?_) | (refine vcall_pure (k4) rfl rfl rfl ?_) | (refine vcall_pure (nil_Flush) rfl rfl rfl ?_) | (refine vcall_pure (rnil_Flush) rfl rfl rfl ?_) | (refine vcallD_pure (k5) rfl rfl rfl ?_) | (refine vcallD_pure (k6) rfl rfl rfl ?_) | (refine vcallD_pure (k7) rfl rfl rfl ?_) | (refine vcallD_pure (k8) rfl rfl rfl ?_) | (refine vcall_pure (nil_Recover) rfl rfl rfl ?_) | (refine vcall_pure (rnil_Recover) rfl rfl rfl ?_) | (refine br_dec (fun h => ?_) (fun h => ?_) <;> try (exfalso; omega)) | (refine br_ndec (fun h => ?_) (fun h => ?_) <;> try (exfalso; omega)) | refine br_seq (fun h => ?_) (fun h => ?_) | refine br_nseq (fun h => ?_) (fun h => ?_) | refine br_not (fun h => ?_) (fun h => ?_) | refine br_intro (fun h => ?_) (fun h => ?_) | (refine cond_intro ?_ ?_; (first | omega | (dsimp only; omega) | decide | (simp only [Nat.add_zero, Int.toNat_natCast, *]; omega))))
  all_goals (conv => whnf)
  all_goals exact ret_pure rfl
end Go.Proofs.Ytmbbmdccpmmifaa
