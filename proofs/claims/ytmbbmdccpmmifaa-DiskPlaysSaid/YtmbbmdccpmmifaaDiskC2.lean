/- Contracts of package disk: its methods. -/
import Derived.Test.YtmbbmdccpmmifaaDiskC
namespace Go.Proofs.Ytmbbmdccpmmifaa
open Go.RowKit Go.Sy
attribute [local irreducible] vcall vloop vcallD retP
set_option maxRecDepth 100000
set_option linter.unusedVariables false

/-- A disk: flushed blocks, blocks, their number; pending writes, their number. -/
structure Dk where
  kept : List ByteArray
  now : List ByteArray
  nn : Nat
  pn : List Int
  ps : List ByteArray
  np : Nat
  down : Bool
  steps : Int
  mask : Int

/-- What every disk is like. -/
structure Dk.ok (d : Dk) : Prop where
  kl : d.kept.length = d.nn
  nl : d.now.length = d.nn
  pl : d.pn.length = d.np
  sl : d.ps.length = d.np
  pb : ∀ x ∈ d.pn, 0 ≤ x ∧ x < (d.nn : Int)
  pm : d.np ≤ 4096
  nm : d.nn ≤ 4096
  sb : 0 ≤ d.steps ∧ d.steps ≤ 1000000

def dkC (p : Nat) (d : Dk) : List SV := [.sl 2 0 0 d.nn, .sl 3 0 0 d.nn, .sl p 0 0 d.np, .bool d.down, .int .i64 d.steps, .int .u64 d.mask]

/-- A disk in memory: handles 1, 2, 3, and p for the pending writes. -/
def dkH (p : Nat) (d : Dk) : Heap :=
  [(1, some (.one false (.cells (dkC p d)))), (2, some (.one false (.cols d.nn [.sc (.strs d.kept)]))), (3, some (.one false (.cols d.nn [.sc (.strs d.now)]))),
   (p, some (.one false (.cols d.np [.sc (.ints .i64 d.pn), .sc (.strs d.ps)])))]

theorem dkH_rw (p : Nat) (d : Dk) : allRw (dkH p d) := allRw_cons (allRw_cons (allRw_cons (allRw_cons allRw_nil)))

def runE (d : Dk) : Int := if d.down = true then 13 else 0

theorem disk_running (d : Dk) : FC Try.prog 5 27 [.ptr 1 0 0 0] [(1, some (.one true (.cells (dkC 4 d))))] (isOut (.int .i64 (runE d)) [] 5) := by
  refine fc_of mixed T_ok Try.func27 rfl (by kernel_rfl) (by kernel_rfl) (by kernel_rfl) ?_
  repeat' ((conv => whnf); first | (refine br_dec (fun h => ?_) (fun h => ?_) <;> try (exfalso; omega)) | (refine br_ndec (fun h => ?_) (fun h => ?_) <;> try (exfalso; omega)) | refine br_seq (fun h => ?_) (fun h => ?_) | refine br_nseq (fun h => ?_) (fun h => ?_) | refine br_not (fun h => ?_) (fun h => ?_) | refine br_intro (fun h => ?_) (fun h => ?_) | (refine cond_intro ?_ ?_; (first | omega | (dsimp only; omega) | decide | (simp only [Nat.add_zero, Int.toNat_natCast, *]; omega))))
  all_goals (conv => whnf)
  all_goals exact ret_out (l := [0, 1, 2, 3, 4]) rfl (by simp [oneOr, cv, SV.ren, runE, *]) trivial allRw_nil

def countZ (n : Int) : Int := if 0 < n then n - 1 else n
def countD (d : Dk) : Dk := { d with steps := countZ d.steps }
theorem disk_count (d : Dk) (hs : 0 ≤ d.steps ∧ d.steps ≤ 1000000) : FC Try.prog 5 29 [.ptr 1 0 0 0] [(1, some (.one false (.cells (dkC 4 d))))]
    (isOut (.tup []) [(1, some (.one false (.cells (dkC 4 (countD d)))))] 5) := by
  refine fc_of mixed T_ok Try.func29 rfl (by kernel_rfl) (by kernel_rfl) (by kernel_rfl) ?_
  repeat' ((conv => whnf); first | (refine br_dec (fun h => ?_) (fun h => ?_) <;> try (exfalso; omega)) | (refine br_ndec (fun h => ?_) (fun h => ?_) <;> try (exfalso; omega)) | refine br_seq (fun h => ?_) (fun h => ?_) | refine br_nseq (fun h => ?_) (fun h => ?_) | refine br_not (fun h => ?_) (fun h => ?_) | refine br_intro (fun h => ?_) (fun h => ?_) | (refine cond_intro ?_ ?_; (first | omega | (dsimp only; omega) | decide | (simp only [Nat.add_zero, Int.toNat_natCast, *]; omega))))
  all_goals (conv => whnf)
  · refine ret_out (l := [0, 1, 2, 3, 4]) rfl rfl ⟨?_, trivial⟩ (allRw_cons allRw_nil)
    have e : countZ d.steps = IntKind.i64.wrap (d.steps - 1) := by rw [w64_in (by omega) (by omega)]; unfold countZ; rw [if_pos (by assumption)]
    unfold countD; rw [e]; rfl
  · refine ret_out (l := [0, 1, 2, 3, 4]) rfl rfl ⟨?_, trivial⟩ (allRw_cons allRw_nil)
    have e : countZ d.steps = d.steps := by unfold countZ; rw [if_neg (by assumption)]
    unfold countD; rw [e]; rfl

/-- The first n pending writes are kept whose bits are set. -/
def crashTo (bits : Nat → Bool) (pn : List Int) (ps : List ByteArray) : Nat → List ByteArray → List ByteArray
  | 0, l => l
  | k + 1, l => bif bits k then (crashTo bits pn ps k l).set (pn.getD k 0).toNat (ps.getD k ⟨#[]⟩) else crashTo bits pn ps k l
theorem crashTo_length (bits : Nat → Bool) (pn : List Int) (ps l : List ByteArray) : ∀ k, (crashTo bits pn ps k l).length = l.length
  | 0 => rfl
  | k + 1 => by
    simp only [crashTo]
    cases bits k <;> simp [crashTo_length bits pn ps l k]

def crashB (m : Int) (k : Nat) : Bool := (bpre (bitM m) 64 64).getD (k % 64) false
def crashL (m : Int) (d : Dk) : List ByteArray := crashTo (crashB m) d.pn d.ps d.np d.kept
def crashD (m : Int) (d : Dk) : Dk := ⟨crashL m d, crashL m d, d.nn, [], [], 0, true, 0, 0⟩

theorem getD_mem {α : Type} (l : List α) (i : Nat) (d : α) (h : i < l.length) : l.getD i d ∈ l := by
  rw [List.getD, List.getElem?_eq_getElem h]; exact List.getElem_mem h

theorem splice_all {α : Type} (n : Nat) (l s : List α) (h1 : l.length = n) (h2 : s.length = n) : splice 0 (min n n) l (seg 0 n s) = s := by
  simp [splice, seg, ← h2, h1]

theorem disk_crash (d : Dk) (h0 : d.ok) (m : Int) : FC Try.prog 5 28 [.ptr 1 0 0 0, .int .u64 m] (dkH 4 d) (isOut (.tup []) (dkH 5 (crashD m d)) 6) := by
  have hpm := h0.pm
  have hpl := h0.pl
  refine fc_of mixed T_ok Try.func28 rfl (by kernel_rfl) (by kernel_rfl) (by kernel_rfl) ?_
  repeat' ((conv => whnf); first | (refine vcall_pure (disk_bitsOf _) rfl rfl rfl ?_) | (refine br_dec (fun h => ?_) (fun h => ?_) <;> try (exfalso; omega)) | (refine br_ndec (fun h => ?_) (fun h => ?_) <;> try (exfalso; omega)) | refine br_seq (fun h => ?_) (fun h => ?_) | refine br_nseq (fun h => ?_) (fun h => ?_) | refine br_not (fun h => ?_) (fun h => ?_) | refine br_intro (fun h => ?_) (fun h => ?_) | (refine cond_intro ?_ ?_; (first | omega | (dsimp only; omega) | decide | (simp only [Nat.add_zero, Int.toNat_natCast, *]; omega))))
  (conv => whnf)
  refine vloop_of (fun k : Nat => ⟨[(0, .ptr 1 0 0 0), (4, .ptr 5 0 0 0), (12, .sl 4 0 0 d.np), (13, .int .i64 d.np), (14, .int .i64 k)],
    [(1, some (.one false (.cells (dkC 4 d)))), (2, some (.one false (.cols d.nn [.sc (.strs (crashTo (crashB m) d.pn d.ps k d.kept))]))),
     (3, some (.one false (.cols d.nn [.sc (.strs d.now)]))),
     (4, some (.one false (.cols d.np [.sc (.ints .i64 d.pn), .sc (.strs d.ps)]))), (5, some (.one false (.cols 64 [.sc (.bools (bpre (bitM m) 64 64))])))], 6⟩) (fun k => k ≤ d.np) (fun k => d.np - k) 0 [0, 1, 2, 3, 4, 5] [] ⟨rfl, ⟨rfl, rfl, rfl, rfl, rfl, trivial⟩, ⟨rfl, rfl, rfl, rfl, rfl, trivial⟩⟩ (by omega) ?_
  intro k hk
  by_cases hlt : k < d.np
  · have hm : (k : Int).tmod 64 = ((k % 64 : Nat) : Int) := by rw [Int.tmod_eq_emod_of_nonneg (by omega)]; omega
    have hb := h0.pb _ (getD_mem d.pn k 0 (by omega))
    have hc : crashB m k = (bpre (bitM m) 64 64).getD ((k : Int).tmod 64).toNat false := by unfold crashB; rw [hm]; rfl
    repeat' ((conv => whnf); first | (refine cond_intro hb ?_) | (refine cond_intro (by rw [hm]; dsimp only; omega) ?_) | (refine br_dec (fun h => ?_) (fun h => ?_) <;> try (exfalso; omega)) | (refine br_ndec (fun h => ?_) (fun h => ?_) <;> try (exfalso; omega)) | refine br_seq (fun h => ?_) (fun h => ?_) | refine br_nseq (fun h => ?_) (fun h => ?_) | refine br_not (fun h => ?_) (fun h => ?_) | refine br_intro (fun h => ?_) (fun h => ?_) | (refine cond_intro ?_ ?_; (first | omega | (dsimp only; omega) | decide | (simp only [Nat.add_zero, Int.toNat_natCast, *]; omega))))
    all_goals (conv => whnf)
    all_goals rw [h] at hc
    all_goals refine ⟨k + 1, [0, 1, 2, 3, 4, 5], [], by omega, by omega, ⟨rfl, ⟨rfl, rfl, rfl, rfl, congrArg (fun z => some (SV.int .i64 z)) (i64_succ (by omega)), trivial⟩, ⟨rfl, ?_, rfl, rfl, rfl, trivial⟩⟩⟩
    all_goals refine congrArg (fun z => some (HB.one false (.cols d.nn [.sc (.strs z)]))) ?_
    all_goals (simp only [crashTo, hc]; rfl)
  · have e : k = d.np := by omega
    subst e
    repeat' ((conv => whnf); first | (refine br_dec (fun h => ?_) (fun h => ?_) <;> try (exfalso; omega)) | (refine br_ndec (fun h => ?_) (fun h => ?_) <;> try (exfalso; omega)) | refine br_seq (fun h => ?_) (fun h => ?_) | refine br_nseq (fun h => ?_) (fun h => ?_) | refine br_not (fun h => ?_) (fun h => ?_) | refine br_intro (fun h => ?_) (fun h => ?_) | (refine cond_intro ?_ ?_; (first | omega | (dsimp only; omega) | decide | (simp only [Nat.add_zero, Int.toNat_natCast, *]; omega))))
    all_goals (conv => whnf)
    refine ret_up (l := [0, 1, 2, 3, 4, 6]) [.cell 1 2 [.sc (.ints .i64 []), .sc (.strs [])]] ⟨rfl, rfl, rfl, rfl, ?_, rfl, trivial⟩ (dkH_rw _ _)
    refine congrArg (fun z => some (HB.one false (.cols d.nn [.sc (.strs z)]))) ?_
    exact splice_all _ _ _ h0.nl (by rw [crashTo_length]; exact h0.kl)

def crashed (m : Int) (d : Dk) : Dk := if d.down = true then d else crashD m d

/-- A method that begins by asking whether the disk runs. -/
theorem run_cases (d : Dk) : (runE d = 13 ∧ d.down = true) ∨ (runE d = 0 ∧ d.down = false) := by
  unfold runE
  cases d.down <;> simp

theorem disk_Crash (d : Dk) (h0 : d.ok) (m : Int) : FC Try.prog 5 12 [.ptr 1 0 0 0, .int .u64 m] (dkH 4 d) (isOut (.int .i64 (runE d)) (dkH 5 (crashed m d)) 6) := by
  have hrun := disk_running d
  rcases run_cases d with ⟨hr, hd⟩ | ⟨hr, hd⟩
  · rw [show crashed m d = d from by simp [crashed, hd]]
    rw [hr] at hrun ⊢
    refine fc_of mixed T_ok Try.func12 rfl (by kernel_rfl) (by kernel_rfl) (by kernel_rfl) ?_
    repeat' ((conv => whnf); first | (refine vcall_out (l :=  [0, 1, 2, 3, 4]) (hrun ) ⟨rfl, rfl, rfl, rfl, (by repeat' (first | exact trivial | constructor)), (by repeat' (first | exact trivial | constructor))⟩ ?_) | (refine br_dec (fun h => ?_) (fun h => ?_) <;> try (exfalso; omega)) | (refine br_ndec (fun h => ?_) (fun h => ?_) <;> try (exfalso; omega)) | refine br_seq (fun h => ?_) (fun h => ?_) | refine br_nseq (fun h => ?_) (fun h => ?_) | refine br_not (fun h => ?_) (fun h => ?_) | refine br_intro (fun h => ?_) (fun h => ?_) | (refine cond_intro ?_ ?_; (first | omega | (dsimp only; omega) | decide | (simp only [Nat.add_zero, Int.toNat_natCast, *]; omega))))
    all_goals (conv => whnf)
    exact ret_out (l := [0, 1, 2, 3, 4, 4]) rfl rfl ⟨rfl, rfl, rfl, rfl, trivial⟩ (dkH_rw _ _)
  · rw [show crashed m d = crashD m d from by simp [crashed, hd]]
    rw [hr] at hrun ⊢
    refine fc_of mixed T_ok Try.func12 rfl (by kernel_rfl) (by kernel_rfl) (by kernel_rfl) ?_
    repeat' ((conv => whnf); first | (refine vcall_out (l :=  [0, 1, 2, 3, 4]) (hrun ) ⟨rfl, rfl, rfl, rfl, (by repeat' (first | exact trivial | constructor)), (by repeat' (first | exact trivial | constructor))⟩ ?_) | (refine vcall_out (l :=  [0, 1, 2, 3, 4]) (disk_crash d h0 m ) ⟨rfl, rfl, rfl, rfl, (by repeat' (first | exact trivial | constructor)), (by repeat' (first | exact trivial | constructor))⟩ ?_) | (refine br_dec (fun h => ?_) (fun h => ?_) <;> try (exfalso; omega)) | (refine br_ndec (fun h => ?_) (fun h => ?_) <;> try (exfalso; omega)) | refine br_seq (fun h => ?_) (fun h => ?_) | refine br_nseq (fun h => ?_) (fun h => ?_) | refine br_not (fun h => ?_) (fun h => ?_) | refine br_intro (fun h => ?_) (fun h => ?_) | (refine cond_intro ?_ ?_; (first | omega | (dsimp only; omega) | decide | (simp only [Nat.add_zero, Int.toNat_natCast, *]; omega))))
    all_goals (conv => whnf)
    exact ret_out (l := [0, 1, 2, 3, 4, 5]) rfl rfl ⟨rfl, rfl, rfl, rfl, trivial⟩ (dkH_rw _ _)

def armD (d : Dk) (n m : Int) : Dk × Int := if d.down = true then (d, 13) else if n < 0 ∨ 1000000 < n then (d, 4) else ({ d with steps := n, mask := m }, 0)
theorem disk_Arm (d : Dk) (n m : Int) : FC Try.prog 5 18 [.ptr 1 0 0 0, .int .i64 n, .int .u64 m] [(1, some (.one false (.cells (dkC 4 d))))] (isOut (.int .i64 (armD d n m).2) [(1, some (.one false (.cells (dkC 4 (armD d n m).1))))] 5) := by
  have hrun := disk_running d
  rcases run_cases d with ⟨hr, hd⟩ | ⟨hr, hd⟩
  · rw [show armD d n m = (d, 13) from by simp [armD, hd]]
    rw [hr] at hrun
    refine fc_of mixed T_ok Try.func18 rfl (by kernel_rfl) (by kernel_rfl) (by kernel_rfl) ?_
    repeat' ((conv => whnf); first | (refine vcall_out (l :=  [0, 1, 2, 3, 4]) (hrun ) ⟨rfl, rfl, rfl, rfl, (by repeat' (first | exact trivial | constructor)), (by repeat' (first | exact trivial | constructor))⟩ ?_) | (refine br_dec (fun h => ?_) (fun h => ?_) <;> try (exfalso; omega)) | (refine br_ndec (fun h => ?_) (fun h => ?_) <;> try (exfalso; omega)) | refine br_seq (fun h => ?_) (fun h => ?_) | refine br_nseq (fun h => ?_) (fun h => ?_) | refine br_not (fun h => ?_) (fun h => ?_) | refine br_intro (fun h => ?_) (fun h => ?_) | (refine cond_intro ?_ ?_; (first | omega | (dsimp only; omega) | decide | (simp only [Nat.add_zero, Int.toNat_natCast, *]; omega))))
    all_goals (conv => whnf)
    exact ret_out (l := [0, 1, 2, 3, 4]) rfl rfl ⟨rfl, trivial⟩ (allRw_cons allRw_nil)
  · rw [hr] at hrun
    by_cases hn : n < 0 ∨ 1000000 < n
    · rw [show armD d n m = (d, 4) from by simp [armD, hd, hn]]
      refine fc_of mixed T_ok Try.func18 rfl (by kernel_rfl) (by kernel_rfl) (by kernel_rfl) ?_
      repeat' ((conv => whnf); first | (refine vcall_out (l :=  [0, 1, 2, 3, 4]) (hrun ) ⟨rfl, rfl, rfl, rfl, (by repeat' (first | exact trivial | constructor)), (by repeat' (first | exact trivial | constructor))⟩ ?_) | (refine br_dec (fun h => ?_) (fun h => ?_) <;> try (exfalso; omega)) | (refine br_ndec (fun h => ?_) (fun h => ?_) <;> try (exfalso; omega)) | refine br_seq (fun h => ?_) (fun h => ?_) | refine br_nseq (fun h => ?_) (fun h => ?_) | refine br_not (fun h => ?_) (fun h => ?_) | refine br_intro (fun h => ?_) (fun h => ?_) | (refine cond_intro ?_ ?_; (first | omega | (dsimp only; omega) | decide | (simp only [Nat.add_zero, Int.toNat_natCast, *]; omega))))
      all_goals (conv => whnf)
      all_goals exact ret_out (l := [0, 1, 2, 3, 4]) rfl rfl ⟨rfl, trivial⟩ (allRw_cons allRw_nil)
    · rw [show armD d n m = ({ d with steps := n, mask := m }, 0) from by simp [armD, hd, hn]]
      refine fc_of mixed T_ok Try.func18 rfl (by kernel_rfl) (by kernel_rfl) (by kernel_rfl) ?_
      repeat' ((conv => whnf); first | (refine vcall_out (l :=  [0, 1, 2, 3, 4]) (hrun ) ⟨rfl, rfl, rfl, rfl, (by repeat' (first | exact trivial | constructor)), (by repeat' (first | exact trivial | constructor))⟩ ?_) | (refine br_dec (fun h => ?_) (fun h => ?_) <;> try (exfalso; omega)) | (refine br_ndec (fun h => ?_) (fun h => ?_) <;> try (exfalso; omega)) | refine br_seq (fun h => ?_) (fun h => ?_) | refine br_nseq (fun h => ?_) (fun h => ?_) | refine br_not (fun h => ?_) (fun h => ?_) | refine br_intro (fun h => ?_) (fun h => ?_) | (refine cond_intro ?_ ?_; (first | omega | (dsimp only; omega) | decide | (simp only [Nat.add_zero, Int.toNat_natCast, *]; omega))))
      all_goals (conv => whnf)
      all_goals exact ret_out (l := [0, 1, 2, 3, 4]) rfl rfl ⟨rfl, trivial⟩ (allRw_cons allRw_nil)

def recoverD (d : Dk) : Dk × Int := if d.down = true then ({ d with down := false }, 0) else (d, 8)
theorem disk_Recover (d : Dk) : FC Try.prog 5 13 [.ptr 1 0 0 0] [(1, some (.one false (.cells (dkC 4 d))))] (isOut (.int .i64 (recoverD d).2) [(1, some (.one false (.cells (dkC 4 (recoverD d).1))))] 5) := by
  rcases run_cases d with ⟨_, hd⟩ | ⟨_, hd⟩
  · rw [show recoverD d = ({ d with down := false }, 0) from by simp [recoverD, hd]]
    refine fc_of mixed T_ok Try.func13 rfl (by kernel_rfl) (by kernel_rfl) (by kernel_rfl) ?_
    repeat' ((conv => whnf); first | (refine br_dec (fun h => ?_) (fun h => ?_) <;> try (exfalso; omega)) | (refine br_ndec (fun h => ?_) (fun h => ?_) <;> try (exfalso; omega)) | refine br_seq (fun h => ?_) (fun h => ?_) | refine br_nseq (fun h => ?_) (fun h => ?_) | refine br_not (fun h => ?_) (fun h => ?_) | refine br_intro (fun h => ?_) (fun h => ?_) | (refine cond_intro ?_ ?_; (first | omega | (dsimp only; omega) | decide | (simp only [Nat.add_zero, Int.toNat_natCast, *]; omega))))
    all_goals first | (exfalso; simp_all; done) | ((conv => whnf); exact ret_out (l := [0, 1, 2, 3, 4]) rfl rfl ⟨rfl, trivial⟩ (allRw_cons allRw_nil))
  · rw [show recoverD d = (d, 8) from by simp [recoverD, hd]]
    refine fc_of mixed T_ok Try.func13 rfl (by kernel_rfl) (by kernel_rfl) (by kernel_rfl) ?_
    repeat' ((conv => whnf); first | (refine br_dec (fun h => ?_) (fun h => ?_) <;> try (exfalso; omega)) | (refine br_ndec (fun h => ?_) (fun h => ?_) <;> try (exfalso; omega)) | refine br_seq (fun h => ?_) (fun h => ?_) | refine br_nseq (fun h => ?_) (fun h => ?_) | refine br_not (fun h => ?_) (fun h => ?_) | refine br_intro (fun h => ?_) (fun h => ?_) | (refine cond_intro ?_ ?_; (first | omega | (dsimp only; omega) | decide | (simp only [Nat.add_zero, Int.toNat_natCast, *]; omega))))
    all_goals first | (exfalso; simp_all; done) | ((conv => whnf); exact ret_out (l := [0, 1, 2, 3, 4]) rfl rfl ⟨rfl, trivial⟩ (allRw_cons allRw_nil))

def readD (d : Dk) (n : Int) : ByteArray × Int := if d.down = true then (⟨#[]⟩, 13) else if n < 0 ∨ d.nn ≤ n then (⟨#[]⟩, 4) else (d.now.getD n.toNat ⟨#[]⟩, 0)
theorem disk_Read (d : Dk) (n : Int) : FC Try.prog 5 17 [.ptr 1 0 0 0, .int .i64 n] [(1, some (.one true (.cells (dkC 4 d)))), (3, some (.one true (.cols d.nn [.sc (.strs d.now)])))] (isOut (.tup [.str (readD d n).1, .int .i64 (readD d n).2]) [] 5) := by
  have hrun := disk_running d
  rcases run_cases d with ⟨hr, hd⟩ | ⟨hr, hd⟩
  · rw [show readD d n = (⟨#[]⟩, 13) from by simp [readD, hd]]
    rw [hr] at hrun
    refine fc_of mixed T_ok Try.func17 rfl (by kernel_rfl) (by kernel_rfl) (by kernel_rfl) ?_
    repeat' ((conv => whnf); first | (refine vcall_out (l :=  [0, 1, 2, 3, 4]) (hrun ) ⟨rfl, rfl, rfl, rfl, (by repeat' (first | exact trivial | constructor)), (by repeat' (first | exact trivial | constructor))⟩ ?_) | (refine br_dec (fun h => ?_) (fun h => ?_) <;> try (exfalso; omega)) | (refine br_ndec (fun h => ?_) (fun h => ?_) <;> try (exfalso; omega)) | refine br_seq (fun h => ?_) (fun h => ?_) | refine br_nseq (fun h => ?_) (fun h => ?_) | refine br_not (fun h => ?_) (fun h => ?_) | refine br_intro (fun h => ?_) (fun h => ?_) | (refine cond_intro ?_ ?_; (first | omega | (dsimp only; omega) | decide | (simp only [Nat.add_zero, Int.toNat_natCast, *]; omega))))
    all_goals (conv => whnf)
    exact ret_out (l := [0, 1, 2, 3, 4]) rfl rfl trivial allRw_nil
  · rw [hr] at hrun
    by_cases hn : n < 0 ∨ d.nn ≤ n
    · rw [show readD d n = (⟨#[]⟩, 4) from by simp [readD, hd, hn]]
      refine fc_of mixed T_ok Try.func17 rfl (by kernel_rfl) (by kernel_rfl) (by kernel_rfl) ?_
      repeat' ((conv => whnf); first | (refine vcall_out (l :=  [0, 1, 2, 3, 4]) (hrun ) ⟨rfl, rfl, rfl, rfl, (by repeat' (first | exact trivial | constructor)), (by repeat' (first | exact trivial | constructor))⟩ ?_) | (refine br_dec (fun h => ?_) (fun h => ?_) <;> try (exfalso; omega)) | (refine br_ndec (fun h => ?_) (fun h => ?_) <;> try (exfalso; omega)) | refine br_seq (fun h => ?_) (fun h => ?_) | refine br_nseq (fun h => ?_) (fun h => ?_) | refine br_not (fun h => ?_) (fun h => ?_) | refine br_intro (fun h => ?_) (fun h => ?_) | (refine cond_intro ?_ ?_; (first | omega | (dsimp only; omega) | decide | (simp only [Nat.add_zero, Int.toNat_natCast, *]; omega))))
      all_goals (conv => whnf)
      all_goals exact ret_out (l := [0, 1, 2, 3, 4]) rfl rfl trivial allRw_nil
    · rw [show readD d n = (d.now.getD n.toNat ⟨#[]⟩, 0) from by simp [readD, hd, hn]]
      refine fc_of mixed T_ok Try.func17 rfl (by kernel_rfl) (by kernel_rfl) (by kernel_rfl) ?_
      repeat' ((conv => whnf); first | (refine vcall_out (l :=  [0, 1, 2, 3, 4]) (hrun ) ⟨rfl, rfl, rfl, rfl, (by repeat' (first | exact trivial | constructor)), (by repeat' (first | exact trivial | constructor))⟩ ?_) | (refine br_dec (fun h => ?_) (fun h => ?_) <;> try (exfalso; omega)) | (refine br_ndec (fun h => ?_) (fun h => ?_) <;> try (exfalso; omega)) | refine br_seq (fun h => ?_) (fun h => ?_) | refine br_nseq (fun h => ?_) (fun h => ?_) | refine br_not (fun h => ?_) (fun h => ?_) | refine br_intro (fun h => ?_) (fun h => ?_) | (refine cond_intro ?_ ?_; (first | omega | (dsimp only; omega) | decide | (simp only [Nat.add_zero, Int.toNat_natCast, *]; omega))))
      all_goals (conv => whnf)
      all_goals exact ret_out (l := [0, 1, 2, 3, 4]) rfl rfl trivial allRw_nil

theorem disk_Blocks (d : Dk) : FC Try.prog 5 23 [.ptr 1 0 0 0] [(1, some (.one true (.cells (dkC 4 d))))] (isOut (.int .i64 d.nn) [] 5) := by
  refine fc_of mixed T_ok Try.func23 rfl (by kernel_rfl) (by kernel_rfl) (by kernel_rfl) ?_
  repeat' ((conv => whnf); first | (refine br_dec (fun h => ?_) (fun h => ?_) <;> try (exfalso; omega)) | (refine br_ndec (fun h => ?_) (fun h => ?_) <;> try (exfalso; omega)) | refine br_seq (fun h => ?_) (fun h => ?_) | refine br_nseq (fun h => ?_) (fun h => ?_) | refine br_not (fun h => ?_) (fun h => ?_) | refine br_intro (fun h => ?_) (fun h => ?_) | (refine cond_intro ?_ ?_; (first | omega | (dsimp only; omega) | decide | (simp only [Nat.add_zero, Int.toNat_natCast, *]; omega))))
  all_goals (conv => whnf)
  exact ret_out (l := [0, 1, 2, 3, 4]) rfl rfl trivial allRw_nil
theorem disk_Pending (d : Dk) : FC Try.prog 5 15 [.ptr 1 0 0 0] [(1, some (.one true (.cells (dkC 4 d))))] (isOut (.int .i64 d.np) [] 5) := by
  refine fc_of mixed T_ok Try.func15 rfl (by kernel_rfl) (by kernel_rfl) (by kernel_rfl) ?_
  repeat' ((conv => whnf); first | (refine br_dec (fun h => ?_) (fun h => ?_) <;> try (exfalso; omega)) | (refine br_ndec (fun h => ?_) (fun h => ?_) <;> try (exfalso; omega)) | refine br_seq (fun h => ?_) (fun h => ?_) | refine br_nseq (fun h => ?_) (fun h => ?_) | refine br_not (fun h => ?_) (fun h => ?_) | refine br_intro (fun h => ?_) (fun h => ?_) | (refine cond_intro ?_ ?_; (first | omega | (dsimp only; omega) | decide | (simp only [Nat.add_zero, Int.toNat_natCast, *]; omega))))
  all_goals (conv => whnf)
  exact ret_out (l := [0, 1, 2, 3, 4]) rfl rfl trivial allRw_nil
theorem disk_Down (d : Dk) : FC Try.prog 5 16 [.ptr 1 0 0 0] [(1, some (.one true (.cells (dkC 4 d))))] (isOut (.bool d.down) [] 5) := by
  refine fc_of mixed T_ok Try.func16 rfl (by kernel_rfl) (by kernel_rfl) (by kernel_rfl) ?_
  repeat' ((conv => whnf); first | (refine br_dec (fun h => ?_) (fun h => ?_) <;> try (exfalso; omega)) | (refine br_ndec (fun h => ?_) (fun h => ?_) <;> try (exfalso; omega)) | refine br_seq (fun h => ?_) (fun h => ?_) | refine br_nseq (fun h => ?_) (fun h => ?_) | refine br_not (fun h => ?_) (fun h => ?_) | refine br_intro (fun h => ?_) (fun h => ?_) | (refine cond_intro ?_ ?_; (first | omega | (dsimp only; omega) | decide | (simp only [Nat.add_zero, Int.toNat_natCast, *]; omega))))
  all_goals (conv => whnf)
  exact ret_out (l := [0, 1, 2, 3, 4]) rfl rfl trivial allRw_nil
end Go.Proofs.Ytmbbmdccpmmifaa
