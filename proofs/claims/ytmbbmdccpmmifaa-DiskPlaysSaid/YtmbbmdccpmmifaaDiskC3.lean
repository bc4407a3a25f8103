/- Contracts of package disk: Write, Flush, New. -/
import Derived.Test.YtmbbmdccpmmifaaDiskC2
namespace Go.Proofs.Ytmbbmdccpmmifaa
open Go.RowKit Go.Sy
attribute [local irreducible] vcall vloop vcallD retP
set_option maxRecDepth 100000
set_option linter.unusedVariables false

def putD (d : Dk) (n : Int) (s : ByteArray) : Dk := { d with now := d.now.set n.toNat s, pn := d.pn ++ [n], ps := d.ps ++ [s], np := d.np + 1 }

theorem putD_ok {d : Dk} (h : d.ok) {n : Int} {s : ByteArray} (hn : 0 ≤ n ∧ n < (d.nn : Int)) (hp : d.np < 4096) : (putD d n s).ok := by
  refine ⟨h.kl, by simp [putD, h.nl], by simp [putD, h.pl], by simp [putD, h.sl], ?_, by simp only [putD]; omega, h.nm, h.sb⟩
  intro x hx
  simp only [putD, List.mem_append, List.mem_singleton] at hx
  rcases hx with hx | rfl
  · exact h.pb x hx
  · exact hn

def writeD (d : Dk) (n : Int) (s : ByteArray) : Dk × Int :=
  if d.down = true then (d, 13) else if n < 0 ∨ d.nn ≤ n then (d, 4) else if 64 < s.size then (d, 3) else if 4096 ≤ d.np then (d, 12)
  else if d.steps = 1 then (crashD d.mask (putD d n s), 13) else (countD (putD d n s), 0)

theorem disk_Write (d : Dk) (h0 : d.ok) (n : Int) (s : ByteArray) : FC Try.prog 5 19 [.ptr 1 0 0 0, .int .i64 n, .str s] (dkH 4 d) (isOut (.int .i64 (writeD d n s).2) (dkH 5 (writeD d n s).1) 6) := by
  have hrun := disk_running d
  rcases run_cases d with ⟨hr, hd⟩ | ⟨hr, hd⟩
  · rw [show writeD d n s = (d, 13) from by simp [writeD, hd]]
    rw [hr] at hrun
    refine fc_of mixed T_ok Try.func19 rfl (by kernel_rfl) (by kernel_rfl) (by kernel_rfl) ?_
    repeat' ((conv => whnf); first | (refine vcall_out (l :=  [0, 1, 2, 3, 4]) (hrun ) ⟨rfl, rfl, rfl, rfl, (by repeat' (first | exact trivial | constructor)), (by repeat' (first | exact trivial | constructor))⟩ ?_) | (refine br_dec (fun h => ?_) (fun h => ?_) <;> try (exfalso; omega)) | (refine br_ndec (fun h => ?_) (fun h => ?_) <;> try (exfalso; omega)) | refine br_seq (fun h => ?_) (fun h => ?_) | refine br_nseq (fun h => ?_) (fun h => ?_) | refine br_not (fun h => ?_) (fun h => ?_) | refine br_intro (fun h => ?_) (fun h => ?_) | (refine cond_intro ?_ ?_; (first | omega | (dsimp only; omega) | decide | (simp only [Nat.add_zero, Int.toNat_natCast, *]; omega))))
    all_goals (conv => whnf)
    exact ret_out (l := [0, 1, 2, 3, 4, 4]) rfl rfl ⟨rfl, rfl, rfl, rfl, trivial⟩ (dkH_rw _ _)
  · rw [hr] at hrun
    by_cases hn : n < 0 ∨ d.nn ≤ n
    · rw [show writeD d n s = (d, 4) from by simp [writeD, hd, hn]]
      refine fc_of mixed T_ok Try.func19 rfl (by kernel_rfl) (by kernel_rfl) (by kernel_rfl) ?_
      repeat' ((conv => whnf); first | (refine vcall_out (l :=  [0, 1, 2, 3, 4]) (hrun ) ⟨rfl, rfl, rfl, rfl, (by repeat' (first | exact trivial | constructor)), (by repeat' (first | exact trivial | constructor))⟩ ?_) | (refine br_dec (fun h => ?_) (fun h => ?_) <;> try (exfalso; omega)) | (refine br_ndec (fun h => ?_) (fun h => ?_) <;> try (exfalso; omega)) | refine br_seq (fun h => ?_) (fun h => ?_) | refine br_nseq (fun h => ?_) (fun h => ?_) | refine br_not (fun h => ?_) (fun h => ?_) | refine br_intro (fun h => ?_) (fun h => ?_) | (refine cond_intro ?_ ?_; (first | omega | (dsimp only; omega) | decide | (simp only [Nat.add_zero, Int.toNat_natCast, *]; omega))))
      all_goals (conv => whnf)
      all_goals exact ret_out (l := [0, 1, 2, 3, 4, 4]) rfl rfl ⟨rfl, rfl, rfl, rfl, trivial⟩ (dkH_rw _ _)
    by_cases hs : 64 < s.size
    · rw [show writeD d n s = (d, 3) from by simp [writeD, hd, hn, hs]]
      refine fc_of mixed T_ok Try.func19 rfl (by kernel_rfl) (by kernel_rfl) (by kernel_rfl) ?_
      repeat' ((conv => whnf); first | (refine vcall_out (l :=  [0, 1, 2, 3, 4]) (hrun ) ⟨rfl, rfl, rfl, rfl, (by repeat' (first | exact trivial | constructor)), (by repeat' (first | exact trivial | constructor))⟩ ?_) | (refine br_dec (fun h => ?_) (fun h => ?_) <;> try (exfalso; omega)) | (refine br_ndec (fun h => ?_) (fun h => ?_) <;> try (exfalso; omega)) | refine br_seq (fun h => ?_) (fun h => ?_) | refine br_nseq (fun h => ?_) (fun h => ?_) | refine br_not (fun h => ?_) (fun h => ?_) | refine br_intro (fun h => ?_) (fun h => ?_) | (refine cond_intro ?_ ?_; (first | omega | (dsimp only; omega) | decide | (simp only [Nat.add_zero, Int.toNat_natCast, *]; omega))))
      all_goals (conv => whnf)
      all_goals exact ret_out (l := [0, 1, 2, 3, 4, 4]) rfl rfl ⟨rfl, rfl, rfl, rfl, trivial⟩ (dkH_rw _ _)
    by_cases hp : 4096 ≤ d.np
    · rw [show writeD d n s = (d, 12) from by simp [writeD, hd, hn, hs, hp]]
      refine fc_of mixed T_ok Try.func19 rfl (by kernel_rfl) (by kernel_rfl) (by kernel_rfl) ?_
      repeat' ((conv => whnf); first | (refine vcall_out (l :=  [0, 1, 2, 3, 4]) (hrun ) ⟨rfl, rfl, rfl, rfl, (by repeat' (first | exact trivial | constructor)), (by repeat' (first | exact trivial | constructor))⟩ ?_) | (refine br_dec (fun h => ?_) (fun h => ?_) <;> try (exfalso; omega)) | (refine br_ndec (fun h => ?_) (fun h => ?_) <;> try (exfalso; omega)) | refine br_seq (fun h => ?_) (fun h => ?_) | refine br_nseq (fun h => ?_) (fun h => ?_) | refine br_not (fun h => ?_) (fun h => ?_) | refine br_intro (fun h => ?_) (fun h => ?_) | (refine cond_intro ?_ ?_; (first | omega | (dsimp only; omega) | decide | (simp only [Nat.add_zero, Int.toNat_natCast, *]; omega))))
      all_goals (conv => whnf)
      all_goals exact ret_out (l := [0, 1, 2, 3, 4, 4]) rfl rfl ⟨rfl, rfl, rfl, rfl, trivial⟩ (dkH_rw _ _)
    have hok := putD_ok (s := s) h0 (n := n) (by omega) (by omega)
    by_cases ht : d.steps = 1
    · rw [show writeD d n s = (crashD d.mask (putD d n s), 13) from by simp [writeD, hd, hn, hs, hp, ht]]
      have hcr := disk_crash (putD d n s) hok d.mask
      refine fc_of mixed T_ok Try.func19 rfl (by kernel_rfl) (by kernel_rfl) (by kernel_rfl) ?_
      repeat' ((conv => whnf); first | (refine vcall_out (l :=  [0, 1, 2, 3, 4]) (hrun ) ⟨rfl, rfl, rfl, rfl, (by repeat' (first | exact trivial | constructor)), (by repeat' (first | exact trivial | constructor))⟩ ?_) | (refine vcall_out (l :=  [0, 1, 2, 3, 6]) (hcr ) ⟨rfl, rfl, rfl, rfl, (by repeat' (first | exact trivial | constructor)), (by repeat' (first | exact trivial | constructor))⟩ ?_) | (refine br_dec (fun h => ?_) (fun h => ?_) <;> try (exfalso; omega)) | (refine br_ndec (fun h => ?_) (fun h => ?_) <;> try (exfalso; omega)) | refine br_seq (fun h => ?_) (fun h => ?_) | refine br_nseq (fun h => ?_) (fun h => ?_) | refine br_not (fun h => ?_) (fun h => ?_) | refine br_intro (fun h => ?_) (fun h => ?_) | (refine cond_intro ?_ ?_; (first | omega | (dsimp only; omega) | decide | (simp only [Nat.add_zero, Int.toNat_natCast, *]; omega))))
      all_goals (conv => whnf)
      all_goals exact ret_out (l := [0, 1, 2, 3, 4, 7]) rfl rfl ⟨rfl, rfl, rfl, rfl, trivial⟩ (dkH_rw _ _)
    · rw [show writeD d n s = (countD (putD d n s), 0) from by simp [writeD, hd, hn, hs, hp, ht]]
      have hct := disk_count (putD d n s) h0.sb
      refine fc_of mixed T_ok Try.func19 rfl (by kernel_rfl) (by kernel_rfl) (by kernel_rfl) ?_
      repeat' ((conv => whnf); first | (refine vcall_out (l :=  [0, 1, 2, 3, 4]) (hrun ) ⟨rfl, rfl, rfl, rfl, (by repeat' (first | exact trivial | constructor)), (by repeat' (first | exact trivial | constructor))⟩ ?_) | (refine vcall_out (l :=  [0, 1, 2, 3, 6]) (hct ) ⟨rfl, rfl, rfl, rfl, (by repeat' (first | exact trivial | constructor)), (by repeat' (first | exact trivial | constructor))⟩ ?_) | (refine br_dec (fun h => ?_) (fun h => ?_) <;> try (exfalso; omega)) | (refine br_ndec (fun h => ?_) (fun h => ?_) <;> try (exfalso; omega)) | refine br_seq (fun h => ?_) (fun h => ?_) | refine br_nseq (fun h => ?_) (fun h => ?_) | refine br_not (fun h => ?_) (fun h => ?_) | refine br_intro (fun h => ?_) (fun h => ?_) | (refine cond_intro ?_ ?_; (first | omega | (dsimp only; omega) | decide | (simp only [Nat.add_zero, Int.toNat_natCast, *]; omega))))
      all_goals (conv => whnf)
      all_goals exact ret_out (l := [0, 1, 2, 3, 4, 6]) rfl rfl ⟨rfl, rfl, rfl, rfl, trivial⟩ (dkH_rw _ _)

def dkN (d : Dk) : List SV := [.sl 2 0 0 d.nn, .sl 3 0 0 d.nn, .nsl, .bool d.down, .int .i64 d.steps, .int .u64 d.mask]
theorem disk_countN (d : Dk) (hs : 0 ≤ d.steps ∧ d.steps ≤ 1000000) : FC Try.prog 4 29 [.ptr 1 0 0 0] [(1, some (.one false (.cells (dkN d))))]
    (isOut (.tup []) [(1, some (.one false (.cells (dkN (countD d)))))] 4) := by
  refine fc_of mixed T_ok Try.func29 rfl (by kernel_rfl) (by kernel_rfl) (by kernel_rfl) ?_
  repeat' ((conv => whnf); first | (refine br_dec (fun h => ?_) (fun h => ?_) <;> try (exfalso; omega)) | (refine br_ndec (fun h => ?_) (fun h => ?_) <;> try (exfalso; omega)) | refine br_seq (fun h => ?_) (fun h => ?_) | refine br_nseq (fun h => ?_) (fun h => ?_) | refine br_not (fun h => ?_) (fun h => ?_) | refine br_intro (fun h => ?_) (fun h => ?_) | (refine cond_intro ?_ ?_; (first | omega | (dsimp only; omega) | decide | (simp only [Nat.add_zero, Int.toNat_natCast, *]; omega))))
  all_goals (conv => whnf)
  · refine ret_out (l := [0, 1, 2, 3]) rfl rfl ⟨?_, trivial⟩ (allRw_cons allRw_nil)
    have e : countZ d.steps = IntKind.i64.wrap (d.steps - 1) := by rw [w64_in (by omega) (by omega)]; unfold countZ; rw [if_pos (by assumption)]
    unfold countD; rw [e]; rfl
  · refine ret_out (l := [0, 1, 2, 3]) rfl rfl ⟨?_, trivial⟩ (allRw_cons allRw_nil)
    have e : countZ d.steps = d.steps := by unfold countZ; rw [if_neg (by assumption)]
    unfold countD; rw [e]; rfl

def allB (_ : Nat) : Bool := true
def keepD (d : Dk) : Dk := { d with kept := crashTo allB d.pn d.ps d.np d.kept, pn := [], ps := [], np := 0 }
def flushD (d : Dk) : Dk × Int := if d.down = true then (d, 13) else if d.steps = 1 then (crashD d.mask d, 13) else (countD (keepD d), 0)

theorem disk_Flush (d : Dk) (h0 : d.ok) : FC Try.prog 5 11 [.ptr 1 0 0 0] (dkH 4 d) (isOut (.int .i64 (flushD d).2) (dkH 5 (flushD d).1) 6) := by
  have hrun := disk_running d
  have hpm := h0.pm
  have hpl := h0.pl
  rcases run_cases d with ⟨hr, hd⟩ | ⟨hr, hd⟩
  · rw [show flushD d = (d, 13) from by simp [flushD, hd]]
    rw [hr] at hrun
    refine fc_of mixed T_ok Try.func11 rfl (by kernel_rfl) (by kernel_rfl) (by kernel_rfl) ?_
    repeat' ((conv => whnf); first | (refine vcall_out (l :=  [0, 1, 2, 3, 4]) (hrun ) ⟨rfl, rfl, rfl, rfl, (by repeat' (first | exact trivial | constructor)), (by repeat' (first | exact trivial | constructor))⟩ ?_) | (refine br_dec (fun h => ?_) (fun h => ?_) <;> try (exfalso; omega)) | (refine br_ndec (fun h => ?_) (fun h => ?_) <;> try (exfalso; omega)) | refine br_seq (fun h => ?_) (fun h => ?_) | refine br_nseq (fun h => ?_) (fun h => ?_) | refine br_not (fun h => ?_) (fun h => ?_) | refine br_intro (fun h => ?_) (fun h => ?_) | (refine cond_intro ?_ ?_; (first | omega | (dsimp only; omega) | decide | (simp only [Nat.add_zero, Int.toNat_natCast, *]; omega))))
    all_goals (conv => whnf)
    exact ret_out (l := [0, 1, 2, 3, 4, 4]) rfl rfl ⟨rfl, rfl, rfl, rfl, trivial⟩ (dkH_rw _ _)
  · rw [hr] at hrun
    by_cases ht : d.steps = 1
    · rw [show flushD d = (crashD d.mask d, 13) from by simp [flushD, hd, ht]]
      have hcr := disk_crash d h0 d.mask
      refine fc_of mixed T_ok Try.func11 rfl (by kernel_rfl) (by kernel_rfl) (by kernel_rfl) ?_
      repeat' ((conv => whnf); first | (refine vcall_out (l :=  [0, 1, 2, 3, 4]) (hrun ) ⟨rfl, rfl, rfl, rfl, (by repeat' (first | exact trivial | constructor)), (by repeat' (first | exact trivial | constructor))⟩ ?_) | (refine vcall_out (l :=  [0, 1, 2, 3, 4]) (hcr ) ⟨rfl, rfl, rfl, rfl, (by repeat' (first | exact trivial | constructor)), (by repeat' (first | exact trivial | constructor))⟩ ?_) | (refine br_dec (fun h => ?_) (fun h => ?_) <;> try (exfalso; omega)) | (refine br_ndec (fun h => ?_) (fun h => ?_) <;> try (exfalso; omega)) | refine br_seq (fun h => ?_) (fun h => ?_) | refine br_nseq (fun h => ?_) (fun h => ?_) | refine br_not (fun h => ?_) (fun h => ?_) | refine br_intro (fun h => ?_) (fun h => ?_) | (refine cond_intro ?_ ?_; (first | omega | (dsimp only; omega) | decide | (simp only [Nat.add_zero, Int.toNat_natCast, *]; omega))))
      all_goals (conv => whnf)
      all_goals exact ret_out (l := [0, 1, 2, 3, 4, 5]) rfl rfl ⟨rfl, rfl, rfl, rfl, trivial⟩ (dkH_rw _ _)
    · rw [show flushD d = (countD (keepD d), 0) from by simp [flushD, hd, ht]]
      have hct := disk_countN (keepD d) h0.sb
      refine fc_of mixed T_ok Try.func11 rfl (by kernel_rfl) (by kernel_rfl) (by kernel_rfl) ?_
      repeat' ((conv => whnf); first | (refine vcall_out (l :=  [0, 1, 2, 3, 4]) (hrun ) ⟨rfl, rfl, rfl, rfl, (by repeat' (first | exact trivial | constructor)), (by repeat' (first | exact trivial | constructor))⟩ ?_) | (refine br_dec (fun h => ?_) (fun h => ?_) <;> try (exfalso; omega)) | (refine br_ndec (fun h => ?_) (fun h => ?_) <;> try (exfalso; omega)) | refine br_seq (fun h => ?_) (fun h => ?_) | refine br_nseq (fun h => ?_) (fun h => ?_) | refine br_not (fun h => ?_) (fun h => ?_) | refine br_intro (fun h => ?_) (fun h => ?_) | (refine cond_intro ?_ ?_; (first | omega | (dsimp only; omega) | decide | (simp only [Nat.add_zero, Int.toNat_natCast, *]; omega))))
      (conv => whnf)
      refine vloop_of (fun k : Nat => ⟨[(0, .ptr 1 0 0 0), (25, .sl 4 0 0 d.np), (26, .int .i64 d.np), (27, .int .i64 k)],
        [(1, some (.one false (.cells (dkC 4 d)))), (2, some (.one false (.cols d.nn [.sc (.strs (crashTo allB d.pn d.ps k d.kept))]))),
         (3, some (.one false (.cols d.nn [.sc (.strs d.now)]))),
         (4, some (.one false (.cols d.np [.sc (.ints .i64 d.pn), .sc (.strs d.ps)])))], 5⟩) (fun k => k ≤ d.np) (fun k => d.np - k) 0 [0, 1, 2, 3, 4] [] ⟨rfl, ⟨rfl, rfl, rfl, rfl, trivial⟩, ⟨rfl, rfl, rfl, rfl, trivial⟩⟩ (by omega) ?_
      intro k hk
      by_cases hlt : k < d.np
      · have hb := h0.pb _ (getD_mem d.pn k 0 (by omega))
        repeat' ((conv => whnf); first | (refine cond_intro hb ?_) | (refine br_dec (fun h => ?_) (fun h => ?_) <;> try (exfalso; omega)) | (refine br_ndec (fun h => ?_) (fun h => ?_) <;> try (exfalso; omega)) | refine br_seq (fun h => ?_) (fun h => ?_) | refine br_nseq (fun h => ?_) (fun h => ?_) | refine br_not (fun h => ?_) (fun h => ?_) | refine br_intro (fun h => ?_) (fun h => ?_) | (refine cond_intro ?_ ?_; (first | omega | (dsimp only; omega) | decide | (simp only [Nat.add_zero, Int.toNat_natCast, *]; omega))))
        all_goals (conv => whnf)
        all_goals refine ⟨k + 1, [0, 1, 2, 3, 4], [], by omega, by omega, ⟨rfl, ⟨rfl, rfl, rfl, congrArg (fun z => some (SV.int .i64 z)) (i64_succ (by omega)), trivial⟩, ⟨rfl, rfl, rfl, rfl, trivial⟩⟩⟩
      · have e : k = d.np := by omega
        subst e
        repeat' ((conv => whnf); first | (refine vcall_out (l :=  [0, 1, 2, 3]) (hct ) ⟨rfl, rfl, rfl, rfl, (by repeat' (first | exact trivial | constructor)), (by repeat' (first | exact trivial | constructor))⟩ ?_) | (refine br_dec (fun h => ?_) (fun h => ?_) <;> try (exfalso; omega)) | (refine br_ndec (fun h => ?_) (fun h => ?_) <;> try (exfalso; omega)) | refine br_seq (fun h => ?_) (fun h => ?_) | refine br_nseq (fun h => ?_) (fun h => ?_) | refine br_not (fun h => ?_) (fun h => ?_) | refine br_intro (fun h => ?_) (fun h => ?_) | (refine cond_intro ?_ ?_; (first | omega | (dsimp only; omega) | decide | (simp only [Nat.add_zero, Int.toNat_natCast, *]; omega))))
        all_goals (conv => whnf)
        exact ret_up (l := [0, 1, 2, 3, 4, 5]) [.cell 1 2 [.sc (.ints .i64 []), .sc (.strs [])]] ⟨rfl, rfl, rfl, rfl, rfl, rfl, trivial⟩ (dkH_rw _ _)

def newD (n : Nat) : Dk := ⟨List.replicate n ⟨#[]⟩, List.replicate n ⟨#[]⟩, n, [], [], 0, false, 0, 0⟩
theorem newD_ok (n : Nat) (h : n ≤ 4096) : (newD n).ok := ⟨by simp [newD], by simp [newD], rfl, rfl, by simp [newD], by simp [newD], h, by simp [newD]⟩

theorem disk_New_no (n : Int) (h : n < 1 ∨ 4096 < n) : Pure Try.prog 9 [.int .i64 n] (.tup [.nptr, .int .i64 4]) := by
  refine fc_of mixed T_ok Try.func9 rfl (by kernel_rfl) (by kernel_rfl) (by kernel_rfl) ?_
  repeat' ((conv => whnf); first | (refine br_dec (fun h => ?_) (fun h => ?_) <;> try (exfalso; omega)) | (refine br_ndec (fun h => ?_) (fun h => ?_) <;> try (exfalso; omega)) | refine br_seq (fun h => ?_) (fun h => ?_) | refine br_nseq (fun h => ?_) (fun h => ?_) | refine br_not (fun h => ?_) (fun h => ?_) | refine br_intro (fun h => ?_) (fun h => ?_) | (refine cond_intro ?_ ?_; (first | omega | (dsimp only; omega) | decide | (simp only [Nat.add_zero, Int.toNat_natCast, *]; omega))))
  all_goals (conv => whnf)
  all_goals exact ret_pure rfl

theorem disk_New (n : Nat) (h : 1 ≤ n ∧ n ≤ 4096) : FC Try.prog 1 9 [.int .i64 n] [] (isOut (.tup [.ptr 1 0 0 0, .int .i64 0]) (dkH 4 (newD n)) 5) := by
  refine fc_of mixed T_ok Try.func9 rfl (by kernel_rfl) (by kernel_rfl) (by kernel_rfl) ?_
  repeat' ((conv => whnf); first | (refine br_dec (fun h => ?_) (fun h => ?_) <;> try (exfalso; omega)) | (refine br_ndec (fun h => ?_) (fun h => ?_) <;> try (exfalso; omega)) | refine br_seq (fun h => ?_) (fun h => ?_) | refine br_nseq (fun h => ?_) (fun h => ?_) | refine br_not (fun h => ?_) (fun h => ?_) | refine br_intro (fun h => ?_) (fun h => ?_) | (refine cond_intro ?_ ?_; (first | omega | (dsimp only; omega) | decide | (simp only [Nat.add_zero, Int.toNat_natCast, *]; omega))))
  all_goals (conv => whnf)
  exact ret_up (l := [0, 3, 1, 2, 4]) [.cell 3 2 [.sc (.ints .i64 []), .sc (.strs [])]] ⟨rfl, rfl, rfl, rfl, rfl, rfl, trivial⟩ (dkH_rw _ _)
end Go.Proofs.Ytmbbmdccpmmifaa
