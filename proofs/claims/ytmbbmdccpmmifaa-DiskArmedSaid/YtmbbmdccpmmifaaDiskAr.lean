/- The law DiskArmed. -/
import Derived.Test.YtmbbmdccpmmifaaDiskCr
namespace Go.Proofs.Ytmbbmdccpmmifaa
open Go.RowKit Go.Sy
attribute [local irreducible] vcall vloop vcallD retP
set_option maxRecDepth 100000
set_option linter.unusedVariables false

def tick (d : Dk) (s m : Int) : Dk := { d with steps := s, mask := m }
theorem tick_ok {d : Dk} (h : d.ok) {s : Int} (m : Int) (hs : 0 ≤ s ∧ s ≤ 1000000) : (tick d s m).ok := ⟨h.kl, h.nl, h.pl, h.sl, h.pb, h.pm, h.nm, hs⟩

/-- A disk in memory: handles 2, 3, 4, 5. -/
def dkA (d : Dk) : Heap :=
  [(2, some (.one false (.cells [.sl 3 0 0 d.nn, .sl 4 0 0 d.nn, .sl 5 0 0 d.np, .bool d.down, .int .i64 d.steps, .int .u64 d.mask]))), (3, some (.one false (.cols d.nn [.sc (.strs d.kept)]))), (4, some (.one false (.cols d.nn [.sc (.strs d.now)]))),
   (5, some (.one false (.cols d.np [.sc (.ints .i64 d.pn), .sc (.strs d.ps)])))]

theorem write_tick {d : Dk} (h : Fit d) {n s : Int} (m : Int) {t : ByteArray} (hn : 0 ≤ n ∧ n < 8) (ht : t.size ≤ 64) (hp : d.np < 4096) (hs : 1 < s) : writeD (tick d s m) n t = (tick (putD d n t) (s - 1) m, 0) := by
  have h1 : (tick d s m).down = false := h.run
  have h2 : (tick d s m).nn = 8 := h.n8
  have h3 : (tick d s m).np = d.np := rfl
  have h4 : (tick d s m).steps = s := rfl
  unfold writeD
  rw [if_neg (by simp [h1]), if_neg (by omega), if_neg (by omega), if_neg (by omega), if_neg (by omega)]
  have e : countZ s = s - 1 := by unfold countZ; rw [if_pos (by omega)]
  show (({ (putD (tick d s m) n t) with steps := countZ s } : Dk), (0 : Int)) = _
  rw [e]; rfl
theorem write_last {d : Dk} (h : Fit d) {n : Int} (m : Int) {t : ByteArray} (hn : 0 ≤ n ∧ n < 8) (ht : t.size ≤ 64) (hp : d.np < 4096) : writeD (tick d 1 m) n t = (crashD m (putD d n t), 13) := by
  have h1 : (tick d 1 m).down = false := h.run
  have h2 : (tick d 1 m).nn = 8 := h.n8
  have h3 : (tick d 1 m).np = d.np := rfl
  have h4 : (tick d 1 m).steps = 1 := rfl
  unfold writeD
  rw [if_neg (by simp [h1]), if_neg (by omega), if_neg (by omega), if_neg (by omega), if_pos h4]
  rfl

theorem diskArmed_fc (l0 : Nat) (hl0 : l0 ≤ maxLen) (q0_0 : List Int) (eq0_0 : q0_0.length = l0) (wq0_0 : ∀ x ∈ q0_0, (Lit.int .u8 x).wf = true) (q0_1 : List ByteArray) (eq0_1 : q0_1.length = l0) (wq0_1 : ∀ x ∈ q0_1, x.size ≤ maxLen) (n1 : Int) (hw1 : (Lit.int .u8 n1).wf = true) (n2 : Int) (hw2 : (Lit.int .u64 n2).wf = true) :
    FC Try.prog 2 5 [.sl 1 0 0 l0, .int .u8 n1, .int .u64 n2] [(1, some (.one true (.cols l0 [.sc (.ints .u8 q0_0), .sc (.strs q0_1)])))] (isOut (.bool true) [] 2) := by
  have s0 := law_short l0 q0_0 q0_1 hl0
  have haw := law_awake
  cases h0 : shortB l0 q0_1
  · rw [h0] at s0
    refine fc_of mixed T_ok Try.func5 rfl (by kernel_rfl) (by kernel_rfl) (by kernel_rfl) ?_
    repeat' ((conv => whnf); first | (refine vcall_out (l :=  [0, 1]) (s0 ) ⟨rfl, rfl, rfl, rfl, (by (repeat' (first | exact trivial | constructor)); first | done | fail), (by (repeat' (first | exact trivial | constructor)); first | done | fail)⟩ ?_) | (refine vcall_pure (haw) rfl rfl rfl ?_) | (refine br_dec (fun h => ?_) (fun h => ?_) <;> try (exfalso; omega)) | (refine br_ndec (fun h => ?_) (fun h => ?_) <;> try (exfalso; omega)) | refine br_seq (fun h => ?_) (fun h => ?_) | refine br_nseq (fun h => ?_) (fun h => ?_) | refine br_not (fun h => ?_) (fun h => ?_) | refine br_intro (fun h => ?_) (fun h => ?_) | (refine cond_intro ?_ ?_; (first | omega | (dsimp only; omega) | decide | (simp only [Nat.add_zero, Int.toNat_natCast, *]; omega))))
    all_goals (conv => whnf)
    all_goals exact ret_out (l := [0, 1]) rfl rfl trivial allRw_nil
  rw [h0] at s0
  have y0 := shortB_yes h0
  have y60 := y0.1
  have hq := u8_getD wq0_0
  rw [eq0_0] at hq
  have hn1 : 0 ≤ n1 ∧ n1 ≤ 255 := by
    simp only [Lit.wf, Bool.and_eq_true, decide_eq_true_eq] at hw1
    exact hw1
  have hm : 0 ≤ n2 ∧ n2 ≤ 18446744073709551615 := by
    simp only [Lit.wf, Bool.and_eq_true, decide_eq_true_eq] at hw2
    exact hw2
  obtain ⟨m, rfl⟩ := Int.eq_ofNat_of_zero_le hm.1
  obtain ⟨N, hN⟩ : ∃ N : Nat, (N : Int) = 1 + n1 % 64 := ⟨(1 + n1 % 64).toNat, by omega⟩
  have hNb : 1 ≤ N ∧ N ≤ 64 := by omega
  have hNe : IntKind.i64.wrap (1 + IntKind.i64.wrap (n1.tmod 64)) = (N : Int) := by
    have a : IntKind.i64.wrap (n1 % 64) = n1 % 64 := w64_in (by omega) (by omega)
    rw [Int.tmod_eq_emod_of_nonneg hn1.1, a, w64_in (by omega) (by omega), hN]
  have hN1 : IntKind.i64.wrap ((N : Int) - 1) = N - 1 := w64_in (by omega) (by omega)
  have dN := disk_New 8 (by omega)
  have ar := disk_Arm (newD 8) (IntKind.i64.wrap (1 + IntKind.i64.wrap (n1.tmod 64))) m
  rw [show armD (newD 8) (IntKind.i64.wrap (1 + IntKind.i64.wrap (n1.tmod 64))) m = (tick (newD 8) N m, 0) from by
    rw [hNe]; unfold armD; rw [if_neg (by simp [newD]), if_neg (by omega)]; rfl] at ar
  by_cases hA : l0 < N
  · have f1 : Fit (wr q0_0 q0_1 l0 (newD 8)) := wr_fit _ _ new_fit l0 (by show 0 + l0 ≤ 4096; omega)
    have k1 := disk_Down (tick (wr q0_0 q0_1 l0 (newD 8)) ((N : Int) - (l0 : Int)) m)
    rw [show (tick (wr q0_0 q0_1 l0 (newD 8)) ((N : Int) - (l0 : Int)) m).down = false from f1.run] at k1
    have k2 := disk_Arm (tick (wr q0_0 q0_1 l0 (newD 8)) ((N : Int) - (l0 : Int)) m) 0 0
    rw [show armD (tick (wr q0_0 q0_1 l0 (newD 8)) ((N : Int) - (l0 : Int)) m) 0 0 = (tick (wr q0_0 q0_1 l0 (newD 8)) 0 0, 0) from by
      unfold armD; rw [if_neg (by simp [tick, f1.run]), if_neg (by omega)]; rfl] at k2
    have f2 : Fit (tick (wr q0_0 q0_1 l0 (newD 8)) 0 0) := ⟨tick_ok f1.ok _ (by omega), f1.run, f1.n8, rfl⟩
    have k3 := disk_Flush (tick (wr q0_0 q0_1 l0 (newD 8)) 0 0) f2.ok
    rw [flu_eq f2] at k3
    have f3 := flu_fit f2
    have k4 := law_is (flu (tick (wr q0_0 q0_1 l0 (newD 8)) 0 0)) f3.ok f3.run f3.n8 (wr q0_0 q0_1 l0 (newD 8)).now (by rw [f1.ok.nl, f1.n8])
    rw [show decide ((flu (tick (wr q0_0 q0_1 l0 (newD 8)) 0 0)).now = (wr q0_0 q0_1 l0 (newD 8)).now) = true from decide_eq_true rfl] at k4
    clear wq0_0 wq0_1 hw1 hw2 f2 f3
    refine fc_of mixed T_ok Try.func5 rfl (by kernel_rfl) (by kernel_rfl) (by kernel_rfl) ?_
    repeat' ((conv => whnf); first | (refine vcall_out (l :=  [0, 1]) (s0 ) ⟨rfl, rfl, rfl, rfl, (by (repeat' (first | exact trivial | constructor)); first | done | fail), (by (repeat' (first | exact trivial | constructor)); first | done | fail)⟩ ?_) | (refine vcall_out (l :=  [0]) (dN ) ⟨rfl, rfl, rfl, rfl, (by (repeat' (first | exact trivial | constructor)); first | done | fail), (by (repeat' (first | exact trivial | constructor)); first | done | fail)⟩ ?_) | (refine vcall_out (l :=  [0, 2, 3, 4, 5]) (ar ) ⟨rfl, rfl, rfl, rfl, (by (repeat' (first | exact trivial | constructor)); first | done | fail), (by (repeat' (first | exact trivial | constructor)); first | done | fail)⟩ ?_) | (refine cond_intro (by rw [Int.tmod_eq_emod_of_nonneg hn1.1]; dsimp only; omega) ?_) | (refine br_dec (fun h => ?_) (fun h => ?_) <;> try (exfalso; omega)) | (refine br_ndec (fun h => ?_) (fun h => ?_) <;> try (exfalso; omega)) | refine br_seq (fun h => ?_) (fun h => ?_) | refine br_nseq (fun h => ?_) (fun h => ?_) | refine br_not (fun h => ?_) (fun h => ?_) | refine br_intro (fun h => ?_) (fun h => ?_) | (refine cond_intro ?_ ?_; (first | omega | (dsimp only; omega) | decide | (simp only [Nat.add_zero, Int.toNat_natCast, *]; omega))))
    all_goals (conv => whnf)
    refine vloop_of (fun k : Nat => ⟨[(0, .sl 1 0 0 l0), (2, .int .u64 m), (7, .int .i64 N), (8, .ptr 2 0 0 0), (10, .ptr 6 0 0 0), (11, .int .i64 k)],
      (1, some (.one true (.cols l0 [.sc (.ints .u8 q0_0), .sc (.strs q0_1)]))) :: (6, some (.one false (.cols 8 [.sc (.strs (wr q0_0 q0_1 k (newD 8)).now)]))) :: dkA (tick (wr q0_0 q0_1 k (newD 8)) ((N : Int) - (k : Int)) m), 7⟩) (fun k => k ≤ l0) (fun k => l0 - k) 0 [0, 1, 2, 3, 4, 5, 6] [] ⟨rfl, ⟨rfl, rfl, congrArg (fun z => some (SV.int .i64 z)) hNe, rfl, rfl, rfl, trivial⟩, ⟨rfl, rfl, ?_, rfl, rfl, rfl, trivial⟩⟩ (by omega) ?_
    · rw [show ((N : Int) - ((0 : Nat) : Int)) = N from by omega]; rfl
    intro k hk
    by_cases hlt : k < l0
    · have hbk := hq k hlt
      have hm8 : (q0_0.getD k 0).tmod 8 = q0_0.getD k 0 % 8 := Int.tmod_eq_emod_of_nonneg hbk.1
      have hwi : IntKind.i64.wrap ((q0_0.getD k 0).tmod 8) = q0_0.getD k 0 % 8 := by rw [hm8, w64_in (by omega) (by omega)]
      have f := wr_fit q0_0 q0_1 new_fit k (by show 0 + k ≤ 4096; omega)
      have hnp : (wr q0_0 q0_1 k (newD 8)).np = k := (wr_np _ _ _ _).trans (Nat.zero_add _)
      have hw := disk_Write (tick (wr q0_0 q0_1 k (newD 8)) ((N : Int) - (k : Int)) m) (tick_ok f.ok _ (by omega)) (IntKind.i64.wrap ((q0_0.getD k 0).tmod 8)) (q0_1.getD k ⟨#[]⟩)
      rw [show writeD (tick (wr q0_0 q0_1 k (newD 8)) ((N : Int) - (k : Int)) m) (IntKind.i64.wrap ((q0_0.getD k 0).tmod 8)) (q0_1.getD k ⟨#[]⟩) = (tick (wr q0_0 q0_1 (k + 1) (newD 8)) ((N : Int) - ((k + 1 : Nat) : Int)) m, 0) from by
        rw [hwi, write_tick f m (by omega) (y0.2 k hlt) (by omega) (by omega), show (N : Int) - (k : Int) - 1 = (N : Int) - ((k + 1 : Nat) : Int) from by omega]; rfl] at hw
      repeat' ((conv => whnf); first | (refine vcallD_out (l :=  [0, 2, 3, 4, 5]) (hw ) ⟨rfl, rfl, rfl, rfl, (by (repeat' (first | exact trivial | constructor)); first | done | fail), (by (repeat' (first | exact trivial | constructor)); first | done | fail)⟩ ?_) | (refine vcall_out (l :=  [0, 2, 3, 4, 5]) (hw ) ⟨rfl, rfl, rfl, rfl, (by (repeat' (first | exact trivial | constructor)); first | done | fail), (by (repeat' (first | exact trivial | constructor)); first | done | fail)⟩ ?_) | (refine cond_intro (by rw [hm8]; dsimp only; omega) ?_) | (refine br_dec (fun h => ?_) (fun h => ?_) <;> try (exfalso; omega)) | (refine br_ndec (fun h => ?_) (fun h => ?_) <;> try (exfalso; omega)) | refine br_seq (fun h => ?_) (fun h => ?_) | refine br_nseq (fun h => ?_) (fun h => ?_) | refine br_not (fun h => ?_) (fun h => ?_) | refine br_intro (fun h => ?_) (fun h => ?_) | (refine cond_intro ?_ ?_; (first | omega | (dsimp only; omega) | decide | (simp only [Nat.add_zero, Int.toNat_natCast, *]; omega))))
      all_goals (conv => whnf)
      refine ⟨k + 1, [0, 1, 2, 3, 4, 7, 6], [], by omega, by omega, ⟨rfl, ⟨rfl, rfl, rfl, rfl, rfl, congrArg (fun z => some (SV.int .i64 z)) (i64_succ (by omega)), trivial⟩, ⟨rfl, ?_, rfl, rfl, rfl, rfl, trivial⟩⟩⟩
      refine congrArg (fun z => some (HB.one false (.cols 8 [.sc (.strs z)]))) ?_
      show (wr q0_0 q0_1 k (newD 8)).now.set ((q0_0.getD k 0).tmod 8).toNat (q0_1.getD k ⟨#[]⟩) = (wr q0_0 q0_1 (k + 1) (newD 8)).now
      rw [hm8]; rfl
    · have e : k = l0 := by omega
      subst e
      repeat' ((conv => whnf); first | (refine vcall_out (l :=  [0, 2, 3, 4, 5]) (k1 ) ⟨rfl, rfl, rfl, rfl, (by (repeat' (first | exact trivial | constructor)); first | done | fail), (by (repeat' (first | exact trivial | constructor)); first | done | fail)⟩ ?_) | (refine vcall_out (l :=  [0, 2, 3, 4, 5]) (k2 ) ⟨rfl, rfl, rfl, rfl, (by (repeat' (first | exact trivial | constructor)); first | done | fail), (by (repeat' (first | exact trivial | constructor)); first | done | fail)⟩ ?_) | (refine vcall_out (l :=  [0, 2, 3, 4, 5]) (k3 ) ⟨rfl, rfl, rfl, rfl, (by (repeat' (first | exact trivial | constructor)); first | done | fail), (by (repeat' (first | exact trivial | constructor)); first | done | fail)⟩ ?_) | (refine vcall_out (l :=  [0, 2, 3, 4, 7]) (k4 ) ⟨rfl, rfl, rfl, rfl, (by (repeat' (first | exact trivial | constructor)); first | done | fail), (by (repeat' (first | exact trivial | constructor)); first | done | fail)⟩ ?_) | (refine vcall_pure (haw) rfl rfl rfl ?_) | (refine br_dec (fun h => ?_) (fun h => ?_) <;> try (exfalso; omega)) | (refine br_ndec (fun h => ?_) (fun h => ?_) <;> try (exfalso; omega)) | refine br_seq (fun h => ?_) (fun h => ?_) | refine br_nseq (fun h => ?_) (fun h => ?_) | refine br_not (fun h => ?_) (fun h => ?_) | refine br_intro (fun h => ?_) (fun h => ?_) | (refine cond_intro ?_ ?_; (first | omega | (dsimp only; omega) | decide | (simp only [Nat.add_zero, Int.toNat_natCast, *]; omega))))
      all_goals (conv => whnf)
      all_goals exact ret_out (l := [0, 1]) rfl rfl trivial allRw_nil
  · have fN : Fit (wr q0_0 q0_1 N (newD 8)) := wr_fit _ _ new_fit N (by show 0 + N ≤ 4096; omega)
    have nN : (wr q0_0 q0_1 N (newD 8)).np = N := (wr_np _ _ _ _).trans (Nat.zero_add _)
    have gN := wr_pn q0_0 q0_1 new_fit rfl N (by omega)
    have kN : (wr q0_0 q0_1 N (newD 8)).kept = List.replicate 8 ⟨#[]⟩ := wr_kept _ _ _ N
    generalize hW : wr q0_0 q0_1 N (newD 8) = W at fN nN gN kN
    have k1 := disk_Down (crashD m W)
    rw [show (crashD m W).down = true from rfl] at k1
    have k2 := disk_Arm (crashD m W) 1 0
    rw [show armD (crashD m W) 1 0 = (crashD m W, 13) from rfl] at k2
    have k3 := disk_Recover (crashD m W)
    rw [rec_crash] at k3
    have f3 : Fit (rec1 (crashD m W)) := ⟨recoverD_ok (crashD_ok fN.ok _), rfl, fN.n8, rfl⟩
    have k4 := disk_Flush (rec1 (crashD m W)) f3.ok
    rw [flu_eq f3] at k4
    have f4 := flu_fit f3
    have e : (flu (rec1 (crashD (m : Int) W))).now = crashTo (bitU m) W.pn W.ps N (List.replicate 8 ⟨#[]⟩) := by
      show crashTo (crashB m) W.pn W.ps W.np W.kept = _
      rw [nN, kN]
      exact crashTo_bits _ _ _ _ _ _ (fun i hi => bit_eq m i (by omega) (by omega))
    have k5 := law_is (flu (rec1 (crashD (m : Int) W))) f4.ok f4.run f4.n8 (crashTo (bitU m) W.pn W.ps N (List.replicate 8 ⟨#[]⟩)) (by rw [crashTo_length]; rfl)
    rw [show decide ((flu (rec1 (crashD (m : Int) W))).now = crashTo (bitU m) W.pn W.ps N (List.replicate 8 ⟨#[]⟩)) = true from decide_eq_true e] at k5
    clear wq0_0 wq0_1 hw1 hw2 f3 f4 e
    refine fc_of mixed T_ok Try.func5 rfl (by kernel_rfl) (by kernel_rfl) (by kernel_rfl) ?_
    repeat' ((conv => whnf); first | (refine vcall_out (l :=  [0, 1]) (s0 ) ⟨rfl, rfl, rfl, rfl, (by (repeat' (first | exact trivial | constructor)); first | done | fail), (by (repeat' (first | exact trivial | constructor)); first | done | fail)⟩ ?_) | (refine vcall_out (l :=  [0]) (dN ) ⟨rfl, rfl, rfl, rfl, (by (repeat' (first | exact trivial | constructor)); first | done | fail), (by (repeat' (first | exact trivial | constructor)); first | done | fail)⟩ ?_) | (refine vcall_out (l :=  [0, 2, 3, 4, 5]) (ar ) ⟨rfl, rfl, rfl, rfl, (by (repeat' (first | exact trivial | constructor)); first | done | fail), (by (repeat' (first | exact trivial | constructor)); first | done | fail)⟩ ?_) | (refine cond_intro (by rw [Int.tmod_eq_emod_of_nonneg hn1.1]; dsimp only; omega) ?_) | (refine br_dec (fun h => ?_) (fun h => ?_) <;> try (exfalso; omega)) | (refine br_ndec (fun h => ?_) (fun h => ?_) <;> try (exfalso; omega)) | refine br_seq (fun h => ?_) (fun h => ?_) | refine br_nseq (fun h => ?_) (fun h => ?_) | refine br_not (fun h => ?_) (fun h => ?_) | refine br_intro (fun h => ?_) (fun h => ?_) | (refine cond_intro ?_ ?_; (first | omega | (dsimp only; omega) | decide | (simp only [Nat.add_zero, Int.toNat_natCast, *]; omega))))
    all_goals (conv => whnf)
    refine vloop_of (fun p : Nat × Dk => ⟨[(0, .sl 1 0 0 l0), (2, .int .u64 m), (7, .int .i64 N), (8, .ptr 2 0 0 0), (10, .ptr 6 0 0 0), (11, .int .i64 p.1)],
      (1, some (.one true (.cols l0 [.sc (.ints .u8 q0_0), .sc (.strs q0_1)]))) :: (6, some (.one false (.cols 8 [.sc (.strs (crashTo (bitU m) W.pn W.ps p.1 (List.replicate 8 ⟨#[]⟩)))]))) :: dkA p.2, 7⟩) (fun p => p.1 ≤ N ∧ ((p.1 < N ∧ p.2 = tick (wr q0_0 q0_1 p.1 (newD 8)) ((N : Int) - (p.1 : Int)) m) ∨ (p.1 = N ∧ p.2 = crashD m W))) (fun p => N - p.1) (0, tick (newD 8) N m) [0, 1, 2, 3, 4, 5, 6] [] ⟨rfl, ⟨rfl, rfl, congrArg (fun z => some (SV.int .i64 z)) hNe, rfl, rfl, rfl, trivial⟩, ⟨rfl, rfl, rfl, rfl, rfl, rfl, trivial⟩⟩ ⟨by dsimp only; omega, Or.inl ⟨by dsimp only; omega, by dsimp only; rw [show ((N : Int) - ((0 : Nat) : Int)) = N from by omega]; rfl⟩⟩ ?_
    rintro ⟨k, d⟩ ⟨hk, ⟨hlt, hd⟩ | ⟨hlt, hd⟩⟩
    · dsimp only at hk hlt hd
      subst hd
      have hll : k < l0 := by omega
      have hbk := hq k hll
      have hm8 : (q0_0.getD k 0).tmod 8 = q0_0.getD k 0 % 8 := Int.tmod_eq_emod_of_nonneg hbk.1
      have hwi : IntKind.i64.wrap ((q0_0.getD k 0).tmod 8) = q0_0.getD k 0 % 8 := by rw [hm8, w64_in (by omega) (by omega)]
      have f := wr_fit q0_0 q0_1 new_fit k (by show 0 + k ≤ 4096; omega)
      have hnp : (wr q0_0 q0_1 k (newD 8)).np = k := (wr_np _ _ _ _).trans (Nat.zero_add _)
      have hg := gN k hlt
      have hc8 : 0 ≤ (q0_0.getD k 0).tmod 8 ∧ (q0_0.getD k 0).tmod 8 < ((8 : Nat) : Int) := by omega
      have hc9 : ((q0_0.getD k 0).tmod 8).toNat < 8 := by omega
      have hc0 : 0 ≤ IntKind.u64.wrap (k : Int) := by rw [w64u_nat k (by omega)]; omega
      have hku : IntKind.u64.wrap (k : Int) = k := w64u_nat k (by omega)
      have hb : bitU m k = decide (iand .u64 (ishr .u64 (m : Int) (IntKind.u64.wrap (k : Int))) 1 = 1) := by rw [hku]; rfl
      have hw := disk_Write (tick (wr q0_0 q0_1 k (newD 8)) ((N : Int) - (k : Int)) m) (tick_ok f.ok _ (by omega)) (IntKind.i64.wrap ((q0_0.getD k 0).tmod 8)) (q0_1.getD k ⟨#[]⟩)
      by_cases hl : k + 1 = N
      · rw [show writeD (tick (wr q0_0 q0_1 k (newD 8)) ((N : Int) - (k : Int)) m) (IntKind.i64.wrap ((q0_0.getD k 0).tmod 8)) (q0_1.getD k ⟨#[]⟩) = (crashD m W, 13) from by
          rw [hwi, show (N : Int) - (k : Int) = 1 from by omega, write_last f m (by omega) (y0.2 k hll) (by omega), ← hW, ← hl]; rfl] at hw
        repeat' ((conv => whnf); first | (refine vcallD_out (l :=  [0, 2, 3, 4, 5]) (hw ) ⟨rfl, rfl, rfl, rfl, (by (repeat' (first | exact trivial | constructor)); first | done | fail), (by (repeat' (first | exact trivial | constructor)); first | done | fail)⟩ ?_) | (refine vcall_out (l :=  [0, 2, 3, 4, 5]) (hw ) ⟨rfl, rfl, rfl, rfl, (by (repeat' (first | exact trivial | constructor)); first | done | fail), (by (repeat' (first | exact trivial | constructor)); first | done | fail)⟩ ?_) | (refine cond_intro hc8 ?_) | (refine cond_intro hc9 ?_) | (refine cond_intro hc0 ?_) | (refine br_dec (fun h => ?_) (fun h => ?_) <;> try (exfalso; omega)) | (refine br_ndec (fun h => ?_) (fun h => ?_) <;> try (exfalso; omega)) | refine br_seq (fun h => ?_) (fun h => ?_) | refine br_nseq (fun h => ?_) (fun h => ?_) | refine br_not (fun h => ?_) (fun h => ?_) | refine br_intro (fun h => ?_) (fun h => ?_) | (refine cond_intro ?_ ?_; (first | omega | (dsimp only; omega) | decide | (simp only [Nat.add_zero, Int.toNat_natCast, *]; omega))))
        all_goals (conv => whnf)
        all_goals first | rw [decide_eq_true (by assumption)] at hb | rw [decide_eq_false (by assumption)] at hb
        all_goals refine ⟨(k + 1, crashD m W), [0, 1, 2, 3, 4, 7, 6], [], ⟨by dsimp only; omega, Or.inr ⟨hl, rfl⟩⟩, by dsimp only; omega, ⟨rfl, ⟨rfl, rfl, rfl, rfl, rfl, congrArg (fun z => some (SV.int .i64 z)) (i64_succ (by omega)), trivial⟩, ⟨rfl, ?_, rfl, rfl, rfl, rfl, trivial⟩⟩⟩
        all_goals refine congrArg (fun z => some (HB.one false (.cols 8 [.sc (.strs z)]))) ?_
        all_goals (simp only [crashTo, hb, hg.1, hg.2, ← hm8]; rfl)
      · rw [show writeD (tick (wr q0_0 q0_1 k (newD 8)) ((N : Int) - (k : Int)) m) (IntKind.i64.wrap ((q0_0.getD k 0).tmod 8)) (q0_1.getD k ⟨#[]⟩) = (tick (wr q0_0 q0_1 (k + 1) (newD 8)) ((N : Int) - ((k + 1 : Nat) : Int)) m, 0) from by
          rw [hwi, write_tick f m (by omega) (y0.2 k hll) (by omega) (by omega), show (N : Int) - (k : Int) - 1 = (N : Int) - ((k + 1 : Nat) : Int) from by omega]; rfl] at hw
        repeat' ((conv => whnf); first | (refine vcallD_out (l :=  [0, 2, 3, 4, 5]) (hw ) ⟨rfl, rfl, rfl, rfl, (by (repeat' (first | exact trivial | constructor)); first | done | fail), (by (repeat' (first | exact trivial | constructor)); first | done | fail)⟩ ?_) | (refine vcall_out (l :=  [0, 2, 3, 4, 5]) (hw ) ⟨rfl, rfl, rfl, rfl, (by (repeat' (first | exact trivial | constructor)); first | done | fail), (by (repeat' (first | exact trivial | constructor)); first | done | fail)⟩ ?_) | (refine cond_intro hc8 ?_) | (refine cond_intro hc9 ?_) | (refine cond_intro hc0 ?_) | (refine br_dec (fun h => ?_) (fun h => ?_) <;> try (exfalso; omega)) | (refine br_ndec (fun h => ?_) (fun h => ?_) <;> try (exfalso; omega)) | refine br_seq (fun h => ?_) (fun h => ?_) | refine br_nseq (fun h => ?_) (fun h => ?_) | refine br_not (fun h => ?_) (fun h => ?_) | refine br_intro (fun h => ?_) (fun h => ?_) | (refine cond_intro ?_ ?_; (first | omega | (dsimp only; omega) | decide | (simp only [Nat.add_zero, Int.toNat_natCast, *]; omega))))
        all_goals (conv => whnf)
        all_goals first | rw [decide_eq_true (by assumption)] at hb | rw [decide_eq_false (by assumption)] at hb
        all_goals refine ⟨(k + 1, tick (wr q0_0 q0_1 (k + 1) (newD 8)) ((N : Int) - ((k + 1 : Nat) : Int)) m), [0, 1, 2, 3, 4, 7, 6], [], ⟨by dsimp only; omega, Or.inl ⟨by dsimp only; omega, rfl⟩⟩, by dsimp only; omega, ⟨rfl, ⟨rfl, rfl, rfl, rfl, rfl, congrArg (fun z => some (SV.int .i64 z)) (i64_succ (by omega)), trivial⟩, ⟨rfl, ?_, rfl, rfl, rfl, rfl, trivial⟩⟩⟩
        all_goals refine congrArg (fun z => some (HB.one false (.cols 8 [.sc (.strs z)]))) ?_
        all_goals (simp only [crashTo, hb, hg.1, hg.2, ← hm8]; rfl)
    · dsimp only at hk hlt hd
      subst hd
      subst hlt
      repeat' ((conv => whnf); first | (refine vcall_out (l :=  [0, 2, 3, 4, 5]) (k1 ) ⟨rfl, rfl, rfl, rfl, (by (repeat' (first | exact trivial | constructor)); first | done | fail), (by (repeat' (first | exact trivial | constructor)); first | done | fail)⟩ ?_) | (refine vcall_out (l :=  [0, 2, 3, 4, 5]) (k2 ) ⟨rfl, rfl, rfl, rfl, (by (repeat' (first | exact trivial | constructor)); first | done | fail), (by (repeat' (first | exact trivial | constructor)); first | done | fail)⟩ ?_) | (refine vcall_out (l :=  [0, 2, 3, 4, 5]) (k3 ) ⟨rfl, rfl, rfl, rfl, (by (repeat' (first | exact trivial | constructor)); first | done | fail), (by (repeat' (first | exact trivial | constructor)); first | done | fail)⟩ ?_) | (refine vcall_out (l :=  [0, 2, 3, 4, 5]) (k4 ) ⟨rfl, rfl, rfl, rfl, (by (repeat' (first | exact trivial | constructor)); first | done | fail), (by (repeat' (first | exact trivial | constructor)); first | done | fail)⟩ ?_) | (refine vcall_out (l :=  [0, 2, 3, 4, 7]) (k5 ) ⟨rfl, rfl, rfl, rfl, (by (repeat' (first | exact trivial | constructor)); first | done | fail), (by (repeat' (first | exact trivial | constructor)); first | done | fail)⟩ ?_) | (refine vcall_pure (haw) rfl rfl rfl ?_) | (refine br_dec (fun h => ?_) (fun h => ?_) <;> try (exfalso; omega)) | (refine br_ndec (fun h => ?_) (fun h => ?_) <;> try (exfalso; omega)) | refine br_seq (fun h => ?_) (fun h => ?_) | refine br_nseq (fun h => ?_) (fun h => ?_) | refine br_not (fun h => ?_) (fun h => ?_) | refine br_intro (fun h => ?_) (fun h => ?_) | (refine cond_intro ?_ ?_; (first | omega | (dsimp only; omega) | decide | (simp only [Nat.add_zero, Int.toNat_natCast, *]; omega))))
      all_goals (conv => whnf)
      all_goals exact ret_out (l := [0, 1]) rfl rfl trivial allRw_nil
end Go.Proofs.Ytmbbmdccpmmifaa
