/- The law DiskCrashes. -/
import Derived.Test.YtmbbmdccpmmifaaDiskLaws
namespace Go.Proofs.Ytmbbmdccpmmifaa
open Go.RowKit Go.Sy
attribute [local irreducible] vcall vloop vcallD retP
set_option maxRecDepth 100000
set_option linter.unusedVariables false

theorem w64u_nat (x : Nat) (h : x < 2 ^ 64) : IntKind.u64.wrap (x : Int) = (x : Int) := by
  have e : IntKind.u64.wrap (x : Int) = (x : Int) % 18446744073709551616 := rfl
  rw [e]; omega
theorem w8_nat (x : Nat) : IntKind.u8.wrap (x : Int) = ((x % 256 : Nat) : Int) := by
  have e : IntKind.u8.wrap (x : Int) = (x : Int) % 256 := rfl
  rw [e]; omega
theorem iand_one64 (x : Nat) (h : x < 2 ^ 64) : iand .u64 (x : Int) 1 = ((x % 2 : Nat) : Int) := by
  unfold iand
  have e : (BitVec.ofInt IntKind.u64.bits (x : Int) &&& BitVec.ofInt IntKind.u64.bits 1).toNat = x % 2 := by
    rw [show (1 : Int) = ((1 : Nat) : Int) from rfl, BitVec.ofInt_natCast, BitVec.ofInt_natCast, BitVec.toNat_and, BitVec.toNat_ofNat, BitVec.toNat_ofNat]
    rw [show IntKind.u64.bits = 64 from rfl, Nat.mod_eq_of_lt h, show 1 % 2 ^ 64 = 1 from rfl, Nat.and_one_is_mod]
  rw [e]
  have : x % 2 < 2 := Nat.mod_lt _ (by omega)
  exact w64u_nat _ (by omega)
theorem iand_one8 (x : Nat) (h : x < 2 ^ 8) : iand .u8 (x : Int) 1 = ((x % 2 : Nat) : Int) := by
  unfold iand
  have e : (BitVec.ofInt IntKind.u8.bits (x : Int) &&& BitVec.ofInt IntKind.u8.bits 1).toNat = x % 2 := by
    rw [show (1 : Int) = ((1 : Nat) : Int) from rfl, BitVec.ofInt_natCast, BitVec.ofInt_natCast, BitVec.toNat_and, BitVec.toNat_ofNat, BitVec.toNat_ofNat]
    rw [show IntKind.u8.bits = 8 from rfl, Nat.mod_eq_of_lt h, show 1 % 2 ^ 8 = 1 from rfl, Nat.and_one_is_mod]
  rw [e, w8_nat]
  have : x % 2 < 2 := Nat.mod_lt _ (by omega)
  rw [Nat.mod_eq_of_lt (a := x % 2) (by omega)]
theorem ishr_nat (k : IntKind) (x n : Nat) (h : n ≤ k.bits) : ishr k (x : Int) (n : Int) = ((x / 2 ^ n : Nat) : Int) := by
  unfold ishr
  rw [Int.toNat_natCast, Nat.min_eq_left h, Int.fdiv_eq_ediv_of_nonneg _ (by exact_mod_cast Nat.zero_le _)]
  push_cast
  rfl
theorem dec_nat (a b : Nat) : decide ((a : Int) = (b : Int)) = decide (a = b) := by simp [Int.ofNat_inj]

theorem bit_eq (m k : Nat) (hm : m < 2 ^ 64) (hk : k < 64) : crashB (m : Int) k = decide (iand .u64 (ishr .u64 (m : Int) (k : Int)) 1 = 1) := by
  have lt1 : m / 2 ^ k < 2 ^ 64 := Nat.lt_of_le_of_lt (Nat.div_le_self _ _) hm
  have e1 : crashB (m : Int) k = bitM m k := by
    unfold crashB
    rw [Nat.mod_eq_of_lt hk, List.getD, bpre_get _ _ _ _ hk]
    simp [hk]
  have lt2 : m / 2 ^ (8 * (k / 8)) % 256 / 2 ^ (k % 8) < 2 ^ 8 := Nat.lt_of_le_of_lt (Nat.div_le_self _ _) (Nat.mod_lt _ (by omega))
  rw [e1]
  unfold bitM
  rw [bitB_eq, ishr_nat _ _ _ (by show 8 * (k / 8) ≤ 64; omega), w8_nat, ishr_nat _ _ _ (by show k % 8 ≤ 8; omega), iand_one8 _ lt2, ishr_nat _ _ _ (by show k ≤ 64; omega), iand_one64 _ lt1]
  rw [show (1 : Int) = ((1 : Nat) : Int) from rfl, dec_nat, dec_nat, ← Nat.testBit_eq_decide_div_mod_eq, ← Nat.testBit_eq_decide_div_mod_eq, show 256 = 2 ^ 8 from rfl, Nat.testBit_mod_two_pow, Nat.testBit_div_two_pow]
  rw [show k % 8 + 8 * (k / 8) = k from Nat.mod_add_div k 8]
  simp [Nat.mod_lt]

theorem wr_pn (cn : List Int) (ct : List ByteArray) {d : Dk} (h : Fit d) (h0 : d.np = 0) : ∀ k, k ≤ 4096 → ∀ i, i < k → (wr cn ct k d).pn.getD i 0 = cn.getD i 0 % 8 ∧ (wr cn ct k d).ps.getD i ⟨#[]⟩ = ct.getD i ⟨#[]⟩
  | 0, _, i, hi => by omega
  | k + 1, hk, i, hi => by
    have f := (wr_fit cn ct h k (by omega)).ok
    have hp := wr_np cn ct d k
    have h1 := f.pl
    have h2 := f.sl
    show ((wr cn ct k d).pn ++ [cn.getD k 0 % 8]).getD i 0 = _ ∧ ((wr cn ct k d).ps ++ [ct.getD k ⟨#[]⟩]).getD i ⟨#[]⟩ = _
    by_cases e : i = k
    · subst e
      rw [getD_app_eq _ _ _ _ (by omega), getD_app_eq _ _ _ _ (by omega)]
      exact ⟨rfl, rfl⟩
    · rw [getD_app_lt _ _ _ _ (by omega), getD_app_lt _ _ _ _ (by omega)]
      exact wr_pn cn ct h h0 k (by omega) i (by omega)

def bitU (m : Int) (k : Nat) : Bool := decide (iand .u64 (ishr .u64 m (k : Int)) 1 = 1)

theorem diskCrashes_fc (l0 : Nat) (hl0 : l0 ≤ maxLen) (q0_0 : List Int) (eq0_0 : q0_0.length = l0) (wq0_0 : ∀ x ∈ q0_0, (Lit.int .u8 x).wf = true) (q0_1 : List ByteArray) (eq0_1 : q0_1.length = l0) (wq0_1 : ∀ x ∈ q0_1, x.size ≤ maxLen) (l1 : Nat) (hl1 : l1 ≤ maxLen) (q1_0 : List Int) (eq1_0 : q1_0.length = l1) (wq1_0 : ∀ x ∈ q1_0, (Lit.int .u8 x).wf = true) (q1_1 : List ByteArray) (eq1_1 : q1_1.length = l1) (wq1_1 : ∀ x ∈ q1_1, x.size ≤ maxLen) (n2 : Int) (hw2 : (Lit.int .u64 n2).wf = true) :
    FC Try.prog 3 4 [.sl 1 0 0 l0, .sl 2 0 0 l1, .int .u64 n2] [(1, some (.one true (.cols l0 [.sc (.ints .u8 q0_0), .sc (.strs q0_1)]))), (2, some (.one true (.cols l1 [.sc (.ints .u8 q1_0), .sc (.strs q1_1)])))] (isOut (.bool true) [] 3) := by
  have s0 := law_short l0 q0_0 q0_1 hl0
  have s1 := law_short l1 q1_0 q1_1 hl1
  have haw := law_awake
  cases h0 : shortB l0 q0_1
  · rw [h0] at s0
    refine fc_of mixed T_ok Try.func4 rfl (by kernel_rfl) (by kernel_rfl) (by kernel_rfl) ?_
    repeat' ((conv => whnf); first | (refine vcall_out (l :=  [0, 1]) (s0 ) ⟨rfl, rfl, rfl, rfl, (by (repeat' (first | exact trivial | constructor)); first | done | fail), (by (repeat' (first | exact trivial | constructor)); first | done | fail)⟩ ?_) | (refine vcall_pure (haw) rfl rfl rfl ?_) | (refine br_dec (fun h => ?_) (fun h => ?_) <;> try (exfalso; omega)) | (refine br_ndec (fun h => ?_) (fun h => ?_) <;> try (exfalso; omega)) | refine br_seq (fun h => ?_) (fun h => ?_) | refine br_nseq (fun h => ?_) (fun h => ?_) | refine br_not (fun h => ?_) (fun h => ?_) | refine br_intro (fun h => ?_) (fun h => ?_) | (refine cond_intro ?_ ?_; (first | omega | (dsimp only; omega) | decide | (simp only [Nat.add_zero, Int.toNat_natCast, *]; omega))))
    all_goals (conv => whnf)
    all_goals exact ret_out (l := [0, 1, 2]) rfl rfl trivial allRw_nil
  cases h1 : shortB l1 q1_1
  · rw [h0] at s0
    rw [h1] at s1
    refine fc_of mixed T_ok Try.func4 rfl (by kernel_rfl) (by kernel_rfl) (by kernel_rfl) ?_
    repeat' ((conv => whnf); first | (refine vcall_out (l :=  [0, 1]) (s0 ) ⟨rfl, rfl, rfl, rfl, (by (repeat' (first | exact trivial | constructor)); first | done | fail), (by (repeat' (first | exact trivial | constructor)); first | done | fail)⟩ ?_) | (refine vcall_out (l :=  [0, 2]) (s1 ) ⟨rfl, rfl, rfl, rfl, (by (repeat' (first | exact trivial | constructor)); first | done | fail), (by (repeat' (first | exact trivial | constructor)); first | done | fail)⟩ ?_) | (refine vcall_pure (haw) rfl rfl rfl ?_) | (refine br_dec (fun h => ?_) (fun h => ?_) <;> try (exfalso; omega)) | (refine br_ndec (fun h => ?_) (fun h => ?_) <;> try (exfalso; omega)) | refine br_seq (fun h => ?_) (fun h => ?_) | refine br_nseq (fun h => ?_) (fun h => ?_) | refine br_not (fun h => ?_) (fun h => ?_) | refine br_intro (fun h => ?_) (fun h => ?_) | (refine cond_intro ?_ ?_; (first | omega | (dsimp only; omega) | decide | (simp only [Nat.add_zero, Int.toNat_natCast, *]; omega))))
    all_goals (conv => whnf)
    all_goals exact ret_out (l := [0, 1, 2]) rfl rfl trivial allRw_nil
  rw [h0] at s0
  rw [h1] at s1
  have y0 := shortB_yes h0
  have y1 := shortB_yes h1
  have hq := u8_getD wq1_0
  rw [eq1_0] at hq
  have dN := disk_New 8 (by omega)
  have w1 := law_write (newD 8) new_fit l0 q0_0 q0_1 (by rw [← eq0_0]; exact u8_getD wq0_0) y0.2 (by show 0 + l0 ≤ 4096; omega) y0.1
  have f1 : Fit (wr q0_0 q0_1 l0 (newD 8)) := wr_fit _ _ new_fit l0 (by show 0 + l0 ≤ 4096; omega)
  have o1 : Whole (wr q0_0 q0_1 l0 (newD 8)) := wr_whole _ _ new_fit new_whole l0 (by show 0 + l0 ≤ 4096; omega)
  generalize wr q0_0 q0_1 l0 (newD 8) = d1 at w1 f1 o1
  have i1 := law_is d1 f1.ok f1.run f1.n8 d1.now (by rw [f1.ok.nl, f1.n8])
  rw [show decide (d1.now = d1.now) = true from decide_eq_true rfl] at i1
  have wf := disk_Flush d1 f1.ok
  rw [flu_eq f1] at wf
  have p1 := disk_Pending (flu d1)
  have w2 := law_write (flu d1) (flu_fit f1) l1 q1_0 q1_1 hq y1.2 (by show 0 + l1 ≤ 4096; omega) y1.1
  have f2 : Fit (wr q1_0 q1_1 l1 (flu d1)) := wr_fit _ _ (flu_fit f1) l1 (by show 0 + l1 ≤ 4096; omega)
  have n2' : (wr q1_0 q1_1 l1 (flu d1)).np = l1 := (wr_np _ _ _ _).trans (Nat.zero_add _)
  have k2 : (wr q1_0 q1_1 l1 (flu d1)).kept = d1.now := (wr_kept _ _ _ l1).trans (flu_kept o1)
  have g2 := wr_pn q1_0 q1_1 (flu_fit f1) rfl l1 (by omega)
  generalize wr q1_0 q1_1 l1 (flu d1) = d2 at w2 f2 n2' k2 g2
  have i2 := law_is d2 f2.ok f2.run f2.n8 d2.now (by rw [f2.ok.nl, f2.n8])
  rw [show decide (d2.now = d2.now) = true from decide_eq_true rfl] at i2
  have p2 := disk_Pending d2
  rw [n2'] at p2
  have wc := disk_Crash d2 f2.ok n2
  rw [crashed_eq f2, runE_eq f2] at wc
  have dn3 := disk_Down (crashD n2 d2)
  have p3 := disk_Pending (crashD n2 d2)
  have rd := disk_Read (crashD n2 d2) 0
  rw [show readD (crashD n2 d2) 0 = (⟨#[]⟩, 13) from rfl] at rd
  have wf3 := disk_Flush (crashD n2 d2) (crashD_ok f2.ok _)
  rw [show flushD (crashD n2 d2) = (crashD n2 d2, 13) from rfl] at wf3
  have r1 := disk_Recover (crashD n2 d2)
  rw [rec_crash] at r1
  have dn4 := disk_Down (rec1 (crashD n2 d2))
  have f3 : (rec1 (crashD n2 d2)).ok := recoverD_ok (crashD_ok f2.ok _)
  have g3 : (rec1 (crashD n2 d2)).nn = 8 := f2.n8
  have hm : 0 ≤ n2 ∧ n2 ≤ 18446744073709551615 := by
    simp only [Lit.wf, Bool.and_eq_true, decide_eq_true_eq] at hw2
    exact hw2
  obtain ⟨m, rfl⟩ := Int.eq_ofNat_of_zero_le hm.1
  have e : (rec1 (crashD (m : Int) d2)).now = crashTo (bitU m) d2.pn d2.ps l1 d1.now := by
    show crashTo (crashB m) d2.pn d2.ps d2.np d2.kept = _
    rw [n2', k2]
    exact crashTo_bits _ _ _ _ _ _ (fun i hi => bit_eq m i (by omega) (by omega))
  have wi := law_is (rec1 (crashD m d2)) f3 rfl g3 (crashTo (bitU m) d2.pn d2.ps l1 d1.now) (by rw [crashTo_length, f1.ok.nl, f1.n8])
  rw [show decide ((rec1 (crashD (m : Int) d2)).now = crashTo (bitU m) d2.pn d2.ps l1 d1.now) = true from decide_eq_true e] at wi
  have y60 := y1.1
  clear wq0_0 wq0_1 wq1_0 wq1_1 y0 y1 o1 k2 e f3 g3 f1 f2 hw2
  refine fc_of mixed T_ok Try.func4 rfl (by kernel_rfl) (by kernel_rfl) (by kernel_rfl) ?_
  repeat' ((conv => whnf); first | (refine vcall_out (l :=  [0, 1]) (s0 ) ⟨rfl, rfl, rfl, rfl, (by (repeat' (first | exact trivial | constructor)); first | done | fail), (by (repeat' (first | exact trivial | constructor)); first | done | fail)⟩ ?_) | (refine vcall_out (l :=  [0, 2]) (s1 ) ⟨rfl, rfl, rfl, rfl, (by (repeat' (first | exact trivial | constructor)); first | done | fail), (by (repeat' (first | exact trivial | constructor)); first | done | fail)⟩ ?_) | (refine vcall_out (l :=  [0]) (dN ) ⟨rfl, rfl, rfl, rfl, (by (repeat' (first | exact trivial | constructor)); first | done | fail), (by (repeat' (first | exact trivial | constructor)); first | done | fail)⟩ ?_) | (refine vcall_out (l :=  [0, 3, 4, 5, 6, 1]) (w1 ) ⟨rfl, rfl, rfl, rfl, (by (repeat' (first | exact trivial | constructor)); first | done | fail), (by (repeat' (first | exact trivial | constructor)); first | done | fail)⟩ ?_) | (refine vcall_out (l :=  [0, 3, 4, 5, 7]) (i1 ) ⟨rfl, rfl, rfl, rfl, (by (repeat' (first | exact trivial | constructor)); first | done | fail), (by (repeat' (first | exact trivial | constructor)); first | done | fail)⟩ ?_) | (refine vcall_out (l :=  [0, 3, 4, 5, 7]) (wf ) ⟨rfl, rfl, rfl, rfl, (by (repeat' (first | exact trivial | constructor)); first | done | fail), (by (repeat' (first | exact trivial | constructor)); first | done | fail)⟩ ?_) | (refine vcall_out (l :=  [0, 3, 4, 5, 9]) (p1 ) ⟨rfl, rfl, rfl, rfl, (by (repeat' (first | exact trivial | constructor)); first | done | fail), (by (repeat' (first | exact trivial | constructor)); first | done | fail)⟩ ?_) | (refine vcall_out (l :=  [0, 3, 4, 5, 9, 2]) (w2 ) ⟨rfl, rfl, rfl, rfl, (by (repeat' (first | exact trivial | constructor)); first | done | fail), (by (repeat' (first | exact trivial | constructor)); first | done | fail)⟩ ?_) | (refine vcall_out (l :=  [0, 3, 4, 5, 10]) (i2 ) ⟨rfl, rfl, rfl, rfl, (by (repeat' (first | exact trivial | constructor)); first | done | fail), (by (repeat' (first | exact trivial | constructor)); first | done | fail)⟩ ?_) | (refine vcall_out (l :=  [0, 3, 4, 5, 10]) (p2 ) ⟨rfl, rfl, rfl, rfl, (by (repeat' (first | exact trivial | constructor)); first | done | fail), (by (repeat' (first | exact trivial | constructor)); first | done | fail)⟩ ?_) | (refine vcall_out (l :=  [0, 3, 4, 5, 10]) (wc ) ⟨rfl, rfl, rfl, rfl, (by (repeat' (first | exact trivial | constructor)); first | done | fail), (by (repeat' (first | exact trivial | constructor)); first | done | fail)⟩ ?_) | (refine vcall_out (l :=  [0, 3, 4, 5, 12]) (dn3 ) ⟨rfl, rfl, rfl, rfl, (by (repeat' (first | exact trivial | constructor)); first | done | fail), (by (repeat' (first | exact trivial | constructor)); first | done | fail)⟩ ?_) | (refine vcall_out (l :=  [0, 3, 4, 5, 12]) (p3 ) ⟨rfl, rfl, rfl, rfl, (by (repeat' (first | exact trivial | constructor)); first | done | fail), (by (repeat' (first | exact trivial | constructor)); first | done | fail)⟩ ?_) | (refine vcall_out (l :=  [0, 3, 4, 5, 12]) (rd ) ⟨rfl, rfl, rfl, rfl, (by (repeat' (first | exact trivial | constructor)); first | done | fail), (by (repeat' (first | exact trivial | constructor)); first | done | fail)⟩ ?_) | (refine vcall_out (l :=  [0, 3, 4, 5, 12]) (wf3 ) ⟨rfl, rfl, rfl, rfl, (by (repeat' (first | exact trivial | constructor)); first | done | fail), (by (repeat' (first | exact trivial | constructor)); first | done | fail)⟩ ?_) | (refine vcall_out (l :=  [0, 3, 4, 5, 13]) (r1 ) ⟨rfl, rfl, rfl, rfl, (by (repeat' (first | exact trivial | constructor)); first | done | fail), (by (repeat' (first | exact trivial | constructor)); first | done | fail)⟩ ?_) | (refine vcall_out (l :=  [0, 3, 4, 5, 13]) (dn4 ) ⟨rfl, rfl, rfl, rfl, (by (repeat' (first | exact trivial | constructor)); first | done | fail), (by (repeat' (first | exact trivial | constructor)); first | done | fail)⟩ ?_) | (refine br_dec (fun h => ?_) (fun h => ?_) <;> try (exfalso; omega)) | (refine br_ndec (fun h => ?_) (fun h => ?_) <;> try (exfalso; omega)) | refine br_seq (fun h => ?_) (fun h => ?_) | refine br_nseq (fun h => ?_) (fun h => ?_) | refine br_not (fun h => ?_) (fun h => ?_) | refine br_intro (fun h => ?_) (fun h => ?_) | (refine cond_intro ?_ ?_; (first | omega | (dsimp only; omega) | decide | (simp only [Nat.add_zero, Int.toNat_natCast, *]; omega))))
  all_goals (conv => whnf)
  refine vloop_of (fun k : Nat => ⟨[(1, .sl 2 0 0 l1), (2, .int .u64 m), (7, .ptr 3 0 0 0), (9, .ptr 8 0 0 0), (14, .int .i64 k)],
    [(2, some (.one true (.cols l1 [.sc (.ints .u8 q1_0), .sc (.strs q1_1)]))), (3, some (.one false (.cells [.sl 4 0 0 d2.nn, .sl 5 0 0 d2.nn, .sl 13 0 0 0, .bool false, .int .i64 0, .int .u64 0]))),
     (5, some (.one false (.cols d2.nn [.sc (.strs (rec1 (crashD m d2)).now)]))), (8, some (.one false (.cols 8 [.sc (.strs (crashTo (bitU m) d2.pn d2.ps k d1.now))])))], 14⟩) (fun k => k ≤ l1) (fun k => l1 - k) 0 [0, 1, 2, 3, 4, 5, 6, 7, 8, 9, 10, 11, 12, 13] [] ⟨rfl, ⟨rfl, rfl, rfl, rfl, rfl, trivial⟩, ⟨rfl, rfl, rfl, rfl, trivial⟩⟩ (by omega) ?_
  intro k hk
  by_cases hlt : k < l1
  · have hbk := hq k hlt
    have hm8 : (q1_0.getD k 0).tmod 8 = q1_0.getD k 0 % 8 := Int.tmod_eq_emod_of_nonneg hbk.1
    have hg := g2 k hlt
    have hku : IntKind.u64.wrap (k : Int) = k := w64u_nat k (by omega)
    have hb : bitU m k = decide (iand .u64 (ishr .u64 (m : Int) (IntKind.u64.wrap (k : Int))) 1 = 1) := by rw [hku]; rfl
    repeat' ((conv => whnf); first | (refine cond_intro (by rw [hm8]; dsimp only; omega) ?_) | (refine cond_intro (by rw [hku]; omega) ?_) | (refine br_dec (fun h => ?_) (fun h => ?_) <;> try (exfalso; omega)) | (refine br_ndec (fun h => ?_) (fun h => ?_) <;> try (exfalso; omega)) | refine br_seq (fun h => ?_) (fun h => ?_) | refine br_nseq (fun h => ?_) (fun h => ?_) | refine br_not (fun h => ?_) (fun h => ?_) | refine br_intro (fun h => ?_) (fun h => ?_) | (refine cond_intro ?_ ?_; (first | omega | (dsimp only; omega) | decide | (simp only [Nat.add_zero, Int.toNat_natCast, *]; omega))))
    all_goals (conv => whnf)
    all_goals first | rw [decide_eq_true (by assumption)] at hb | rw [decide_eq_false (by assumption)] at hb
    all_goals refine ⟨k + 1, [0, 1, 2, 3, 4, 5, 6, 7, 8, 9, 10, 11, 12, 13], [], by omega, by omega, ⟨rfl, ⟨rfl, rfl, rfl, rfl, congrArg (fun z => some (SV.int .i64 z)) (i64_succ (by omega)), trivial⟩, ⟨rfl, rfl, rfl, ?_, trivial⟩⟩⟩
    all_goals refine congrArg (fun z => some (HB.one false (.cols 8 [.sc (.strs z)]))) ?_
    all_goals (simp only [crashTo, hb, hg.1, hg.2, ← hm8]; rfl)
  · have e : k = l1 := by omega
    subst e
    repeat' ((conv => whnf); first | (refine vcall_out (l :=  [0, 3, 4, 5, 13]) (wi ) ⟨rfl, rfl, rfl, rfl, (by (repeat' (first | exact trivial | constructor)); first | done | fail), (by (repeat' (first | exact trivial | constructor)); first | done | fail)⟩ ?_) | (refine vcall_pure (haw) rfl rfl rfl ?_) | (refine br_dec (fun h => ?_) (fun h => ?_) <;> try (exfalso; omega)) | (refine br_ndec (fun h => ?_) (fun h => ?_) <;> try (exfalso; omega)) | refine br_seq (fun h => ?_) (fun h => ?_) | refine br_nseq (fun h => ?_) (fun h => ?_) | refine br_not (fun h => ?_) (fun h => ?_) | refine br_intro (fun h => ?_) (fun h => ?_) | (refine cond_intro ?_ ?_; (first | omega | (dsimp only; omega) | decide | (simp only [Nat.add_zero, Int.toNat_natCast, *]; omega))))
    all_goals (conv => whnf)
    exact ret_out (l := [0, 1, 2]) rfl rfl trivial allRw_nil
end Go.Proofs.Ytmbbmdccpmmifaa
