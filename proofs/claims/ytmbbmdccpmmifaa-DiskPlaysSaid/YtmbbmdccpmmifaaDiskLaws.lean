/- The law DiskWhole. -/
import Derived.Test.YtmbbmdccpmmifaaDiskM
namespace Go.Proofs.Ytmbbmdccpmmifaa
open Go.RowKit Go.Sy
attribute [local irreducible] vcall vloop vcallD retP
set_option maxRecDepth 100000
set_option linter.unusedVariables false

theorem getD_app_lt {α : Type} (l m : List α) (i : Nat) (d : α) (h : i < l.length) : (l ++ m).getD i d = l.getD i d := by
  rw [List.getD, List.getD, List.getElem?_append_left h]
theorem getD_app_eq {α : Type} (l : List α) (x : α) (i : Nat) (d : α) (h : i = l.length) : (l ++ [x]).getD i d = x := by
  subst h; simp [List.getD]

theorem crashTo_ext (b : Nat → Bool) (pn pn' : List Int) (ps ps' l : List ByteArray) : ∀ k, (∀ i, i < k → pn.getD i 0 = pn'.getD i 0) → (∀ i, i < k → ps.getD i ⟨#[]⟩ = ps'.getD i ⟨#[]⟩) →
    crashTo b pn ps k l = crashTo b pn' ps' k l
  | 0, _, _ => rfl
  | k + 1, h1, h2 => by
    simp only [crashTo]
    rw [crashTo_ext b pn pn' ps ps' l k (fun i hi => h1 i (by omega)) (fun i hi => h2 i (by omega)), h1 k (by omega), h2 k (by omega)]
theorem crashTo_bits (b b' : Nat → Bool) (pn : List Int) (ps l : List ByteArray) : ∀ k, (∀ i, i < k → b i = b' i) → crashTo b pn ps k l = crashTo b' pn ps k l
  | 0, _ => rfl
  | k + 1, h => by
    simp only [crashTo]
    rw [crashTo_bits b b' pn ps l k (fun i hi => h i (by omega)), h k (by omega)]
theorem crashTo_none (pn : List Int) (ps l : List ByteArray) : ∀ k, crashTo (fun _ => false) pn ps k l = l
  | 0 => rfl
  | k + 1 => by simp only [crashTo, crashTo_none pn ps l k]; rfl

/-- All the pending writes on the flushed blocks make the blocks. -/
def Whole (d : Dk) : Prop := crashTo allB d.pn d.ps d.np d.kept = d.now
theorem putD_whole {d : Dk} (h : d.ok) (w : Whole d) (n : Int) (s : ByteArray) : Whole (putD d n s) := by
  unfold Whole at *
  show crashTo allB (d.pn ++ [n]) (d.ps ++ [s]) (d.np + 1) d.kept = d.now.set n.toNat s
  simp only [crashTo, allB, cond_true]
  rw [getD_app_eq _ _ _ _ h.pl.symm, getD_app_eq _ _ _ _ h.sl.symm,
    crashTo_ext _ (d.pn ++ [n]) d.pn (d.ps ++ [s]) d.ps d.kept d.np (fun i hi => getD_app_lt _ _ _ _ (by rw [h.pl]; exact hi)) (fun i hi => getD_app_lt _ _ _ _ (by rw [h.sl]; exact hi))]
  exact congrArg (fun z => z.set n.toNat s) w
theorem wr_whole (cn : List Int) (ct : List ByteArray) {d : Dk} (h : Fit d) (w : Whole d) : ∀ k, d.np + k ≤ 4096 → Whole (wr cn ct k d)
  | 0, _ => w
  | k + 1, hk => putD_whole (wr_fit cn ct h k (by omega)).ok (wr_whole cn ct h w k (by omega)) _ _
theorem wr_kept (cn : List Int) (ct : List ByteArray) (d : Dk) : ∀ k, (wr cn ct k d).kept = d.kept
  | 0 => rfl
  | k + 1 => wr_kept cn ct d k

theorem new_fit : Fit (newD 8) := ⟨newD_ok 8 (by omega), rfl, rfl, rfl⟩
theorem new_whole : Whole (newD 8) := rfl
def flu (d : Dk) : Dk := countD (keepD d)
theorem flu_fit {d : Dk} (h : Fit d) : Fit (flu d) := ⟨countD_ok (keepD_ok h.ok), h.run, h.n8, by show countZ d.steps = 0; rw [h.s0]; rfl⟩
theorem flu_kept {d : Dk} (w : Whole d) : (flu d).kept = d.now := w
theorem flu_whole {d : Dk} (w : Whole d) : Whole (flu d) := w
theorem flu_eq {d : Dk} (h : Fit d) : flushD d = (flu d, 0) := by unfold flushD; rw [if_neg (by simp [h.run]), if_neg (by rw [h.s0]; decide)]; rfl
theorem crashed_eq {d : Dk} (h : Fit d) (m : Int) : crashed m d = crashD m d := by unfold crashed; rw [if_neg (by simp [h.run])]
theorem runE_eq {d : Dk} (h : Fit d) : runE d = 0 := by unfold runE; rw [if_neg (by simp [h.run])]
def rec1 (d : Dk) : Dk := { d with down := false }
theorem rec_crash (m : Int) (d : Dk) : recoverD (crashD m d) = (rec1 (crashD m d), 0) := rfl
theorem rec_rec (d : Dk) : recoverD (rec1 d) = (rec1 d, 8) := rfl

theorem shortB_yes {n : Nat} {ct : List ByteArray} (h : shortB n ct = true) : n ≤ 60 ∧ ∀ i, i < n → (ct.getD i ⟨#[]⟩).size ≤ 64 := by
  unfold shortB at h; exact of_decide_eq_true h
theorem u8_getD {l : List Int} (w : ∀ x ∈ l, (Lit.int .u8 x).wf = true) : ∀ i, i < l.length → 0 ≤ l.getD i 0 ∧ l.getD i 0 ≤ 255 := by
  intro i hi
  have h := w _ (getD_mem l i 0 hi)
  generalize l.getD i 0 = z at h
  simp only [Lit.wf, Bool.and_eq_true, decide_eq_true_eq] at h
  exact h

theorem bits_none : ∀ k, crashB 0 k = false := by
  have h : ∀ j : Fin 64, (bpre (bitM 0) 64 64).getD j.val false = false := by
    unfold bpre bitM bitB; decide
  intro k
  exact h ⟨k % 64, Nat.mod_lt _ (by omega)⟩
theorem bits_all : ∀ k, crashB (IntKind.u64.wrap (0 - 1)) k = true := by
  have h : ∀ j : Fin 64, (bpre (bitM (IntKind.u64.wrap (0 - 1))) 64 64).getD j.val false = true := by
    unfold bpre bitM bitB; decide
  intro k
  exact h ⟨k % 64, Nat.mod_lt _ (by omega)⟩

theorem diskWhole_fc (l0 : Nat) (hl0 : l0 ≤ maxLen) (q0_0 : List Int) (eq0_0 : q0_0.length = l0) (wq0_0 : ∀ x ∈ q0_0, (Lit.int .u8 x).wf = true) (q0_1 : List ByteArray) (eq0_1 : q0_1.length = l0) (wq0_1 : ∀ x ∈ q0_1, x.size ≤ maxLen) (l1 : Nat) (hl1 : l1 ≤ maxLen) (q1_0 : List Int) (eq1_0 : q1_0.length = l1) (wq1_0 : ∀ x ∈ q1_0, (Lit.int .u8 x).wf = true) (q1_1 : List ByteArray) (eq1_1 : q1_1.length = l1) (wq1_1 : ∀ x ∈ q1_1, x.size ≤ maxLen) (b2 : Bool) :
    FC Try.prog 3 3 [.sl 1 0 0 l0, .sl 2 0 0 l1, .bool b2] [(1, some (.one true (.cols l0 [.sc (.ints .u8 q0_0), .sc (.strs q0_1)]))), (2, some (.one true (.cols l1 [.sc (.ints .u8 q1_0), .sc (.strs q1_1)])))] (isOut (.bool true) [] 3) := by
  have s0 := law_short l0 q0_0 q0_1 hl0
  have s1 := law_short l1 q1_0 q1_1 hl1
  have haw := law_awake
  cases h0 : shortB l0 q0_1
  · rw [h0] at s0
    refine fc_of mixed T_ok Try.func3 rfl (by kernel_rfl) (by kernel_rfl) (by kernel_rfl) ?_
    repeat' ((conv => whnf); first | (refine vcallD_out (l :=  [0, 1]) (s0 ) ⟨rfl, rfl, rfl, rfl, (by (repeat' (first | exact trivial | constructor)); first | done | fail), (by (repeat' (first | exact trivial | constructor)); first | done | fail)⟩ ?_) | (refine vcall_out (l :=  [0, 1]) (s0 ) ⟨rfl, rfl, rfl, rfl, (by (repeat' (first | exact trivial | constructor)); first | done | fail), (by (repeat' (first | exact trivial | constructor)); first | done | fail)⟩ ?_) | (refine vcallD_pure (haw) rfl rfl rfl ?_) | (refine vcall_pure (haw) rfl rfl rfl ?_) | (refine br_dec (fun h => ?_) (fun h => ?_) <;> try (exfalso; omega)) | (refine br_ndec (fun h => ?_) (fun h => ?_) <;> try (exfalso; omega)) | refine br_seq (fun h => ?_) (fun h => ?_) | refine br_nseq (fun h => ?_) (fun h => ?_) | refine br_not (fun h => ?_) (fun h => ?_) | refine br_intro (fun h => ?_) (fun h => ?_) | (refine cond_intro ?_ ?_; (first | omega | (dsimp only; omega) | decide | (simp only [Nat.add_zero, Int.toNat_natCast, *]; omega))))
    all_goals (conv => whnf)
    all_goals exact ret_out (l := [0, 1, 2]) rfl rfl trivial allRw_nil
  cases h1 : shortB l1 q1_1
  · rw [h0] at s0
    rw [h1] at s1
    refine fc_of mixed T_ok Try.func3 rfl (by kernel_rfl) (by kernel_rfl) (by kernel_rfl) ?_
    repeat' ((conv => whnf); first | (refine vcallD_out (l :=  [0, 1]) (s0 ) ⟨rfl, rfl, rfl, rfl, (by (repeat' (first | exact trivial | constructor)); first | done | fail), (by (repeat' (first | exact trivial | constructor)); first | done | fail)⟩ ?_) | (refine vcall_out (l :=  [0, 1]) (s0 ) ⟨rfl, rfl, rfl, rfl, (by (repeat' (first | exact trivial | constructor)); first | done | fail), (by (repeat' (first | exact trivial | constructor)); first | done | fail)⟩ ?_) | (refine vcallD_out (l :=  [0, 2]) (s1 ) ⟨rfl, rfl, rfl, rfl, (by (repeat' (first | exact trivial | constructor)); first | done | fail), (by (repeat' (first | exact trivial | constructor)); first | done | fail)⟩ ?_) | (refine vcall_out (l :=  [0, 2]) (s1 ) ⟨rfl, rfl, rfl, rfl, (by (repeat' (first | exact trivial | constructor)); first | done | fail), (by (repeat' (first | exact trivial | constructor)); first | done | fail)⟩ ?_) | (refine vcallD_pure (haw) rfl rfl rfl ?_) | (refine vcall_pure (haw) rfl rfl rfl ?_) | (refine br_dec (fun h => ?_) (fun h => ?_) <;> try (exfalso; omega)) | (refine br_ndec (fun h => ?_) (fun h => ?_) <;> try (exfalso; omega)) | refine br_seq (fun h => ?_) (fun h => ?_) | refine br_nseq (fun h => ?_) (fun h => ?_) | refine br_not (fun h => ?_) (fun h => ?_) | refine br_intro (fun h => ?_) (fun h => ?_) | (refine cond_intro ?_ ?_; (first | omega | (dsimp only; omega) | decide | (simp only [Nat.add_zero, Int.toNat_natCast, *]; omega))))
    all_goals (conv => whnf)
    all_goals exact ret_out (l := [0, 1, 2]) rfl rfl trivial allRw_nil
  rw [h0] at s0
  rw [h1] at s1
  have y0 := shortB_yes h0
  have y1 := shortB_yes h1
  have dN := disk_New 8 (by omega)
  have w1 := law_write (newD 8) new_fit l0 q0_0 q0_1 (by rw [← eq0_0]; exact u8_getD wq0_0) y0.2 (by show 0 + l0 ≤ 4096; omega) y0.1
  have f1 : Fit (wr q0_0 q0_1 l0 (newD 8)) := wr_fit _ _ new_fit l0 (by show 0 + l0 ≤ 4096; omega)
  have o1 : Whole (wr q0_0 q0_1 l0 (newD 8)) := wr_whole _ _ new_fit new_whole l0 (by show 0 + l0 ≤ 4096; omega)
  generalize wr q0_0 q0_1 l0 (newD 8) = d1 at w1 f1 o1
  have wf := disk_Flush d1 f1.ok
  rw [flu_eq f1] at wf
  have w2 := law_write (flu d1) (flu_fit f1) l1 q1_0 q1_1 (by rw [← eq1_0]; exact u8_getD wq1_0) y1.2 (by show 0 + l1 ≤ 4096; omega) y1.1
  have f2 : Fit (wr q1_0 q1_1 l1 (flu d1)) := wr_fit _ _ (flu_fit f1) l1 (by show 0 + l1 ≤ 4096; omega)
  have o2 : Whole (wr q1_0 q1_1 l1 (flu d1)) := wr_whole _ _ (flu_fit f1) (flu_whole o1) l1 (by show 0 + l1 ≤ 4096; omega)
  have k2 : (wr q1_0 q1_1 l1 (flu d1)).kept = d1.now := (wr_kept _ _ _ l1).trans (flu_kept o1)
  generalize wr q1_0 q1_1 l1 (flu d1) = d2 at w2 f2 o2 k2
  cases b2
  · have wc := disk_Crash d2 f2.ok 0
    rw [crashed_eq f2, runE_eq f2] at wc
    have r1 := disk_Recover (crashD 0 d2)
    rw [rec_crash] at r1
    have e : (rec1 (crashD 0 d2)).now = d1.now := by
      show crashTo (crashB 0) d2.pn d2.ps d2.np d2.kept = d1.now
      rw [crashTo_bits _ (fun _ => false) _ _ _ _ (fun i _ => bits_none i), crashTo_none, k2]
    have f3 : (rec1 (crashD 0 d2)).ok := recoverD_ok (crashD_ok f2.ok 0)
    have g3 : (rec1 (crashD 0 d2)).nn = 8 := f2.n8
    have r2 := disk_Recover (rec1 (crashD 0 d2))
    rw [rec_rec] at r2
    have wi := law_is (rec1 (crashD 0 d2)) f3 rfl g3 d1.now (by rw [f1.ok.nl, f1.n8])
    rw [show decide ((rec1 (crashD 0 d2)).now = d1.now) = true from decide_eq_true e] at wi
    clear wq0_0 wq0_1 wq1_0 wq1_1 y0 y1 o1 o2 k2 e f3 g3 f1 f2
    refine fc_of mixed T_ok Try.func3 rfl (by kernel_rfl) (by kernel_rfl) (by kernel_rfl) ?_
    repeat' ((conv => whnf); first | (refine vcallD_out (l :=  [0, 1]) (s0 ) ⟨rfl, rfl, rfl, rfl, (by (repeat' (first | exact trivial | constructor)); first | done | fail), (by (repeat' (first | exact trivial | constructor)); first | done | fail)⟩ ?_) | (refine vcall_out (l :=  [0, 1]) (s0 ) ⟨rfl, rfl, rfl, rfl, (by (repeat' (first | exact trivial | constructor)); first | done | fail), (by (repeat' (first | exact trivial | constructor)); first | done | fail)⟩ ?_) | (refine vcallD_out (l :=  [0, 2]) (s1 ) ⟨rfl, rfl, rfl, rfl, (by (repeat' (first | exact trivial | constructor)); first | done | fail), (by (repeat' (first | exact trivial | constructor)); first | done | fail)⟩ ?_) | (refine vcall_out (l :=  [0, 2]) (s1 ) ⟨rfl, rfl, rfl, rfl, (by (repeat' (first | exact trivial | constructor)); first | done | fail), (by (repeat' (first | exact trivial | constructor)); first | done | fail)⟩ ?_) | (refine vcall_out (l :=  [0]) (dN ) ⟨rfl, rfl, rfl, rfl, (by (repeat' (first | exact trivial | constructor)); first | done | fail), (by (repeat' (first | exact trivial | constructor)); first | done | fail)⟩ ?_) | (refine vcall_out (l :=  [0, 3, 4, 5, 6, 1]) (w1 ) ⟨rfl, rfl, rfl, rfl, (by (repeat' (first | exact trivial | constructor)); first | done | fail), (by (repeat' (first | exact trivial | constructor)); first | done | fail)⟩ ?_) | (refine vcall_out (l :=  [0, 3, 4, 5, 7]) (wf ) ⟨rfl, rfl, rfl, rfl, (by (repeat' (first | exact trivial | constructor)); first | done | fail), (by (repeat' (first | exact trivial | constructor)); first | done | fail)⟩ ?_) | (refine vcallD_out (l :=  [0, 3, 4, 5, 7]) (wf ) ⟨rfl, rfl, rfl, rfl, (by (repeat' (first | exact trivial | constructor)); first | done | fail), (by (repeat' (first | exact trivial | constructor)); first | done | fail)⟩ ?_) | (refine vcall_out (l :=  [0, 3, 4, 5, 9, 2]) (w2 ) ⟨rfl, rfl, rfl, rfl, (by (repeat' (first | exact trivial | constructor)); first | done | fail), (by (repeat' (first | exact trivial | constructor)); first | done | fail)⟩ ?_) | (refine vcall_out (l :=  [0, 3, 4, 5, 10]) (wc ) ⟨rfl, rfl, rfl, rfl, (by (repeat' (first | exact trivial | constructor)); first | done | fail), (by (repeat' (first | exact trivial | constructor)); first | done | fail)⟩ ?_) | (refine vcall_out (l :=  [0, 3, 4, 5, 12]) (r1 ) ⟨rfl, rfl, rfl, rfl, (by (repeat' (first | exact trivial | constructor)); first | done | fail), (by (repeat' (first | exact trivial | constructor)); first | done | fail)⟩ ?_) | (refine vcall_out (l :=  [0, 3, 4, 5, 12]) (r2 ) ⟨rfl, rfl, rfl, rfl, (by (repeat' (first | exact trivial | constructor)); first | done | fail), (by (repeat' (first | exact trivial | constructor)); first | done | fail)⟩ ?_) | (refine vcall_out (l :=  [0, 3, 4, 5, 12]) (wi ) ⟨rfl, rfl, rfl, rfl, (by (repeat' (first | exact trivial | constructor)); first | done | fail), (by (repeat' (first | exact trivial | constructor)); first | done | fail)⟩ ?_) | (refine vcallD_pure (haw) rfl rfl rfl ?_) | (refine vcall_pure (haw) rfl rfl rfl ?_) | (refine br_dec (fun h => ?_) (fun h => ?_) <;> try (exfalso; omega)) | (refine br_ndec (fun h => ?_) (fun h => ?_) <;> try (exfalso; omega)) | refine br_seq (fun h => ?_) (fun h => ?_) | refine br_nseq (fun h => ?_) (fun h => ?_) | refine br_not (fun h => ?_) (fun h => ?_) | refine br_intro (fun h => ?_) (fun h => ?_) | (refine cond_intro ?_ ?_; (first | omega | (dsimp only; omega) | decide | (simp only [Nat.add_zero, Int.toNat_natCast, *]; omega))))
    all_goals (conv => whnf)
    all_goals exact ret_out (l := [0, 1, 2]) rfl rfl trivial allRw_nil
  · have wc := disk_Crash d2 f2.ok (IntKind.u64.wrap (0 - 1))
    rw [crashed_eq f2, runE_eq f2] at wc
    have r1 := disk_Recover (crashD (IntKind.u64.wrap (0 - 1)) d2)
    rw [rec_crash] at r1
    have e : (rec1 (crashD (IntKind.u64.wrap (0 - 1)) d2)).now = d2.now := by
      show crashTo (crashB (IntKind.u64.wrap (0 - 1))) d2.pn d2.ps d2.np d2.kept = d2.now
      rw [crashTo_bits _ allB _ _ _ _ (fun i _ => bits_all i)]; exact o2
    have f3 : (rec1 (crashD (IntKind.u64.wrap (0 - 1)) d2)).ok := recoverD_ok (crashD_ok f2.ok _)
    have g3 : (rec1 (crashD (IntKind.u64.wrap (0 - 1)) d2)).nn = 8 := f2.n8
    have r2 := disk_Recover (rec1 (crashD (IntKind.u64.wrap (0 - 1)) d2))
    rw [rec_rec] at r2
    have wi := law_is (rec1 (crashD (IntKind.u64.wrap (0 - 1)) d2)) f3 rfl g3 d2.now (by rw [f2.ok.nl, f2.n8])
    rw [show decide ((rec1 (crashD (IntKind.u64.wrap (0 - 1)) d2)).now = d2.now) = true from decide_eq_true e] at wi
    clear wq0_0 wq0_1 wq1_0 wq1_1 y0 y1 o1 o2 k2 e f3 g3 f1 f2
    refine fc_of mixed T_ok Try.func3 rfl (by kernel_rfl) (by kernel_rfl) (by kernel_rfl) ?_
    repeat' ((conv => whnf); first | (refine vcallD_out (l :=  [0, 1]) (s0 ) ⟨rfl, rfl, rfl, rfl, (by (repeat' (first | exact trivial | constructor)); first | done | fail), (by (repeat' (first | exact trivial | constructor)); first | done | fail)⟩ ?_) | (refine vcall_out (l :=  [0, 1]) (s0 ) ⟨rfl, rfl, rfl, rfl, (by (repeat' (first | exact trivial | constructor)); first | done | fail), (by (repeat' (first | exact trivial | constructor)); first | done | fail)⟩ ?_) | (refine vcallD_out (l :=  [0, 2]) (s1 ) ⟨rfl, rfl, rfl, rfl, (by (repeat' (first | exact trivial | constructor)); first | done | fail), (by (repeat' (first | exact trivial | constructor)); first | done | fail)⟩ ?_) | (refine vcall_out (l :=  [0, 2]) (s1 ) ⟨rfl, rfl, rfl, rfl, (by (repeat' (first | exact trivial | constructor)); first | done | fail), (by (repeat' (first | exact trivial | constructor)); first | done | fail)⟩ ?_) | (refine vcall_out (l :=  [0]) (dN ) ⟨rfl, rfl, rfl, rfl, (by (repeat' (first | exact trivial | constructor)); first | done | fail), (by (repeat' (first | exact trivial | constructor)); first | done | fail)⟩ ?_) | (refine vcall_out (l :=  [0, 3, 4, 5, 6, 1]) (w1 ) ⟨rfl, rfl, rfl, rfl, (by (repeat' (first | exact trivial | constructor)); first | done | fail), (by (repeat' (first | exact trivial | constructor)); first | done | fail)⟩ ?_) | (refine vcall_out (l :=  [0, 3, 4, 5, 7]) (wf ) ⟨rfl, rfl, rfl, rfl, (by (repeat' (first | exact trivial | constructor)); first | done | fail), (by (repeat' (first | exact trivial | constructor)); first | done | fail)⟩ ?_) | (refine vcallD_out (l :=  [0, 3, 4, 5, 7]) (wf ) ⟨rfl, rfl, rfl, rfl, (by (repeat' (first | exact trivial | constructor)); first | done | fail), (by (repeat' (first | exact trivial | constructor)); first | done | fail)⟩ ?_) | (refine vcall_out (l :=  [0, 3, 4, 5, 9, 2]) (w2 ) ⟨rfl, rfl, rfl, rfl, (by (repeat' (first | exact trivial | constructor)); first | done | fail), (by (repeat' (first | exact trivial | constructor)); first | done | fail)⟩ ?_) | (refine vcall_out (l :=  [0, 3, 4, 5, 10]) (wc ) ⟨rfl, rfl, rfl, rfl, (by (repeat' (first | exact trivial | constructor)); first | done | fail), (by (repeat' (first | exact trivial | constructor)); first | done | fail)⟩ ?_) | (refine vcall_out (l :=  [0, 3, 4, 5, 12]) (r1 ) ⟨rfl, rfl, rfl, rfl, (by (repeat' (first | exact trivial | constructor)); first | done | fail), (by (repeat' (first | exact trivial | constructor)); first | done | fail)⟩ ?_) | (refine vcall_out (l :=  [0, 3, 4, 5, 12]) (r2 ) ⟨rfl, rfl, rfl, rfl, (by (repeat' (first | exact trivial | constructor)); first | done | fail), (by (repeat' (first | exact trivial | constructor)); first | done | fail)⟩ ?_) | (refine vcall_out (l :=  [0, 3, 4, 5, 12]) (wi ) ⟨rfl, rfl, rfl, rfl, (by (repeat' (first | exact trivial | constructor)); first | done | fail), (by (repeat' (first | exact trivial | constructor)); first | done | fail)⟩ ?_) | (refine vcallD_pure (haw) rfl rfl rfl ?_) | (refine vcall_pure (haw) rfl rfl rfl ?_) | (refine br_dec (fun h => ?_) (fun h => ?_) <;> try (exfalso; omega)) | (refine br_ndec (fun h => ?_) (fun h => ?_) <;> try (exfalso; omega)) | refine br_seq (fun h => ?_) (fun h => ?_) | refine br_nseq (fun h => ?_) (fun h => ?_) | refine br_not (fun h => ?_) (fun h => ?_) | refine br_intro (fun h => ?_) (fun h => ?_) | (refine cond_intro ?_ ?_; (first | omega | (dsimp only; omega) | decide | (simp only [Nat.add_zero, Int.toNat_natCast, *]; omega))))
    all_goals (conv => whnf)
    all_goals exact ret_out (l := [0, 1, 2]) rfl rfl trivial allRw_nil
end Go.Proofs.Ytmbbmdccpmmifaa
