/- The law on holds that are released and captured in parts. -/
import Derived.Test.YthnmooholhellaaDoorAccP
import Derived.Test.YthnmooholhellaaDoorYLaid
namespace Go.Proofs.YthnmooholhellaaDoor
open Go.RowKit Go.Sy
attribute [local irreducible] vcall vloop vcallD retP
set_option maxRecDepth 100000
set_option linter.unusedVariables false
set_option linter.unusedSimpArgs false

def sx : ByteArray := ⟨#[120]⟩
/-- What is left of the one hold, and what was debited. -/
def rel (l d : Int) : Acc := if l = 0 then ⟨-d, 0, 0, [], [], [], 1⟩ else ⟨-d, 0, 1, [⟨#[120]⟩], [l], [0], 1⟩
theorem rel0 (d : Int) : rel 0 d = ⟨-d, 0, 0, [], [], [], 1⟩ := rfl
theorem rel1 {l : Int} (d : Int) (h : l ≠ 0) : rel l d = ⟨-d, 0, 1, [⟨#[120]⟩], [l], [0], 1⟩ := by unfold rel; rw [if_neg h]
theorem sidx1 : sidx [(⟨#[120]⟩ : ByteArray)] ⟨#[120]⟩ = 0 := by kernel_rfl
theorem sidx0 : sidx ([] : List ByteArray) ⟨#[120]⟩ = 0 := rfl
theorem rel_v (l d : Int) : (rel l d).vs.length = (rel l d).n := by unfold rel; split <;> rfl
theorem rel_bal (l d : Int) : (rel l d).bal = -d := by unfold rel; split <;> rfl
theorem rel_get (l d : Int) : (rel l d).get ⟨#[120]⟩ = l := by
  unfold rel
  split
  · rename_i h; subst h; rfl
  · show [l].getD (sidx [⟨#[120]⟩] ⟨#[120]⟩) 0 = l; rw [sidx1]; rfl
theorem rel_has (l d : Int) : (rel l d).has ⟨#[120]⟩ = decide (l ≠ 0) := by
  unfold rel
  split
  · rename_i h; subst h; kernel_rfl
  · rename_i h; show decide (sidx [⟨#[120]⟩] ⟨#[120]⟩ < 1) = _; rw [sidx1]; simp [h]
theorem rel_held {l : Int} (d : Int) (h : 0 ≤ l ∧ l ≤ 999999999999) : (rel l d).held = l := by
  unfold Acc.held rel
  split
  · rename_i e; subst e; kernel_rfl
  · show IntKind.i64.wrap ([l].sum) = l
    rw [show [l].sum = l by simp, w64_in (by omega) (by omega)]
theorem rel_set {l m : Int} (d : Int) (h : l ≠ 0) : (rel l d).set ⟨#[120]⟩ m = rel m d := by
  rw [rel1 d h]
  unfold Acc.set
  split
  · rename_i e; subst e; rw [rel0]; unfold Acc.del; simp only [sidx1]; rfl
  · rename_i e; rw [rel1 d e]; unfold Acc.put; simp only [sidx1]; rfl
theorem rel_re0 (d k : Int) : (rel 0 d).reE ⟨#[120]⟩ k = 6 ∧ (rel 0 d).reA ⟨#[120]⟩ k = rel 0 d := by
  have e : (rel 0 d).reE ⟨#[120]⟩ k = 6 := by unfold Acc.reE; rw [rel0, if_pos (by show ¬ 0 < 0; omega)]
  exact ⟨e, by unfold Acc.reA; rw [e]; rfl⟩
theorem rel_ca0 (d k : Int) : (rel 0 d).caE ⟨#[120]⟩ k 5 = 6 ∧ (rel 0 d).caA ⟨#[120]⟩ k 5 = rel 0 d := by
  have e : (rel 0 d).caE ⟨#[120]⟩ k 5 = 6 := by unfold Acc.caE; rw [rel0, if_pos (by show ¬ 0 < 0; omega)]
  exact ⟨e, by unfold Acc.caA; rw [e]; rfl⟩
theorem rel_ix {l : Int} (d : Int) (h : l ≠ 0) : sidx (rel l d).ks ⟨#[120]⟩ < (rel l d).n := by rw [rel1 d h]; show sidx [⟨#[120]⟩] ⟨#[120]⟩ < 1; rw [sidx1]; omega
theorem rel_re4 {l k : Int} (d : Int) (h : l ≠ 0) (hk : k < 1 ∨ l < k) : (rel l d).reE ⟨#[120]⟩ k = 4 ∧ (rel l d).reA ⟨#[120]⟩ k = rel l d := by
  have e : (rel l d).reE ⟨#[120]⟩ k = 4 := by unfold Acc.reE; rw [if_neg (fun x => x (rel_ix d h)), if_pos (by have := rel_get l d; unfold Acc.get at this; omega)]
  exact ⟨e, by unfold Acc.reA; rw [e]; rfl⟩
theorem rel_re {l k : Int} (d : Int) (hl : 0 < l ∧ l ≤ 999999999999) (hk : ¬ (k < 1 ∨ l < k)) : (rel l d).reE ⟨#[120]⟩ k = 0 ∧ (rel l d).reA ⟨#[120]⟩ k = rel (l - k) d := by
  have h : l ≠ 0 := by omega
  have g := rel_get l d
  have e : (rel l d).reE ⟨#[120]⟩ k = 0 := by unfold Acc.reE; rw [if_neg (fun x => x (rel_ix d h)), if_neg (by unfold Acc.get at g; omega)]
  refine ⟨e, ?_⟩
  unfold Acc.reA
  rw [if_pos e, rel_set d h]
  unfold Acc.get at g
  rw [g, w64_in (by omega) (by omega)]
theorem rel_ca4 {l k : Int} (d : Int) (h : l ≠ 0) (hk : k < 0 ∨ l < k) : (rel l d).caE ⟨#[120]⟩ k 5 = 4 ∧ (rel l d).caA ⟨#[120]⟩ k 5 = rel l d := by
  have e : (rel l d).caE ⟨#[120]⟩ k 5 = 4 := by unfold Acc.caE; rw [if_neg (fun x => x (rel_ix d h)), if_pos (by have := rel_get l d; unfold Acc.get at this; omega)]
  exact ⟨e, by unfold Acc.caA; rw [e]; rfl⟩
theorem rel_deb {m : Int} {d : Int} (hd : 0 ≤ d ∧ d ≤ 1000) : (rel m d).deb 5 = rel m (d + 5) := by
  have e : IntKind.i64.wrap (-d - 5) = -(d + 5) := by rw [w64_in (by omega) (by omega)]; omega
  unfold Acc.deb rel
  split <;> (show Acc.mk _ _ _ _ _ _ _ = _; dsimp only; rw [e])
theorem rel_ca {l k : Int} {d : Int} (hd : 0 ≤ d ∧ d ≤ 1000) (hl : 0 < l ∧ l ≤ 999999999999) (hk : ¬ (k < 0 ∨ l < k)) : (rel l d).caE ⟨#[120]⟩ k 5 = 0 ∧ (rel l d).caA ⟨#[120]⟩ k 5 = rel (l - k) (d + 5) := by
  have h : l ≠ 0 := by omega
  have g := rel_get l d
  unfold Acc.get at g
  have e : (rel l d).caE ⟨#[120]⟩ k 5 = 0 := by
    unfold Acc.caE
    rw [if_neg (fun x => x (rel_ix d h)), if_neg (by omega), rel_bal, w64_in (by omega) (by omega), if_neg (by omega)]
  refine ⟨e, ?_⟩
  unfold Acc.caA
  rw [if_pos e, rel_set d h, g, w64_in (by omega) (by omega), rel_deb hd]
theorem rel_fo {n : Int} (h : 1 ≤ n ∧ n ≤ 999999999999) : (Acc.mk0 0 0).foE ⟨#[120]⟩ n = 0 ∧ (Acc.mk0 0 0).foA ⟨#[120]⟩ n = rel n 0 := by
  have w : IntKind.i64.wrap (0 + n) = n := by rw [w64_in (by omega) (by omega)]; omega
  have e : (Acc.mk0 0 0).foE ⟨#[120]⟩ n = 0 := by
    unfold Acc.foE
    rw [if_neg (by omega), if_neg (bnf (by unfold idB; decide)), if_neg (by show ¬ 999999999999 < IntKind.i64.wrap (0 + n); rw [w]; omega), if_neg (by show ¬ (_ ∧ 64 ≤ 0); omega)]
  refine ⟨e, ?_⟩
  unfold Acc.foA
  rw [if_pos e]
  show (Acc.mk0 0 0).set _ (IntKind.i64.wrap (0 + n)) = _
  rw [w, rel1 0 (by omega)]
  unfold Acc.set
  rw [if_neg (by omega)]
  rfl

attribute [local irreducible] rel Acc.avail Acc.held Acc.foE Acc.foA Acc.reE Acc.reA Acc.caE Acc.caA
set_option maxHeartbeats 4000000 in
theorem accountReleases_fc (n0 : Int) (hw0 : (Lit.int .i64 n0).wf = true) (l1 : Nat) (hl1 : l1 ≤ maxLen) (q1_0 : List Int) (eq1_0 : q1_0.length = l1) (wq1_0 : ∀ x ∈ q1_0, (Lit.int .i64 x).wf = true) :
    FC Tryd.prog 2 3 [.int .i64 n0, .sl 1 0 0 l1] [(0, some (GB glT)), (1, some (.one true (.cols l1 [.sc (.ints .i64 q1_0)])))] (isOut (.bool true) [] 2) := by
  have aw0 := acc_awake
  have mk := made_ok 0 0 (by decide)
  have fo : ∀ (h : 1 ≤ n0 ∧ n0 ≤ 999999999999), FC Tryd.prog 3 11 [.ptr 1 0 0 0, .str ⟨#[120]⟩, .int .i64 n0] (accH (Acc.mk0 0 0)) (isOut (.int .i64 0) (accH (rel n0 0)) 3) := by
    intro h
    have c := acc_Force (Acc.mk0 0 0) ⟨#[120]⟩ n0 (by decide)
    rw [(rel_fo h).1, (rel_fo h).2] at c
    exact c
  refine fc_of mixed T_ok Tryd.func3 rfl (by kernel_rfl) (by kernel_rfl) (by kernel_rfl) ?_
  repeat' ((conv => whnf); first | (refine vcall_out (l :=  [0]) (aw0 ) ⟨rfl, rfl, rfl, rfl, (by (repeat' (first | exact trivial | exact GB_wf | constructor)); first | done | fail), (by (repeat' (first | exact trivial | exact GB_fits rfl | constructor)); first | done | fail)⟩ ?_) | (refine vcall_out (l :=  [0]) (mk ) ⟨rfl, rfl, rfl, rfl, (by (repeat' (first | exact trivial | exact GB_wf | constructor)); first | done | fail), (by (repeat' (first | exact trivial | exact GB_fits rfl | constructor)); first | done | fail)⟩ ?_) | (refine vcall_out (l :=  [0, 2, 3]) (fo (by omega) ) ⟨rfl, rfl, rfl, rfl, (by (repeat' (first | exact trivial | exact GB_wf | constructor)); first | done | fail), (by (repeat' (first | exact trivial | exact GB_fits rfl | constructor)); first | done | fail)⟩ ?_) | (refine br_dec (fun h => ?_) (fun h => ?_) <;> try (exfalso; omega)) | (refine br_ndec (fun h => ?_) (fun h => ?_) <;> try (exfalso; omega)) | refine br_seq (fun h => ?_) (fun h => ?_) | refine br_nseq (fun h => ?_) (fun h => ?_) | refine br_not (fun h => ?_) (fun h => ?_) | refine br_intro (fun h => ?_) (fun h => ?_) | refine cond_intro rfl ?_ | (refine cond_intro ⟨rfl, ?_⟩ ?_; (first | omega | (dsimp only; omega) | decide)) | (refine cond_intro ?_ ?_; (first | omega | (dsimp only; omega) | decide | (simp only [Nat.add_zero, Int.toNat_natCast, *]; omega))))
  all_goals (conv => whnf)
  iterate 3 (exact ret_out (l := [0, 1]) rfl rfl trivial allRw_nil)
  refine vloop_of (fun s : Nat × Int × Int => ⟨[(1, .sl 1 0 0 l1), (5, .ptr 2 0 0 0), (6, .int .i64 s.2.1), (7, .int .i64 s.2.2), (8, .int .i64 s.1)], (0, some (GB glT)) :: (1, some (.one true (.cols l1 [.sc (.ints .i64 q1_0)]))) :: (2, some (.one false (.cells [.int .i64 (rel s.2.1 s.2.2).bal, .int .i64 (rel s.2.1 s.2.2).lim, .map 3 0]))) :: (3, some (.one false (.obj (.map false false (rel s.2.1 s.2.2).n [.strs (rel s.2.1 s.2.2).ks] [.sc (.ints .i64 (rel s.2.1 s.2.2).vs)] (rel s.2.1 s.2.2).bs (rel s.2.1 s.2.2).ck)))) :: [], 4⟩) (fun s => s.1 ≤ l1 ∧ 0 ≤ s.2.1 ∧ s.2.1 ≤ 999999999999 ∧ 0 ≤ s.2.2 ∧ s.2.2 ≤ 5 * (s.1 : Int)) (fun s => l1 - s.1) (0, n0, 0) [0, 1, 2, 3] [] ⟨rfl, ⟨rfl, rfl, rfl, rfl, rfl, trivial⟩, ⟨gwk rfl, rfl, rfl, rfl, trivial⟩⟩ ⟨by omega, by dsimp only; omega, by dsimp only; omega, by dsimp only; omega, by dsimp only; omega⟩ ?_
  rintro ⟨k, l, d⟩ ⟨hk, hl0, hlm, hd0, hd1⟩
  dsimp only at hk hl0 hlm hd0 hd1
  have hmod : Int.tmod (k : Int) 2 = ((k % 2 : Nat) : Int) := by rw [Int.tmod_eq_emod_of_nonneg (by omega)]; omega
  have step : ∀ (l' d' : Int) , 0 ≤ l' → l' ≤ 999999999999 → 0 ≤ d' → d' ≤ 5 * ((k + 1 : Nat) : Int) → FC Tryd.prog 3 14 [.ptr 1 0 0 0, .str ⟨#[120]⟩] (accR (rel l' d')) (isOut (.tup [.int .i64 l', .bool (decide (0 < l'))]) [] 3) ∧ FC Tryd.prog 3 15 [.ptr 1 0 0 0] (accR (rel l' d')) (isOut (.int .i64 l') [] 3) ∧ FC Tryd.prog 3 16 [.ptr 1 0 0 0] (accR (rel l' d')) (isOut (.int .i64 (IntKind.i64.wrap (0 - d'))) [] 3) := by
    intro l' d' h1 h2 h3 h4
    refine ⟨fcEq (acc_Open (rel l' d') ⟨#[120]⟩) (by rw [rel_get, rel_has, show decide (l' ≠ 0) = decide (0 < l') from decide_eq_decide.2 (by omega)]) rfl, fcEq (acc_Held (rel l' d') (rel_v _ _)) (by rw [rel_held d' ⟨h1, h2⟩]) rfl, fcEq (acc_Balance (rel l' d')) (by rw [rel_bal, w64_in (by omega) (by omega)]; congr 1; omega) rfl⟩
  by_cases hkl : k < l1
  case neg =>
    repeat' ((conv => whnf); first | (refine vcall_out (l :=  [0]) (aw0 ) ⟨rfl, rfl, rfl, rfl, (by (repeat' (first | exact trivial | exact GB_wf | constructor)); first | done | fail), (by (repeat' (first | exact trivial | exact GB_fits rfl | constructor)); first | done | fail)⟩ ?_) | (refine br_dec (fun h => ?_) (fun h => ?_) <;> try (exfalso; omega)) | (refine br_ndec (fun h => ?_) (fun h => ?_) <;> try (exfalso; omega)) | refine br_seq (fun h => ?_) (fun h => ?_) | refine br_nseq (fun h => ?_) (fun h => ?_) | refine br_not (fun h => ?_) (fun h => ?_) | refine br_intro (fun h => ?_) (fun h => ?_) | refine cond_intro rfl ?_ | (refine cond_intro ⟨rfl, ?_⟩ ?_; (first | omega | (dsimp only; omega) | decide)) | (refine cond_intro ?_ ?_; (first | omega | (dsimp only; omega) | decide | (simp only [Nat.add_zero, Int.toNat_natCast, *]; omega))))
    all_goals (conv => whnf)
    all_goals exact ret_out (l := [0, 1]) rfl rfl trivial allRw_nil
  have cr := acc_Release (rel l d) ⟨#[120]⟩ (q1_0.getD k 0)
  have cc := acc_Capture (rel l d) ⟨#[120]⟩ (q1_0.getD k 0) 5
  by_cases hl : l = 0
  · subst hl
    rw [(rel_re0 _ _).1, (rel_re0 _ _).2] at cr
    rw [(rel_ca0 _ _).1, (rel_ca0 _ _).2] at cc
    obtain ⟨c1, c2, c3⟩ := step 0 d (by omega) (by omega) hd0 (by omega)
    repeat' ((conv => whnf); first | (refine vcall_out (l :=  [0, 2, 3]) (cr ) ⟨rfl, rfl, rfl, rfl, (by (repeat' (first | exact trivial | exact GB_wf | constructor)); first | done | fail), (by (repeat' (first | exact trivial | exact GB_fits rfl | constructor)); first | done | fail)⟩ ?_) | (refine vcall_out (l :=  [0, 2, 3]) (cc ) ⟨rfl, rfl, rfl, rfl, (by (repeat' (first | exact trivial | exact GB_wf | constructor)); first | done | fail), (by (repeat' (first | exact trivial | exact GB_fits rfl | constructor)); first | done | fail)⟩ ?_) | (refine vcall_out (l :=  [0, 2, 3]) (c1 ) ⟨rfl, rfl, rfl, rfl, (by (repeat' (first | exact trivial | exact GB_wf | constructor)); first | done | fail), (by (repeat' (first | exact trivial | exact GB_fits rfl | constructor)); first | done | fail)⟩ ?_) | (refine vcall_out (l :=  [0, 2, 3]) (c2 ) ⟨rfl, rfl, rfl, rfl, (by (repeat' (first | exact trivial | exact GB_wf | constructor)); first | done | fail), (by (repeat' (first | exact trivial | exact GB_fits rfl | constructor)); first | done | fail)⟩ ?_) | (refine vcall_out (l :=  [0, 2, 3]) (c3 ) ⟨rfl, rfl, rfl, rfl, (by (repeat' (first | exact trivial | exact GB_wf | constructor)); first | done | fail), (by (repeat' (first | exact trivial | exact GB_fits rfl | constructor)); first | done | fail)⟩ ?_) | (refine br_dec (fun h => ?_) (fun h => ?_) <;> try (exfalso; omega)) | (refine br_ndec (fun h => ?_) (fun h => ?_) <;> try (exfalso; omega)) | refine br_seq (fun h => ?_) (fun h => ?_) | refine br_nseq (fun h => ?_) (fun h => ?_) | refine br_not (fun h => ?_) (fun h => ?_) | refine br_intro (fun h => ?_) (fun h => ?_) | refine cond_intro rfl ?_ | (refine cond_intro ⟨rfl, ?_⟩ ?_; (first | omega | (dsimp only; omega) | decide)) | (refine cond_intro ?_ ?_; (first | omega | (dsimp only; omega) | decide | (simp only [Nat.add_zero, Int.toNat_natCast, *]; omega))))
    all_goals (conv => whnf)
    all_goals first
      | exact ⟨(k + 1, 0, d), [0, 1, 2, 3], [], ⟨by dsimp only; omega, by dsimp only; omega, by dsimp only; omega, by dsimp only; omega, by dsimp only; omega⟩, by dsimp only; omega, ⟨rfl, ⟨rfl, rfl, rfl, rfl, congrArg (fun z => some (SV.int .i64 z)) (i64_succ' (by omega)), trivial⟩, ⟨gwk rfl, rfl, rfl, rfl, trivial⟩⟩⟩
      | (exfalso; exact h rfl) | (exfalso; dsimp only at *; done) | (exfalso; dsimp only at *; simp only [Int.toNat_natCast, Nat.add_zero, decide_eq_decide] at *; done) | (exfalso; dsimp only at *; (try simp only [Int.toNat_natCast, Nat.add_zero, decide_eq_decide, decide_eq_true_eq, decide_true] at *); omega)

  by_cases hp : k % 2 = 0
  · by_cases hc : q1_0.getD k 0 < 1 ∨ l < q1_0.getD k 0
    · rw [(rel_re4 _ hl hc).1, (rel_re4 _ hl hc).2] at cr
      clear cc
      obtain ⟨c1, c2, c3⟩ := step l d (by omega) (by omega) hd0 (by omega)
      repeat' ((conv => whnf); first | (refine vcall_out (l :=  [0, 2, 3]) (cr ) ⟨rfl, rfl, rfl, rfl, (by (repeat' (first | exact trivial | exact GB_wf | constructor)); first | done | fail), (by (repeat' (first | exact trivial | exact GB_fits rfl | constructor)); first | done | fail)⟩ ?_) | (refine vcall_out (l :=  [0, 2, 3]) (c1 ) ⟨rfl, rfl, rfl, rfl, (by (repeat' (first | exact trivial | exact GB_wf | constructor)); first | done | fail), (by (repeat' (first | exact trivial | exact GB_fits rfl | constructor)); first | done | fail)⟩ ?_) | (refine vcall_out (l :=  [0, 2, 3]) (c2 ) ⟨rfl, rfl, rfl, rfl, (by (repeat' (first | exact trivial | exact GB_wf | constructor)); first | done | fail), (by (repeat' (first | exact trivial | exact GB_fits rfl | constructor)); first | done | fail)⟩ ?_) | (refine vcall_out (l :=  [0, 2, 3]) (c3 ) ⟨rfl, rfl, rfl, rfl, (by (repeat' (first | exact trivial | exact GB_wf | constructor)); first | done | fail), (by (repeat' (first | exact trivial | exact GB_fits rfl | constructor)); first | done | fail)⟩ ?_) | (refine br_dec (fun h => ?_) (fun h => ?_) <;> try (exfalso; omega)) | (refine br_ndec (fun h => ?_) (fun h => ?_) <;> try (exfalso; omega)) | refine br_seq (fun h => ?_) (fun h => ?_) | refine br_nseq (fun h => ?_) (fun h => ?_) | refine br_not (fun h => ?_) (fun h => ?_) | refine br_intro (fun h => ?_) (fun h => ?_) | refine cond_intro rfl ?_ | (refine cond_intro ⟨rfl, ?_⟩ ?_; (first | omega | (dsimp only; omega) | decide)) | (refine cond_intro ?_ ?_; (first | omega | (dsimp only; omega) | decide | (simp only [Nat.add_zero, Int.toNat_natCast, *]; omega))))
      all_goals (conv => whnf)
      all_goals first
        | exact ⟨(k + 1, l, d), [0, 1, 2, 3], [], ⟨by dsimp only; omega, by dsimp only; omega, by dsimp only; omega, by dsimp only; omega, by dsimp only; omega⟩, by dsimp only; omega, ⟨rfl, ⟨rfl, rfl, rfl, rfl, congrArg (fun z => some (SV.int .i64 z)) (i64_succ' (by omega)), trivial⟩, ⟨gwk rfl, rfl, rfl, rfl, trivial⟩⟩⟩
        | (exfalso; exact h rfl) | (exfalso; dsimp only at *; done) | (exfalso; dsimp only at *; simp only [Int.toNat_natCast, Nat.add_zero, decide_eq_decide] at *; done) | (exfalso; dsimp only at *; (try simp only [Int.toNat_natCast, Nat.add_zero, decide_eq_decide, decide_eq_true_eq, decide_true] at *); omega)
  
    · rw [(rel_re _ (by omega) hc).1, (rel_re _ (by omega) hc).2] at cr
      clear cc
      have w1 : IntKind.i64.wrap (l - q1_0.getD k 0) = l - q1_0.getD k 0 := w64_in (by omega) (by omega)
      obtain ⟨c1, c2, c3⟩ := step (l - q1_0.getD k 0) d (by omega) (by omega) hd0 (by omega)
      repeat' ((conv => whnf); first | (refine vcall_out (l :=  [0, 2, 3]) (cr ) ⟨rfl, rfl, rfl, rfl, (by (repeat' (first | exact trivial | exact GB_wf | constructor)); first | done | fail), (by (repeat' (first | exact trivial | exact GB_fits rfl | constructor)); first | done | fail)⟩ ?_) | (refine vcall_out (l :=  [0, 2, 3]) (c1 ) ⟨rfl, rfl, rfl, rfl, (by (repeat' (first | exact trivial | exact GB_wf | constructor)); first | done | fail), (by (repeat' (first | exact trivial | exact GB_fits rfl | constructor)); first | done | fail)⟩ ?_) | (refine vcall_out (l :=  [0, 2, 3]) (c2 ) ⟨rfl, rfl, rfl, rfl, (by (repeat' (first | exact trivial | exact GB_wf | constructor)); first | done | fail), (by (repeat' (first | exact trivial | exact GB_fits rfl | constructor)); first | done | fail)⟩ ?_) | (refine vcall_out (l :=  [0, 2, 3]) (c3 ) ⟨rfl, rfl, rfl, rfl, (by (repeat' (first | exact trivial | exact GB_wf | constructor)); first | done | fail), (by (repeat' (first | exact trivial | exact GB_fits rfl | constructor)); first | done | fail)⟩ ?_) | (refine br_dec (fun h => ?_) (fun h => ?_) <;> try (exfalso; omega)) | (refine br_ndec (fun h => ?_) (fun h => ?_) <;> try (exfalso; omega)) | refine br_seq (fun h => ?_) (fun h => ?_) | refine br_nseq (fun h => ?_) (fun h => ?_) | refine br_not (fun h => ?_) (fun h => ?_) | refine br_intro (fun h => ?_) (fun h => ?_) | refine cond_intro rfl ?_ | (refine cond_intro ⟨rfl, ?_⟩ ?_; (first | omega | (dsimp only; omega) | decide)) | (refine cond_intro ?_ ?_; (first | omega | (dsimp only; omega) | decide | (simp only [Nat.add_zero, Int.toNat_natCast, *]; omega))))
      all_goals (conv => whnf)
      all_goals first
        | exact ⟨(k + 1, l - q1_0.getD k 0, d), [0, 1, 2, 3], [], ⟨by dsimp only; omega, by dsimp only; omega, by dsimp only; omega, by dsimp only; omega, by dsimp only; omega⟩, by dsimp only; omega, ⟨rfl, ⟨rfl, rfl, congrArg (fun z => some (SV.int .i64 z)) w1, rfl, congrArg (fun z => some (SV.int .i64 z)) (i64_succ' (by omega)), trivial⟩, ⟨gwk rfl, rfl, rfl, rfl, trivial⟩⟩⟩
        | (exfalso; exact h rfl) | (exfalso; dsimp only at *; done) | (exfalso; dsimp only at *; simp only [Int.toNat_natCast, Nat.add_zero, decide_eq_decide] at *; done) | (exfalso; dsimp only at *; (try simp only [Int.toNat_natCast, Nat.add_zero, decide_eq_decide, decide_eq_true_eq, decide_true] at *); omega)
  
  · by_cases hc : q1_0.getD k 0 < 0 ∨ l < q1_0.getD k 0
    · rw [(rel_ca4 _ hl hc).1, (rel_ca4 _ hl hc).2] at cc
      clear cr
      obtain ⟨c1, c2, c3⟩ := step l d (by omega) (by omega) hd0 (by omega)
      repeat' ((conv => whnf); first | (refine vcall_out (l :=  [0, 2, 3]) (cc ) ⟨rfl, rfl, rfl, rfl, (by (repeat' (first | exact trivial | exact GB_wf | constructor)); first | done | fail), (by (repeat' (first | exact trivial | exact GB_fits rfl | constructor)); first | done | fail)⟩ ?_) | (refine vcall_out (l :=  [0, 2, 3]) (c1 ) ⟨rfl, rfl, rfl, rfl, (by (repeat' (first | exact trivial | exact GB_wf | constructor)); first | done | fail), (by (repeat' (first | exact trivial | exact GB_fits rfl | constructor)); first | done | fail)⟩ ?_) | (refine vcall_out (l :=  [0, 2, 3]) (c2 ) ⟨rfl, rfl, rfl, rfl, (by (repeat' (first | exact trivial | exact GB_wf | constructor)); first | done | fail), (by (repeat' (first | exact trivial | exact GB_fits rfl | constructor)); first | done | fail)⟩ ?_) | (refine vcall_out (l :=  [0, 2, 3]) (c3 ) ⟨rfl, rfl, rfl, rfl, (by (repeat' (first | exact trivial | exact GB_wf | constructor)); first | done | fail), (by (repeat' (first | exact trivial | exact GB_fits rfl | constructor)); first | done | fail)⟩ ?_) | (refine br_dec (fun h => ?_) (fun h => ?_) <;> try (exfalso; omega)) | (refine br_ndec (fun h => ?_) (fun h => ?_) <;> try (exfalso; omega)) | refine br_seq (fun h => ?_) (fun h => ?_) | refine br_nseq (fun h => ?_) (fun h => ?_) | refine br_not (fun h => ?_) (fun h => ?_) | refine br_intro (fun h => ?_) (fun h => ?_) | refine cond_intro rfl ?_ | (refine cond_intro ⟨rfl, ?_⟩ ?_; (first | omega | (dsimp only; omega) | decide)) | (refine cond_intro ?_ ?_; (first | omega | (dsimp only; omega) | decide | (simp only [Nat.add_zero, Int.toNat_natCast, *]; omega))))
      all_goals (conv => whnf)
      all_goals first
        | exact ⟨(k + 1, l, d), [0, 1, 2, 3], [], ⟨by dsimp only; omega, by dsimp only; omega, by dsimp only; omega, by dsimp only; omega, by dsimp only; omega⟩, by dsimp only; omega, ⟨rfl, ⟨rfl, rfl, rfl, rfl, congrArg (fun z => some (SV.int .i64 z)) (i64_succ' (by omega)), trivial⟩, ⟨gwk rfl, rfl, rfl, rfl, trivial⟩⟩⟩
        | (exfalso; exact h rfl) | (exfalso; dsimp only at *; done) | (exfalso; dsimp only at *; simp only [Int.toNat_natCast, Nat.add_zero, decide_eq_decide] at *; done) | (exfalso; dsimp only at *; (try simp only [Int.toNat_natCast, Nat.add_zero, decide_eq_decide, decide_eq_true_eq, decide_true] at *); omega)
  
    · rw [(rel_ca (by omega) (by omega) hc).1, (rel_ca (by omega) (by omega) hc).2] at cc
      clear cr
      have w1 : IntKind.i64.wrap (l - q1_0.getD k 0) = l - q1_0.getD k 0 := w64_in (by omega) (by omega)
      have w2 : IntKind.i64.wrap (0 - (d + 5)) = -(d + 5) := by rw [w64_in (by omega) (by omega)]; omega
      have w3 : IntKind.i64.wrap (d + 5) = d + 5 := w64_in (by omega) (by omega)
      have w4 : IntKind.i64.wrap (0 - IntKind.i64.wrap (d + 5)) = -(d + 5) := by rw [w3]; exact w2
      obtain ⟨c1, c2, c3⟩ := step (l - q1_0.getD k 0) (d + 5) (by omega) (by omega) (by omega) (by omega)
      repeat' ((conv => whnf); first | (refine vcall_out (l :=  [0, 2, 3]) (cc ) ⟨rfl, rfl, rfl, rfl, (by (repeat' (first | exact trivial | exact GB_wf | constructor)); first | done | fail), (by (repeat' (first | exact trivial | exact GB_fits rfl | constructor)); first | done | fail)⟩ ?_) | (refine vcall_out (l :=  [0, 2, 3]) (c1 ) ⟨rfl, rfl, rfl, rfl, (by (repeat' (first | exact trivial | exact GB_wf | constructor)); first | done | fail), (by (repeat' (first | exact trivial | exact GB_fits rfl | constructor)); first | done | fail)⟩ ?_) | (refine vcall_out (l :=  [0, 2, 3]) (c2 ) ⟨rfl, rfl, rfl, rfl, (by (repeat' (first | exact trivial | exact GB_wf | constructor)); first | done | fail), (by (repeat' (first | exact trivial | exact GB_fits rfl | constructor)); first | done | fail)⟩ ?_) | (refine vcall_out (l :=  [0, 2, 3]) (c3 ) ⟨rfl, rfl, rfl, rfl, (by (repeat' (first | exact trivial | exact GB_wf | constructor)); first | done | fail), (by (repeat' (first | exact trivial | exact GB_fits rfl | constructor)); first | done | fail)⟩ ?_) | (refine br_dec (fun h => ?_) (fun h => ?_) <;> try (exfalso; omega)) | (refine br_ndec (fun h => ?_) (fun h => ?_) <;> try (exfalso; omega)) | refine br_seq (fun h => ?_) (fun h => ?_) | refine br_nseq (fun h => ?_) (fun h => ?_) | refine br_not (fun h => ?_) (fun h => ?_) | refine br_intro (fun h => ?_) (fun h => ?_) | refine cond_intro rfl ?_ | (refine cond_intro ⟨rfl, ?_⟩ ?_; (first | omega | (dsimp only; omega) | decide)) | (refine cond_intro ?_ ?_; (first | omega | (dsimp only; omega) | decide | (simp only [Nat.add_zero, Int.toNat_natCast, *]; omega))))
      all_goals (conv => whnf)
      all_goals first
        | exact ⟨(k + 1, l - q1_0.getD k 0, d + 5), [0, 1, 2, 3], [], ⟨by dsimp only; omega, by dsimp only; omega, by dsimp only; omega, by dsimp only; omega, by dsimp only; omega⟩, by dsimp only; omega, ⟨rfl, ⟨rfl, rfl, congrArg (fun z => some (SV.int .i64 z)) w1, congrArg (fun z => some (SV.int .i64 z)) w3, congrArg (fun z => some (SV.int .i64 z)) (i64_succ' (by omega)), trivial⟩, ⟨gwk rfl, rfl, rfl, rfl, trivial⟩⟩⟩
        | (exfalso; exact h rfl) | (exfalso; dsimp only at *; done) | (exfalso; dsimp only at *; simp only [Int.toNat_natCast, Nat.add_zero, decide_eq_decide] at *; done) | (exfalso; dsimp only at *; (try simp only [Int.toNat_natCast, Nat.add_zero, decide_eq_decide, decide_eq_true_eq, decide_true] at *); omega)
  end Go.Proofs.YthnmooholhellaaDoor
