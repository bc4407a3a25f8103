/- The law on the funds of an account. -/
import Derived.Test.YthnmooholhellaaDoorAccP
import Derived.Test.YthnmooholhellaaDoorYLaid
namespace Go.Proofs.YthnmooholhellaaDoor
open Go.RowKit Go.Sy
attribute [local irreducible] vcall vloop vcallD retP
set_option maxRecDepth 100000
set_option linter.unusedVariables false
set_option linter.unusedSimpArgs false

/-- An account with one hold. -/
def one (b l v : Int) : Acc := ⟨b, l, 1, [⟨#[120]⟩], [v], [0], 1⟩
theorem sidxF1 : sidx [(⟨#[120]⟩ : ByteArray)] ⟨#[120]⟩ = 0 := by kernel_rfl
theorem idx_x : idB ⟨#[120]⟩ = true := by unfold idB; decide
theorem mk0_held (b l : Int) : (Acc.mk0 b l).held = 0 := by unfold Acc.held; kernel_rfl
theorem mk0_avail {b l : Int} (h : -999999999999 ≤ b ∧ b ≤ 999999999999 ∧ 0 ≤ l ∧ l ≤ 999999999999) : (Acc.mk0 b l).avail = b + l := by
  unfold Acc.avail
  rw [mk0_held]
  show IntKind.i64.wrap (IntKind.i64.wrap (b + l) - 0) = b + l
  rw [w64_in (n := b + l) (by omega) (by omega), w64_in (by omega) (by omega)]; omega
theorem one_held {b l v : Int} (h : 0 ≤ v ∧ v ≤ 999999999999) : (one b l v).held = v := by
  unfold Acc.held
  show IntKind.i64.wrap ([v].sum) = v
  rw [show [v].sum = v by simp, w64_in (by omega) (by omega)]
theorem one_avail {b l v : Int} (h : -999999999999 ≤ b ∧ b ≤ 999999999999 ∧ 0 ≤ l ∧ l ≤ 999999999999) (hv : 0 ≤ v ∧ v ≤ 999999999999) : (one b l v).avail = b + l - v := by
  unfold Acc.avail
  rw [one_held hv]
  show IntKind.i64.wrap (IntKind.i64.wrap (b + l) - v) = b + l - v
  rw [w64_in (n := b + l) (by omega) (by omega), w64_in (by omega) (by omega)]
theorem mk0_new (b l : Int) : (Acc.mk0 b l).newE ⟨#[120]⟩ = 0 := by
  unfold Acc.newE
  rw [if_neg (bnf idx_x), if_neg (by show ¬ 0 < 0; omega), if_neg (by show ¬ 64 ≤ 0; omega)]
theorem up_no {b l n le : Int} (h : -999999999999 ≤ b ∧ b ≤ 999999999999 ∧ 0 ≤ l ∧ l ≤ 999999999999) (hn : 1 ≤ n ∧ n ≤ 274877906944 ∧ 1 ≤ le ∧ le ≤ n) (hh : b + l < le) : (Acc.mk0 b l).upE ⟨#[120]⟩ n le = 16 ∧ (Acc.mk0 b l).upV ⟨#[120]⟩ n le = 0 ∧ (Acc.mk0 b l).upA ⟨#[120]⟩ n le = Acc.mk0 b l := by
  have e : (Acc.mk0 b l).upE ⟨#[120]⟩ n le = 16 := by
    unfold Acc.upE
    rw [if_neg (by omega), mk0_new, if_neg (by omega), mk0_avail h, if_pos hh]
  refine ⟨e, ?_, ?_⟩
  · unfold Acc.upV; rw [e]; rfl
  · unfold Acc.upA; rw [e]; rfl
theorem up_yes {b l n le : Int} (h : -999999999999 ≤ b ∧ b ≤ 999999999999 ∧ 0 ≤ l ∧ l ≤ 999999999999) (hn : 1 ≤ n ∧ n ≤ 274877906944 ∧ 1 ≤ le ∧ le ≤ n) (hh : ¬ b + l < le) : (Acc.mk0 b l).upE ⟨#[120]⟩ n le = 0 ∧ (Acc.mk0 b l).upV ⟨#[120]⟩ n le = min n (b + l) ∧ (Acc.mk0 b l).upA ⟨#[120]⟩ n le = one b l (min n (b + l)) := by
  have e : (Acc.mk0 b l).upE ⟨#[120]⟩ n le = 0 := by
    unfold Acc.upE
    rw [if_neg (by omega), mk0_new, if_neg (by omega), mk0_avail h, if_neg hh]
  refine ⟨e, ?_, ?_⟩
  · unfold Acc.upV; rw [if_pos e, mk0_avail h]
  · unfold Acc.upA; rw [if_pos e, mk0_avail h]
    unfold Acc.set
    rw [if_neg (by omega)]
    rfl
theorem one_get (b l v : Int) : (one b l v).vs.getD (sidx (one b l v).ks ⟨#[120]⟩) 0 = v := by show [v].getD (sidx [⟨#[120]⟩] ⟨#[120]⟩) 0 = v; rw [sidxF1]; rfl
theorem one_ix (b l v : Int) : sidx (one b l v).ks ⟨#[120]⟩ < (one b l v).n := by show sidx [⟨#[120]⟩] ⟨#[120]⟩ < 1; rw [sidxF1]; omega
theorem one_open (b l v : Int) : (one b l v).get ⟨#[120]⟩ = v ∧ (one b l v).has ⟨#[120]⟩ = true := ⟨one_get b l v, by unfold Acc.has; exact decide_eq_true (one_ix b l v)⟩
theorem ra_no {b l v m : Int} (h : -999999999999 ≤ b ∧ b ≤ 999999999999 ∧ 0 ≤ l ∧ l ≤ 999999999999) (hv : 1 ≤ v ∧ v ≤ 274877906944) (hm : 1 ≤ m ∧ m ≤ 274877906944) (hh : b + l - v < m) : (one b l v).raE ⟨#[120]⟩ m = 16 ∧ (one b l v).raA ⟨#[120]⟩ m = one b l v := by
  have e : (one b l v).raE ⟨#[120]⟩ m = 16 := by
    unfold Acc.raE
    rw [if_neg (by omega), if_neg (fun x => x (one_ix b l v)), one_get, w64_in (by omega) (by omega), if_neg (by omega), one_avail h (by omega), if_pos hh]
  exact ⟨e, by unfold Acc.raA; rw [e]; rfl⟩
theorem ra_yes {b l v m : Int} (h : -999999999999 ≤ b ∧ b ≤ 999999999999 ∧ 0 ≤ l ∧ l ≤ 999999999999) (hv : 1 ≤ v ∧ v ≤ 274877906944) (hm : 1 ≤ m ∧ m ≤ 274877906944) (hh : ¬ b + l - v < m) : (one b l v).raE ⟨#[120]⟩ m = 0 ∧ (one b l v).raA ⟨#[120]⟩ m = one b l (v + m) := by
  have e : (one b l v).raE ⟨#[120]⟩ m = 0 := by
    unfold Acc.raE
    rw [if_neg (by omega), if_neg (fun x => x (one_ix b l v)), one_get, w64_in (by omega) (by omega), if_neg (by omega), one_avail h (by omega), if_neg hh]
  refine ⟨e, ?_⟩
  unfold Acc.raA
  rw [if_pos e, one_get, w64_in (by omega) (by omega)]
  unfold Acc.set
  rw [if_neg (by omega)]
  unfold Acc.put
  rw [if_pos (one_ix b l v), if_pos (one_ix b l v), if_pos (one_ix b l v)]
  show Acc.mk b l 1 (putL (sidx [⟨#[120]⟩] ⟨#[120]⟩) _ _) (putL (sidx [⟨#[120]⟩] ⟨#[120]⟩) _ _) _ _ = _
  rw [sidxF1]
  rfl

attribute [local irreducible] one Acc.mk0 Acc.avail Acc.held Acc.upE Acc.upV Acc.upA Acc.raE Acc.raA
set_option maxHeartbeats 4000000 in
theorem accountFunds_fc (n0 : Int) (hw0 : (Lit.int .i64 n0).wf = true) (n1 : Int) (hw1 : (Lit.int .i64 n1).wf = true) (x2_0 : Int) (hx2_0 : (Lit.int .i64 x2_0).wf = true) (x2_1 : Int) (hx2_1 : (Lit.int .i64 x2_1).wf = true) (x2_2 : Int) (hx2_2 : (Lit.int .i64 x2_2).wf = true) :
    FC Tryd.prog 1 5 [.int .i64 n0, .int .i64 n1, .agg [.int .i64 x2_0, .int .i64 x2_1, .int .i64 x2_2]] [(0, some (GB glT))] (isOut (.bool true) [] 1) := by
  have aw0 := acc_awake
  have g0 : [x2_0, x2_1, x2_2].getD (Int.toNat 0) 0 = x2_0 := rfl
  have g1 : [x2_0, x2_1, x2_2].getD (Int.toNat 1) 0 = x2_1 := rfl
  have g2 : [x2_0, x2_1, x2_2].getD (Int.toNat 2) 0 = x2_2 := rfl
  by_cases hr : -999999999999 ≤ n0 ∧ n0 ≤ 999999999999 ∧ 0 ≤ n1 ∧ n1 ≤ 999999999999
  case neg =>
    have mk := made_no n0 n1 hr
    refine fc_of mixed T_ok Tryd.func5 rfl (by kernel_rfl) (by kernel_rfl) (by kernel_rfl) ?_
    repeat' ((conv => whnf); first | (refine vcall_out (l :=  [0]) (aw0 ) ⟨rfl, rfl, rfl, rfl, (by (repeat' (first | exact trivial | exact GB_wf | constructor)); first | done | fail), (by (repeat' (first | exact trivial | exact GB_fits rfl | constructor)); first | done | fail)⟩ ?_) | (refine vcall_out (l :=  [0]) (mk ) ⟨rfl, rfl, rfl, rfl, (by (repeat' (first | exact trivial | exact GB_wf | constructor)); first | done | fail), (by (repeat' (first | exact trivial | exact GB_fits rfl | constructor)); first | done | fail)⟩ ?_) | (refine br_dec (fun h => ?_) (fun h => ?_) <;> try (exfalso; omega)) | (refine br_ndec (fun h => ?_) (fun h => ?_) <;> try (exfalso; omega)) | refine br_seq (fun h => ?_) (fun h => ?_) | refine br_nseq (fun h => ?_) (fun h => ?_) | refine br_not (fun h => ?_) (fun h => ?_) | refine br_intro (fun h => ?_) (fun h => ?_) | refine cond_intro rfl ?_ | (refine cond_intro ⟨rfl, ?_⟩ ?_; (first | omega | (dsimp only; omega) | decide)) | (refine cond_intro ?_ ?_; (first | omega | (dsimp only; omega) | decide | (simp only [Nat.add_zero, Int.toNat_natCast, *]; omega))))
    all_goals (conv => whnf)
    all_goals exact ret_pure rfl
  have mk := made_ok n0 n1 hr
  by_cases hx : 1 ≤ x2_0 ∧ x2_0 ≤ 274877906944 ∧ 1 ≤ x2_1 ∧ x2_1 ≤ x2_0 ∧ 1 ≤ x2_2 ∧ x2_2 ≤ 274877906944
  case neg =>
    refine fc_of mixed T_ok Tryd.func5 rfl (by kernel_rfl) (by kernel_rfl) (by kernel_rfl) ?_
    repeat' ((conv => whnf); first | (refine vcall_out (l :=  [0]) (aw0 ) ⟨rfl, rfl, rfl, rfl, (by (repeat' (first | exact trivial | exact GB_wf | constructor)); first | done | fail), (by (repeat' (first | exact trivial | exact GB_fits rfl | constructor)); first | done | fail)⟩ ?_) | (refine vcall_out (l :=  [0]) (mk ) ⟨rfl, rfl, rfl, rfl, (by (repeat' (first | exact trivial | exact GB_wf | constructor)); first | done | fail), (by (repeat' (first | exact trivial | exact GB_fits rfl | constructor)); first | done | fail)⟩ ?_) | (refine br_dec (fun h => ?_) (fun h => ?_) <;> try (exfalso; omega)) | (refine br_ndec (fun h => ?_) (fun h => ?_) <;> try (exfalso; omega)) | refine br_seq (fun h => ?_) (fun h => ?_) | refine br_nseq (fun h => ?_) (fun h => ?_) | refine br_not (fun h => ?_) (fun h => ?_) | refine br_intro (fun h => ?_) (fun h => ?_) | refine cond_intro rfl ?_ | (refine cond_intro ⟨rfl, ?_⟩ ?_; (first | omega | (dsimp only; omega) | decide)) | (refine cond_intro ?_ ?_; (first | omega | (dsimp only; omega) | decide | (simp only [Nat.add_zero, Int.toNat_natCast, *]; omega))))
    all_goals (conv => whnf)
    all_goals exact ret_pure rfl
  have wal : IntKind.i64.wrap (n0 + n1) = n0 + n1 := w64_in (by omega) (by omega)
  have ch := acc_Hold (Acc.mk0 n0 n1) ⟨#[120]⟩ x2_0 (by unfold Acc.mk0; rfl) (by decide)
  have cu := acc_HoldUpTo (Acc.mk0 n0 n1) ⟨#[120]⟩ x2_0 x2_1 (by unfold Acc.mk0; rfl) (by decide)
  have va := acc_Available (Acc.mk0 n0 n1) (by unfold Acc.mk0; rfl)
  rw [mk0_avail hr] at va
  have ho := acc_Holds (Acc.mk0 n0 n1) (by unfold Acc.mk0; exact Nat.zero_le _) (by unfold Acc.mk0; intro s hs; cases hs) (by unfold Acc.mk0; exact List.nodup_nil)
  rw [show (Acc.mk0 n0 n1).n = 0 by unfold Acc.mk0; rfl] at ho
  by_cases hf : n0 + n1 < x2_1
  · obtain ⟨u1, u2, u3⟩ := up_no (n := x2_0) (le := x2_1) hr (by omega) hf
    obtain ⟨h1, h2, h3⟩ := up_no (n := x2_0) (le := x2_0) hr (by omega) (by omega)
    rw [u1, u2, u3] at cu
    rw [h1, h3] at ch
    refine fc_of mixed T_ok Tryd.func5 rfl (by kernel_rfl) (by kernel_rfl) (by kernel_rfl) ?_
    repeat' ((conv => whnf); first | (refine vcall_out (l :=  [0]) (aw0 ) ⟨rfl, rfl, rfl, rfl, (by (repeat' (first | exact trivial | exact GB_wf | constructor)); first | done | fail), (by (repeat' (first | exact trivial | exact GB_fits rfl | constructor)); first | done | fail)⟩ ?_) | (refine vcall_out (l :=  [0]) (mk ) ⟨rfl, rfl, rfl, rfl, (by (repeat' (first | exact trivial | exact GB_wf | constructor)); first | done | fail), (by (repeat' (first | exact trivial | exact GB_fits rfl | constructor)); first | done | fail)⟩ ?_) | (refine vcall_out (l :=  [0, 2, 3]) (ch ) ⟨rfl, rfl, rfl, rfl, (by (repeat' (first | exact trivial | exact GB_wf | constructor)); first | done | fail), (by (repeat' (first | exact trivial | exact GB_fits rfl | constructor)); first | done | fail)⟩ ?_) | (refine vcall_out (l :=  [0, 4, 5]) (cu ) ⟨rfl, rfl, rfl, rfl, (by (repeat' (first | exact trivial | exact GB_wf | constructor)); first | done | fail), (by (repeat' (first | exact trivial | exact GB_fits rfl | constructor)); first | done | fail)⟩ ?_) | (refine vcall_out (l :=  [0, 2, 3]) (va ) ⟨rfl, rfl, rfl, rfl, (by (repeat' (first | exact trivial | exact GB_wf | constructor)); first | done | fail), (by (repeat' (first | exact trivial | exact GB_fits rfl | constructor)); first | done | fail)⟩ ?_) | (refine vcall_out (l :=  [0, 2, 3]) (ho ) ⟨rfl, rfl, rfl, rfl, (by (repeat' (first | exact trivial | exact GB_wf | constructor)); first | done | fail), (by (repeat' (first | exact trivial | exact GB_fits rfl | constructor)); first | done | fail)⟩ ?_) | (refine br_dec (fun h => ?_) (fun h => ?_) <;> try (exfalso; omega)) | (refine br_ndec (fun h => ?_) (fun h => ?_) <;> try (exfalso; omega)) | refine br_seq (fun h => ?_) (fun h => ?_) | refine br_nseq (fun h => ?_) (fun h => ?_) | refine br_not (fun h => ?_) (fun h => ?_) | refine br_intro (fun h => ?_) (fun h => ?_) | refine cond_intro rfl ?_ | (refine cond_intro ⟨rfl, ?_⟩ ?_; (first | omega | (dsimp only; omega) | decide)) | (refine cond_intro ?_ ?_; (first | omega | (dsimp only; omega) | decide | (simp only [Nat.add_zero, Int.toNat_natCast, *]; omega))))
    all_goals (conv => whnf)
    all_goals first
      | exact ret_pure rfl
      | (exfalso; exact h rfl)
      | (exfalso; rw [decide_eq_decide] at h; omega)
      | (exfalso; omega)
  obtain ⟨u1, u2, u3⟩ := up_yes (n := x2_0) (le := x2_1) hr (by omega) hf
  rw [u1, u2, u3] at cu
  have vb := acc_Available (one n0 n1 (min x2_0 (n0 + n1))) (by unfold one; rfl)
  rw [one_avail hr (by omega)] at vb
  have wb : IntKind.i64.wrap (n0 + n1 - min x2_0 (n0 + n1)) = n0 + n1 - min x2_0 (n0 + n1) := w64_in (by omega) (by omega)
  have wc : IntKind.i64.wrap (n0 + n1 - x2_0) = n0 + n1 - x2_0 := w64_in (by omega) (by omega)
  have wd : IntKind.i64.wrap (n0 + n1 - x2_0 - x2_2) = n0 + n1 - x2_0 - x2_2 := w64_in (by omega) (by omega)
  have we : IntKind.i64.wrap (x2_0 + x2_2) = x2_0 + x2_2 := w64_in (by omega) (by omega)
  by_cases he : n0 + n1 < x2_0
  · obtain ⟨h1, h2, h3⟩ := up_no (n := x2_0) (le := x2_0) hr (by omega) he
    rw [h1, h3] at ch
    refine fc_of mixed T_ok Tryd.func5 rfl (by kernel_rfl) (by kernel_rfl) (by kernel_rfl) ?_
    repeat' ((conv => whnf); first | (refine vcall_out (l :=  [0]) (aw0 ) ⟨rfl, rfl, rfl, rfl, (by (repeat' (first | exact trivial | exact GB_wf | constructor)); first | done | fail), (by (repeat' (first | exact trivial | exact GB_fits rfl | constructor)); first | done | fail)⟩ ?_) | (refine vcall_out (l :=  [0]) (mk ) ⟨rfl, rfl, rfl, rfl, (by (repeat' (first | exact trivial | exact GB_wf | constructor)); first | done | fail), (by (repeat' (first | exact trivial | exact GB_fits rfl | constructor)); first | done | fail)⟩ ?_) | (refine vcall_out (l :=  [0, 2, 3]) (ch ) ⟨rfl, rfl, rfl, rfl, (by (repeat' (first | exact trivial | exact GB_wf | constructor)); first | done | fail), (by (repeat' (first | exact trivial | exact GB_fits rfl | constructor)); first | done | fail)⟩ ?_) | (refine vcall_out (l :=  [0, 4, 5]) (cu ) ⟨rfl, rfl, rfl, rfl, (by (repeat' (first | exact trivial | exact GB_wf | constructor)); first | done | fail), (by (repeat' (first | exact trivial | exact GB_fits rfl | constructor)); first | done | fail)⟩ ?_) | (refine vcall_out (l :=  [0, 4, 5]) (vb ) ⟨rfl, rfl, rfl, rfl, (by (repeat' (first | exact trivial | exact GB_wf | constructor)); first | done | fail), (by (repeat' (first | exact trivial | exact GB_fits rfl | constructor)); first | done | fail)⟩ ?_) | (refine vcall_out (l :=  [0, 2, 3]) (va ) ⟨rfl, rfl, rfl, rfl, (by (repeat' (first | exact trivial | exact GB_wf | constructor)); first | done | fail), (by (repeat' (first | exact trivial | exact GB_fits rfl | constructor)); first | done | fail)⟩ ?_) | (refine vcall_out (l :=  [0, 2, 3]) (ho ) ⟨rfl, rfl, rfl, rfl, (by (repeat' (first | exact trivial | exact GB_wf | constructor)); first | done | fail), (by (repeat' (first | exact trivial | exact GB_fits rfl | constructor)); first | done | fail)⟩ ?_) | (refine br_dec (fun h => ?_) (fun h => ?_) <;> try (exfalso; omega)) | (refine br_ndec (fun h => ?_) (fun h => ?_) <;> try (exfalso; omega)) | refine br_seq (fun h => ?_) (fun h => ?_) | refine br_nseq (fun h => ?_) (fun h => ?_) | refine br_not (fun h => ?_) (fun h => ?_) | refine br_intro (fun h => ?_) (fun h => ?_) | refine cond_intro rfl ?_ | (refine cond_intro ⟨rfl, ?_⟩ ?_; (first | omega | (dsimp only; omega) | decide)) | (refine cond_intro ?_ ?_; (first | omega | (dsimp only; omega) | decide | (simp only [Nat.add_zero, Int.toNat_natCast, *]; omega))))
    all_goals (conv => whnf)
    all_goals first
      | exact ret_pure rfl
      | (exfalso; exact h rfl)
      | (exfalso; rw [decide_eq_decide] at h; omega)
      | (exfalso; omega)
      | (exfalso; apply h; simp only [g0, g1, g2, wal, wb, wc, wd, we]; done)
      | (exfalso; apply h; simp only [g0, g1, g2, wal, wb, wc, wd, we]; omega)
      | (exfalso; rw [decide_eq_decide, g0, g2, wal, wc] at h; omega)
  obtain ⟨h1, h2, h3⟩ := up_yes (n := x2_0) (le := x2_0) hr (by omega) he
  rw [show min x2_0 (n0 + n1) = x2_0 by omega] at h3
  rw [h1, h3] at ch
  have cr := acc_Raise (one n0 n1 x2_0) ⟨#[120]⟩ x2_2 (by unfold one; rfl)
  by_cases hg : n0 + n1 - x2_0 < x2_2
  · obtain ⟨r1, r2⟩ := ra_no (v := x2_0) (m := x2_2) hr (by omega) (by omega) hg
    rw [r1, r2] at cr
    have vc := acc_Available (one n0 n1 x2_0) (by unfold one; rfl)
    rw [one_avail hr (by omega)] at vc
    have oc := acc_Open (one n0 n1 x2_0) ⟨#[120]⟩
    rw [(one_open _ _ _).1, (one_open _ _ _).2] at oc
    refine fc_of mixed T_ok Tryd.func5 rfl (by kernel_rfl) (by kernel_rfl) (by kernel_rfl) ?_
    repeat' ((conv => whnf); first | (refine vcall_out (l :=  [0]) (aw0 ) ⟨rfl, rfl, rfl, rfl, (by (repeat' (first | exact trivial | exact GB_wf | constructor)); first | done | fail), (by (repeat' (first | exact trivial | exact GB_fits rfl | constructor)); first | done | fail)⟩ ?_) | (refine vcall_out (l :=  [0]) (mk ) ⟨rfl, rfl, rfl, rfl, (by (repeat' (first | exact trivial | exact GB_wf | constructor)); first | done | fail), (by (repeat' (first | exact trivial | exact GB_fits rfl | constructor)); first | done | fail)⟩ ?_) | (refine vcall_out (l :=  [0, 2, 3]) (ch ) ⟨rfl, rfl, rfl, rfl, (by (repeat' (first | exact trivial | exact GB_wf | constructor)); first | done | fail), (by (repeat' (first | exact trivial | exact GB_fits rfl | constructor)); first | done | fail)⟩ ?_) | (refine vcall_out (l :=  [0, 4, 5]) (cu ) ⟨rfl, rfl, rfl, rfl, (by (repeat' (first | exact trivial | exact GB_wf | constructor)); first | done | fail), (by (repeat' (first | exact trivial | exact GB_fits rfl | constructor)); first | done | fail)⟩ ?_) | (refine vcall_out (l :=  [0, 4, 5]) (vb ) ⟨rfl, rfl, rfl, rfl, (by (repeat' (first | exact trivial | exact GB_wf | constructor)); first | done | fail), (by (repeat' (first | exact trivial | exact GB_fits rfl | constructor)); first | done | fail)⟩ ?_) | (refine vcall_out (l :=  [0, 2, 3]) (cr ) ⟨rfl, rfl, rfl, rfl, (by (repeat' (first | exact trivial | exact GB_wf | constructor)); first | done | fail), (by (repeat' (first | exact trivial | exact GB_fits rfl | constructor)); first | done | fail)⟩ ?_) | (refine vcall_out (l :=  [0, 2, 3]) (vc ) ⟨rfl, rfl, rfl, rfl, (by (repeat' (first | exact trivial | exact GB_wf | constructor)); first | done | fail), (by (repeat' (first | exact trivial | exact GB_fits rfl | constructor)); first | done | fail)⟩ ?_) | (refine vcall_out (l :=  [0, 2, 3]) (oc ) ⟨rfl, rfl, rfl, rfl, (by (repeat' (first | exact trivial | exact GB_wf | constructor)); first | done | fail), (by (repeat' (first | exact trivial | exact GB_fits rfl | constructor)); first | done | fail)⟩ ?_) | (refine br_dec (fun h => ?_) (fun h => ?_) <;> try (exfalso; omega)) | (refine br_ndec (fun h => ?_) (fun h => ?_) <;> try (exfalso; omega)) | refine br_seq (fun h => ?_) (fun h => ?_) | refine br_nseq (fun h => ?_) (fun h => ?_) | refine br_not (fun h => ?_) (fun h => ?_) | refine br_intro (fun h => ?_) (fun h => ?_) | refine cond_intro rfl ?_ | (refine cond_intro ⟨rfl, ?_⟩ ?_; (first | omega | (dsimp only; omega) | decide)) | (refine cond_intro ?_ ?_; (first | omega | (dsimp only; omega) | decide | (simp only [Nat.add_zero, Int.toNat_natCast, *]; omega))))
    all_goals (conv => whnf)
    all_goals first
      | exact ret_pure rfl
      | (exfalso; exact h rfl)
      | (exfalso; rw [decide_eq_decide] at h; omega)
      | (exfalso; omega)
      | (exfalso; apply h; simp only [g0, g1, g2, wal, wb, wc, wd, we]; done)
      | (exfalso; apply h; simp only [g0, g1, g2, wal, wb, wc, wd, we]; omega)
      | (exfalso; rw [decide_eq_decide, g0, g2, wal, wc] at h; omega)
  · obtain ⟨r1, r2⟩ := ra_yes (v := x2_0) (m := x2_2) hr (by omega) (by omega) hg
    rw [r1, r2] at cr
    have vc := acc_Available (one n0 n1 (x2_0 + x2_2)) (by unfold one; rfl)
    rw [one_avail hr (by omega)] at vc
    have oc := acc_Open (one n0 n1 (x2_0 + x2_2)) ⟨#[120]⟩
    rw [(one_open _ _ _).1, (one_open _ _ _).2] at oc
    refine fc_of mixed T_ok Tryd.func5 rfl (by kernel_rfl) (by kernel_rfl) (by kernel_rfl) ?_
    repeat' ((conv => whnf); first | (refine vcall_out (l :=  [0]) (aw0 ) ⟨rfl, rfl, rfl, rfl, (by (repeat' (first | exact trivial | exact GB_wf | constructor)); first | done | fail), (by (repeat' (first | exact trivial | exact GB_fits rfl | constructor)); first | done | fail)⟩ ?_) | (refine vcall_out (l :=  [0]) (mk ) ⟨rfl, rfl, rfl, rfl, (by (repeat' (first | exact trivial | exact GB_wf | constructor)); first | done | fail), (by (repeat' (first | exact trivial | exact GB_fits rfl | constructor)); first | done | fail)⟩ ?_) | (refine vcall_out (l :=  [0, 2, 3]) (ch ) ⟨rfl, rfl, rfl, rfl, (by (repeat' (first | exact trivial | exact GB_wf | constructor)); first | done | fail), (by (repeat' (first | exact trivial | exact GB_fits rfl | constructor)); first | done | fail)⟩ ?_) | (refine vcall_out (l :=  [0, 4, 5]) (cu ) ⟨rfl, rfl, rfl, rfl, (by (repeat' (first | exact trivial | exact GB_wf | constructor)); first | done | fail), (by (repeat' (first | exact trivial | exact GB_fits rfl | constructor)); first | done | fail)⟩ ?_) | (refine vcall_out (l :=  [0, 4, 5]) (vb ) ⟨rfl, rfl, rfl, rfl, (by (repeat' (first | exact trivial | exact GB_wf | constructor)); first | done | fail), (by (repeat' (first | exact trivial | exact GB_fits rfl | constructor)); first | done | fail)⟩ ?_) | (refine vcall_out (l :=  [0, 2, 3]) (cr ) ⟨rfl, rfl, rfl, rfl, (by (repeat' (first | exact trivial | exact GB_wf | constructor)); first | done | fail), (by (repeat' (first | exact trivial | exact GB_fits rfl | constructor)); first | done | fail)⟩ ?_) | (refine vcall_out (l :=  [0, 2, 3]) (vc ) ⟨rfl, rfl, rfl, rfl, (by (repeat' (first | exact trivial | exact GB_wf | constructor)); first | done | fail), (by (repeat' (first | exact trivial | exact GB_fits rfl | constructor)); first | done | fail)⟩ ?_) | (refine vcall_out (l :=  [0, 2, 3]) (oc ) ⟨rfl, rfl, rfl, rfl, (by (repeat' (first | exact trivial | exact GB_wf | constructor)); first | done | fail), (by (repeat' (first | exact trivial | exact GB_fits rfl | constructor)); first | done | fail)⟩ ?_) | (refine br_dec (fun h => ?_) (fun h => ?_) <;> try (exfalso; omega)) | (refine br_ndec (fun h => ?_) (fun h => ?_) <;> try (exfalso; omega)) | refine br_seq (fun h => ?_) (fun h => ?_) | refine br_nseq (fun h => ?_) (fun h => ?_) | refine br_not (fun h => ?_) (fun h => ?_) | refine br_intro (fun h => ?_) (fun h => ?_) | refine cond_intro rfl ?_ | (refine cond_intro ⟨rfl, ?_⟩ ?_; (first | omega | (dsimp only; omega) | decide)) | (refine cond_intro ?_ ?_; (first | omega | (dsimp only; omega) | decide | (simp only [Nat.add_zero, Int.toNat_natCast, *]; omega))))
    all_goals (conv => whnf)
    all_goals first
      | exact ret_pure rfl
      | (exfalso; exact h rfl)
      | (exfalso; rw [decide_eq_decide] at h; omega)
      | (exfalso; omega)
      | (exfalso; apply h; simp only [g0, g1, g2, wal, wb, wc, wd, we]; done)
      | (exfalso; apply h; simp only [g0, g1, g2, wal, wb, wc, wd, we]; omega)
      | (exfalso; rw [decide_eq_decide, g0, g2, wal, wc] at h; omega)
end Go.Proofs.YthnmooholhellaaDoor
