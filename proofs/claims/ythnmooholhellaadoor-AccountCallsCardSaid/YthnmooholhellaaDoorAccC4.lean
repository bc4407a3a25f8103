/- Contracts of package account: New, a nil account; the law's helpers; the examples. -/
import Derived.Test.YthnmooholhellaaDoorAccC3
namespace Go.Proofs.YthnmooholhellaaDoor
open Go.RowKit Go.Sy
attribute [local irreducible] vcall vloop vcallD retP
set_option maxRecDepth 100000
set_option linter.unusedVariables false
set_option linter.unusedSimpArgs false

def nwE (s : ByteArray) (b l : Int) : Int := if curB s = false then 11 else if b < -999999999999 ∨ 999999999999 < b ∨ l < 0 ∨ 999999999999 < l then 4 else 0
def Acc.mk0 (b l : Int) : Acc := ⟨b, l, 0, [], [], [], 0⟩
theorem acc_New_no (s : ByteArray) (b l : Int) (h0 : nwE s b l ≠ 0) : FC Tryd.prog 1 23 [.str s, .int .i64 b, .int .i64 l] [(0, some (GB glT))] (isOut (.tup [.nptr, .int .i64 (nwE s b l)]) [] 1) := by
  have ex := money_Exponent s
  refine fc_of mixed T_ok Tryd.func23 rfl (by kernel_rfl) (by kernel_rfl) (by kernel_rfl) ?_
  repeat' ((conv => whnf); first | (refine vcall_glob (ex) rfl rfl rfl rfl ?_) | (refine vcallD_glob (ex) rfl rfl rfl rfl ?_) | (refine br_dec (fun h => ?_) (fun h => ?_) <;> try (exfalso; omega)) | (refine br_ndec (fun h => ?_) (fun h => ?_) <;> try (exfalso; omega)) | refine br_seq (fun h => ?_) (fun h => ?_) | refine br_nseq (fun h => ?_) (fun h => ?_) | refine br_not (fun h => ?_) (fun h => ?_) | refine br_intro (fun h => ?_) (fun h => ?_) | refine cond_intro rfl ?_ | (refine cond_intro ⟨rfl, ?_⟩ ?_; (first | omega | (dsimp only; omega) | decide)) | (refine cond_intro ?_ ?_; (first | omega | (dsimp only; omega) | decide | (simp only [Nat.add_zero, Int.toNat_natCast, *]; omega))))
  all_goals (conv => whnf)
  · have e : nwE s b l = 11 := by unfold nwE; (repeat (first | rw [if_pos (by omega)] | rw [if_neg (by omega)] | rw [if_pos (by assumption)] | rw [if_neg (by assumption)] | rw [if_neg (bnf (by assumption))]))
    rw [e]; exact ret_pure rfl
  all_goals first
    | (exfalso; apply h0; unfold nwE; (repeat (first | rw [if_pos (by omega)] | rw [if_neg (by omega)] | rw [if_pos (by assumption)] | rw [if_neg (by assumption)] | rw [if_neg (bnf (by assumption))])); done)
    | (have e : nwE s b l = 4 := by unfold nwE; (repeat (first | rw [if_pos (by omega)] | rw [if_neg (by omega)] | rw [if_pos (by assumption)] | rw [if_neg (by assumption)] | rw [if_neg (bnf (by assumption))]))
       rw [e]; exact ret_pure rfl)
theorem acc_New_ok (s : ByteArray) (b l : Int) (h0 : nwE s b l = 0) : FC Tryd.prog 1 23 [.str s, .int .i64 b, .int .i64 l] [(0, some (GB glT))] (isOut (.tup [.ptr 1 0 0 0, .int .i64 0]) (accH (Acc.mk0 b l)) 3) := by
  have ex := money_Exponent s
  have hc : curB s = true := by unfold nwE at h0; cases h : curB s; rw [if_pos h] at h0; omega; rfl
  have hr : ¬ (b < -999999999999 ∨ 999999999999 < b ∨ l < 0 ∨ 999999999999 < l) := by
    intro hh; unfold nwE at h0; rw [if_neg (bnf hc), if_pos hh] at h0; omega
  rw [hc] at ex
  refine fc_of mixed T_ok Tryd.func23 rfl (by kernel_rfl) (by kernel_rfl) (by kernel_rfl) ?_
  repeat' ((conv => whnf); first | (refine vcall_glob (ex) rfl rfl rfl rfl ?_) | (refine vcallD_glob (ex) rfl rfl rfl rfl ?_) | (refine br_dec (fun h => ?_) (fun h => ?_) <;> try (exfalso; omega)) | (refine br_ndec (fun h => ?_) (fun h => ?_) <;> try (exfalso; omega)) | refine br_seq (fun h => ?_) (fun h => ?_) | refine br_nseq (fun h => ?_) (fun h => ?_) | refine br_not (fun h => ?_) (fun h => ?_) | refine br_intro (fun h => ?_) (fun h => ?_) | refine cond_intro rfl ?_ | (refine cond_intro ⟨rfl, ?_⟩ ?_; (first | omega | (dsimp only; omega) | decide)) | (refine cond_intro ?_ ?_; (first | omega | (dsimp only; omega) | decide | (simp only [Nat.add_zero, Int.toNat_natCast, *]; omega))))
  all_goals (conv => whnf)
  · exact ret_out (l := [0, 2, 1]) rfl rfl ⟨rfl, rfl, trivial⟩ (aw _)

theorem nil_HoldUpTo (id : ByteArray) (n l : Int) : Pure Tryd.prog 21 [.nptr, .str id, .int .i64 n, .int .i64 l] (.tup [.int .i64 0, .int .i64 6]) := by
  refine fc_of mixed T_ok Tryd.func21 rfl (by kernel_rfl) (by kernel_rfl) (by kernel_rfl) ?_
  repeat' ((conv => whnf); first | (refine br_dec (fun h => ?_) (fun h => ?_) <;> try (exfalso; omega)) | (refine br_ndec (fun h => ?_) (fun h => ?_) <;> try (exfalso; omega)) | refine br_seq (fun h => ?_) (fun h => ?_) | refine br_nseq (fun h => ?_) (fun h => ?_) | refine br_not (fun h => ?_) (fun h => ?_) | refine br_intro (fun h => ?_) (fun h => ?_) | refine cond_intro rfl ?_ | (refine cond_intro ⟨rfl, ?_⟩ ?_; (first | omega | (dsimp only; omega) | decide)) | (refine cond_intro ?_ ?_; (first | omega | (dsimp only; omega) | decide | (simp only [Nat.add_zero, Int.toNat_natCast, *]; omega))))
  all_goals (conv => whnf)
  all_goals exact ret_pure rfl
theorem nil_Hold (id : ByteArray) (n : Int) : Pure Tryd.prog 17 [.nptr, .str id, .int .i64 n] (.int .i64 6) := by
  refine fc_of mixed T_ok Tryd.func17 rfl (by kernel_rfl) (by kernel_rfl) (by kernel_rfl) ?_
  repeat' ((conv => whnf); first | (refine vcall_pure (nil_HoldUpTo _ _ _) rfl rfl rfl ?_) | (refine br_dec (fun h => ?_) (fun h => ?_) <;> try (exfalso; omega)) | (refine br_ndec (fun h => ?_) (fun h => ?_) <;> try (exfalso; omega)) | refine br_seq (fun h => ?_) (fun h => ?_) | refine br_nseq (fun h => ?_) (fun h => ?_) | refine br_not (fun h => ?_) (fun h => ?_) | refine br_intro (fun h => ?_) (fun h => ?_) | refine cond_intro rfl ?_ | (refine cond_intro ⟨rfl, ?_⟩ ?_; (first | omega | (dsimp only; omega) | decide)) | (refine cond_intro ?_ ?_; (first | omega | (dsimp only; omega) | decide | (simp only [Nat.add_zero, Int.toNat_natCast, *]; omega))))
  all_goals (conv => whnf)
  all_goals exact ret_pure rfl
theorem nil_Force (id : ByteArray) (n : Int) : Pure Tryd.prog 11 [.nptr, .str id, .int .i64 n] (.int .i64 6) := by
  refine fc_of mixed T_ok Tryd.func11 rfl (by kernel_rfl) (by kernel_rfl) (by kernel_rfl) ?_
  repeat' ((conv => whnf); first | (refine br_dec (fun h => ?_) (fun h => ?_) <;> try (exfalso; omega)) | (refine br_ndec (fun h => ?_) (fun h => ?_) <;> try (exfalso; omega)) | refine br_seq (fun h => ?_) (fun h => ?_) | refine br_nseq (fun h => ?_) (fun h => ?_) | refine br_not (fun h => ?_) (fun h => ?_) | refine br_intro (fun h => ?_) (fun h => ?_) | refine cond_intro rfl ?_ | (refine cond_intro ⟨rfl, ?_⟩ ?_; (first | omega | (dsimp only; omega) | decide)) | (refine cond_intro ?_ ?_; (first | omega | (dsimp only; omega) | decide | (simp only [Nat.add_zero, Int.toNat_natCast, *]; omega))))
  all_goals (conv => whnf)
  all_goals exact ret_pure rfl
theorem nil_Raise (id : ByteArray) (n : Int) : Pure Tryd.prog 22 [.nptr, .str id, .int .i64 n] (.int .i64 6) := by
  refine fc_of mixed T_ok Tryd.func22 rfl (by kernel_rfl) (by kernel_rfl) (by kernel_rfl) ?_
  repeat' ((conv => whnf); first | (refine br_dec (fun h => ?_) (fun h => ?_) <;> try (exfalso; omega)) | (refine br_ndec (fun h => ?_) (fun h => ?_) <;> try (exfalso; omega)) | refine br_seq (fun h => ?_) (fun h => ?_) | refine br_nseq (fun h => ?_) (fun h => ?_) | refine br_not (fun h => ?_) (fun h => ?_) | refine br_intro (fun h => ?_) (fun h => ?_) | refine cond_intro rfl ?_ | (refine cond_intro ⟨rfl, ?_⟩ ?_; (first | omega | (dsimp only; omega) | decide)) | (refine cond_intro ?_ ?_; (first | omega | (dsimp only; omega) | decide | (simp only [Nat.add_zero, Int.toNat_natCast, *]; omega))))
  all_goals (conv => whnf)
  all_goals exact ret_pure rfl
theorem nil_Release (id : ByteArray) (n : Int) : Pure Tryd.prog 12 [.nptr, .str id, .int .i64 n] (.int .i64 6) := by
  refine fc_of mixed T_ok Tryd.func12 rfl (by kernel_rfl) (by kernel_rfl) (by kernel_rfl) ?_
  repeat' ((conv => whnf); first | (refine br_dec (fun h => ?_) (fun h => ?_) <;> try (exfalso; omega)) | (refine br_ndec (fun h => ?_) (fun h => ?_) <;> try (exfalso; omega)) | refine br_seq (fun h => ?_) (fun h => ?_) | refine br_nseq (fun h => ?_) (fun h => ?_) | refine br_not (fun h => ?_) (fun h => ?_) | refine br_intro (fun h => ?_) (fun h => ?_) | refine cond_intro rfl ?_ | (refine cond_intro ⟨rfl, ?_⟩ ?_; (first | omega | (dsimp only; omega) | decide)) | (refine cond_intro ?_ ?_; (first | omega | (dsimp only; omega) | decide | (simp only [Nat.add_zero, Int.toNat_natCast, *]; omega))))
  all_goals (conv => whnf)
  all_goals exact ret_pure rfl
theorem nil_Capture (id : ByteArray) (n m : Int) : Pure Tryd.prog 13 [.nptr, .str id, .int .i64 n, .int .i64 m] (.int .i64 6) := by
  refine fc_of mixed T_ok Tryd.func13 rfl (by kernel_rfl) (by kernel_rfl) (by kernel_rfl) ?_
  repeat' ((conv => whnf); first | (refine br_dec (fun h => ?_) (fun h => ?_) <;> try (exfalso; omega)) | (refine br_ndec (fun h => ?_) (fun h => ?_) <;> try (exfalso; omega)) | refine br_seq (fun h => ?_) (fun h => ?_) | refine br_nseq (fun h => ?_) (fun h => ?_) | refine br_not (fun h => ?_) (fun h => ?_) | refine br_intro (fun h => ?_) (fun h => ?_) | refine cond_intro rfl ?_ | (refine cond_intro ⟨rfl, ?_⟩ ?_; (first | omega | (dsimp only; omega) | decide)) | (refine cond_intro ?_ ?_; (first | omega | (dsimp only; omega) | decide | (simp only [Nat.add_zero, Int.toNat_natCast, *]; omega))))
  all_goals (conv => whnf)
  all_goals exact ret_pure rfl
theorem nil_Post (n : Int) : Pure Tryd.prog 41 [.nptr, .int .i64 n] (.int .i64 6) := by
  refine fc_of mixed T_ok Tryd.func41 rfl (by kernel_rfl) (by kernel_rfl) (by kernel_rfl) ?_
  repeat' ((conv => whnf); first | (refine br_dec (fun h => ?_) (fun h => ?_) <;> try (exfalso; omega)) | (refine br_ndec (fun h => ?_) (fun h => ?_) <;> try (exfalso; omega)) | refine br_seq (fun h => ?_) (fun h => ?_) | refine br_nseq (fun h => ?_) (fun h => ?_) | refine br_not (fun h => ?_) (fun h => ?_) | refine br_intro (fun h => ?_) (fun h => ?_) | refine cond_intro rfl ?_ | (refine cond_intro ⟨rfl, ?_⟩ ?_; (first | omega | (dsimp only; omega) | decide)) | (refine cond_intro ?_ ?_; (first | omega | (dsimp only; omega) | decide | (simp only [Nat.add_zero, Int.toNat_natCast, *]; omega))))
  all_goals (conv => whnf)
  all_goals exact ret_pure rfl
theorem nil_Balance : Pure Tryd.prog 16 [.nptr] (.int .i64 0) := by
  refine fc_of mixed T_ok Tryd.func16 rfl (by kernel_rfl) (by kernel_rfl) (by kernel_rfl) ?_
  repeat' ((conv => whnf); first | (refine br_dec (fun h => ?_) (fun h => ?_) <;> try (exfalso; omega)) | (refine br_ndec (fun h => ?_) (fun h => ?_) <;> try (exfalso; omega)) | refine br_seq (fun h => ?_) (fun h => ?_) | refine br_nseq (fun h => ?_) (fun h => ?_) | refine br_not (fun h => ?_) (fun h => ?_) | refine br_intro (fun h => ?_) (fun h => ?_) | refine cond_intro rfl ?_ | (refine cond_intro ⟨rfl, ?_⟩ ?_; (first | omega | (dsimp only; omega) | decide)) | (refine cond_intro ?_ ?_; (first | omega | (dsimp only; omega) | decide | (simp only [Nat.add_zero, Int.toNat_natCast, *]; omega))))
  all_goals (conv => whnf)
  all_goals exact ret_pure rfl
theorem nil_Held : Pure Tryd.prog 15 [.nptr] (.int .i64 0) := by
  refine fc_of mixed T_ok Tryd.func15 rfl (by kernel_rfl) (by kernel_rfl) (by kernel_rfl) ?_
  repeat' ((conv => whnf); first | (refine br_dec (fun h => ?_) (fun h => ?_) <;> try (exfalso; omega)) | (refine br_ndec (fun h => ?_) (fun h => ?_) <;> try (exfalso; omega)) | refine br_seq (fun h => ?_) (fun h => ?_) | refine br_nseq (fun h => ?_) (fun h => ?_) | refine br_not (fun h => ?_) (fun h => ?_) | refine br_intro (fun h => ?_) (fun h => ?_) | refine cond_intro rfl ?_ | (refine cond_intro ⟨rfl, ?_⟩ ?_; (first | omega | (dsimp only; omega) | decide)) | (refine cond_intro ?_ ?_; (first | omega | (dsimp only; omega) | decide | (simp only [Nat.add_zero, Int.toNat_natCast, *]; omega))))
  all_goals (conv => whnf)
  all_goals exact ret_pure rfl
theorem nil_Available : Pure Tryd.prog 20 [.nptr] (.int .i64 0) := by
  refine fc_of mixed T_ok Tryd.func20 rfl (by kernel_rfl) (by kernel_rfl) (by kernel_rfl) ?_
  repeat' ((conv => whnf); first | (refine br_dec (fun h => ?_) (fun h => ?_) <;> try (exfalso; omega)) | (refine br_ndec (fun h => ?_) (fun h => ?_) <;> try (exfalso; omega)) | refine br_seq (fun h => ?_) (fun h => ?_) | refine br_nseq (fun h => ?_) (fun h => ?_) | refine br_not (fun h => ?_) (fun h => ?_) | refine br_intro (fun h => ?_) (fun h => ?_) | refine cond_intro rfl ?_ | (refine cond_intro ⟨rfl, ?_⟩ ?_; (first | omega | (dsimp only; omega) | decide)) | (refine cond_intro ?_ ?_; (first | omega | (dsimp only; omega) | decide | (simp only [Nat.add_zero, Int.toNat_natCast, *]; omega))))
  all_goals (conv => whnf)
  all_goals exact ret_pure rfl
theorem nil_Open (id : ByteArray) : Pure Tryd.prog 14 [.nptr, .str id] (.tup [.int .i64 0, .bool false]) := by
  refine fc_of mixed T_ok Tryd.func14 rfl (by kernel_rfl) (by kernel_rfl) (by kernel_rfl) ?_
  repeat' ((conv => whnf); first | (refine br_dec (fun h => ?_) (fun h => ?_) <;> try (exfalso; omega)) | (refine br_ndec (fun h => ?_) (fun h => ?_) <;> try (exfalso; omega)) | refine br_seq (fun h => ?_) (fun h => ?_) | refine br_nseq (fun h => ?_) (fun h => ?_) | refine br_not (fun h => ?_) (fun h => ?_) | refine br_intro (fun h => ?_) (fun h => ?_) | refine cond_intro rfl ?_ | (refine cond_intro ⟨rfl, ?_⟩ ?_; (first | omega | (dsimp only; omega) | decide)) | (refine cond_intro ?_ ?_; (first | omega | (dsimp only; omega) | decide | (simp only [Nat.add_zero, Int.toNat_natCast, *]; omega))))
  all_goals (conv => whnf)
  all_goals exact ret_pure rfl
theorem nil_Holds : Pure Tryd.prog 18 [.nptr] .nsl := by
  refine fc_of mixed T_ok Tryd.func18 rfl (by kernel_rfl) (by kernel_rfl) (by kernel_rfl) ?_
  repeat' ((conv => whnf); first | (refine br_dec (fun h => ?_) (fun h => ?_) <;> try (exfalso; omega)) | (refine br_ndec (fun h => ?_) (fun h => ?_) <;> try (exfalso; omega)) | refine br_seq (fun h => ?_) (fun h => ?_) | refine br_nseq (fun h => ?_) (fun h => ?_) | refine br_not (fun h => ?_) (fun h => ?_) | refine br_intro (fun h => ?_) (fun h => ?_) | refine cond_intro rfl ?_ | (refine cond_intro ⟨rfl, ?_⟩ ?_; (first | omega | (dsimp only; omega) | decide)) | (refine cond_intro ?_ ?_; (first | omega | (dsimp only; omega) | decide | (simp only [Nat.add_zero, Int.toNat_natCast, *]; omega))))
  all_goals (conv => whnf)
  all_goals exact ret_pure rfl
theorem nil_apply (k : Int) (id : ByteArray) (n o : Int) : Pure Tryd.prog 25 [.nptr, .agg [.int .i64 k, .str id, .int .i64 n, .int .i64 o]] (.tup [.int .i64 0, .int .i64 6]) := by
  refine fc_of mixed T_ok Tryd.func25 rfl (by kernel_rfl) (by kernel_rfl) (by kernel_rfl) ?_
  repeat' ((conv => whnf); first | (refine vcall_pure (nil_Hold _ _) rfl rfl rfl ?_) | (refine vcallD_pure (nil_Hold _ _) rfl rfl rfl ?_) | (refine vcall_pure (nil_HoldUpTo _ _ _) rfl rfl rfl ?_) | (refine vcallD_pure (nil_HoldUpTo _ _ _) rfl rfl rfl ?_) | (refine vcall_pure (nil_Force _ _) rfl rfl rfl ?_) | (refine vcallD_pure (nil_Force _ _) rfl rfl rfl ?_) | (refine vcall_pure (nil_Raise _ _) rfl rfl rfl ?_) | (refine vcallD_pure (nil_Raise _ _) rfl rfl rfl ?_) | (refine vcall_pure (nil_Release _ _) rfl rfl rfl ?_) | (refine vcallD_pure (nil_Release _ _) rfl rfl rfl ?_) | (refine vcall_pure (nil_Capture _ _ _) rfl rfl rfl ?_) | (refine vcallD_pure (nil_Capture _ _ _) rfl rfl rfl ?_) | (refine vcall_pure (nil_Post _) rfl rfl rfl ?_) | (refine vcallD_pure (nil_Post _) rfl rfl rfl ?_) | (refine br_dec (fun h => ?_) (fun h => ?_) <;> try (exfalso; omega)) | (refine br_ndec (fun h => ?_) (fun h => ?_) <;> try (exfalso; omega)) | refine br_seq (fun h => ?_) (fun h => ?_) | refine br_nseq (fun h => ?_) (fun h => ?_) | refine br_not (fun h => ?_) (fun h => ?_) | refine br_intro (fun h => ?_) (fun h => ?_) | refine cond_intro rfl ?_ | (refine cond_intro ⟨rfl, ?_⟩ ?_; (first | omega | (dsimp only; omega) | decide)) | (refine cond_intro ?_ ?_; (first | omega | (dsimp only; omega) | decide | (simp only [Nat.add_zero, Int.toNat_natCast, *]; omega))))
  all_goals (conv => whnf)
  all_goals exact ret_pure rfl

def Acc.opE (a : Acc) (k : Int) (id : ByteArray) (n o : Int) : Int := if k = 0 then a.upE id n n else if k = 1 then a.upE id n o else if k = 2 then a.foE id n else if k = 3 then a.raE id n else if k = 4 then a.reE id n else if k = 5 then a.caE id n o else a.poE n
def Acc.opV (a : Acc) (k : Int) (id : ByteArray) (n o : Int) : Int := if k = 1 then a.upV id n o else 0
def Acc.opA (a : Acc) (k : Int) (id : ByteArray) (n o : Int) : Acc := if k = 0 then a.upA id n n else if k = 1 then a.upA id n o else if k = 2 then a.foA id n else if k = 3 then a.raA id n else if k = 4 then a.reA id n else if k = 5 then a.caA id n o else a.poA n
theorem acc_apply (a : Acc) (k : Int) (id : ByteArray) (n o : Int) (hv : a.vs.length = a.n) (hs : id.size ≤ 9223372036854775807) : FC Tryd.prog 3 25 [.ptr 1 0 0 0, .agg [.int .i64 k, .str id, .int .i64 n, .int .i64 o]] (accH a) (isOut (.tup [.int .i64 (a.opV k id n o), .int .i64 (a.opE k id n o)]) (accH (a.opA k id n o)) 3) := by
  have c0 := acc_Hold a id n hv hs
  have c1 := acc_HoldUpTo a id n o hv hs
  have c2 := acc_Force a id n hs
  have c3 := acc_Raise a id n hv
  have c4 := acc_Release a id n
  have c5 := acc_Capture a id n o
  have c6 := acc_Post a n
  refine fc_of mixed T_ok Tryd.func25 rfl (by kernel_rfl) (by kernel_rfl) (by kernel_rfl) ?_
  repeat' ((conv => whnf); first | (refine vcall_out (l :=  [0, 1, 2]) (c0 ) ⟨rfl, rfl, rfl, rfl, (by (repeat' (first | exact trivial | exact GB_wf | constructor)); first | done | fail), (by (repeat' (first | exact trivial | exact GB_fits rfl | constructor)); first | done | fail)⟩ ?_) | (refine vcall_out (l :=  [0, 1, 2]) (c1 ) ⟨rfl, rfl, rfl, rfl, (by (repeat' (first | exact trivial | exact GB_wf | constructor)); first | done | fail), (by (repeat' (first | exact trivial | exact GB_fits rfl | constructor)); first | done | fail)⟩ ?_) | (refine vcall_out (l :=  [0, 1, 2]) (c2 ) ⟨rfl, rfl, rfl, rfl, (by (repeat' (first | exact trivial | exact GB_wf | constructor)); first | done | fail), (by (repeat' (first | exact trivial | exact GB_fits rfl | constructor)); first | done | fail)⟩ ?_) | (refine vcall_out (l :=  [0, 1, 2]) (c3 ) ⟨rfl, rfl, rfl, rfl, (by (repeat' (first | exact trivial | exact GB_wf | constructor)); first | done | fail), (by (repeat' (first | exact trivial | exact GB_fits rfl | constructor)); first | done | fail)⟩ ?_) | (refine vcall_out (l :=  [0, 1, 2]) (c4 ) ⟨rfl, rfl, rfl, rfl, (by (repeat' (first | exact trivial | exact GB_wf | constructor)); first | done | fail), (by (repeat' (first | exact trivial | exact GB_fits rfl | constructor)); first | done | fail)⟩ ?_) | (refine vcall_out (l :=  [0, 1, 2]) (c5 ) ⟨rfl, rfl, rfl, rfl, (by (repeat' (first | exact trivial | exact GB_wf | constructor)); first | done | fail), (by (repeat' (first | exact trivial | exact GB_fits rfl | constructor)); first | done | fail)⟩ ?_) | (refine vcall_out (l :=  [0, 1, 2]) (c6 ) ⟨rfl, rfl, rfl, rfl, (by (repeat' (first | exact trivial | exact GB_wf | constructor)); first | done | fail), (by (repeat' (first | exact trivial | exact GB_fits rfl | constructor)); first | done | fail)⟩ ?_) | (refine br_dec (fun h => ?_) (fun h => ?_) <;> try (exfalso; omega)) | (refine br_ndec (fun h => ?_) (fun h => ?_) <;> try (exfalso; omega)) | refine br_seq (fun h => ?_) (fun h => ?_) | refine br_nseq (fun h => ?_) (fun h => ?_) | refine br_not (fun h => ?_) (fun h => ?_) | refine br_intro (fun h => ?_) (fun h => ?_) | refine cond_intro rfl ?_ | (refine cond_intro ⟨rfl, ?_⟩ ?_; (first | omega | (dsimp only; omega) | decide)) | (refine cond_intro ?_ ?_; (first | omega | (dsimp only; omega) | decide | (simp only [Nat.add_zero, Int.toNat_natCast, *]; omega))))
  all_goals (conv => whnf)
  all_goals unfold Acc.opV Acc.opE Acc.opA
  all_goals (repeat (first | rw [if_pos (by omega)] | rw [if_neg (by omega)] | rw [if_pos (by assumption)] | rw [if_neg (by assumption)] | rw [if_neg (bnf (by assumption))]))
  all_goals exact rt rfl ⟨rfl, rfl, trivial⟩

theorem eurB : curB ⟨#[69, 85, 82]⟩ = true := by unfold curB; decide
theorem nw_eur {b l : Int} (h : -999999999999 ≤ b ∧ b ≤ 999999999999 ∧ 0 ≤ l ∧ l ≤ 999999999999) : nwE ⟨#[69, 85, 82]⟩ b l = 0 := by
  unfold nwE
  rw [if_neg (bnf eurB), if_neg (by omega)]
theorem nw_eur_no {b l : Int} (h : ¬ (-999999999999 ≤ b ∧ b ≤ 999999999999 ∧ 0 ≤ l ∧ l ≤ 999999999999)) : nwE ⟨#[69, 85, 82]⟩ b l = 4 := by
  unfold nwE
  rw [if_neg (bnf eurB), if_pos (by omega)]
theorem made_ok (b l : Int) (h : -999999999999 ≤ b ∧ b ≤ 999999999999 ∧ 0 ≤ l ∧ l ≤ 999999999999) : FC Tryd.prog 1 10 [.int .i64 b, .int .i64 l] [(0, some (GB glT))] (isOut (.ptr 1 0 0 0) (accH (Acc.mk0 b l)) 3) := by
  have c := acc_New_ok _ b l (nw_eur h)
  refine fc_of mixed T_ok Tryd.func10 rfl (by kernel_rfl) (by kernel_rfl) (by kernel_rfl) ?_
  repeat' ((conv => whnf); first | (refine vcall_out (l :=  [0]) (c ) ⟨rfl, rfl, rfl, rfl, (by (repeat' (first | exact trivial | exact GB_wf | constructor)); first | done | fail), (by (repeat' (first | exact trivial | exact GB_fits rfl | constructor)); first | done | fail)⟩ ?_) | (refine br_dec (fun h => ?_) (fun h => ?_) <;> try (exfalso; omega)) | (refine br_ndec (fun h => ?_) (fun h => ?_) <;> try (exfalso; omega)) | refine br_seq (fun h => ?_) (fun h => ?_) | refine br_nseq (fun h => ?_) (fun h => ?_) | refine br_not (fun h => ?_) (fun h => ?_) | refine br_intro (fun h => ?_) (fun h => ?_) | refine cond_intro rfl ?_ | (refine cond_intro ⟨rfl, ?_⟩ ?_; (first | omega | (dsimp only; omega) | decide)) | (refine cond_intro ?_ ?_; (first | omega | (dsimp only; omega) | decide | (simp only [Nat.add_zero, Int.toNat_natCast, *]; omega))))
  all_goals (conv => whnf)
  all_goals exact ret_out (l := [0, 1, 2]) rfl rfl ⟨rfl, rfl, trivial⟩ (aw _)
theorem made_no (b l : Int) (h : ¬ (-999999999999 ≤ b ∧ b ≤ 999999999999 ∧ 0 ≤ l ∧ l ≤ 999999999999)) : FC Tryd.prog 1 10 [.int .i64 b, .int .i64 l] [(0, some (GB glT))] (isOut .nptr [] 1) := by
  have c := acc_New_no ⟨#[69, 85, 82]⟩ b l (by rw [nw_eur_no h]; decide)
  rw [nw_eur_no h] at c
  refine fc_of mixed T_ok Tryd.func10 rfl (by kernel_rfl) (by kernel_rfl) (by kernel_rfl) ?_
  repeat' ((conv => whnf); first | (refine vcall_out (l :=  [0]) (c ) ⟨rfl, rfl, rfl, rfl, (by (repeat' (first | exact trivial | exact GB_wf | constructor)); first | done | fail), (by (repeat' (first | exact trivial | exact GB_fits rfl | constructor)); first | done | fail)⟩ ?_) | (refine br_dec (fun h => ?_) (fun h => ?_) <;> try (exfalso; omega)) | (refine br_ndec (fun h => ?_) (fun h => ?_) <;> try (exfalso; omega)) | refine br_seq (fun h => ?_) (fun h => ?_) | refine br_nseq (fun h => ?_) (fun h => ?_) | refine br_not (fun h => ?_) (fun h => ?_) | refine br_intro (fun h => ?_) (fun h => ?_) | refine cond_intro rfl ?_ | (refine cond_intro ⟨rfl, ?_⟩ ?_; (first | omega | (dsimp only; omega) | decide)) | (refine cond_intro ?_ ?_; (first | omega | (dsimp only; omega) | decide | (simp only [Nat.add_zero, Int.toNat_natCast, *]; omega))))
  all_goals (conv => whnf)
  all_goals exact ret_pure rfl
end Go.Proofs.YthnmooholhellaaDoor
