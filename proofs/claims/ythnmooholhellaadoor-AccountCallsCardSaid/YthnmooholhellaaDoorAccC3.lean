/- Contracts of package account: the calls that change it. -/
import Derived.Test.YthnmooholhellaaDoorAccC2
namespace Go.Proofs.YthnmooholhellaaDoor
open Go.RowKit Go.Sy
attribute [local irreducible] vcall vloop vcallD retP
set_option maxRecDepth 100000
set_option linter.unusedVariables false
set_option linter.unusedSimpArgs false
attribute [local irreducible] Acc.avail Acc.held

theorem aw (a : Acc) : allRw (accH a) := allRw_cons (allRw_cons allRw_nil)
theorem rt {a : Acc} {r r0 : SV} {vs : VS} (hr : r = r0) (hh : weakHeap (rho [0, 1, 2] vs.next) (accH a) vs.heap) (hr0 : SV.ren (rho [0, 1, 2] vs.next) r0 = r0 := by rfl) (hl : allLt [0, 1, 2] vs.next = true := by rfl) : retP 3 (isOut r0 (accH a) 3) r vs := by
  subst hr
  exact ret_out (l := [0, 1, 2]) (by rw [hl]; rfl) hr0.symm hh (aw a)

/-- HoldUpTo. -/
def Acc.upE (a : Acc) (id : ByteArray) (n l : Int) : Int := if ¬ (1 ≤ n ∧ n ≤ 999999999999) ∨ l < 1 ∨ n < l then 4 else if a.newE id ≠ 0 then a.newE id else if a.avail < l then 16 else 0
def Acc.upV (a : Acc) (id : ByteArray) (n l : Int) : Int := if a.upE id n l = 0 then min n a.avail else 0
def Acc.upA (a : Acc) (id : ByteArray) (n l : Int) : Acc := if a.upE id n l = 0 then a.set id (min n a.avail) else a
theorem acc_HoldUpTo (a : Acc) (id : ByteArray) (n l : Int) (hv : a.vs.length = a.n) (hs : id.size ≤ 9223372036854775807) : FC Tryd.prog 3 21 [.ptr 1 0 0 0, .str id, .int .i64 n, .int .i64 l] (accH a) (isOut (.tup [.int .i64 (a.upV id n l), .int .i64 (a.upE id n l)]) (accH (a.upA id n l)) 3) := by
  have c1 := acc_checkNew a id hs
  have c2 := acc_Available a hv
  have c3 := acc_set a id (min n a.avail)
  have am := acc_isAmount n
  have L : ∀ e, a.upE id n l = e → e ≠ 0 → a.upV id n l = 0 ∧ a.upA id n l = a := by
    intro e h1 h2
    unfold Acc.upV Acc.upA
    rw [h1, if_neg h2, if_neg h2]
    exact ⟨rfl, rfl⟩
  refine fc_of mixed T_ok Tryd.func21 rfl (by kernel_rfl) (by kernel_rfl) (by kernel_rfl) ?_
  repeat' ((conv => whnf); first | (refine vcall_pure (am) rfl rfl rfl ?_) | (refine vcallD_pure (am) rfl rfl rfl ?_) | (refine vcall_out (l :=  [0, 1, 2]) (c1 ) ⟨rfl, rfl, rfl, rfl, (by (repeat' (first | exact trivial | exact GB_wf | constructor)); first | done | fail), (by (repeat' (first | exact trivial | exact GB_fits rfl | constructor)); first | done | fail)⟩ ?_) | (refine vcall_out (l :=  [0, 1, 2]) (c2 ) ⟨rfl, rfl, rfl, rfl, (by (repeat' (first | exact trivial | exact GB_wf | constructor)); first | done | fail), (by (repeat' (first | exact trivial | exact GB_fits rfl | constructor)); first | done | fail)⟩ ?_) | (refine vcall_out (l :=  [0, 1, 2]) (c3 ) ⟨rfl, rfl, rfl, rfl, (by (repeat' (first | exact trivial | exact GB_wf | constructor)); first | done | fail), (by (repeat' (first | exact trivial | exact GB_fits rfl | constructor)); first | done | fail)⟩ ?_) | (refine br_dec (fun h => ?_) (fun h => ?_) <;> try (exfalso; omega)) | (refine br_ndec (fun h => ?_) (fun h => ?_) <;> try (exfalso; omega)) | refine br_seq (fun h => ?_) (fun h => ?_) | refine br_nseq (fun h => ?_) (fun h => ?_) | refine br_not (fun h => ?_) (fun h => ?_) | refine br_intro (fun h => ?_) (fun h => ?_) | refine cond_intro rfl ?_ | (refine cond_intro ⟨rfl, ?_⟩ ?_; (first | omega | (dsimp only; omega) | decide)) | (refine cond_intro ?_ ?_; (first | omega | (dsimp only; omega) | decide | (simp only [Nat.add_zero, Int.toNat_natCast, *]; omega))))
  all_goals (conv => whnf)
  all_goals (try rw [amB_no] at *)
  all_goals (try rw [amB_iff] at *)
  · have e : a.upE id n l = 4 := by unfold Acc.upE; (repeat (first | rw [if_pos (by omega)] | rw [if_neg (by omega)] | rw [if_pos (by assumption)] | rw [if_neg (by assumption)] | rw [if_neg (bnf (by assumption))]))
    obtain ⟨e1, e2⟩ := L _ e (by decide)
    rw [e1, e2, e]; exact rt rfl ⟨rfl, rfl, trivial⟩
  · have e : a.upE id n l = 4 := by unfold Acc.upE; (repeat (first | rw [if_pos (by omega)] | rw [if_neg (by omega)] | rw [if_pos (by assumption)] | rw [if_neg (by assumption)] | rw [if_neg (bnf (by assumption))]))
    obtain ⟨e1, e2⟩ := L _ e (by decide)
    rw [e1, e2, e]; exact rt rfl ⟨rfl, rfl, trivial⟩
  · have e : a.upE id n l = 4 := by unfold Acc.upE; (repeat (first | rw [if_pos (by omega)] | rw [if_neg (by omega)] | rw [if_pos (by assumption)] | rw [if_neg (by assumption)] | rw [if_neg (bnf (by assumption))]))
    obtain ⟨e1, e2⟩ := L _ e (by decide)
    rw [e1, e2, e]; exact rt rfl ⟨rfl, rfl, trivial⟩
  · have e : a.upE id n l = a.newE id := by unfold Acc.upE; (repeat (first | rw [if_pos (by omega)] | rw [if_neg (by omega)] | rw [if_pos (by assumption)] | rw [if_neg (by assumption)] | rw [if_neg (bnf (by assumption))]))
    obtain ⟨e1, e2⟩ := L _ e (by assumption)
    rw [e1, e2, e]; exact rt rfl ⟨rfl, rfl, trivial⟩
  · have e : a.upE id n l = 16 := by unfold Acc.upE; (repeat (first | rw [if_pos (by omega)] | rw [if_neg (by omega)] | rw [if_pos (by assumption)] | rw [if_neg (by assumption)] | rw [if_neg (bnf (by assumption))]))
    obtain ⟨e1, e2⟩ := L _ e (by decide)
    rw [e1, e2, e]; exact rt rfl ⟨rfl, rfl, trivial⟩
  · have e : a.upE id n l = 0 := by unfold Acc.upE; (repeat (first | rw [if_pos (by omega)] | rw [if_neg (by omega)] | rw [if_pos (by assumption)] | rw [if_neg (by assumption)] | rw [if_neg (bnf (by assumption))]))
    have e1 : a.upV id n l = min n a.avail := by unfold Acc.upV; rw [if_pos e]
    have e2 : a.upA id n l = a.set id (min n a.avail) := by unfold Acc.upA; rw [if_pos e]
    rw [e1, e2, e]; exact rt rfl ⟨rfl, rfl, trivial⟩
attribute [local irreducible] Acc.upE Acc.upV Acc.upA

theorem acc_Hold (a : Acc) (id : ByteArray) (n : Int) (hv : a.vs.length = a.n) (hs : id.size ≤ 9223372036854775807) : FC Tryd.prog 3 17 [.ptr 1 0 0 0, .str id, .int .i64 n] (accH a) (isOut (.int .i64 (a.upE id n n)) (accH (a.upA id n n)) 3) := by
  have c1 := acc_HoldUpTo a id n n hv hs
  refine fc_of mixed T_ok Tryd.func17 rfl (by kernel_rfl) (by kernel_rfl) (by kernel_rfl) ?_
  repeat' ((conv => whnf); first | (refine vcall_out (l :=  [0, 1, 2]) (c1 ) ⟨rfl, rfl, rfl, rfl, (by (repeat' (first | exact trivial | exact GB_wf | constructor)); first | done | fail), (by (repeat' (first | exact trivial | exact GB_fits rfl | constructor)); first | done | fail)⟩ ?_) | (refine br_dec (fun h => ?_) (fun h => ?_) <;> try (exfalso; omega)) | (refine br_ndec (fun h => ?_) (fun h => ?_) <;> try (exfalso; omega)) | refine br_seq (fun h => ?_) (fun h => ?_) | refine br_nseq (fun h => ?_) (fun h => ?_) | refine br_not (fun h => ?_) (fun h => ?_) | refine br_intro (fun h => ?_) (fun h => ?_) | refine cond_intro rfl ?_ | (refine cond_intro ⟨rfl, ?_⟩ ?_; (first | omega | (dsimp only; omega) | decide)) | (refine cond_intro ?_ ?_; (first | omega | (dsimp only; omega) | decide | (simp only [Nat.add_zero, Int.toNat_natCast, *]; omega))))
  all_goals (conv => whnf)
  all_goals exact rt rfl ⟨rfl, rfl, trivial⟩

def Acc.foE (a : Acc) (id : ByteArray) (n : Int) : Int := if ¬ (1 ≤ n ∧ n ≤ 999999999999) then 4 else if idB id = false then 5 else if 999999999999 < IntKind.i64.wrap (a.vs.getD (sidx a.ks id) 0 + n) then 4 else if ¬ sidx a.ks id < a.n ∧ 64 ≤ a.n then 12 else 0
def Acc.foA (a : Acc) (id : ByteArray) (n : Int) : Acc := if a.foE id n = 0 then a.set id (IntKind.i64.wrap (a.vs.getD (sidx a.ks id) 0 + n)) else a
def Acc.raE (a : Acc) (id : ByteArray) (n : Int) : Int := if ¬ (1 ≤ n ∧ n ≤ 999999999999) then 4 else if ¬ sidx a.ks id < a.n then 6 else if 999999999999 < IntKind.i64.wrap (a.vs.getD (sidx a.ks id) 0 + n) then 4 else if a.avail < n then 16 else 0
def Acc.raA (a : Acc) (id : ByteArray) (n : Int) : Acc := if a.raE id n = 0 then a.set id (IntKind.i64.wrap (a.vs.getD (sidx a.ks id) 0 + n)) else a
def Acc.reE (a : Acc) (id : ByteArray) (n : Int) : Int := if ¬ sidx a.ks id < a.n then 6 else if n < 1 ∨ a.vs.getD (sidx a.ks id) 0 < n then 4 else 0
def Acc.reA (a : Acc) (id : ByteArray) (n : Int) : Acc := if a.reE id n = 0 then a.set id (IntKind.i64.wrap (a.vs.getD (sidx a.ks id) 0 - n)) else a
def Acc.caE (a : Acc) (id : ByteArray) (h n : Int) : Int := if ¬ sidx a.ks id < a.n then 6 else if h < 0 ∨ a.vs.getD (sidx a.ks id) 0 < h ∨ n < 0 ∨ 999999999999 < n then 4 else if IntKind.i64.wrap (a.bal - n) < -4503599627370496 then 4 else 0
def Acc.deb (a : Acc) (n : Int) : Acc := { a with bal := IntKind.i64.wrap (a.bal - n) }
def Acc.caA (a : Acc) (id : ByteArray) (h n : Int) : Acc := if a.caE id h n = 0 then (a.set id (IntKind.i64.wrap (a.vs.getD (sidx a.ks id) 0 - h))).deb n else a
def Acc.poE (a : Acc) (n : Int) : Int := if n < -999999999999 ∨ 999999999999 < n ∨ IntKind.i64.wrap (a.bal + n) < -4503599627370496 ∨ 4503599627370496 < IntKind.i64.wrap (a.bal + n) then 4 else 0
def Acc.poA (a : Acc) (n : Int) : Acc := if a.poE n = 0 then { a with bal := IntKind.i64.wrap (a.bal + n) } else a


theorem acc_Force (a : Acc) (id : ByteArray) (n : Int) (hs : id.size ≤ 9223372036854775807) : FC Tryd.prog 3 11 [.ptr 1 0 0 0, .str id, .int .i64 n] (accH a) (isOut (.int .i64 (a.foE id n)) (accH (a.foA id n)) 3) := by
  have c1 := acc_isId id hs
  have c3 := acc_set a id (IntKind.i64.wrap (a.get id + n))
  have am := acc_isAmount n
  have L : ∀ e, a.foE id n = e → e ≠ 0 → a.foA id n = a := by
    intro e h1 h2
    unfold Acc.foA
    rw [h1, if_neg h2]
  refine fc_of mixed T_ok Tryd.func11 rfl (by kernel_rfl) (by kernel_rfl) (by kernel_rfl) ?_
  repeat' ((conv => whnf); first | (refine vcall_pure (am) rfl rfl rfl ?_) | (refine vcallD_pure (am) rfl rfl rfl ?_) | (refine vcall_pure (c1) rfl rfl rfl ?_) | (refine vcallD_pure (c1) rfl rfl rfl ?_) | (refine vcall_out (l :=  [0, 1, 2]) (c3 ) ⟨rfl, rfl, rfl, rfl, (by (repeat' (first | exact trivial | exact GB_wf | constructor)); first | done | fail), (by (repeat' (first | exact trivial | exact GB_fits rfl | constructor)); first | done | fail)⟩ ?_) | (refine br_dec (fun h => ?_) (fun h => ?_) <;> try (exfalso; omega)) | (refine br_ndec (fun h => ?_) (fun h => ?_) <;> try (exfalso; omega)) | refine br_seq (fun h => ?_) (fun h => ?_) | refine br_nseq (fun h => ?_) (fun h => ?_) | refine br_not (fun h => ?_) (fun h => ?_) | refine br_intro (fun h => ?_) (fun h => ?_) | refine cond_intro rfl ?_ | (refine cond_intro ⟨rfl, ?_⟩ ?_; (first | omega | (dsimp only; omega) | decide)) | (refine cond_intro ?_ ?_; (first | omega | (dsimp only; omega) | decide | (simp only [Nat.add_zero, Int.toNat_natCast, *]; omega))))
  all_goals (conv => whnf)
  all_goals (try rw [amB_no] at *)
  all_goals (try rw [amB_iff] at *)
  · have e : a.foE id n = 4 := by unfold Acc.foE; (repeat (first | rw [if_pos (by omega)] | rw [if_neg (by omega)] | rw [if_pos (by assumption)] | rw [if_neg (by assumption)] | rw [if_neg (bnf (by assumption))]))
    rw [L _ e (by decide), e]; exact rt rfl ⟨rfl, rfl, trivial⟩
  · have e : a.foE id n = 5 := by unfold Acc.foE; (repeat (first | rw [if_pos (by omega)] | rw [if_neg (by omega)] | rw [if_pos (by assumption)] | rw [if_neg (by assumption)] | rw [if_neg (bnf (by assumption))]))
    rw [L _ e (by decide), e]; exact rt rfl ⟨rfl, rfl, trivial⟩
  · have e : a.foE id n = 4 := by unfold Acc.foE; (repeat (first | rw [if_pos (by omega)] | rw [if_neg (by omega)] | rw [if_pos (by assumption)] | rw [if_neg (by assumption)] | rw [if_neg (bnf (by assumption))]))
    rw [L _ e (by decide), e]; exact rt rfl ⟨rfl, rfl, trivial⟩
  · have e : a.foE id n = 12 := by unfold Acc.foE; (repeat (first | rw [if_pos (by omega)] | rw [if_neg (by omega)] | rw [if_pos (by assumption)] | rw [if_neg (by assumption)] | rw [if_neg (bnf (by assumption))]))
    rw [L _ e (by decide), e]; exact rt rfl ⟨rfl, rfl, trivial⟩
  · have e : a.foE id n = 0 := by unfold Acc.foE; (repeat (first | rw [if_pos (by omega)] | rw [if_neg (by omega)] | rw [if_pos (by assumption)] | rw [if_neg (by assumption)] | rw [if_neg (bnf (by assumption))]))
    have e2 : a.foA id n = a.set id (IntKind.i64.wrap (a.get id + n)) := by unfold Acc.foA; rw [if_pos e]
    rw [e2, e]; exact rt rfl ⟨rfl, rfl, trivial⟩
  · have e : a.foE id n = 0 := by unfold Acc.foE; (repeat (first | rw [if_pos (by omega)] | rw [if_neg (by omega)] | rw [if_pos (by assumption)] | rw [if_neg (by assumption)] | rw [if_neg (bnf (by assumption))]))
    have e2 : a.foA id n = a.set id (IntKind.i64.wrap (a.get id + n)) := by unfold Acc.foA; rw [if_pos e]
    rw [e2, e]; exact rt rfl ⟨rfl, rfl, trivial⟩

theorem acc_Raise (a : Acc) (id : ByteArray) (n : Int) (hv : a.vs.length = a.n) : FC Tryd.prog 3 22 [.ptr 1 0 0 0, .str id, .int .i64 n] (accH a) (isOut (.int .i64 (a.raE id n)) (accH (a.raA id n)) 3) := by
  have c2 := acc_Available a hv
  have c3 := acc_set a id (IntKind.i64.wrap (a.get id + n))
  have am := acc_isAmount n
  have L : ∀ e, a.raE id n = e → e ≠ 0 → a.raA id n = a := by
    intro e h1 h2
    unfold Acc.raA
    rw [h1, if_neg h2]
  refine fc_of mixed T_ok Tryd.func22 rfl (by kernel_rfl) (by kernel_rfl) (by kernel_rfl) ?_
  repeat' ((conv => whnf); first | (refine vcall_pure (am) rfl rfl rfl ?_) | (refine vcallD_pure (am) rfl rfl rfl ?_) | (refine vcall_out (l :=  [0, 1, 2]) (c2 ) ⟨rfl, rfl, rfl, rfl, (by (repeat' (first | exact trivial | exact GB_wf | constructor)); first | done | fail), (by (repeat' (first | exact trivial | exact GB_fits rfl | constructor)); first | done | fail)⟩ ?_) | (refine vcallD_out (l :=  [0, 1, 2]) (c2 ) ⟨rfl, rfl, rfl, rfl, (by (repeat' (first | exact trivial | exact GB_wf | constructor)); first | done | fail), (by (repeat' (first | exact trivial | exact GB_fits rfl | constructor)); first | done | fail)⟩ ?_) | (refine vcall_out (l :=  [0, 1, 2]) (c3 ) ⟨rfl, rfl, rfl, rfl, (by (repeat' (first | exact trivial | exact GB_wf | constructor)); first | done | fail), (by (repeat' (first | exact trivial | exact GB_fits rfl | constructor)); first | done | fail)⟩ ?_) | (refine br_dec (fun h => ?_) (fun h => ?_) <;> try (exfalso; omega)) | (refine br_ndec (fun h => ?_) (fun h => ?_) <;> try (exfalso; omega)) | refine br_seq (fun h => ?_) (fun h => ?_) | refine br_nseq (fun h => ?_) (fun h => ?_) | refine br_not (fun h => ?_) (fun h => ?_) | refine br_intro (fun h => ?_) (fun h => ?_) | refine cond_intro rfl ?_ | (refine cond_intro ⟨rfl, ?_⟩ ?_; (first | omega | (dsimp only; omega) | decide)) | (refine cond_intro ?_ ?_; (first | omega | (dsimp only; omega) | decide | (simp only [Nat.add_zero, Int.toNat_natCast, *]; omega))))
  all_goals (conv => whnf)
  all_goals (try rw [amB_no] at *)
  all_goals (try rw [amB_iff] at *)
  · have e : a.raE id n = 4 := by unfold Acc.raE; (repeat (first | rw [if_pos (by omega)] | rw [if_neg (by omega)] | rw [if_pos (by assumption)] | rw [if_neg (by assumption)] | rw [if_neg (bnf (by assumption))]))
    rw [L _ e (by decide), e]; exact rt rfl ⟨rfl, rfl, trivial⟩
  · have e : a.raE id n = 6 := by unfold Acc.raE; (repeat (first | rw [if_pos (by omega)] | rw [if_neg (by omega)] | rw [if_pos (by assumption)] | rw [if_neg (by assumption)] | rw [if_neg (bnf (by assumption))]))
    rw [L _ e (by decide), e]; exact rt rfl ⟨rfl, rfl, trivial⟩
  · have e : a.raE id n = 4 := by unfold Acc.raE; (repeat (first | rw [if_pos (by omega)] | rw [if_neg (by omega)] | rw [if_pos (by assumption)] | rw [if_neg (by assumption)] | rw [if_neg (bnf (by assumption))]))
    rw [L _ e (by decide), e]; exact rt rfl ⟨rfl, rfl, trivial⟩
  · have e : a.raE id n = 16 := by unfold Acc.raE; (repeat (first | rw [if_pos (by omega)] | rw [if_neg (by omega)] | rw [if_pos (by assumption)] | rw [if_neg (by assumption)] | rw [if_neg (bnf (by assumption))]))
    rw [L _ e (by decide), e]; exact rt rfl ⟨rfl, rfl, trivial⟩
  · have e : a.raE id n = 0 := by unfold Acc.raE; (repeat (first | rw [if_pos (by omega)] | rw [if_neg (by omega)] | rw [if_pos (by assumption)] | rw [if_neg (by assumption)] | rw [if_neg (bnf (by assumption))]))
    have e2 : a.raA id n = a.set id (IntKind.i64.wrap (a.get id + n)) := by unfold Acc.raA; rw [if_pos e]
    rw [e2, e]; exact rt rfl ⟨rfl, rfl, trivial⟩

theorem acc_Release (a : Acc) (id : ByteArray) (n : Int) : FC Tryd.prog 3 12 [.ptr 1 0 0 0, .str id, .int .i64 n] (accH a) (isOut (.int .i64 (a.reE id n)) (accH (a.reA id n)) 3) := by
  have c3 := acc_set a id (IntKind.i64.wrap (a.get id - n))
  have L : ∀ e, a.reE id n = e → e ≠ 0 → a.reA id n = a := by
    intro e h1 h2
    unfold Acc.reA
    rw [h1, if_neg h2]
  refine fc_of mixed T_ok Tryd.func12 rfl (by kernel_rfl) (by kernel_rfl) (by kernel_rfl) ?_
  repeat' ((conv => whnf); first | (refine vcall_out (l :=  [0, 1, 2]) (c3 ) ⟨rfl, rfl, rfl, rfl, (by (repeat' (first | exact trivial | exact GB_wf | constructor)); first | done | fail), (by (repeat' (first | exact trivial | exact GB_fits rfl | constructor)); first | done | fail)⟩ ?_) | (refine br_dec (fun h => ?_) (fun h => ?_) <;> try (exfalso; omega)) | (refine br_ndec (fun h => ?_) (fun h => ?_) <;> try (exfalso; omega)) | refine br_seq (fun h => ?_) (fun h => ?_) | refine br_nseq (fun h => ?_) (fun h => ?_) | refine br_not (fun h => ?_) (fun h => ?_) | refine br_intro (fun h => ?_) (fun h => ?_) | refine cond_intro rfl ?_ | (refine cond_intro ⟨rfl, ?_⟩ ?_; (first | omega | (dsimp only; omega) | decide)) | (refine cond_intro ?_ ?_; (first | omega | (dsimp only; omega) | decide | (simp only [Nat.add_zero, Int.toNat_natCast, *]; omega))))
  all_goals (conv => whnf)
  all_goals (try rw [amB_no] at *)
  all_goals (try rw [amB_iff] at *)
  · have e : a.reE id n = 6 := by unfold Acc.reE; (repeat (first | rw [if_pos (by omega)] | rw [if_neg (by omega)] | rw [if_pos (by assumption)] | rw [if_neg (by assumption)] | rw [if_neg (bnf (by assumption))]))
    rw [L _ e (by decide), e]; exact rt rfl ⟨rfl, rfl, trivial⟩
  · have e : a.reE id n = 4 := by unfold Acc.reE; (repeat (first | rw [if_pos (by omega)] | rw [if_neg (by omega)] | rw [if_pos (by assumption)] | rw [if_neg (by assumption)] | rw [if_neg (bnf (by assumption))]))
    rw [L _ e (by decide), e]; exact rt rfl ⟨rfl, rfl, trivial⟩
  · have e : a.reE id n = 4 := by unfold Acc.reE; (repeat (first | rw [if_pos (by omega)] | rw [if_neg (by omega)] | rw [if_pos (by assumption)] | rw [if_neg (by assumption)] | rw [if_neg (bnf (by assumption))]))
    rw [L _ e (by decide), e]; exact rt rfl ⟨rfl, rfl, trivial⟩
  · have e : a.reE id n = 0 := by unfold Acc.reE; (repeat (first | rw [if_pos (by omega)] | rw [if_neg (by omega)] | rw [if_pos (by assumption)] | rw [if_neg (by assumption)] | rw [if_neg (bnf (by assumption))]))
    have e2 : a.reA id n = a.set id (IntKind.i64.wrap (a.get id - n)) := by unfold Acc.reA; rw [if_pos e]
    rw [e2, e]; exact rt rfl ⟨rfl, rfl, trivial⟩

theorem acc_Capture (a : Acc) (id : ByteArray) (m n : Int) : FC Tryd.prog 3 13 [.ptr 1 0 0 0, .str id, .int .i64 m, .int .i64 n] (accH a) (isOut (.int .i64 (a.caE id m n)) (accH (a.caA id m n)) 3) := by
  have c3 := acc_set a id (IntKind.i64.wrap (a.get id - m))
  have L : ∀ e, a.caE id m n = e → e ≠ 0 → a.caA id m n = a := by
    intro e h1 h2
    unfold Acc.caA
    rw [h1, if_neg h2]
  refine fc_of mixed T_ok Tryd.func13 rfl (by kernel_rfl) (by kernel_rfl) (by kernel_rfl) ?_
  repeat' ((conv => whnf); first | (refine vcall_out (l :=  [0, 1, 2]) (c3 ) ⟨rfl, rfl, rfl, rfl, (by (repeat' (first | exact trivial | exact GB_wf | constructor)); first | done | fail), (by (repeat' (first | exact trivial | exact GB_fits rfl | constructor)); first | done | fail)⟩ ?_) | (refine br_dec (fun h => ?_) (fun h => ?_) <;> try (exfalso; omega)) | (refine br_ndec (fun h => ?_) (fun h => ?_) <;> try (exfalso; omega)) | refine br_seq (fun h => ?_) (fun h => ?_) | refine br_nseq (fun h => ?_) (fun h => ?_) | refine br_not (fun h => ?_) (fun h => ?_) | refine br_intro (fun h => ?_) (fun h => ?_) | refine cond_intro rfl ?_ | (refine cond_intro ⟨rfl, ?_⟩ ?_; (first | omega | (dsimp only; omega) | decide)) | (refine cond_intro ?_ ?_; (first | omega | (dsimp only; omega) | decide | (simp only [Nat.add_zero, Int.toNat_natCast, *]; omega))))
  all_goals (conv => whnf)
  all_goals (try rw [amB_no] at *)
  all_goals (try rw [amB_iff] at *)
  · have e : a.caE id m n = 6 := by unfold Acc.caE; (repeat (first | rw [if_pos (by omega)] | rw [if_neg (by omega)] | rw [if_pos (by assumption)] | rw [if_neg (by assumption)] | rw [if_neg (bnf (by assumption))]))
    rw [L _ e (by decide), e]; exact rt rfl ⟨rfl, rfl, trivial⟩
  · have e : a.caE id m n = 4 := by unfold Acc.caE; (repeat (first | rw [if_pos (by omega)] | rw [if_neg (by omega)] | rw [if_pos (by assumption)] | rw [if_neg (by assumption)] | rw [if_neg (bnf (by assumption))]))
    rw [L _ e (by decide), e]; exact rt rfl ⟨rfl, rfl, trivial⟩
  · have e : a.caE id m n = 4 := by unfold Acc.caE; (repeat (first | rw [if_pos (by omega)] | rw [if_neg (by omega)] | rw [if_pos (by assumption)] | rw [if_neg (by assumption)] | rw [if_neg (bnf (by assumption))]))
    rw [L _ e (by decide), e]; exact rt rfl ⟨rfl, rfl, trivial⟩
  · have e : a.caE id m n = 4 := by unfold Acc.caE; (repeat (first | rw [if_pos (by omega)] | rw [if_neg (by omega)] | rw [if_pos (by assumption)] | rw [if_neg (by assumption)] | rw [if_neg (bnf (by assumption))]))
    rw [L _ e (by decide), e]; exact rt rfl ⟨rfl, rfl, trivial⟩
  · have e : a.caE id m n = 4 := by unfold Acc.caE; (repeat (first | rw [if_pos (by omega)] | rw [if_neg (by omega)] | rw [if_pos (by assumption)] | rw [if_neg (by assumption)] | rw [if_neg (bnf (by assumption))]))
    rw [L _ e (by decide), e]; exact rt rfl ⟨rfl, rfl, trivial⟩
  · have e : a.caE id m n = 4 := by unfold Acc.caE; (repeat (first | rw [if_pos (by omega)] | rw [if_neg (by omega)] | rw [if_pos (by assumption)] | rw [if_neg (by assumption)] | rw [if_neg (bnf (by assumption))]))
    rw [L _ e (by decide), e]; exact rt rfl ⟨rfl, rfl, trivial⟩
  · have e : a.caE id m n = 0 := by unfold Acc.caE; (repeat (first | rw [if_pos (by omega)] | rw [if_neg (by omega)] | rw [if_pos (by assumption)] | rw [if_neg (by assumption)] | rw [if_neg (bnf (by assumption))]))
    have e2 : a.caA id m n = (a.set id (IntKind.i64.wrap (a.get id - m))).deb n := by unfold Acc.caA; rw [if_pos e]
    rw [e2, e]; exact rt rfl ⟨rfl, rfl, trivial⟩

theorem acc_Post (a : Acc) (n : Int) : FC Tryd.prog 3 41 [.ptr 1 0 0 0, .int .i64 n] (accH a) (isOut (.int .i64 (a.poE n)) (accH (a.poA n)) 3) := by
  have L : ∀ e, a.poE n = e → e ≠ 0 → a.poA n = a := by
    intro e h1 h2
    unfold Acc.poA
    rw [h1, if_neg h2]
  refine fc_of mixed T_ok Tryd.func41 rfl (by kernel_rfl) (by kernel_rfl) (by kernel_rfl) ?_
  repeat' ((conv => whnf); first | (refine br_dec (fun h => ?_) (fun h => ?_) <;> try (exfalso; omega)) | (refine br_ndec (fun h => ?_) (fun h => ?_) <;> try (exfalso; omega)) | refine br_seq (fun h => ?_) (fun h => ?_) | refine br_nseq (fun h => ?_) (fun h => ?_) | refine br_not (fun h => ?_) (fun h => ?_) | refine br_intro (fun h => ?_) (fun h => ?_) | refine cond_intro rfl ?_ | (refine cond_intro ⟨rfl, ?_⟩ ?_; (first | omega | (dsimp only; omega) | decide)) | (refine cond_intro ?_ ?_; (first | omega | (dsimp only; omega) | decide | (simp only [Nat.add_zero, Int.toNat_natCast, *]; omega))))
  all_goals (conv => whnf)
  all_goals (try rw [amB_no] at *)
  all_goals (try rw [amB_iff] at *)
  · have e : a.poE n = 4 := by unfold Acc.poE; (repeat (first | rw [if_pos (by omega)] | rw [if_neg (by omega)] | rw [if_pos (by assumption)] | rw [if_neg (by assumption)] | rw [if_neg (bnf (by assumption))]))
    rw [L _ e (by decide), e]; exact rt rfl ⟨rfl, rfl, trivial⟩
  · have e : a.poE n = 4 := by unfold Acc.poE; (repeat (first | rw [if_pos (by omega)] | rw [if_neg (by omega)] | rw [if_pos (by assumption)] | rw [if_neg (by assumption)] | rw [if_neg (bnf (by assumption))]))
    rw [L _ e (by decide), e]; exact rt rfl ⟨rfl, rfl, trivial⟩
  · have e : a.poE n = 4 := by unfold Acc.poE; (repeat (first | rw [if_pos (by omega)] | rw [if_neg (by omega)] | rw [if_pos (by assumption)] | rw [if_neg (by assumption)] | rw [if_neg (bnf (by assumption))]))
    rw [L _ e (by decide), e]; exact rt rfl ⟨rfl, rfl, trivial⟩
  · have e : a.poE n = 4 := by unfold Acc.poE; (repeat (first | rw [if_pos (by omega)] | rw [if_neg (by omega)] | rw [if_pos (by assumption)] | rw [if_neg (by assumption)] | rw [if_neg (bnf (by assumption))]))
    rw [L _ e (by decide), e]; exact rt rfl ⟨rfl, rfl, trivial⟩
  · have e : a.poE n = 0 := by unfold Acc.poE; (repeat (first | rw [if_pos (by omega)] | rw [if_neg (by omega)] | rw [if_pos (by assumption)] | rw [if_neg (by assumption)] | rw [if_neg (bnf (by assumption))]))
    have e2 : a.poA n = { a with bal := IntKind.i64.wrap (a.bal + n) } := by unfold Acc.poA; rw [if_pos e]
    rw [e2, e]; exact rt rfl ⟨rfl, rfl, trivial⟩

end Go.Proofs.YthnmooholhellaaDoor
