/- Several texts in one: XSidx, XPosP, XPosQ, XPosR, XPosS. -/
import Derived.Test.YtkbidlijinclcaaDoorYLib
import Derived.Test.YtkbidlijinclcaaDoorPosB1
import Derived.Test.YtkbidlijinclcaaDoorYLaw
import Derived.Test.YtkbidlijinclcaaDoorYLaid
import Derived.Test.YtkbidlijinclcaaDoorYArg
/- Plain facts on the first place of a text in a list. No program in sight. -/
namespace Go.Sy
open Go.RowKit

theorem sidx_le (l : List ByteArray) (s : ByteArray) : sidx l s ≤ l.length := by
  induction l with
  | nil => simp [sidx]
  | cons x l ih =>
    simp only [sidx, seq]
    by_cases h : x = s
    · rw [decide_eq_true h]; simp
    · rw [decide_eq_false h]; simp; exact ih
theorem sidx_lt {l : List ByteArray} {s : ByteArray} : sidx l s < l.length ↔ s ∈ l := by
  induction l with
  | nil => simp [sidx]
  | cons x l ih =>
    simp only [sidx, seq]
    by_cases h : x = s
    · rw [decide_eq_true h]; simp [h]
    · rw [decide_eq_false h]
      have : ¬ s = x := fun e => h e.symm
      simp [this, ih]
theorem sidx_get {l : List ByteArray} {s : ByteArray} (h : sidx l s < l.length) : l[sidx l s]? = some s := by
  induction l with
  | nil => simp [sidx] at h
  | cons x l ih =>
    simp only [sidx, seq] at h ⊢
    by_cases e : x = s
    · rw [decide_eq_true e]; simp [e]
    · rw [decide_eq_false e] at h ⊢
      simp only [cond_false, List.length_cons, List.getElem?_cons_succ] at h ⊢
      exact ih (by omega)
theorem sidx_of_get {l : List ByteArray} (hd : l.Nodup) {i : Nat} {s : ByteArray} (h : l[i]? = some s) : sidx l s = i := by
  have hi : i < l.length := (List.getElem?_eq_some_iff.1 h).1
  have hm : s ∈ l := List.mem_iff_getElem?.2 ⟨i, h⟩
  have h2 := sidx_get (sidx_lt.2 hm)
  have h3 := sidx_lt.2 hm
  obtain ⟨_, e1⟩ := List.getElem?_eq_some_iff.1 h
  obtain ⟨_, e2⟩ := List.getElem?_eq_some_iff.1 h2
  exact (List.getElem_inj hd).1 (e2.trans e1.symm)
theorem put_key {l : List ByteArray} {s : ByteArray} : putL (sidx l s) s l = if sidx l s < l.length then l else l ++ [s] := by
  unfold putL
  split
  · rename_i h
    have := sidx_get h
    refine List.ext_getElem? fun i => ?_
    rw [List.getElem?_set]
    by_cases e : sidx l s = i
    · subst e; rw [if_pos rfl, if_pos h, this]
    · rw [if_neg e]
  · rfl

end Go.Sy

/- The law PositionSums. -/
namespace Go.Proofs.YtkbidlijinclcaaDoor
open Go.RowKit Go.Sy
attribute [local irreducible] vcall vloop vcallD retP
set_option maxRecDepth 100000
set_option linter.unusedVariables false
set_option linter.unusedSimpArgs false

theorem wf_i64 {n : Int} (h : (Lit.int .i64 n).wf = true) : -9223372036854775808 ≤ n ∧ n ≤ 9223372036854775807 := by
  simp only [Lit.wf, Bool.and_eq_true, decide_eq_true_eq] at h
  exact h
theorem inI_of {l : List Int} (h : ∀ x ∈ l, (Lit.int .i64 x).wf = true) (j : Nat) : inI (l.getD j 0) := by
  by_cases e : j < l.length
  · rw [List.getD, List.getElem?_eq_getElem e]; exact wf_i64 (h _ (List.getElem_mem e))
  · rw [List.getD, List.getElem?_eq_none (by omega)]; unfold inI; decide
theorem law_Sums (n : Nat) (p : List ByteArray) (a : List Int) (c : List ByteArray) (cur : ByteArray) (hn : n ≤ maxLen) (hc : cur.size ≤ maxLen) (ha : ∀ j, inI (a.getD j 0)) (hcs : ∀ x ∈ c, x.size ≤ maxLen) : FC Tryd.prog 2 3 [.sl 1 0 0 n, .str cur] [(0, some (GB glT)), (1, some (.one true (pzB n p a c)))] (isOut (.bool true) [] 2) := by
  have cw := law_awake
  have eM : maxLen = 9223372036854775807 := rfl
  by_cases h60 : n ≤ 60
  case neg =>
    refine fc_of mixed T_ok Tryd.func3 rfl (by kernel_rfl) (by kernel_rfl) (by kernel_rfl) ?_
    repeat' ((conv => whnf); first | (refine vcall_out (l :=  [0]) (cw ) ⟨rfl, rfl, rfl, rfl, (by (repeat' (first | exact trivial | exact GB_wf | exact fun _ _ => rfl | constructor)); first | done | fail), (by (repeat' (first | exact trivial | exact GB_fits rfl | constructor)); first | done | fail)⟩ ?_) | (refine vcallD_out (l :=  [0]) (cw ) ⟨rfl, rfl, rfl, rfl, (by (repeat' (first | exact trivial | exact GB_wf | exact fun _ _ => rfl | constructor)); first | done | fail), (by (repeat' (first | exact trivial | exact GB_fits rfl | constructor)); first | done | fail)⟩ ?_) | (refine br_dec (fun h => ?_) (fun h => ?_) <;> try (exfalso; (try dsimp only at h); omega)) | (refine br_ndec (fun h => ?_) (fun h => ?_) <;> try (exfalso; (try dsimp only at h); omega)) | refine br_seq (fun h => ?_) (fun h => ?_) | refine br_nseq (fun h => ?_) (fun h => ?_) | refine br_not (fun h => ?_) (fun h => ?_) | refine br_intro (fun h => ?_) (fun h => ?_) | refine cond_intro rfl ?_ | (refine cond_intro ⟨rfl, ?_⟩ ?_; (first | omega | (dsimp only; omega) | decide)) | (refine cond_intro ?_ ?_; (first | omega | (dsimp only; omega) | decide | (simp only [Nat.add_zero, Int.toNat_natCast, *]; omega))))
    all_goals (conv => whnf)
    all_goals first
      | exact ret_out (l := [0, 1]) rfl rfl trivial allRw_nil
      | (exfalso; omega)
      | trace_state
  have c1 := pos_Sum n p a c cur (by omega) ha
  have c2 := ref_Sum n p a c cur (by omega) ha
  refine fc_of mixed T_ok Tryd.func3 rfl (by kernel_rfl) (by kernel_rfl) (by kernel_rfl) ?_
  repeat' ((conv => whnf); first | (refine vcall_out (l :=  [0]) (cw ) ⟨rfl, rfl, rfl, rfl, (by (repeat' (first | exact trivial | exact GB_wf | exact fun _ _ => rfl | constructor)); first | done | fail), (by (repeat' (first | exact trivial | exact GB_fits rfl | constructor)); first | done | fail)⟩ ?_) | (refine vcallD_out (l :=  [0]) (cw ) ⟨rfl, rfl, rfl, rfl, (by (repeat' (first | exact trivial | exact GB_wf | exact fun _ _ => rfl | constructor)); first | done | fail), (by (repeat' (first | exact trivial | exact GB_fits rfl | constructor)); first | done | fail)⟩ ?_) | (refine br_dec (fun h => ?_) (fun h => ?_) <;> try (exfalso; (try dsimp only at h); omega)) | (refine br_ndec (fun h => ?_) (fun h => ?_) <;> try (exfalso; (try dsimp only at h); omega)) | refine br_seq (fun h => ?_) (fun h => ?_) | refine br_nseq (fun h => ?_) (fun h => ?_) | refine br_not (fun h => ?_) (fun h => ?_) | refine br_intro (fun h => ?_) (fun h => ?_) | refine cond_intro rfl ?_ | (refine cond_intro ⟨rfl, ?_⟩ ?_; (first | omega | (dsimp only; omega) | decide)) | (refine cond_intro ?_ ?_; (first | omega | (dsimp only; omega) | decide | (simp only [Nat.add_zero, Int.toNat_natCast, *]; omega))))
  all_goals (conv => whnf)
  all_goals first
    | exact ret_out (l := [0, 1]) rfl rfl trivial allRw_nil
    | skip
  refine vloop_lp (fun k : Nat => ⟨[(0, .sl 1 0 0 n), (1, .str cur), (5, .int .i64 k)], [(0, some (GB glT)), (1, some (.one true (pzB n p a c)))], 2⟩) (fun k => k ≤ n) (fun k => n - k) 0 [0, 1] [] ⟨rfl, ⟨rfl, rfl, rfl, trivial⟩, ⟨gwk rfl, rfl, trivial⟩⟩ (Nat.zero_le _) ?_
  intro k hk
  generalize clampI (smA a c cur n) 4611686018427387904 = Z at *
  by_cases hk2 : k < n
  · have hsz : (c.getD k ⟨#[]⟩).size ≤ 9223372036854775807 := by
      by_cases e : k < c.length
      · rw [List.getD, List.getElem?_eq_getElem e]; exact hcs _ (List.getElem_mem e)
      · rw [List.getD, List.getElem?_eq_none (by omega)]; decide
    repeat' ((conv => whnf); first | (refine vcall_out (l :=  [0]) (cw ) ⟨rfl, rfl, rfl, rfl, (by (repeat' (first | exact trivial | exact GB_wf | exact fun _ _ => rfl | constructor)); first | done | fail), (by (repeat' (first | exact trivial | exact GB_fits rfl | constructor)); first | done | fail)⟩ ?_) | (refine vcallD_out (l :=  [0]) (cw ) ⟨rfl, rfl, rfl, rfl, (by (repeat' (first | exact trivial | exact GB_wf | exact fun _ _ => rfl | constructor)); first | done | fail), (by (repeat' (first | exact trivial | exact GB_fits rfl | constructor)); first | done | fail)⟩ ?_) | (refine br_dec (fun h => ?_) (fun h => ?_) <;> try (exfalso; (try dsimp only at h); omega)) | (refine br_ndec (fun h => ?_) (fun h => ?_) <;> try (exfalso; (try dsimp only at h); omega)) | refine br_seq (fun h => ?_) (fun h => ?_) | refine br_nseq (fun h => ?_) (fun h => ?_) | refine br_not (fun h => ?_) (fun h => ?_) | refine br_intro (fun h => ?_) (fun h => ?_) | refine cond_intro rfl ?_ | (refine cond_intro ⟨rfl, ?_⟩ ?_; (first | omega | (dsimp only; omega) | decide)) | (refine cond_intro ?_ ?_; (first | omega | (dsimp only; omega) | decide | (simp only [Nat.add_zero, Int.toNat_natCast, *]; omega))))
    all_goals (conv => whnf)
    all_goals (try simp only [toNat0, Int.toNat_natCast, Nat.add_zero] at *)
    all_goals first
      | exact ret_out (l := [0, 1]) rfl rfl trivial allRw_nil
      | exact ⟨k + 1, [0, 1], [], hk2, (show n - (k + 1) < n - k by omega), ⟨rfl, ⟨rfl, rfl, congrArg (fun z => some (SV.int .i64 z)) (i64_succ (by omega)), trivial⟩, ⟨gwk rfl, rfl, trivial⟩⟩⟩
      | (exfalso; omega)
      | trace_state
  · repeat' ((conv => whnf); first | (refine vcall_out (l :=  [0, 1]) (c1 ) ⟨rfl, rfl, rfl, rfl, (by (repeat' (first | exact trivial | exact GB_wf | exact fun _ _ => rfl | constructor)); first | done | fail), (by (repeat' (first | exact trivial | exact GB_fits rfl | constructor)); first | done | fail)⟩ ?_) | (refine vcall_out (l :=  [0, 1]) (c2 ) ⟨rfl, rfl, rfl, rfl, (by (repeat' (first | exact trivial | exact GB_wf | exact fun _ _ => rfl | constructor)); first | done | fail), (by (repeat' (first | exact trivial | exact GB_fits rfl | constructor)); first | done | fail)⟩ ?_) | (refine vcallD_out (l :=  [0, 1]) (c1 ) ⟨rfl, rfl, rfl, rfl, (by (repeat' (first | exact trivial | exact GB_wf | exact fun _ _ => rfl | constructor)); first | done | fail), (by (repeat' (first | exact trivial | exact GB_fits rfl | constructor)); first | done | fail)⟩ ?_) | (refine vcallD_out (l :=  [0, 1]) (c2 ) ⟨rfl, rfl, rfl, rfl, (by (repeat' (first | exact trivial | exact GB_wf | exact fun _ _ => rfl | constructor)); first | done | fail), (by (repeat' (first | exact trivial | exact GB_fits rfl | constructor)); first | done | fail)⟩ ?_) | (refine vcall_out (l :=  [0]) (cw ) ⟨rfl, rfl, rfl, rfl, (by (repeat' (first | exact trivial | exact GB_wf | exact fun _ _ => rfl | constructor)); first | done | fail), (by (repeat' (first | exact trivial | exact GB_fits rfl | constructor)); first | done | fail)⟩ ?_) | (refine vcallD_out (l :=  [0]) (cw ) ⟨rfl, rfl, rfl, rfl, (by (repeat' (first | exact trivial | exact GB_wf | exact fun _ _ => rfl | constructor)); first | done | fail), (by (repeat' (first | exact trivial | exact GB_fits rfl | constructor)); first | done | fail)⟩ ?_) | (refine br_dec (fun h => ?_) (fun h => ?_) <;> try (exfalso; (try dsimp only at h); omega)) | (refine br_ndec (fun h => ?_) (fun h => ?_) <;> try (exfalso; (try dsimp only at h); omega)) | refine br_seq (fun h => ?_) (fun h => ?_) | refine br_nseq (fun h => ?_) (fun h => ?_) | refine br_not (fun h => ?_) (fun h => ?_) | refine br_intro (fun h => ?_) (fun h => ?_) | refine cond_intro rfl ?_ | (refine cond_intro ⟨rfl, ?_⟩ ?_; (first | omega | (dsimp only; omega) | decide)) | (refine cond_intro ?_ ?_; (first | omega | (dsimp only; omega) | decide | (simp only [Nat.add_zero, Int.toNat_natCast, *]; omega))))
    all_goals (conv => whnf)
    all_goals first
      | exact ret_out (l := [0, 1]) rfl rfl trivial allRw_nil
      | (exfalso; omega)
      | trace_state
end Go.Proofs.YtkbidlijinclcaaDoor

/- Plain facts on books: the rows as a function of the currency. No program in sight. -/
namespace Go.Proofs.YtkbidlijinclcaaDoor
open Go.RowKit Go.Sy
set_option linter.unusedVariables false
set_option linter.unusedSimpArgs false

structure BkC (b : Bk) : Prop where
  cl : b.cs.length = b.m
  vl : b.vs.length = b.m
  nd : b.cs.Nodup
theorem row_at {b : Bk} (h : BkC b) {c : ByteArray} {j : Nat} (hj : b.cs[j]? = some c) : b.row c = b.vs.getD j z16 := by
  unfold Bk.row
  rw [Go.Sy.sidx_of_get h.nd hj]
theorem row_no {b : Bk} (h : BkC b) {c : ByteArray} (hc : ¬ c ∈ b.cs) : b.row c = z16 := by
  unfold Bk.row
  have : ¬ sidx b.cs c < b.cs.length := fun q => hc (Go.Sy.sidx_lt.1 q)
  rw [List.getD, List.getElem?_eq_none (by rw [h.vl, ← h.cl]; omega)]; rfl
theorem vs_of {b : Bk} (h : BkC b) {P : List Int → Prop} (hz : P z16) (hr : ∀ c, P (b.row c)) (i : Nat) : P (b.vs.getD i z16) := by
  by_cases e : i < b.m
  · have hj : b.cs[i]? = some (b.cs[i]'(by rw [h.cl]; exact e)) := List.getElem?_eq_getElem _
    have := hr (b.cs[i]'(by rw [h.cl]; exact e))
    rw [row_at h hj] at this
    exact this
  · rw [List.getD, List.getElem?_eq_none (by rw [h.vl]; omega)]; exact hz
theorem put_C {b : Bk} (h : BkC b) (c : ByteArray) (r : List Int) : BkC (b.put c r) := by
  have hle := Go.Sy.sidx_le b.cs c
  by_cases e : sidx b.cs c < b.m
  · have e2 : sidx b.cs c < b.cs.length := by rw [h.cl]; exact e
    refine ⟨?_, ?_, ?_⟩
    · show (putL _ _ _).length = if _ then _ else _
      rw [if_pos e, put_key, if_pos e2]; exact h.cl
    · show (putL _ _ _).length = if _ then _ else _
      rw [if_pos e]
      unfold putL
      rw [if_pos (by rw [h.vl]; exact e), List.length_set]; exact h.vl
    · show (putL _ _ _).Nodup
      rw [put_key, if_pos e2]; exact h.nd
  · have e2 : ¬ sidx b.cs c < b.cs.length := by rw [h.cl]; exact e
    refine ⟨?_, ?_, ?_⟩
    · show (putL _ _ _).length = if _ then _ else _
      rw [if_neg e, put_key, if_neg e2, List.length_append, h.cl]; rfl
    · show (putL _ _ _).length = if _ then _ else _
      rw [if_neg e]
      unfold putL
      rw [if_neg (by rw [h.vl]; exact e), List.length_append, h.vl]; rfl
    · show (putL _ _ _).Nodup
      rw [put_key, if_neg e2]
      refine List.nodup_append.2 ⟨h.nd, by simp, fun x hx y hy => ?_⟩
      simp only [List.mem_singleton] at hy
      subst hy
      intro q; subst q
      exact e2 (Go.Sy.sidx_lt.2 hx)
theorem put_row {b : Bk} (h : BkC b) (c : ByteArray) (r : List Int) (c' : ByteArray) : (b.put c r).row c' = if c' = c then r else b.row c' := by
  have hC := put_C h c r
  have hle := Go.Sy.sidx_le b.cs c
  by_cases e : sidx b.cs c < b.m
  · have e2 : sidx b.cs c < b.cs.length := by rw [h.cl]; exact e
    have ecs : (b.put c r).cs = b.cs := by show putL _ _ _ = _; rw [put_key, if_pos e2]
    have evs : (b.put c r).vs = b.vs.set (sidx b.cs c) r := by show putL _ _ _ = _; unfold putL; rw [if_pos (by rw [h.vl]; exact e)]
    show (b.put c r).vs.getD (sidx (b.put c r).cs c') z16 = _
    rw [ecs, evs]
    by_cases q : c' = c
    · subst q
      rw [if_pos rfl, List.getD, List.getElem?_set_self (by rw [h.vl]; exact e)]; rfl
    · rw [if_neg q]
      have : sidx b.cs c ≠ sidx b.cs c' := fun w => by
        have g1 := Go.Sy.sidx_get e2
        have g2 := Go.Sy.sidx_get (l := b.cs) (s := c') (by rw [← w]; exact e2)
        rw [← w, g1] at g2
        exact q (Option.some.inj g2).symm
      rw [List.getD, List.getElem?_set_ne this]; rfl
  · have e2 : ¬ sidx b.cs c < b.cs.length := by rw [h.cl]; exact e
    have ecs : (b.put c r).cs = b.cs ++ [c] := by show putL _ _ _ = _; rw [put_key, if_neg e2]
    have evs : (b.put c r).vs = b.vs ++ [r] := by show putL _ _ _ = _; unfold putL; rw [if_neg (by rw [h.vl]; exact e)]
    by_cases q : c' = c
    · subst q
      rw [if_pos rfl, row_at hC (j := b.m) (by rw [ecs, List.getElem?_append_right (by rw [h.cl]; omega), h.cl, Nat.sub_self]; rfl), evs, List.getD, List.getElem?_append_right (by rw [h.vl]; omega), h.vl, Nat.sub_self]; rfl
    · rw [if_neg q]
      by_cases hm : c' ∈ b.cs
      · obtain ⟨j, hj⟩ := List.mem_iff_getElem?.1 hm
        have hjl : j < b.m := by rw [← h.cl]; exact (List.getElem?_eq_some_iff.1 hj).1
        rw [row_at h hj, row_at hC (j := j) (by rw [ecs, List.getElem?_append_left (by rw [h.cl]; exact hjl)]; exact hj), evs, List.getD, List.getElem?_append_left (by rw [h.vl]; exact hjl)]; rfl
      · rw [row_no h hm, row_no hC (by rw [ecs]; simp [hm, q])]
theorem put_mem {b : Bk} (h : BkC b) (c : ByteArray) (r : List Int) (s : ByteArray) : s ∈ (b.put c r).cs ↔ s ∈ b.cs ∨ s = c := by
  show s ∈ putL _ _ _ ↔ _
  rw [put_key]
  split
  · rename_i e
    exact ⟨.inl, fun q => q.elim id (fun q => by subst q; exact Go.Sy.sidx_lt.1 e)⟩
  · simp
theorem del_C {b : Bk} (h : BkC b) (c : ByteArray) : BkC (b.del c) := by
  by_cases e : sidx b.cs c < b.m
  · refine ⟨?_, ?_, ?_⟩
    · show (b.cs.eraseIdx _).length = if _ then _ else _
      rw [if_pos e, List.length_eraseIdx_of_lt (by rw [h.cl]; exact e), h.cl]
    · show (b.vs.eraseIdx _).length = if _ then _ else _
      rw [if_pos e, List.length_eraseIdx_of_lt (by rw [h.vl]; exact e), h.vl]
    · exact h.nd.sublist (List.eraseIdx_sublist _ _)
  · refine ⟨?_, ?_, ?_⟩
    · show (b.cs.eraseIdx _).length = if _ then _ else _
      rw [if_neg e, List.eraseIdx_of_length_le (by rw [h.cl]; omega), h.cl]
    · show (b.vs.eraseIdx _).length = if _ then _ else _
      rw [if_neg e, List.eraseIdx_of_length_le (by rw [h.vl]; omega), h.vl]
    · exact h.nd.sublist (List.eraseIdx_sublist _ _)
theorem del_mem {b : Bk} (h : BkC b) (c s : ByteArray) : s ∈ (b.del c).cs ↔ s ∈ b.cs ∧ s ≠ c := by
  show s ∈ b.cs.eraseIdx _ ↔ _
  constructor
  · intro q
    refine ⟨(List.eraseIdx_sublist _ _).subset q, fun w => ?_⟩
    subst w
    obtain ⟨j, hj⟩ := List.mem_iff_getElem?.1 q
    rw [List.getElem?_eraseIdx] at hj
    by_cases e : j < sidx b.cs s
    · rw [if_pos e] at hj
      have := Go.Sy.sidx_of_get h.nd hj; omega
    · rw [if_neg e] at hj
      have := Go.Sy.sidx_of_get h.nd hj; omega
  · rintro ⟨q, w⟩
    obtain ⟨j, hj⟩ := List.mem_iff_getElem?.1 q
    have hne : j ≠ sidx b.cs c := fun e => by
      have hl : sidx b.cs c < b.cs.length := by rw [← e]; exact (List.getElem?_eq_some_iff.1 hj).1
      have g := Go.Sy.sidx_get hl
      rw [← e, hj] at g
      exact w (Option.some.inj g)
    refine List.mem_iff_getElem?.2 ?_
    by_cases e : j < sidx b.cs c
    · exact ⟨j, by rw [List.getElem?_eraseIdx, if_pos e]; exact hj⟩
    · exact ⟨j - 1, by rw [List.getElem?_eraseIdx, if_neg (by omega), show j - 1 + 1 = j by omega]; exact hj⟩
theorem del_row {b : Bk} (h : BkC b) (c c' : ByteArray) : (b.del c).row c' = if c' = c then z16 else b.row c' := by
  have hC := del_C h c
  by_cases q : c' = c
  · subst q
    rw [if_pos rfl, row_no hC (fun w => ((del_mem h c' c').1 w).2 rfl)]
  · rw [if_neg q]
    by_cases hm : c' ∈ b.cs
    · obtain ⟨j, hj⟩ := List.mem_iff_getElem?.1 hm
      have hne : j ≠ sidx b.cs c := fun e => by
        have hl : sidx b.cs c < b.cs.length := by rw [← e]; exact (List.getElem?_eq_some_iff.1 hj).1
        have g := Go.Sy.sidx_get hl
        rw [← e, hj] at g
        exact q (Option.some.inj g)
      rw [row_at h hj]
      have ecs : (b.del c).cs = b.cs.eraseIdx (sidx b.cs c) := rfl
      have evs : (b.del c).vs = b.vs.eraseIdx (sidx b.cs c) := rfl
      by_cases e : j < sidx b.cs c
      · rw [row_at hC (j := j) (by rw [ecs, List.getElem?_eraseIdx, if_pos e]; exact hj), evs, List.getD, List.getElem?_eraseIdx, if_pos e]; rfl
      · rw [row_at hC (j := j - 1) (by rw [ecs, List.getElem?_eraseIdx, if_neg (by omega), show j - 1 + 1 = j by omega]; exact hj), evs, List.getD, List.getElem?_eraseIdx, if_neg (by omega), show j - 1 + 1 = j by omega]; rfl
    · rw [row_no h hm, row_no hC (fun w => hm ((del_mem h c c').1 w).1)]
theorem mv1_C {b : Bk} (h : BkC b) (c : ByteArray) (r : List Int) : BkC (b.mv1 c r) := by
  unfold Bk.mv1
  split
  · exact del_C (put_C h c r) c
  · exact put_C h c r
theorem mv1_row {b : Bk} (h : BkC b) (c : ByteArray) (r : List Int) (c' : ByteArray) : (b.mv1 c r).row c' = if c' = c then r else b.row c' := by
  unfold Bk.mv1
  by_cases e : r = z16
  · rw [if_pos e, del_row (put_C h c r), put_row h]
    by_cases q : c' = c
    · rw [if_pos q, if_pos q, e]
    · rw [if_neg q, if_neg q]
  · rw [if_neg e, put_row h]
theorem mv1_mem {b : Bk} (h : BkC b) (c : ByteArray) (r : List Int) (s : ByteArray) : s ∈ (b.mv1 c r).cs ↔ (s ∈ b.cs ∧ s ≠ c) ∨ (s = c ∧ r ≠ z16) := by
  unfold Bk.mv1
  by_cases e : r = z16
  · rw [if_pos e, del_mem (put_C h c r), put_mem h]
    constructor
    · rintro ⟨q | q, w⟩
      · exact .inl ⟨q, w⟩
      · exact absurd q w
    · rintro (q | q)
      · exact ⟨.inl q.1, q.2⟩
      · exact absurd e q.2
  · rw [if_neg e, put_mem h]
    constructor
    · rintro (q | q)
      · by_cases w : s = c
        · exact .inr ⟨w, e⟩
        · exact .inl ⟨q, w⟩
      · exact .inr ⟨q, e⟩
    · rintro (q | q)
      · exact .inl q.1
      · exact .inr q.1
/-- A book's invariant, with a bound of its positions. -/
structure BkI (b : Bk) (B : Int) : Prop where
  C : BkC b
  n16 : b.n ≤ 16
  psl : b.ps.length = b.n
  nz : ∀ c, c ∈ b.cs → b.row c ≠ z16
  c3 : ∀ c, c ∈ b.cs → curB c = true
  rl : ∀ c, (b.row c).length = 16
  rb : ∀ c j, -B ≤ (b.row c).getD j 0 ∧ (b.row c).getD j 0 ≤ B
  rs : ∀ c, (b.row c).sum = 0
  rt : ∀ c j, b.n ≤ j → (b.row c).getD j 0 = 0
theorem BkI.ok {b : Bk} {B : Int} (h : BkI b B) (hB : B ≤ 4503599627370496) : b.Ok := by
  have h0 := h.rb ⟨#[]⟩ 0
  refine ⟨h.n16, h.psl, vs_of h.C (P := fun r => r.length = 16) rfl h.rl, fun i j => ?_⟩
  refine vs_of h.C (P := fun r => -4503599627370496 ≤ r.getD j 0 ∧ r.getD j 0 ≤ 4503599627370496) ?_ (fun c => ?_) i
  · show _ ≤ z16.getD j 0 ∧ z16.getD j 0 ≤ _
    rw [z16_get]; decide
  · show -4503599627370496 ≤ (b.row c).getD j 0 ∧ (b.row c).getD j 0 ≤ 4503599627370496
    have := h.rb c j; omega
theorem BkI.cok {b : Bk} {B : Int} (h : BkI b B) (hm : b.m ≤ 100000) : b.Cok := by
  refine ⟨hm, fun s hs => ?_, h.C.nd⟩
  have := h.c3 s hs
  unfold curB at this
  simp only [Bool.and_eq_true, decide_eq_true_eq] at this
  omega
theorem mem_row {b : Bk} {B : Int} (h : BkI b B) (c : ByteArray) : c ∈ b.cs ↔ b.row c ≠ z16 :=
  ⟨h.nz c, fun q => Classical.byContradiction fun w => q (row_no h.C w)⟩
theorem getD_ext {l m : List Int} {n : Nat} (h1 : l.length = n) (h2 : m.length = n) (h : ∀ j, l.getD j 0 = m.getD j 0) : l = m := by
  refine List.ext_getElem (by omega) fun i hi hj => ?_
  have := h i
  rwa [List.getD, List.getD, List.getElem?_eq_getElem hi, List.getElem?_eq_getElem hj] at this
/-- Books with the same rows have the same list. -/
theorem list_congr {b b' : Bk} {B B' : Int} (h : BkI b B) (h' : BkI b' B') (hn : b.n = b'.n) (hp : b.ps = b'.ps) (hr : ∀ c j, (b.row c).getD j 0 = (b'.row c).getD j 0) : b.list = b'.list ∧ sortS b.cs = sortS b'.cs ∧ b.m = b'.m := by
  have hrow : ∀ c, b.row c = b'.row c := fun c => getD_ext (h.rl c) (h'.rl c) (hr c)
  have hperm : b.cs.Perm b'.cs := (List.perm_ext_iff_of_nodup h.C.nd h'.C.nd).2 fun c => by rw [mem_row h, mem_row h', hrow c]
  have hm : b.m = b'.m := by rw [← h.C.cl, ← h'.C.cl]; exact hperm.length_eq
  have hs : sortS b.cs = sortS b'.cs := sortS_congr hperm
  refine ⟨?_, hs, hm⟩
  unfold Bk.list
  rw [hs, hm]
  have : ∀ k, liA b (sortS b'.cs) k = liA b' (sortS b'.cs) k := by
    intro k
    induction k with
    | zero => rfl
    | succ k ih => simp only [liA]; rw [ih, hrow, hp, hn]
  exact this _
theorem sum_set (l : List Int) (i : Nat) (x : Int) (h : i < l.length) : (l.set i x).sum = l.sum - l.getD i 0 + x := by
  induction l generalizing i with
  | nil => simp at h
  | cons y l ih =>
    cases i with
    | zero => simp only [List.set_cons_zero, List.sum_cons, List.getD_cons_zero]; omega
    | succ i =>
      simp only [List.length_cons] at h
      simp only [List.set_cons_succ, List.sum_cons, List.getD_cons_succ]
      rw [ih i (by omega)]; omega
theorem mvRow_get {r : List Int} {F T : Nat} {a : Int} (hl : r.length = 16) (hF : F < 16) (hT : T < 16) (hne : F ≠ T) (j : Nat) : (mvRow r F T a).getD j 0 = r.getD j 0 + ((if j = F then -a else 0) + (if j = T then a else 0)) := by
  unfold mvRow
  rw [set_getD2 _ _ _ _ (by rw [List.length_set, hl]; exact hT), set_getD2 _ _ _ _ (by rw [hl]; exact hF)]
  by_cases e : j = T
  · subst e
    rw [if_pos rfl, if_neg (fun q => hne q.symm), if_pos rfl]; omega
  · rw [if_neg e, if_neg e]
    by_cases e2 : j = F
    · subst e2; rw [if_pos rfl, if_pos rfl]; omega
    · rw [if_neg e2, if_neg e2]; omega
theorem mvRow_sum {r : List Int} {F T : Nat} {a : Int} (hl : r.length = 16) (hF : F < 16) (hT : T < 16) (hne : F ≠ T) : (mvRow r F T a).sum = r.sum := by
  unfold mvRow
  rw [sum_set _ _ _ (by rw [List.length_set, hl]; exact hT), sum_set _ _ _ (by rw [hl]; exact hF), set_getD2 _ _ _ _ (by rw [hl]; exact hF), if_neg (fun q => hne q.symm)]
  omega
end Go.Proofs.YtkbidlijinclcaaDoor

/- Plain facts on sequences of moves. No program in sight. -/
namespace Go.Proofs.YtkbidlijinclcaaDoor
open Go.RowKit Go.Sy
set_option linter.unusedVariables false
set_option linter.unusedSimpArgs false

/-- The error of a move that no position decides. -/
def stE (b : Bk) (f t c : ByteArray) (a : Int) : Int :=
  if idI b.ps f b.n < 0 ∨ idI b.ps t b.n < 0 then 6
  else if idI b.ps f b.n = idI b.ps t b.n then 4
  else if mchk a c ≠ 0 then mchk a c
  else if a < 0 then 4 else 0
theorem stE_ok {b : Bk} {f t c : ByteArray} {a : Int} (h : stE b f t c a = 0) : sidx b.ps f < b.n ∧ sidx b.ps t < b.n ∧ sidx b.ps f ≠ sidx b.ps t ∧ curB c = true ∧ 0 ≤ a ∧ a ≤ 4503599627370496 ∧ mchk a c = 0 := by
  unfold stE at h
  split at h
  · cases h
  · rename_i h1
    split at h
    · cases h
    · rename_i h2
      split at h
      · rename_i h3; exact absurd h h3
      · rename_i h3
        split at h
        · cases h
        · rename_i h4
          have h3' : mchk a c = 0 := by simpa using h3
          have hm := mchk_or a c
          rw [h3'] at hm
          have g1 : sidx b.ps f < b.n := by
            rcases Nat.lt_or_ge (sidx b.ps f) b.n with q | q
            · exact q
            · exact absurd (Or.inl (by rw [idI_no (by omega)]; decide)) h1
          have g2 : sidx b.ps t < b.n := by
            rcases Nat.lt_or_ge (sidx b.ps t) b.n with q | q
            · exact q
            · exact absurd (Or.inr (by rw [idI_no (by omega)]; decide)) h1
          rw [idI_lt g1, idI_lt g2] at h2
          rcases hm with hm | hm
          · omega
          · exact ⟨g1, g2, by omega, hm.2.1, by omega, hm.2.2.2, h3'⟩
theorem mvE_st (b : Bk) (f t c : ByteArray) (a : Int) : mvE b f t c a = if stE b f t c a ≠ 0 then stE b f t c a else if fitB ((b.row c).getD (sidx b.ps f) 0 - a) = true ∧ fitB ((b.row c).getD (sidx b.ps t) 0 + a) = true then 0 else 4 := by
  unfold mvE stE
  split
  · rfl
  · split
    · rfl
    · split
      · rfl
      · split
        · rfl
        · rfl
/-- A move that is not refused keeps the invariant. -/
theorem mv1_I {b : Bk} {B B' : Int} (h : BkI b B) {f t c : ByteArray} {a : Int} (hs : stE b f t c a = 0) (hB : B ≤ B') (h1 : -B' ≤ (b.row c).getD (sidx b.ps f) 0 - a ∧ (b.row c).getD (sidx b.ps f) 0 - a ≤ B') (h2 : -B' ≤ (b.row c).getD (sidx b.ps t) 0 + a ∧ (b.row c).getD (sidx b.ps t) 0 + a ≤ B') : BkI (b.mv1 c (mvRow (b.row c) (sidx b.ps f) (sidx b.ps t) a)) B' := by
  obtain ⟨hF, hT, hne, hc, ha, _⟩ := stE_ok hs
  have hn := h.n16
  have hps : (b.mv1 c (mvRow (b.row c) (sidx b.ps f) (sidx b.ps t) a)).ps = b.ps := by unfold Bk.mv1; split <;> rfl
  have hnn : (b.mv1 c (mvRow (b.row c) (sidx b.ps f) (sidx b.ps t) a)).n = b.n := by unfold Bk.mv1; split <;> rfl
  have hg := mvRow_get (a := a) (h.rl c) (show sidx b.ps f < 16 by omega) (show sidx b.ps t < 16 by omega) hne
  refine ⟨mv1_C h.C _ _, by rw [hnn]; exact hn, by rw [hps, hnn]; exact h.psl, fun s q => ?_, fun s q => ?_, fun s => ?_, fun s j => ?_, fun s => ?_, fun s j q => ?_⟩
  · rw [mv1_mem h.C] at q
    rw [mv1_row h.C]
    rcases q with q | q
    · rw [if_neg q.2]; exact h.nz s q.1
    · rw [if_pos q.1]; exact q.2
  · rw [mv1_mem h.C] at q
    rcases q with q | q
    · exact h.c3 s q.1
    · rw [q.1]; exact hc
  · rw [mv1_row h.C]
    split
    · rw [List.length_set, List.length_set]; exact h.rl c
    · exact h.rl s
  · rw [mv1_row h.C]
    split
    · rw [hg j]
      have := h.rb c j
      by_cases e1 : j = sidx b.ps f
      · rw [if_pos e1, if_neg (by omega), e1]; omega
      · by_cases e2 : j = sidx b.ps t
        · rw [if_neg e1, if_pos e2, e2]; omega
        · rw [if_neg e1, if_neg e2]; omega
    · have := h.rb s j; omega
  · rw [mv1_row h.C]
    split
    · rw [mvRow_sum (h.rl c) (by omega) (by omega) hne]; exact h.rs c
    · exact h.rs s
  · rw [hnn] at q
    rw [mv1_row h.C]
    split
    · rw [hg j, if_neg (by omega), if_neg (by omega), h.rt c j q]; rfl
    · exact h.rt s j q
theorem mv_ps (b : Bk) (f t c : ByteArray) (a : Int) : (b.mv f t c a).ps = b.ps ∧ (b.mv f t c a).n = b.n := by
  unfold Bk.mv Bk.mv1
  split
  · split <;> exact ⟨rfl, rfl⟩
  · exact ⟨rfl, rfl⟩
theorem mv_m (b : Bk) (f t c : ByteArray) (a : Int) : (b.mv f t c a).m ≤ b.m + 1 := by
  have hp : ∀ r, (b.put c r).m ≤ b.m + 1 := fun r => by
    unfold Bk.put; dsimp only
    split <;> omega
  have hd : ∀ b' : Bk, (b'.del c).m ≤ b'.m := fun b' => by
    unfold Bk.del; dsimp only
    split <;> omega
  unfold Bk.mv Bk.mv1
  split
  · split
    · exact Nat.le_trans (hd _) (hp _)
    · exact hp _
  · omega
/-- Any move keeps the invariant at the greatest bound. -/
theorem mv_I {b : Bk} (h : BkI b 4503599627370496) (f t c : ByteArray) (a : Int) : BkI (b.mv f t c a) 4503599627370496 := by
  by_cases e : mvE b f t c a = 0
  · have e2 := e
    rw [mvE_st] at e2
    by_cases s : stE b f t c a = 0
    · rw [if_neg (by simpa using s)] at e2
      split at e2
      · rename_i g
        rw [fitB_t, fitB_t] at g
        unfold Bk.mv
        rw [if_pos e]
        exact mv1_I h s (Int.le_refl _) g.1 g.2
      · cases e2
    · rw [if_pos s] at e2; exact absurd e2 s
  · rw [mv_err e]; exact h
/-- A move of a small amount in a book of small positions: no position refuses it. -/
theorem mv_small {b : Bk} {B : Int} (h : BkI b B) (hB : B + 1000000000000 ≤ 4503599627370496) (f t c : ByteArray) (a : Int) (ha : a ≤ 1000000000000) : mvE b f t c a = stE b f t c a ∧ BkI (b.mv f t c a) (B + 1000000000000) := by
  by_cases s : stE b f t c a = 0
  · have hk := stE_ok s
    have r1 := h.rb c (sidx b.ps f)
    have r2 := h.rb c (sidx b.ps t)
    have e : mvE b f t c a = 0 := by
      rw [mvE_st, if_neg (by simpa using s), if_pos ⟨fitB_t.2 (by omega), fitB_t.2 (by omega)⟩]
    refine ⟨by rw [e, s], ?_⟩
    unfold Bk.mv
    rw [if_pos e]
    exact mv1_I h s (by omega) (by omega) (by omega)
  · have e : mvE b f t c a = stE b f t c a := by rw [mvE_st, if_pos s]
    refine ⟨e, ?_⟩
    rw [mv_err (by rw [e]; exact s)]
    have g := h.rb
    exact ⟨h.C, h.n16, h.psl, h.nz, h.c3, h.rl, fun c j => by have := g c j; omega, h.rs, h.rt⟩
/-- What a move adds to a position. -/
def dM (b : Bk) (f t c : ByteArray) (a : Int) (c' : ByteArray) (j : Nat) : Int := if stE b f t c a = 0 ∧ c' = c then (if j = sidx b.ps f then -a else 0) + (if j = sidx b.ps t then a else 0) else 0
theorem mv_row {b : Bk} {B : Int} (h : BkI b B) {f t c : ByteArray} {a : Int} (he : mvE b f t c a = stE b f t c a) (c' : ByteArray) (j : Nat) : ((b.mv f t c a).row c').getD j 0 = (b.row c').getD j 0 + dM b f t c a c' j := by
  unfold dM
  by_cases s : stE b f t c a = 0
  · obtain ⟨hF, hT, hne, hc, ha, _⟩ := stE_ok s
    have hn := h.n16
    unfold Bk.mv
    rw [if_pos (by rw [he]; exact s), mv1_row h.C]
    by_cases q : c' = c
    · rw [if_pos q, if_pos ⟨s, q⟩, mvRow_get (h.rl c) (by omega) (by omega) hne, q]
    · rw [if_neg q, if_neg (fun w => q w.2)]; omega
  · rw [mv_err (by rw [he]; exact s), if_neg (fun w => s w.1)]; omega
structure Mv where
  f : ByteArray
  t : ByteArray
  a : Int
  c : ByteArray
def mv0 : Mv := ⟨⟨#[]⟩, ⟨#[]⟩, 0, ⟨#[]⟩⟩
abbrev Bk.go (b : Bk) (m : Mv) : Bk := b.mv m.f m.t m.c m.a
def Bk.all (b : Bk) (M : List Mv) : Bk := M.foldl Bk.go b
theorem all_snoc (b : Bk) (M : List Mv) (m : Mv) : b.all (M ++ [m]) = (b.all M).go m := by unfold Bk.all; rw [List.foldl_append]; rfl
theorem all_ps (b : Bk) : ∀ M : List Mv, (b.all M).ps = b.ps ∧ (b.all M).n = b.n := fun M => by
  unfold Bk.all
  induction M generalizing b with
  | nil => exact ⟨rfl, rfl⟩
  | cons m M ih =>
    have := ih (b.go m)
    have h2 := mv_ps b m.f m.t m.c m.a
    exact ⟨this.1.trans h2.1, this.2.trans h2.2⟩
theorem all_m (b : Bk) : ∀ M : List Mv, (b.all M).m ≤ b.m + M.length := fun M => by
  unfold Bk.all
  induction M generalizing b with
  | nil => exact Nat.le_refl _
  | cons m M ih =>
    have := ih (b.go m)
    have h2 : (b.go m).m ≤ b.m + 1 := mv_m b m.f m.t m.c m.a
    simp only [List.foldl_cons, List.length_cons]
    omega
theorem all_I {b : Bk} (h : BkI b 4503599627370496) : ∀ M : List Mv, BkI (b.all M) 4503599627370496 := fun M => by
  unfold Bk.all
  induction M generalizing b with
  | nil => exact h
  | cons m M ih => exact ih (mv_I h m.f m.t m.c m.a)
theorem stE_ps {b b' : Bk} (h1 : b'.ps = b.ps) (h2 : b'.n = b.n) (f t c : ByteArray) (a : Int) : stE b' f t c a = stE b f t c a := by unfold stE; rw [h1, h2]
theorem dM_ps {b b' : Bk} (h1 : b'.ps = b.ps) (h2 : b'.n = b.n) (f t c : ByteArray) (a : Int) (c' : ByteArray) (j : Nat) : dM b' f t c a c' j = dM b f t c a c' j := by unfold dM; rw [stE_ps h1 h2, h1]
/-- Small moves: each position is the sum of what the moves add. -/
theorem all_row {b : Bk} {B : Int} (h : BkI b B) : ∀ (M : List Mv), (∀ m ∈ M, m.a ≤ 1000000000000) → B + 1000000000000 * (M.length : Int) ≤ 4503599627370496 → BkI (b.all M) (B + 1000000000000 * (M.length : Int)) ∧ ∀ c j, ((b.all M).row c).getD j 0 = (b.row c).getD j 0 + (M.map (fun m => dM b m.f m.t m.c m.a c j)).sum := fun M => by
  unfold Bk.all
  induction M generalizing b B with
  | nil =>
    intro _ _
    refine ⟨?_, fun c j => by simp⟩
    have e : B + 1000000000000 * ((([] : List Mv).length : Nat) : Int) = B := by simp
    rw [e]; exact h
  | cons m M ih =>
    intro ha hB
    simp only [List.length_cons] at hB ⊢
    obtain ⟨g1, g2⟩ := mv_small h (by omega) m.f m.t m.c m.a (ha m (List.mem_cons_self))
    obtain ⟨i1, i2⟩ := ih g2 (fun x hx => ha x (List.mem_cons_of_mem _ hx)) (by omega)
    have hp := mv_ps b m.f m.t m.c m.a
    refine ⟨?_, fun c j => ?_⟩
    · have e : B + 1000000000000 * ((M.length + 1 : Nat) : Int) = B + 1000000000000 + 1000000000000 * (M.length : Int) := by omega
      rw [e]; exact i1
    · rw [List.foldl_cons, i2 c j, mv_row h g1 c j, List.map_cons, List.sum_cons]
      have : M.map (fun m' => dM (b.go m) m'.f m'.t m'.c m'.a c j) = M.map (fun m' => dM b m'.f m'.t m'.c m'.a c j) := List.map_congr_left fun x _ => dM_ps hp.1 hp.2 _ _ _ _ _ _
      rw [this]; omega
theorem psum {l m : List Int} (h : l.Perm m) : l.sum = m.sum := by
  induction h with
  | nil => rfl
  | cons x _ ih => simp only [List.sum_cons]; omega
  | swap x y l => simp only [List.sum_cons]; omega
  | trans _ _ i1 i2 => omega
/-- The order of small moves does not matter. -/
theorem all_perm {b : Bk} (h : BkI b 0) {M N : List Mv} (hp : M.Perm N) (ha : ∀ m ∈ M, m.a ≤ 1000000000000) (hl : M.length ≤ 60) : (b.all M).list = (b.all N).list ∧ BkI (b.all M) 4503599627370496 := by
  have hl2 := hp.length_eq
  obtain ⟨g1, g2⟩ := all_row h M ha (by omega)
  obtain ⟨g3, g4⟩ := all_row h N (fun m hm => ha m (hp.mem_iff.2 hm)) (by omega)
  have p1 := all_ps b M
  have p2 := all_ps b N
  refine ⟨(list_congr g1 g3 (by rw [p1.2, p2.2]) (by rw [p1.1, p2.1]) fun c j => ?_).1, ?_⟩
  · rw [g2, g4, psum (hp.map _)]
  · have g := g1.rb
    exact ⟨g1.C, g1.n16, g1.psl, g1.nz, g1.c3, g1.rl, fun c j => by have := g c j; omega, g1.rs, g1.rt⟩
theorem stE_swap {b : Bk} {f t c : ByteArray} {a : Int} (h : stE b f t c a = 0) : stE b t f c a = 0 := by
  obtain ⟨h1, h2, h3, h4, h5, h6, h7⟩ := stE_ok h
  unfold stE
  rw [idI_lt h1, idI_lt h2, if_neg (by omega), if_neg (by omega), if_neg (by simpa using h7), if_neg (by omega)]
/-- A move and the opposite one change no position. -/
theorem mv_back {b : Bk} (h : BkI b 4503599627370496) {f t c : ByteArray} {a : Int} (he : mvE b f t c a = 0) : mvE (b.mv f t c a) t f c a = 0 ∧ ∀ c' j, (((b.mv f t c a).mv t f c a).row c').getD j 0 = (b.row c').getD j 0 := by
  have s : stE b f t c a = 0 := by
    rw [mvE_st] at he
    by_cases q : stE b f t c a = 0
    · exact q
    · rw [if_pos q] at he; exact he
  obtain ⟨hF, hT, hne, hc, ha, _⟩ := stE_ok s
  have hn := h.n16
  have hI := mv_I h f t c a
  have hp := mv_ps b f t c a
  have r1 := mv_row h (by rw [he, s])
  have s2 : stE (b.mv f t c a) t f c a = 0 := by rw [stE_ps hp.1 hp.2]; exact stE_swap s
  have d1 : dM b f t c a c (sidx b.ps t) = a := by unfold dM; rw [if_pos ⟨s, rfl⟩, if_neg (fun q => hne q.symm), if_pos rfl]; omega
  have d2 : dM b f t c a c (sidx b.ps f) = -a := by unfold dM; rw [if_pos ⟨s, rfl⟩, if_pos rfl, if_neg hne]; omega
  have e2 : mvE (b.mv f t c a) t f c a = 0 := by
    have b1 := h.rb c (sidx b.ps f)
    have b2 := h.rb c (sidx b.ps t)
    rw [mvE_st, if_neg (by simpa using s2), hp.1, r1, r1, d1, d2, if_pos ⟨fitB_t.2 (by omega), fitB_t.2 (by omega)⟩]
  refine ⟨e2, fun c' j => ?_⟩
  rw [mv_row hI (by rw [e2, s2]) c' j, r1 c' j, dM_ps hp.1 hp.2]
  have : dM b f t c a c' j + dM b t f c a c' j = 0 := by
    unfold dM
    by_cases q : c' = c
    · rw [if_pos (show stE b f t c a = 0 ∧ c' = c from ⟨s, q⟩), if_pos (show stE b t f c a = 0 ∧ c' = c from ⟨stE_swap s, q⟩)]
      by_cases w1 : j = sidx b.ps f
      · have w2 : ¬ j = sidx b.ps t := by omega
        rw [if_pos w1, if_neg w2, if_neg w2, if_pos w1]; omega
      · rw [if_neg w1]
        by_cases w2 : j = sidx b.ps t
        · rw [if_pos w2, if_pos w2, if_neg w1]; omega
        · rw [if_neg w2, if_neg w2, if_neg w1]; omega
    · rw [if_neg (fun w => q w.2), if_neg (fun w => q w.2)]; rfl
  omega
end Go.Proofs.YtkbidlijinclcaaDoor

/- Contracts of the law's helpers; contracts of a book as the laws see it. -/
namespace Go.Proofs.YtkbidlijinclcaaDoor
open Go.RowKit Go.Sy
attribute [local irreducible] vcall vloop vcallD retP
set_option maxRecDepth 100000
set_option linter.unusedVariables false
set_option linter.unusedSimpArgs false

theorem i64_succ' {k : Nat} (h : k < 9223372036854775807) : IntKind.i64.wrap ((k : Int) + 1) = ((k + 1 : Nat) : Int) := by rw [w64_in (by omega) (by omega)]; rfl
abbrev mvB (n : Nat) (mf mt : List ByteArray) (ma : List Int) (mc : List ByteArray) : Blk := .cols n [.sc (.strs mf), .sc (.strs mt), .sc (.ints .i64 ma), .sc (.strs mc)]
abbrev rlB (q : RL) : Blk := .cols q.l [.sc (.strs q.f), .sc (.strs q.t), .sc (.ints .i64 q.n), .sc (.ints .i64 q.d)]
def szK (mf mt mc : List ByteArray) : Nat → Bool
  | 0 => true
  | k + 1 => szK mf mt mc k && !decide (100 < IntKind.i64.wrap (IntKind.i64.wrap (((mf.getD k ⟨#[]⟩).size : Int) + ((mt.getD k ⟨#[]⟩).size : Int)) + ((mc.getD k ⟨#[]⟩).size : Int)))
theorem szK_stop {mf mt mc : List ByteArray} {k : Nat} (h : 100 < IntKind.i64.wrap (IntKind.i64.wrap (((mf.getD k ⟨#[]⟩).size : Int) + ((mt.getD k ⟨#[]⟩).size : Int)) + ((mc.getD k ⟨#[]⟩).size : Int))) : ∀ n, k < n → szK mf mt mc n = false
  | 0, q => by omega
  | n + 1, q => by
    simp only [szK]
    by_cases e : k = n
    · subst e; rw [decide_eq_true h]; simp
    · rw [szK_stop h n (by omega), Bool.false_and]
def rzK (rf rt : List ByteArray) : Nat → Bool
  | 0 => true
  | k + 1 => rzK rf rt k && !decide (50 < IntKind.i64.wrap (((rf.getD k ⟨#[]⟩).size : Int) + ((rt.getD k ⟨#[]⟩).size : Int)))
theorem rzK_stop {rf rt : List ByteArray} {k : Nat} (h : 50 < IntKind.i64.wrap (((rf.getD k ⟨#[]⟩).size : Int) + ((rt.getD k ⟨#[]⟩).size : Int))) : ∀ n, k < n → rzK rf rt n = false
  | 0, q => by omega
  | n + 1, q => by
    simp only [rzK]
    by_cases e : k = n
    · subst e; rw [decide_eq_true h]; simp
    · rw [rzK_stop h n (by omega), Bool.false_and]
def smB (mf mt mc : List ByteArray) (n : Nat) (q : RL) : Bool := szK mf mt mc n && (rzK q.f q.t q.l && (decide (n ≤ 60) && decide (q.l ≤ 20)))
theorem smB_ok {mf mt mc : List ByteArray} {n : Nat} {q : RL} (h : smB mf mt mc n q = true) : n ≤ 60 ∧ q.l ≤ 20 := by
  unfold smB at h
  simp only [Bool.and_eq_true, decide_eq_true_eq] at h
  exact h.2.2
theorem law_small (n : Nat) (mf mt : List ByteArray) (ma : List Int) (mc : List ByteArray) (q : RL) (hn : n ≤ maxLen) (hq : q.l ≤ maxLen) : FC Tryd.prog 3 10 [.sl 1 0 0 n, .sl 2 0 0 q.l] [(1, some (.one true (mvB n mf mt ma mc))), (2, some (.one true (rlB q)))] (isOut (.bool (smB mf mt mc n q)) [] 3) := by
  have eM : maxLen = 9223372036854775807 := rfl
  refine fc_of mixed T_ok Tryd.func10 rfl (by kernel_rfl) (by kernel_rfl) (by kernel_rfl) ?_
  repeat' ((conv => whnf); first | (refine br_dec (fun h => ?_) (fun h => ?_) <;> try (exfalso; (try dsimp only at h); omega)) | (refine br_ndec (fun h => ?_) (fun h => ?_) <;> try (exfalso; (try dsimp only at h); omega)) | refine br_seq (fun h => ?_) (fun h => ?_) | refine br_nseq (fun h => ?_) (fun h => ?_) | refine br_not (fun h => ?_) (fun h => ?_) | refine br_intro (fun h => ?_) (fun h => ?_) | refine cond_intro rfl ?_ | (refine cond_intro ⟨rfl, ?_⟩ ?_; (first | omega | (dsimp only; omega) | decide)) | (refine cond_intro ?_ ?_; (first | omega | (dsimp only; omega) | decide | (simp only [Nat.add_zero, Int.toNat_natCast, *]; omega))))
  all_goals (conv => whnf)
  refine vloop_lp (fun k : Nat => ⟨[(0, .sl 1 0 0 n), (1, .sl 2 0 0 q.l), (5, .int .i64 k)], [(1, some (.one true (mvB n mf mt ma mc))), (2, some (.one true (rlB q)))], 3⟩) (fun k => k ≤ n ∧ szK mf mt mc k = true) (fun k => n - k) 0 [0, 1, 2] [] ⟨rfl, ⟨rfl, rfl, rfl, trivial⟩, ⟨rfl, rfl, trivial⟩⟩ ⟨Nat.zero_le _, rfl⟩ ?_
  rintro k ⟨hk, hs⟩
  by_cases hk2 : k < n
  · by_cases g : 100 < IntKind.i64.wrap (IntKind.i64.wrap (((mf.getD k ⟨#[]⟩).size : Int) + ((mt.getD k ⟨#[]⟩).size : Int)) + ((mc.getD k ⟨#[]⟩).size : Int))
    · have e : smB mf mt mc n q = false := by unfold smB; rw [szK_stop g n hk2, Bool.false_and]
      rw [e]
      repeat' ((conv => whnf); first | (refine br_dec (fun h => ?_) (fun h => ?_) <;> try (exfalso; (try dsimp only at h); omega)) | (refine br_ndec (fun h => ?_) (fun h => ?_) <;> try (exfalso; (try dsimp only at h); omega)) | refine br_seq (fun h => ?_) (fun h => ?_) | refine br_nseq (fun h => ?_) (fun h => ?_) | refine br_not (fun h => ?_) (fun h => ?_) | refine br_intro (fun h => ?_) (fun h => ?_) | refine cond_intro rfl ?_ | (refine cond_intro ⟨rfl, ?_⟩ ?_; (first | omega | (dsimp only; omega) | decide)) | (refine cond_intro ?_ ?_; (first | omega | (dsimp only; omega) | decide | (simp only [Nat.add_zero, Int.toNat_natCast, *]; omega))))
      all_goals (conv => whnf)
      all_goals first
        | exact ret_out (l := [0, 1, 2]) rfl rfl trivial allRw_nil
        | (exfalso; first | omega | contradiction)
        | trace_state
    · have e : szK mf mt mc (k + 1) = true := by simp only [szK]; rw [hs, decide_eq_false g]; rfl
      repeat' ((conv => whnf); first | (refine br_dec (fun h => ?_) (fun h => ?_) <;> try (exfalso; (try dsimp only at h); omega)) | (refine br_ndec (fun h => ?_) (fun h => ?_) <;> try (exfalso; (try dsimp only at h); omega)) | refine br_seq (fun h => ?_) (fun h => ?_) | refine br_nseq (fun h => ?_) (fun h => ?_) | refine br_not (fun h => ?_) (fun h => ?_) | refine br_intro (fun h => ?_) (fun h => ?_) | refine cond_intro rfl ?_ | (refine cond_intro ⟨rfl, ?_⟩ ?_; (first | omega | (dsimp only; omega) | decide)) | (refine cond_intro ?_ ?_; (first | omega | (dsimp only; omega) | decide | (simp only [Nat.add_zero, Int.toNat_natCast, *]; omega))))
      all_goals (conv => whnf)
      all_goals first
        | exact ⟨k + 1, [0, 1, 2], [], ⟨hk2, e⟩, (show n - (k + 1) < n - k by omega), ⟨rfl, ⟨rfl, rfl, congrArg (fun z => some (SV.int .i64 z)) (i64_succ' (by omega)), trivial⟩, ⟨rfl, rfl, trivial⟩⟩⟩
        | (exfalso; first | omega | contradiction)
        | trace_state
  have ek : k = n := by omega
  subst ek
  repeat' ((conv => whnf); first | (refine br_dec (fun h => ?_) (fun h => ?_) <;> try (exfalso; (try dsimp only at h); omega)) | (refine br_ndec (fun h => ?_) (fun h => ?_) <;> try (exfalso; (try dsimp only at h); omega)) | refine br_seq (fun h => ?_) (fun h => ?_) | refine br_nseq (fun h => ?_) (fun h => ?_) | refine br_not (fun h => ?_) (fun h => ?_) | refine br_intro (fun h => ?_) (fun h => ?_) | refine cond_intro rfl ?_ | (refine cond_intro ⟨rfl, ?_⟩ ?_; (first | omega | (dsimp only; omega) | decide)) | (refine cond_intro ?_ ?_; (first | omega | (dsimp only; omega) | decide | (simp only [Nat.add_zero, Int.toNat_natCast, *]; omega))))
  all_goals (conv => whnf)
  all_goals first
    | (exfalso; omega)
    | skip
  refine vloop_lp (fun j : Nat => ⟨[(0, .sl 1 0 0 k), (1, .sl 2 0 0 q.l), (6, .int .i64 j)], [(1, some (.one true (mvB k mf mt ma mc))), (2, some (.one true (rlB q)))], 3⟩) (fun j => j ≤ q.l ∧ rzK q.f q.t j = true) (fun j => q.l - j) 0 [0, 1, 2] [] ⟨rfl, ⟨rfl, rfl, rfl, trivial⟩, ⟨rfl, rfl, trivial⟩⟩ ⟨Nat.zero_le _, rfl⟩ ?_
  rintro j ⟨hj, hz⟩
  by_cases hj2 : j < q.l
  · by_cases g : 50 < IntKind.i64.wrap (((q.f.getD j ⟨#[]⟩).size : Int) + ((q.t.getD j ⟨#[]⟩).size : Int))
    · have e : smB mf mt mc k q = false := by unfold smB; rw [rzK_stop g q.l hj2, Bool.false_and, Bool.and_false]
      rw [e]
      repeat' ((conv => whnf); first | (refine br_dec (fun h => ?_) (fun h => ?_) <;> try (exfalso; (try dsimp only at h); omega)) | (refine br_ndec (fun h => ?_) (fun h => ?_) <;> try (exfalso; (try dsimp only at h); omega)) | refine br_seq (fun h => ?_) (fun h => ?_) | refine br_nseq (fun h => ?_) (fun h => ?_) | refine br_not (fun h => ?_) (fun h => ?_) | refine br_intro (fun h => ?_) (fun h => ?_) | refine cond_intro rfl ?_ | (refine cond_intro ⟨rfl, ?_⟩ ?_; (first | omega | (dsimp only; omega) | decide)) | (refine cond_intro ?_ ?_; (first | omega | (dsimp only; omega) | decide | (simp only [Nat.add_zero, Int.toNat_natCast, *]; omega))))
      all_goals (conv => whnf)
      all_goals first
        | exact ret_out (l := [0, 1, 2]) rfl rfl trivial allRw_nil
        | (exfalso; first | omega | contradiction)
        | trace_state
    · have e : rzK q.f q.t (j + 1) = true := by simp only [rzK]; rw [hz, decide_eq_false g]; rfl
      repeat' ((conv => whnf); first | (refine br_dec (fun h => ?_) (fun h => ?_) <;> try (exfalso; (try dsimp only at h); omega)) | (refine br_ndec (fun h => ?_) (fun h => ?_) <;> try (exfalso; (try dsimp only at h); omega)) | refine br_seq (fun h => ?_) (fun h => ?_) | refine br_nseq (fun h => ?_) (fun h => ?_) | refine br_not (fun h => ?_) (fun h => ?_) | refine br_intro (fun h => ?_) (fun h => ?_) | refine cond_intro rfl ?_ | (refine cond_intro ⟨rfl, ?_⟩ ?_; (first | omega | (dsimp only; omega) | decide)) | (refine cond_intro ?_ ?_; (first | omega | (dsimp only; omega) | decide | (simp only [Nat.add_zero, Int.toNat_natCast, *]; omega))))
      all_goals (conv => whnf)
      all_goals first
        | exact ⟨j + 1, [0, 1, 2], [], ⟨hj2, e⟩, (show q.l - (j + 1) < q.l - j by omega), ⟨rfl, ⟨rfl, rfl, congrArg (fun z => some (SV.int .i64 z)) (i64_succ' (by omega)), trivial⟩, ⟨rfl, rfl, trivial⟩⟩⟩
        | (exfalso; first | omega | contradiction)
        | trace_state
  have ej : j = q.l := by omega
  have e : smB mf mt mc k q = (decide (k ≤ 60) && decide (q.l ≤ 20)) := by unfold smB; rw [hs, ← ej, hz]; rfl
  rw [e]
  by_cases w1 : k ≤ 60 <;> by_cases w2 : q.l ≤ 20
  all_goals simp only [w1, w2, decide_true, decide_false, Bool.and_true, Bool.and_false, Bool.true_and, Bool.false_and]
  all_goals repeat' ((conv => whnf); first | (refine br_dec (fun h => ?_) (fun h => ?_) <;> try (exfalso; (try dsimp only at h); omega)) | (refine br_ndec (fun h => ?_) (fun h => ?_) <;> try (exfalso; (try dsimp only at h); omega)) | refine br_seq (fun h => ?_) (fun h => ?_) | refine br_nseq (fun h => ?_) (fun h => ?_) | refine br_not (fun h => ?_) (fun h => ?_) | refine br_intro (fun h => ?_) (fun h => ?_) | refine cond_intro rfl ?_ | (refine cond_intro ⟨rfl, ?_⟩ ?_; (first | omega | (dsimp only; omega) | decide)) | (refine cond_intro ?_ ?_; (first | omega | (dsimp only; omega) | decide | (simp only [Nat.add_zero, Int.toNat_natCast, *]; omega))))
  all_goals (conv => whnf)
  all_goals first
    | exact ret_out (l := [0, 1, 2]) rfl rfl trivial allRw_nil
    | exact ret_out (l := [0, 1, 2]) rfl (congrArg SV.bool (decide_eq_true (by omega))) trivial allRw_nil
    | exact ret_out (l := [0, 1, 2]) rfl (congrArg SV.bool (decide_eq_false (by omega))) trivial allRw_nil
    | (exfalso; omega)
    | trace_state
def rl0 : RL := ⟨[], [], [], [], 0⟩
theorem hget_swap {a b : Nat} {x y : Option HB} (h : a ≠ b) (k : Nat) : hget [(b, y), (a, x)] k = hget [(a, x), (b, y)] k := by
  simp only [hget]
  cases ha : Nat.beq a k <;> cases hb : Nat.beq b k <;> try rfl
  exact absurd ((Nat.eq_of_beq_eq_true ha).trans (Nat.eq_of_beq_eq_true hb).symm) h
theorem law_smallN (n : Nat) (mf mt : List ByteArray) (ma : List Int) (mc : List ByteArray) (hn : n ≤ maxLen) : FC Tryd.prog 2 10 [.sl 1 0 0 n, .nsl] [(1, some (.one true (mvB n mf mt ma mc)))] (isOut (.bool (smB mf mt mc n rl0)) [] 3) := by
  have h := fc_ext (H' := [(2, some (.one true (rlB rl0))), (1, some (.one true (mvB n mf mt ma mc)))]) (hget_swap (by decide)) (law_small n mf mt ma mc rl0 hn (Nat.zero_le _))
  exact fc_argnil (n := 2) (args := [.sl 1 0 0 n, .nsl]) (args1 := [.sl 1 0 0 n, .sl 2 0 0 0]) (cs := [.sc (.strs []), .sc (.strs []), .sc (.ints .i64 []), .sc (.ints .i64 [])]) rfl (by exact ⟨.inl rfl, .inr ⟨rfl, rfl⟩, trivial⟩) h
theorem law_same (pc : PxC) (n : Nat) (hl : n ≤ 100000) : FC Tryd.prog 3 12 [.sl 1 0 0 n, .sl 2 0 0 n] [(1, some (.one true (pxB n pc))), (2, some (.one true (pxB n pc)))] (isOut (.bool true) [] 3) := by
  refine fc_of mixed T_ok Tryd.func12 rfl (by kernel_rfl) (by kernel_rfl) (by kernel_rfl) ?_
  repeat' ((conv => whnf); first | (refine br_dec (fun h => ?_) (fun h => ?_) <;> try (exfalso; (try dsimp only at h); omega)) | (refine br_ndec (fun h => ?_) (fun h => ?_) <;> try (exfalso; (try dsimp only at h); omega)) | refine br_seq (fun h => ?_) (fun h => ?_) | refine br_nseq (fun h => ?_) (fun h => ?_) | refine br_not (fun h => ?_) (fun h => ?_) | refine br_intro (fun h => ?_) (fun h => ?_) | refine cond_intro rfl ?_ | (refine cond_intro ⟨rfl, ?_⟩ ?_; (first | omega | (dsimp only; omega) | decide)) | (refine cond_intro ?_ ?_; (first | omega | (dsimp only; omega) | decide | (simp only [Nat.add_zero, Int.toNat_natCast, *]; omega))))
  all_goals (conv => whnf)
  all_goals first
    | (exfalso; first | omega | contradiction)
    | skip
  refine vloop_lp (fun k : Nat => ⟨[(0, .sl 1 0 0 n), (1, .sl 2 0 0 n), (5, .int .i64 k)], [(1, some (.one true (pxB n pc))), (2, some (.one true (pxB n pc)))], 3⟩) (fun k => k ≤ n) (fun k => n - k) 0 [0, 1, 2] [] ⟨rfl, ⟨rfl, rfl, rfl, trivial⟩, ⟨rfl, rfl, trivial⟩⟩ (Nat.zero_le _) ?_
  intro k hk
  by_cases hk2 : k < n
  · repeat' ((conv => whnf); first | (refine br_dec (fun h => ?_) (fun h => ?_) <;> try (exfalso; (try dsimp only at h); omega)) | (refine br_ndec (fun h => ?_) (fun h => ?_) <;> try (exfalso; (try dsimp only at h); omega)) | refine br_seq (fun h => ?_) (fun h => ?_) | refine br_nseq (fun h => ?_) (fun h => ?_) | refine br_not (fun h => ?_) (fun h => ?_) | refine br_intro (fun h => ?_) (fun h => ?_) | refine cond_intro rfl ?_ | (refine cond_intro ⟨rfl, ?_⟩ ?_; (first | omega | (dsimp only; omega) | decide)) | (refine cond_intro ?_ ?_; (first | omega | (dsimp only; omega) | decide | (simp only [Nat.add_zero, Int.toNat_natCast, *]; omega))))
    all_goals (conv => whnf)
    all_goals first
      | (exfalso; first | omega | contradiction | (simp [seq] at h; done))
      | exact ⟨k + 1, [0, 1, 2], [], hk2, (show n - (k + 1) < n - k by omega), ⟨rfl, ⟨rfl, rfl, congrArg (fun z => some (SV.int .i64 z)) (i64_succ (by omega)), trivial⟩, ⟨rfl, rfl, trivial⟩⟩⟩
      | trace_state
  · repeat' ((conv => whnf); first | (refine br_dec (fun h => ?_) (fun h => ?_) <;> try (exfalso; (try dsimp only at h); omega)) | (refine br_ndec (fun h => ?_) (fun h => ?_) <;> try (exfalso; (try dsimp only at h); omega)) | refine br_seq (fun h => ?_) (fun h => ?_) | refine br_nseq (fun h => ?_) (fun h => ?_) | refine br_not (fun h => ?_) (fun h => ?_) | refine br_intro (fun h => ?_) (fun h => ?_) | refine cond_intro rfl ?_ | (refine cond_intro ⟨rfl, ?_⟩ ?_; (first | omega | (dsimp only; omega) | decide)) | (refine cond_intro ?_ ?_; (first | omega | (dsimp only; omega) | decide | (simp only [Nat.add_zero, Int.toNat_natCast, *]; omega))))
    all_goals (conv => whnf)
    all_goals first
      | exact ret_out (l := [0, 1, 2]) rfl rfl trivial allRw_nil
      | (exfalso; first | omega | contradiction)
      | trace_state
/-- New for any number of names. -/
theorem pos_NewA (ps : List ByteArray) (n : Nat) (hl : ps.length = n) : FC Tryd.prog 2 9 [.sl 1 0 0 n] [(1, some (.one true (.cols n [.sc (.strs ps)])))] (nwOut ps) := by
  by_cases h16 : 16 < n
  · unfold nwOut nwErr
    rw [hl, if_pos h16, if_pos (by decide)]
    refine fc_of mixed T_ok Tryd.func9 rfl (by kernel_rfl) (by kernel_rfl) (by kernel_rfl) ?_
    repeat' ((conv => whnf); first | (refine br_dec (fun h => ?_) (fun h => ?_) <;> try (exfalso; (try dsimp only at h); omega)) | (refine br_ndec (fun h => ?_) (fun h => ?_) <;> try (exfalso; (try dsimp only at h); omega)) | refine br_seq (fun h => ?_) (fun h => ?_) | refine br_nseq (fun h => ?_) (fun h => ?_) | refine br_not (fun h => ?_) (fun h => ?_) | refine br_intro (fun h => ?_) (fun h => ?_) | refine cond_intro rfl ?_ | (refine cond_intro ⟨rfl, ?_⟩ ?_; (first | omega | (dsimp only; omega) | decide)) | (refine cond_intro ?_ ?_; (first | omega | (dsimp only; omega) | decide | (simp only [Nat.add_zero, Int.toNat_natCast, *]; omega))))
    all_goals (conv => whnf)
    all_goals first
      | exact ret_out (l := [0, 1]) rfl rfl trivial allRw_nil
      | (exfalso; omega)
      | trace_state
  · exact pos_New ps n hl (by omega)
theorem nwK_mono {ps : List ByteArray} : ∀ {n k : Nat}, nwK ps n = 0 → k ≤ n → nwK ps k = 0
  | 0, k, h, hk => by rw [show k = 0 by omega]; rfl
  | n + 1, k, h, hk => by
    have h0 : nwK ps n = 0 := by
      simp only [nwK] at h
      by_cases q : nwK ps n = 0
      · exact q
      · rw [if_pos q] at h; exact h
    by_cases e : k = n + 1
    · rw [e]; exact h
    · exact nwK_mono h0 (by omega)
theorem nw_ok {ps : List ByteArray} (h : nwErr ps = 0) : ps.length ≤ 16 ∧ ps.Nodup ∧ ∀ s ∈ ps, nmB s = true := by
  unfold nwErr at h
  split at h
  · cases h
  · have hE : ∀ k, k < ps.length → nwE ps k = 0 := fun k hk => by
      have h1 := nwK_mono h (show k + 1 ≤ ps.length from hk)
      have h0 := nwK_mono h (show k ≤ ps.length by omega)
      simp only [nwK] at h1
      rwa [if_neg (by simpa using h0)] at h1
    refine ⟨by omega, ?_, fun s hs => ?_⟩
    · refine List.pairwise_iff_getElem.2 fun i j hi hj hij e => ?_
      have := hE j hj
      unfold nwE at this
      split at this
      · cases this
      · split at this
        · cases this
        · rename_i g
          have gj : ps.getD j ⟨#[]⟩ = ps[j] := by rw [List.getD, List.getElem?_eq_getElem hj]; rfl
          have hm : ps[j] ∈ ps.take j := by
            rw [← e]
            exact List.mem_iff_getElem.2 ⟨i, by rw [List.length_take]; omega, by rw [List.getElem_take]⟩
          have hlt := Go.Sy.sidx_lt.2 hm
          rw [List.length_take, Nat.min_eq_left (by omega)] at hlt
          rw [gj] at g
          unfold idI at g
          rw [if_pos hlt] at g
          omega
    · obtain ⟨k, hk, rfl⟩ := List.getElem_of_mem hs
      have := hE k hk
      unfold nwE at this
      have gj : ps.getD k ⟨#[]⟩ = ps[k] := by rw [List.getD, List.getElem?_eq_getElem hk]; rfl
      rw [gj] at this
      cases q : nmB ps[k] with
      | true => rfl
      | false => rw [q, if_pos rfl] at this; cases this
theorem nwB_I {ps : List ByteArray} (h : nwErr ps = 0) : BkI (nwB ps) 0 := by
  have hr : ∀ c, (nwB ps).row c = z16 := fun c => rfl
  refine ⟨⟨rfl, rfl, List.nodup_nil⟩, (nw_ok h).1, sortS_length ps, fun c q => absurd q (List.not_mem_nil), fun c q => absurd q (List.not_mem_nil), fun c => rfl, fun c j => ?_, fun c => rfl, fun c j _ => ?_⟩
  · rw [hr, z16_get]; decide
  · rw [hr, z16_get]
abbrev bkX (ro : Bool) (np : Nat) (ps : List ByteArray) (b : Bk) : Heap := [(1, bkC true 2 3 np), (2, some (.one true (.cols np [.sc (.strs ps)]))), (3, bkM ro b)]
theorem pos_MoveX {b : Bk} (h : BkI b 4503599627370496) {np : Nat} {ps : List ByteArray} (hn : b.n = np) (hp : b.ps = ps) (f t c : ByteArray) (a : Int) : FC Tryd.prog 4 11 [.ptr 1 0 0 0, .str f, .str t, .agg [.int .i64 a, .str c]] (bkX false np ps b) (isOut (.int .i64 (mvE b f t c a)) [(3, bkM false (b.mv f t c a))] 4) := by
  subst hn hp; exact pos_Move b (h.ok (Int.le_refl _)) f t c a
theorem pos_ListX {b : Bk} (h : BkI b 4503599627370496) {np : Nat} {ps : List ByteArray} (hn : b.n = np) (hp : b.ps = ps) (hm : b.m ≤ 100000) : FC Tryd.prog 4 13 [.ptr 1 0 0 0] (bkX true np ps b) (isOut (.sl 4 0 0 b.list.length) [(4, some (.one false (pxB b.list.length (pxOf b.list))))] 5) := by
  subst hn hp; exact pos_List b (h.ok (Int.le_refl _)) (h.cok hm)
theorem pos_NetX {b : Bk} (h : BkI b 4503599627370496) {np : Nat} {ps : List ByteArray} (hn : b.n = np) (hp : b.ps = ps) (p c : ByteArray) : FC Tryd.prog 4 14 [.ptr 1 0 0 0, .str p, .str c] (bkX true np ps b) (isOut (.int .i64 (netI b p c)) [] 4) := by
  subst hn hp; exact pos_Net b (h.ok (Int.le_refl _)) p c
theorem BkI.up {b : Bk} {B B' : Int} (h : BkI b B) (hB : B ≤ B') : BkI b B' := by
  have g := h.rb
  exact ⟨h.C, h.n16, h.psl, h.nz, h.c3, h.rl, fun c j => by have := g c j; omega, h.rs, h.rt⟩
theorem list_le (b : Bk) (hn : b.n ≤ 16) (hm : b.m ≤ 1000) : b.list.length ≤ 100000 := by
  have h := liA_len b (sortS b.cs) b.m
  have h2 : b.m * b.n ≤ 1000 * 16 := Nat.mul_le_mul hm hn
  unfold Bk.list; omega
end Go.Proofs.YtkbidlijinclcaaDoor

