/- Several texts in one: XNetN, XNetO, XNetQ, XNetR, XNetS, XNetT, XNetU, XNetV, XNetW, XNetX, XNetY, XNetZ. -/
import Derived.Test.YtmibjgblhaohiaaNetA
import Derived.Test.YtmibjgblhaohiaaYArg
/- Contracts: transfers that settle, their volume, equality of lists. -/
namespace Go.Proofs.Ytmibjgblhaohiaa
open Go.RowKit Go.Sy
attribute [local irreducible] vcall vloop vcallD retP
set_option maxRecDepth 100000
set_option linter.unusedVariables false
set_option linter.unusedSimpArgs false

abbrev txOk (x : Tx) : Prop := x.f ≠ x.t ∧ 1 ≤ x.a
/-- Whether transfers settle positions. -/
def vaB (L : List Ps) (T : List Tx) : Bool := decide (ckP L = 0 ∧ (∀ j, j < T.length → txOk (T.getD j tx0)) ∧ apErr L T = 0 ∧ (apRes L T).length = 0)
theorem vaB_no {L : List Ps} {T : List Tx} (h : ckP L ≠ 0 ∨ (∃ j, j < T.length ∧ ¬ txOk (T.getD j tx0)) ∨ apErr L T ≠ 0 ∨ (apRes L T).length ≠ 0) : vaB L T = false := by
  unfold vaB
  rw [decide_eq_false_iff_not]
  rintro ⟨h1, h2, h3, h4⟩
  rcases h with h | ⟨j, hj, h⟩ | h | h
  · exact h h1
  · exact h (h2 j hj)
  · exact h h3
  · exact h h4
theorem net_Valid (L : List Ps) (T : List Tx) (n m : Nat) (hn : L.length = n) (hm : T.length = m) (hl : n ≤ 400) (hl2 : m ≤ 200) : FC Try.prog 3 15 [.sl 1 0 0 n, .sl 2 0 0 m] [(1, some (.one true (psB n (pcOf L)))), (2, some (.one true (txB m (tcOf T))))] (isOut (.bool (vaB L T)) [] 3) := by
  have c1 := net_Check L n hn (by omega)
  have c2 := net_Apply L T n m hn hm hl hl2
  by_cases hck : ckP L = 0
  · rw [hck] at c1
    refine fc_of mixed T_ok Try.func15 rfl (by kernel_rfl) (by kernel_rfl) (by kernel_rfl) ?_
    repeat' ((conv => whnf); first | (refine vcall_out (l :=  [0, 1]) (c1 ) ⟨rfl, rfl, rfl, rfl, (by (repeat' (first | exact trivial | exact GB_wf | exact fun _ _ => rfl | constructor)); first | done | fail), (by (repeat' (first | exact trivial | exact GB_fits rfl | constructor)); first | done | fail)⟩ ?_) | (refine br_dec (fun h => ?_) (fun h => ?_) <;> try (exfalso; (try dsimp only at h); omega)) | (refine br_ndec (fun h => ?_) (fun h => ?_) <;> try (exfalso; (try dsimp only at h); omega)) | refine br_seq (fun h => ?_) (fun h => ?_) | refine br_nseq (fun h => ?_) (fun h => ?_) | refine br_not (fun h => ?_) (fun h => ?_) | refine br_intro (fun h => ?_) (fun h => ?_) | refine cond_intro rfl ?_ | (refine cond_intro ⟨rfl, ?_⟩ ?_; (first | omega | (dsimp only; omega) | decide)) | (refine cond_intro ?_ ?_; (first | omega | (dsimp only; omega) | decide | (simp only [Nat.add_zero, Int.toNat_natCast, *]; omega))))
    all_goals (conv => whnf)
    all_goals first
      | (exfalso; omega)
      | skip
    refine vloop_lp (fun k : Nat => ⟨[(0, .sl 1 0 0 n), (1, .sl 2 0 0 m), (12, .sl 2 0 0 m), (13, .int .i64 m), (14, .int .i64 k)], [(1, some (.one true (psB n (pcOf L)))), (2, some (.one true (txB m (tcOf T))))], 3⟩) (fun k => k ≤ m ∧ ∀ j, j < k → txOk (T.getD j tx0)) (fun k => m - k) 0 [0, 1, 2] [] ⟨rfl, ⟨rfl, rfl, rfl, rfl, rfl, trivial⟩, ⟨rfl, rfl, trivial⟩⟩ ⟨Nat.zero_le _, fun j hj => by omega⟩ ?_
    rintro k ⟨hk, hT⟩
    by_cases hk2 : k < m
    · have hno := fun h => vaB_no (L := L) (T := T) (.inr (.inl ⟨k, by omega, h⟩))
      have hnx : txOk (T.getD k tx0) → ∀ j, j < k + 1 → txOk (T.getD j tx0) := fun h j hj => by
        by_cases e : j = k
        · subst e; exact h
        · exact hT j (by omega)
      rw [← colT_eq T k] at hno hnx
      (try dsimp only [txOk] at hno hnx)
      repeat' ((conv => whnf); first | (refine br_dec (fun h => ?_) (fun h => ?_) <;> try (exfalso; (try dsimp only at h); omega)) | (refine br_ndec (fun h => ?_) (fun h => ?_) <;> try (exfalso; (try dsimp only at h); omega)) | refine br_seq (fun h => ?_) (fun h => ?_) | refine br_nseq (fun h => ?_) (fun h => ?_) | refine br_not (fun h => ?_) (fun h => ?_) | refine br_intro (fun h => ?_) (fun h => ?_) | refine cond_intro rfl ?_ | (refine cond_intro ⟨rfl, ?_⟩ ?_; (first | omega | (dsimp only; omega) | decide)) | (refine cond_intro ?_ ?_; (first | omega | (dsimp only; omega) | decide | (simp only [Nat.add_zero, Int.toNat_natCast, *]; omega))))
      all_goals (conv => whnf)
      all_goals (try simp only [toNat0] at *)
      all_goals first
        | (exfalso; omega)
        | exact ⟨k + 1, [0, 1, 2], [], ⟨hk2, hnx ⟨by assumption, show 1 ≤ (tcOf T).a.getD k 0 by omega⟩⟩, (show m - (k + 1) < m - k by omega), ⟨rfl, ⟨rfl, rfl, rfl, rfl, congrArg (fun z => some (SV.int .i64 z)) (i64_succ (by omega)), trivial⟩, ⟨rfl, rfl, trivial⟩⟩⟩
        | (rw [hno (fun q => q.1 (by assumption))]; exact ret_out (l := [0, 1, 2]) rfl rfl trivial allRw_nil)
        | (rw [hno (fun q => absurd q.2 (show ¬ 1 ≤ (tcOf T).a.getD k 0 by omega))]; exact ret_out (l := [0, 1, 2]) rfl rfl trivial allRw_nil)
        | trace_state
    · have e : k = m := by omega
      subst e
      unfold apOut at c2
      by_cases he : apErr L T ≠ 0
      · rw [if_pos he] at c2
        rw [vaB_no (.inr (.inr (.inl he)))]
        repeat' ((conv => whnf); first | (refine vcall_out (l :=  [0, 1, 2]) (c2 ) ⟨rfl, rfl, rfl, rfl, (by (repeat' (first | exact trivial | exact GB_wf | exact fun _ _ => rfl | constructor)); first | done | fail), (by (repeat' (first | exact trivial | exact GB_fits rfl | constructor)); first | done | fail)⟩ ?_) | (refine vcallD_out (l :=  [0, 1, 2]) (c2 ) ⟨rfl, rfl, rfl, rfl, (by (repeat' (first | exact trivial | exact GB_wf | exact fun _ _ => rfl | constructor)); first | done | fail), (by (repeat' (first | exact trivial | exact GB_fits rfl | constructor)); first | done | fail)⟩ ?_) | (refine br_dec (fun h => ?_) (fun h => ?_) <;> try (exfalso; (try dsimp only at h); omega)) | (refine br_ndec (fun h => ?_) (fun h => ?_) <;> try (exfalso; (try dsimp only at h); omega)) | refine br_seq (fun h => ?_) (fun h => ?_) | refine br_nseq (fun h => ?_) (fun h => ?_) | refine br_not (fun h => ?_) (fun h => ?_) | refine br_intro (fun h => ?_) (fun h => ?_) | refine cond_intro rfl ?_ | (refine cond_intro ⟨rfl, ?_⟩ ?_; (first | omega | (dsimp only; omega) | decide)) | (refine cond_intro ?_ ?_; (first | omega | (dsimp only; omega) | decide | (simp only [Nat.add_zero, Int.toNat_natCast, *]; omega))))
        all_goals (conv => whnf)
        all_goals first
          | exact ret_out (l := [0, 1, 2]) rfl rfl trivial allRw_nil
          | (exfalso; first | omega | contradiction)
          | trace_state
      · rw [if_neg he] at c2
        have hv : vaB L T = decide ((apRes L T).length = 0) := by
          unfold vaB
          exact decide_eq_decide.2 ⟨fun h => h.2.2.2, fun h => ⟨hck, by rw [hm]; exact hT, Classical.not_not.1 he, h⟩⟩
        rw [hv]
        generalize (apRes L T).length = rl at *
        repeat' ((conv => whnf); first | (refine vcall_out (l :=  [0, 1, 2]) (c2 ) ⟨rfl, rfl, rfl, rfl, (by (repeat' (first | exact trivial | exact GB_wf | exact fun _ _ => rfl | constructor)); first | done | fail), (by (repeat' (first | exact trivial | exact GB_fits rfl | constructor)); first | done | fail)⟩ ?_) | (refine vcallD_out (l :=  [0, 1, 2]) (c2 ) ⟨rfl, rfl, rfl, rfl, (by (repeat' (first | exact trivial | exact GB_wf | exact fun _ _ => rfl | constructor)); first | done | fail), (by (repeat' (first | exact trivial | exact GB_fits rfl | constructor)); first | done | fail)⟩ ?_) | (refine br_dec (fun h => ?_) (fun h => ?_) <;> try (exfalso; (try dsimp only at h); omega)) | (refine br_ndec (fun h => ?_) (fun h => ?_) <;> try (exfalso; (try dsimp only at h); omega)) | refine br_seq (fun h => ?_) (fun h => ?_) | refine br_nseq (fun h => ?_) (fun h => ?_) | refine br_not (fun h => ?_) (fun h => ?_) | refine br_intro (fun h => ?_) (fun h => ?_) | refine cond_intro rfl ?_ | (refine cond_intro ⟨rfl, ?_⟩ ?_; (first | omega | (dsimp only; omega) | decide)) | (refine cond_intro ?_ ?_; (first | omega | (dsimp only; omega) | decide | (simp only [Nat.add_zero, Int.toNat_natCast, *]; omega))))
        all_goals (conv => whnf)
        all_goals first
          | exact ret_out (l := [0, 1, 2]) rfl rfl trivial allRw_nil
          | (exfalso; first | omega | contradiction)
          | (rw [show decide (rl = 0) = decide ((rl : Int) = 0) from decide_eq_decide.2 ⟨fun q => by omega, fun q => by omega⟩]; exact ret_out (l := [0, 1, 2]) rfl rfl trivial allRw_nil)
          | (rw [show decide (rl = 0) = true from decide_eq_true (by omega)]; exact ret_out (l := [0, 1, 2]) rfl rfl trivial allRw_nil)
          | (rw [show decide (rl = 0) = false from decide_eq_false (by omega)]; exact ret_out (l := [0, 1, 2]) rfl rfl trivial allRw_nil)
          | trace_state
  · rw [vaB_no (.inl hck)]
    refine fc_of mixed T_ok Try.func15 rfl (by kernel_rfl) (by kernel_rfl) (by kernel_rfl) ?_
    repeat' ((conv => whnf); first | (refine vcall_out (l :=  [0, 1]) (c1 ) ⟨rfl, rfl, rfl, rfl, (by (repeat' (first | exact trivial | exact GB_wf | exact fun _ _ => rfl | constructor)); first | done | fail), (by (repeat' (first | exact trivial | exact GB_fits rfl | constructor)); first | done | fail)⟩ ?_) | (refine br_dec (fun h => ?_) (fun h => ?_) <;> try (exfalso; (try dsimp only at h); omega)) | (refine br_ndec (fun h => ?_) (fun h => ?_) <;> try (exfalso; (try dsimp only at h); omega)) | refine br_seq (fun h => ?_) (fun h => ?_) | refine br_nseq (fun h => ?_) (fun h => ?_) | refine br_not (fun h => ?_) (fun h => ?_) | refine br_intro (fun h => ?_) (fun h => ?_) | refine cond_intro rfl ?_ | (refine cond_intro ⟨rfl, ?_⟩ ?_; (first | omega | (dsimp only; omega) | decide)) | (refine cond_intro ?_ ?_; (first | omega | (dsimp only; omega) | decide | (simp only [Nat.add_zero, Int.toNat_natCast, *]; omega))))
    all_goals (conv => whnf)
    all_goals first
      | exact ret_out (l := [0, 1, 2]) rfl rfl trivial allRw_nil
      | (exfalso; omega)
      | trace_state
theorem r41_Valid (L : List Ps) (T : List Tx) (n m : Nat) (hn : L.length = n) (hm : T.length = m) (hl : n ≤ 400) (hl2 : m ≤ 200) (hs : SmP L) (ht : SmT T) : FC Try.prog 3 16 [.sl 1 0 0 n, .sl 2 0 0 m] [(1, some (.one true (psB n (pcOf L)))), (2, some (.one true (txB m (tcOf T))))] (isOut (.bool (vaB L T)) [] 3) := by
  have c1 := r41_Check L n hn (by omega) hs
  have c2 := r41_Apply L T n m hn hm hl hl2 hs ht
  refine fc_of mixed T_ok Try.func16 rfl (by kernel_rfl) (by kernel_rfl) (by kernel_rfl) ?_
  repeat' ((conv => whnf); first | (refine br_dec (fun h => ?_) (fun h => ?_) <;> try (exfalso; (try dsimp only at h); omega)) | (refine br_ndec (fun h => ?_) (fun h => ?_) <;> try (exfalso; (try dsimp only at h); omega)) | refine br_seq (fun h => ?_) (fun h => ?_) | refine br_nseq (fun h => ?_) (fun h => ?_) | refine br_not (fun h => ?_) (fun h => ?_) | refine br_intro (fun h => ?_) (fun h => ?_) | refine cond_intro rfl ?_ | (refine cond_intro ⟨rfl, ?_⟩ ?_; (first | omega | (dsimp only; omega) | decide)) | (refine cond_intro ?_ ?_; (first | omega | (dsimp only; omega) | decide | (simp only [Nat.add_zero, Int.toNat_natCast, *]; omega))))
  all_goals (conv => whnf)
  refine vloop_lp (fun k : Nat => ⟨[(0, .sl 1 0 0 n), (1, .sl 2 0 0 m), (5, .int .i64 k)], [(1, some (.one true (psB n (pcOf L)))), (2, some (.one true (txB m (tcOf T))))], 3⟩) (fun k => k ≤ m ∧ ∀ j, j < k → txOk (T.getD j tx0)) (fun k => m - k) 0 [0, 1, 2] [] ⟨rfl, ⟨rfl, rfl, rfl, trivial⟩, ⟨rfl, rfl, trivial⟩⟩ ⟨Nat.zero_le _, fun j hj => by omega⟩ ?_
  rintro k ⟨hk, hT⟩
  by_cases hk2 : k < m
  · have hno := fun h => vaB_no (L := L) (T := T) (.inr (.inl ⟨k, by omega, h⟩))
    have hnx : txOk (T.getD k tx0) → ∀ j, j < k + 1 → txOk (T.getD j tx0) := fun h j hj => by
      by_cases e : j = k
      · subst e; exact h
      · exact hT j (by omega)
    rw [← colT_eq T k] at hno hnx
    (try dsimp only [txOk] at hno hnx)
    repeat' ((conv => whnf); first | (refine br_dec (fun h => ?_) (fun h => ?_) <;> try (exfalso; (try dsimp only at h); omega)) | (refine br_ndec (fun h => ?_) (fun h => ?_) <;> try (exfalso; (try dsimp only at h); omega)) | refine br_seq (fun h => ?_) (fun h => ?_) | refine br_nseq (fun h => ?_) (fun h => ?_) | refine br_not (fun h => ?_) (fun h => ?_) | refine br_intro (fun h => ?_) (fun h => ?_) | refine cond_intro rfl ?_ | (refine cond_intro ⟨rfl, ?_⟩ ?_; (first | omega | (dsimp only; omega) | decide)) | (refine cond_intro ?_ ?_; (first | omega | (dsimp only; omega) | decide | (simp only [Nat.add_zero, Int.toNat_natCast, *]; omega))))
    all_goals (conv => whnf)
    all_goals (try simp only [toNat0] at *)
    all_goals first
      | (exfalso; omega)
      | exact ⟨k + 1, [0, 1, 2], [], ⟨hk2, hnx ⟨by assumption, show 1 ≤ (tcOf T).a.getD k 0 by omega⟩⟩, (show m - (k + 1) < m - k by omega), ⟨rfl, ⟨rfl, rfl, congrArg (fun z => some (SV.int .i64 z)) (i64_succ (by omega)), trivial⟩, ⟨rfl, rfl, trivial⟩⟩⟩
      | (rw [hno (fun q => q.1 (by assumption))]; exact ret_out (l := [0, 1, 2]) rfl rfl trivial allRw_nil)
      | (rw [hno (fun q => absurd q.2 (show ¬ 1 ≤ (tcOf T).a.getD k 0 by omega))]; exact ret_out (l := [0, 1, 2]) rfl rfl trivial allRw_nil)
      | trace_state
  · have e : k = m := by omega
    subst e
    unfold apOut at c2
    have hv : vaB L T = decide (ckP L = 0 ∧ apErr L T = 0 ∧ (apRes L T).length = 0) := by
      unfold vaB
      exact decide_eq_decide.2 ⟨fun h => ⟨h.1, h.2.2⟩, fun h => ⟨h.1, by rw [hm]; exact hT, h.2⟩⟩
    rw [hv]
    generalize ckP L = ck at *
    by_cases he : apErr L T ≠ 0
    · rw [if_pos he] at c2
      rw [decide_eq_false (fun q => he q.2.1)]
      repeat' ((conv => whnf); first | (refine vcall_out (l :=  [0, 1]) (c1 ) ⟨rfl, rfl, rfl, rfl, (by (repeat' (first | exact trivial | exact GB_wf | exact fun _ _ => rfl | constructor)); first | done | fail), (by (repeat' (first | exact trivial | exact GB_fits rfl | constructor)); first | done | fail)⟩ ?_) | (refine vcallD_out (l :=  [0, 1]) (c1 ) ⟨rfl, rfl, rfl, rfl, (by (repeat' (first | exact trivial | exact GB_wf | exact fun _ _ => rfl | constructor)); first | done | fail), (by (repeat' (first | exact trivial | exact GB_fits rfl | constructor)); first | done | fail)⟩ ?_) | (refine vcall_out (l :=  [0, 1, 2]) (c2 ) ⟨rfl, rfl, rfl, rfl, (by (repeat' (first | exact trivial | exact GB_wf | exact fun _ _ => rfl | constructor)); first | done | fail), (by (repeat' (first | exact trivial | exact GB_fits rfl | constructor)); first | done | fail)⟩ ?_) | (refine vcallD_out (l :=  [0, 1, 2]) (c2 ) ⟨rfl, rfl, rfl, rfl, (by (repeat' (first | exact trivial | exact GB_wf | exact fun _ _ => rfl | constructor)); first | done | fail), (by (repeat' (first | exact trivial | exact GB_fits rfl | constructor)); first | done | fail)⟩ ?_) | (refine br_dec (fun h => ?_) (fun h => ?_) <;> try (exfalso; (try dsimp only at h); omega)) | (refine br_ndec (fun h => ?_) (fun h => ?_) <;> try (exfalso; (try dsimp only at h); omega)) | refine br_seq (fun h => ?_) (fun h => ?_) | refine br_nseq (fun h => ?_) (fun h => ?_) | refine br_not (fun h => ?_) (fun h => ?_) | refine br_intro (fun h => ?_) (fun h => ?_) | refine cond_intro rfl ?_ | (refine cond_intro ⟨rfl, ?_⟩ ?_; (first | omega | (dsimp only; omega) | decide)) | (refine cond_intro ?_ ?_; (first | omega | (dsimp only; omega) | decide | (simp only [Nat.add_zero, Int.toNat_natCast, *]; omega))))
      all_goals (conv => whnf)
      all_goals first
        | exact ret_out (l := [0, 1, 2]) rfl rfl trivial allRw_nil
        | (exfalso; first | omega | contradiction)
        | trace_state
    · rw [if_neg he] at c2
      have he0 := Classical.not_not.1 he
      generalize (apRes L T).length = rl at *
      repeat' ((conv => whnf); first | (refine vcall_out (l :=  [0, 1]) (c1 ) ⟨rfl, rfl, rfl, rfl, (by (repeat' (first | exact trivial | exact GB_wf | exact fun _ _ => rfl | constructor)); first | done | fail), (by (repeat' (first | exact trivial | exact GB_fits rfl | constructor)); first | done | fail)⟩ ?_) | (refine vcallD_out (l :=  [0, 1]) (c1 ) ⟨rfl, rfl, rfl, rfl, (by (repeat' (first | exact trivial | exact GB_wf | exact fun _ _ => rfl | constructor)); first | done | fail), (by (repeat' (first | exact trivial | exact GB_fits rfl | constructor)); first | done | fail)⟩ ?_) | (refine vcall_out (l :=  [0, 1, 2]) (c2 ) ⟨rfl, rfl, rfl, rfl, (by (repeat' (first | exact trivial | exact GB_wf | exact fun _ _ => rfl | constructor)); first | done | fail), (by (repeat' (first | exact trivial | exact GB_fits rfl | constructor)); first | done | fail)⟩ ?_) | (refine vcallD_out (l :=  [0, 1, 2]) (c2 ) ⟨rfl, rfl, rfl, rfl, (by (repeat' (first | exact trivial | exact GB_wf | exact fun _ _ => rfl | constructor)); first | done | fail), (by (repeat' (first | exact trivial | exact GB_fits rfl | constructor)); first | done | fail)⟩ ?_) | (refine br_dec (fun h => ?_) (fun h => ?_) <;> try (exfalso; (try dsimp only at h); omega)) | (refine br_ndec (fun h => ?_) (fun h => ?_) <;> try (exfalso; (try dsimp only at h); omega)) | refine br_seq (fun h => ?_) (fun h => ?_) | refine br_nseq (fun h => ?_) (fun h => ?_) | refine br_not (fun h => ?_) (fun h => ?_) | refine br_intro (fun h => ?_) (fun h => ?_) | refine cond_intro rfl ?_ | (refine cond_intro ⟨rfl, ?_⟩ ?_; (first | omega | (dsimp only; omega) | decide)) | (refine cond_intro ?_ ?_; (first | omega | (dsimp only; omega) | decide | (simp only [Nat.add_zero, Int.toNat_natCast, *]; omega))))
      all_goals (conv => whnf)
      all_goals first
        | (exfalso; first | omega | contradiction)
        | (rw [show decide (ck = 0 ∧ apErr L T = 0 ∧ rl = 0) = true from decide_eq_true ⟨by omega, he0, by omega⟩]; exact ret_out (l := [0, 1, 2]) rfl rfl trivial allRw_nil)
        | (rw [show decide (ck = 0 ∧ apErr L T = 0 ∧ rl = 0) = false from decide_eq_false (fun q => by have := q.1; have := q.2.2; omega)]; exact ret_out (l := [0, 1, 2]) rfl rfl trivial allRw_nil)
        | (rw [show decide (ck = 0 ∧ apErr L T = 0 ∧ rl = 0) = decide ((rl : Int) = 0) from decide_eq_decide.2 ⟨fun q => by have := q.2.2; omega, fun q => ⟨by omega, he0, by omega⟩⟩]; exact ret_out (l := [0, 1, 2]) rfl rfl trivial allRw_nil)
        | trace_state
/-- The volume of the first transfers. -/
def voK (T : List Tx) (c : ByteArray) : Nat → Int
  | 0 => 0
  | k + 1 => if mchk (T.getD k tx0).a (T.getD k tx0).c = 0 ∧ 0 < (T.getD k tx0).a ∧ (T.getD k tx0).c = c then min (voK T c k + (T.getD k tx0).a) 4503599627370496 else voK T c k
theorem voK_bd (T : List Tx) (c : ByteArray) : ∀ k, 0 ≤ voK T c k ∧ voK T c k ≤ 4503599627370496
  | 0 => by simp [voK]
  | k + 1 => by
    have := voK_bd T c k
    simp only [voK]
    split <;> omega
theorem net_Volume (T : List Tx) (c : ByteArray) (m : Nat) (hm : T.length = m) (hl2 : m ≤ 200) : FC Try.prog 2 17 [.sl 1 0 0 m, .str c] [(1, some (.one true (txB m (tcOf T))))] (isOut (.int .i64 (voK T c m)) [] 2) := by
  refine fc_of mixed T_ok Try.func17 rfl (by kernel_rfl) (by kernel_rfl) (by kernel_rfl) ?_
  repeat' ((conv => whnf); first | (refine br_dec (fun h => ?_) (fun h => ?_) <;> try (exfalso; (try dsimp only at h); omega)) | (refine br_ndec (fun h => ?_) (fun h => ?_) <;> try (exfalso; (try dsimp only at h); omega)) | refine br_seq (fun h => ?_) (fun h => ?_) | refine br_nseq (fun h => ?_) (fun h => ?_) | refine br_not (fun h => ?_) (fun h => ?_) | refine br_intro (fun h => ?_) (fun h => ?_) | refine cond_intro rfl ?_ | (refine cond_intro ⟨rfl, ?_⟩ ?_; (first | omega | (dsimp only; omega) | decide)) | (refine cond_intro ?_ ?_; (first | omega | (dsimp only; omega) | decide | (simp only [Nat.add_zero, Int.toNat_natCast, *]; omega))))
  all_goals (conv => whnf)
  refine vloop_lp (fun k : Nat => ⟨[(1, .str c), (8, .sl 1 0 0 m), (9, .int .i64 m), (10, .int .i64 k), (5, .int .i64 (voK T c k))], [(1, some (.one true (txB m (tcOf T))))], 2⟩) (fun k => k ≤ m) (fun k => m - k) 0 [0, 1] [] ⟨rfl, ⟨rfl, rfl, rfl, rfl, rfl, trivial⟩, ⟨rfl, trivial⟩⟩ (Nat.zero_le _) ?_
  intro k hk
  by_cases hk2 : k < m
  · have d3 := money_Check ((tcOf T).a.getD k 0) ((tcOf T).c.getD k ⟨#[]⟩)
    have hb := voK_bd T c k
    have hst : voK T c (k + 1) = if mchk ((tcOf T).a.getD k 0) ((tcOf T).c.getD k ⟨#[]⟩) = 0 ∧ 0 < (tcOf T).a.getD k 0 ∧ (tcOf T).c.getD k ⟨#[]⟩ = c then min (voK T c k + (tcOf T).a.getD k 0) 4503599627370496 else voK T c k := by
      obtain ⟨_, _, a3, a4⟩ := atT T k
      rw [a3, a4]; rfl
    have hab := fun h => (mchk_bd (a := (tcOf T).a.getD k 0) (c := (tcOf T).c.getD k ⟨#[]⟩) h).2
    generalize mchk ((tcOf T).a.getD k 0) ((tcOf T).c.getD k ⟨#[]⟩) = mc at *
    have hw : mc = 0 → 0 < (tcOf T).a.getD k 0 → IntKind.i64.wrap (voK T c k + (tcOf T).a.getD k 0) = voK T c k + (tcOf T).a.getD k 0 := fun h _ => by
      have := hab h
      exact w64_in (by omega) (by omega)
    generalize voK T c k = vk at *
    have hno1 : ¬ (tcOf T).c.getD k ⟨#[]⟩ = c → voK T c (k + 1) = vk := fun h => by rw [hst]; exact if_neg (fun q => h q.2.2)
    have hno2 : (mc ≠ 0 ∨ (tcOf T).a.getD k 0 ≤ 0) → voK T c (k + 1) = vk := fun h => by rw [hst]; exact if_neg (fun q => by omega)
    repeat' ((conv => whnf); first | (refine vcall_pure (d3) rfl rfl rfl ?_) | (refine vcallD_pure (d3) rfl rfl rfl ?_) | (refine br_dec (fun h => ?_) (fun h => ?_) <;> try (exfalso; (try dsimp only at h); omega)) | (refine br_ndec (fun h => ?_) (fun h => ?_) <;> try (exfalso; (try dsimp only at h); omega)) | refine br_seq (fun h => ?_) (fun h => ?_) | refine br_nseq (fun h => ?_) (fun h => ?_) | refine br_not (fun h => ?_) (fun h => ?_) | refine br_intro (fun h => ?_) (fun h => ?_) | refine cond_intro rfl ?_ | (refine cond_intro ⟨rfl, ?_⟩ ?_; (first | omega | (dsimp only; omega) | decide)) | (refine cond_intro ?_ ?_; (first | omega | (dsimp only; omega) | decide | (simp only [Nat.add_zero, Int.toNat_natCast, *]; omega))))
    all_goals (conv => whnf)
    all_goals (try simp only [toNat0] at *)
    all_goals first
      | (exfalso; omega)
      | (have hvn := hno1 h
         exact ⟨k + 1, [0, 1], [], hk2, (show m - (k + 1) < m - k by omega), ⟨rfl, ⟨rfl, rfl, rfl, congrArg (fun z => some (SV.int .i64 z)) (i64_succ (by omega)), congrArg (fun z => some (SV.int .i64 z)) hvn.symm, trivial⟩, ⟨rfl, trivial⟩⟩⟩)
      | (have hvn := hno2 (.inl h)
         exact ⟨k + 1, [0, 1], [], hk2, (show m - (k + 1) < m - k by omega), ⟨rfl, ⟨rfl, rfl, rfl, congrArg (fun z => some (SV.int .i64 z)) (i64_succ (by omega)), congrArg (fun z => some (SV.int .i64 z)) hvn.symm, trivial⟩, ⟨rfl, trivial⟩⟩⟩)
      | (have hvn := hno2 (.inr h)
         exact ⟨k + 1, [0, 1], [], hk2, (show m - (k + 1) < m - k by omega), ⟨rfl, ⟨rfl, rfl, rfl, congrArg (fun z => some (SV.int .i64 z)) (i64_succ (by omega)), congrArg (fun z => some (SV.int .i64 z)) hvn.symm, trivial⟩, ⟨rfl, trivial⟩⟩⟩)
      | (have hvn : IntKind.i64.wrap (vk + (tcOf T).a.getD k 0) = vk + (tcOf T).a.getD k 0 := hw (by omega) (by omega)
         have hvm : voK T c (k + 1) = min (IntKind.i64.wrap (vk + (tcOf T).a.getD k 0)) 4503599627370496 := by rw [hst, hvn]; exact if_pos ⟨by omega, by omega, by assumption⟩
         exact ⟨k + 1, [0, 1], [], hk2, (show m - (k + 1) < m - k by omega), ⟨rfl, ⟨rfl, rfl, rfl, congrArg (fun z => some (SV.int .i64 z)) (i64_succ (by omega)), congrArg (fun z => some (SV.int .i64 z)) hvm.symm, trivial⟩, ⟨rfl, trivial⟩⟩⟩)
      | trace_state
  · have e : k = m := by omega
    subst e
    repeat' ((conv => whnf); first | (refine br_dec (fun h => ?_) (fun h => ?_) <;> try (exfalso; (try dsimp only at h); omega)) | (refine br_ndec (fun h => ?_) (fun h => ?_) <;> try (exfalso; (try dsimp only at h); omega)) | refine br_seq (fun h => ?_) (fun h => ?_) | refine br_nseq (fun h => ?_) (fun h => ?_) | refine br_not (fun h => ?_) (fun h => ?_) | refine br_intro (fun h => ?_) (fun h => ?_) | refine cond_intro rfl ?_ | (refine cond_intro ⟨rfl, ?_⟩ ?_; (first | omega | (dsimp only; omega) | decide)) | (refine cond_intro ?_ ?_; (first | omega | (dsimp only; omega) | decide | (simp only [Nat.add_zero, Int.toNat_natCast, *]; omega))))
    all_goals (conv => whnf)
    all_goals first
      | exact ret_out (l := [0, 1]) rfl rfl trivial allRw_nil
      | (exfalso; omega)
      | trace_state
theorem r41_Volume (T : List Tx) (c : ByteArray) (m : Nat) (hm : T.length = m) (hl2 : m ≤ 200) : FC Try.prog 2 18 [.sl 1 0 0 m, .str c] [(1, some (.one true (txB m (tcOf T))))] (isOut (.int .i64 (voK T c m)) [] 2) := by
  refine fc_of mixed T_ok Try.func18 rfl (by kernel_rfl) (by kernel_rfl) (by kernel_rfl) ?_
  repeat' ((conv => whnf); first | (refine br_dec (fun h => ?_) (fun h => ?_) <;> try (exfalso; (try dsimp only at h); omega)) | (refine br_ndec (fun h => ?_) (fun h => ?_) <;> try (exfalso; (try dsimp only at h); omega)) | refine br_seq (fun h => ?_) (fun h => ?_) | refine br_nseq (fun h => ?_) (fun h => ?_) | refine br_not (fun h => ?_) (fun h => ?_) | refine br_intro (fun h => ?_) (fun h => ?_) | refine cond_intro rfl ?_ | (refine cond_intro ⟨rfl, ?_⟩ ?_; (first | omega | (dsimp only; omega) | decide)) | (refine cond_intro ?_ ?_; (first | omega | (dsimp only; omega) | decide | (simp only [Nat.add_zero, Int.toNat_natCast, *]; omega))))
  all_goals (conv => whnf)
  refine vloop_lp (fun k : Nat => ⟨[(0, .sl 1 0 0 m), (1, .str c), (6, .int .i64 k), (5, .int .i64 (voK T c k))], [(1, some (.one true (txB m (tcOf T))))], 2⟩) (fun k => k ≤ m) (fun k => m - k) 0 [0, 1] [] ⟨rfl, ⟨rfl, rfl, rfl, rfl, trivial⟩, ⟨rfl, trivial⟩⟩ (Nat.zero_le _) ?_
  intro k hk
  by_cases hk2 : k < m
  · have d3 := ref01_Check ((tcOf T).a.getD k 0) ((tcOf T).c.getD k ⟨#[]⟩)
    have hb := voK_bd T c k
    have hst : voK T c (k + 1) = if mchk ((tcOf T).a.getD k 0) ((tcOf T).c.getD k ⟨#[]⟩) = 0 ∧ 0 < (tcOf T).a.getD k 0 ∧ (tcOf T).c.getD k ⟨#[]⟩ = c then min (voK T c k + (tcOf T).a.getD k 0) 4503599627370496 else voK T c k := by
      obtain ⟨_, _, a3, a4⟩ := atT T k
      rw [a3, a4]; rfl
    have hab := fun h => (mchk_bd (a := (tcOf T).a.getD k 0) (c := (tcOf T).c.getD k ⟨#[]⟩) h).2
    generalize mchk ((tcOf T).a.getD k 0) ((tcOf T).c.getD k ⟨#[]⟩) = mc at *
    have hw : mc = 0 → 0 < (tcOf T).a.getD k 0 → IntKind.i64.wrap (voK T c k + (tcOf T).a.getD k 0) = voK T c k + (tcOf T).a.getD k 0 := fun h _ => by
      have := hab h
      exact w64_in (by omega) (by omega)
    generalize voK T c k = vk at *
    have hno1 : ¬ (tcOf T).c.getD k ⟨#[]⟩ = c → voK T c (k + 1) = vk := fun h => by rw [hst]; exact if_neg (fun q => h q.2.2)
    have hno2 : (mc ≠ 0 ∨ (tcOf T).a.getD k 0 ≤ 0) → voK T c (k + 1) = vk := fun h => by rw [hst]; exact if_neg (fun q => by omega)
    repeat' ((conv => whnf); first | (refine vcall_pure (d3) rfl rfl rfl ?_) | (refine vcallD_pure (d3) rfl rfl rfl ?_) | (refine br_dec (fun h => ?_) (fun h => ?_) <;> try (exfalso; (try dsimp only at h); omega)) | (refine br_ndec (fun h => ?_) (fun h => ?_) <;> try (exfalso; (try dsimp only at h); omega)) | refine br_seq (fun h => ?_) (fun h => ?_) | refine br_nseq (fun h => ?_) (fun h => ?_) | refine br_not (fun h => ?_) (fun h => ?_) | refine br_intro (fun h => ?_) (fun h => ?_) | refine cond_intro rfl ?_ | (refine cond_intro ⟨rfl, ?_⟩ ?_; (first | omega | (dsimp only; omega) | decide)) | (refine cond_intro ?_ ?_; (first | omega | (dsimp only; omega) | decide | (simp only [Nat.add_zero, Int.toNat_natCast, *]; omega))))
    all_goals (conv => whnf)
    all_goals (try simp only [toNat0] at *)
    all_goals first
      | (exfalso; omega)
      | (have hvn := hno1 h
         exact ⟨k + 1, [0, 1], [], hk2, (show m - (k + 1) < m - k by omega), ⟨rfl, ⟨rfl, rfl, congrArg (fun z => some (SV.int .i64 z)) (i64_succ (by omega)), congrArg (fun z => some (SV.int .i64 z)) hvn.symm, trivial⟩, ⟨rfl, trivial⟩⟩⟩)
      | (have hvn := hno2 (.inl h)
         exact ⟨k + 1, [0, 1], [], hk2, (show m - (k + 1) < m - k by omega), ⟨rfl, ⟨rfl, rfl, congrArg (fun z => some (SV.int .i64 z)) (i64_succ (by omega)), congrArg (fun z => some (SV.int .i64 z)) hvn.symm, trivial⟩, ⟨rfl, trivial⟩⟩⟩)
      | (have hvn := hno2 (.inr (Int.not_lt.1 h))
         exact ⟨k + 1, [0, 1], [], hk2, (show m - (k + 1) < m - k by omega), ⟨rfl, ⟨rfl, rfl, congrArg (fun z => some (SV.int .i64 z)) (i64_succ (by omega)), congrArg (fun z => some (SV.int .i64 z)) hvn.symm, trivial⟩, ⟨rfl, trivial⟩⟩⟩)
      | (have hvn : IntKind.i64.wrap (vk + (tcOf T).a.getD k 0) = vk + (tcOf T).a.getD k 0 := hw (by omega) (by omega)
         have hvm : voK T c (k + 1) = min 4503599627370496 (IntKind.i64.wrap (vk + (tcOf T).a.getD k 0)) := by rw [hst, hvn, Int.min_comm]; exact if_pos ⟨by omega, by omega, by assumption⟩
         exact ⟨k + 1, [0, 1], [], hk2, (show m - (k + 1) < m - k by omega), ⟨rfl, ⟨rfl, rfl, congrArg (fun z => some (SV.int .i64 z)) (i64_succ (by omega)), congrArg (fun z => some (SV.int .i64 z)) hvm.symm, trivial⟩, ⟨rfl, trivial⟩⟩⟩)
      | trace_state
  · have e : k = m := by omega
    subst e
    repeat' ((conv => whnf); first | (refine br_dec (fun h => ?_) (fun h => ?_) <;> try (exfalso; (try dsimp only at h); omega)) | (refine br_ndec (fun h => ?_) (fun h => ?_) <;> try (exfalso; (try dsimp only at h); omega)) | refine br_seq (fun h => ?_) (fun h => ?_) | refine br_nseq (fun h => ?_) (fun h => ?_) | refine br_not (fun h => ?_) (fun h => ?_) | refine br_intro (fun h => ?_) (fun h => ?_) | refine cond_intro rfl ?_ | (refine cond_intro ⟨rfl, ?_⟩ ?_; (first | omega | (dsimp only; omega) | decide)) | (refine cond_intro ?_ ?_; (first | omega | (dsimp only; omega) | decide | (simp only [Nat.add_zero, Int.toNat_natCast, *]; omega))))
    all_goals (conv => whnf)
    all_goals first
      | exact ret_out (l := [0, 1]) rfl rfl trivial allRw_nil
      | (exfalso; omega)
      | trace_state
end Go.Proofs.Ytmibjgblhaohiaa

/- Contracts: equality of lists, small arguments, examples of the law. -/
namespace Go.Proofs.Ytmibjgblhaohiaa
open Go.RowKit Go.Sy
attribute [local irreducible] vcall vloop vcallD retP
set_option maxRecDepth 100000
set_option linter.unusedVariables false
set_option linter.unusedSimpArgs false

theorem r41_Same (L : List Ps) (n : Nat) (hl : n ≤ 100000) : FC Try.prog 3 14 [.sl 1 0 0 n, .sl 2 0 0 n] [(1, some (.one true (psB n (pcOf L)))), (2, some (.one true (psB n (pcOf L))))] (isOut (.bool true) [] 3) := by
  generalize pcOf L = pc
  refine fc_of mixed T_ok Try.func14 rfl (by kernel_rfl) (by kernel_rfl) (by kernel_rfl) ?_
  repeat' ((conv => whnf); first | (refine br_dec (fun h => ?_) (fun h => ?_) <;> try (exfalso; (try dsimp only at h); omega)) | (refine br_ndec (fun h => ?_) (fun h => ?_) <;> try (exfalso; (try dsimp only at h); omega)) | refine br_seq (fun h => ?_) (fun h => ?_) | refine br_nseq (fun h => ?_) (fun h => ?_) | refine br_not (fun h => ?_) (fun h => ?_) | refine br_intro (fun h => ?_) (fun h => ?_) | refine cond_intro rfl ?_ | (refine cond_intro ⟨rfl, ?_⟩ ?_; (first | omega | (dsimp only; omega) | decide)) | (refine cond_intro ?_ ?_; (first | omega | (dsimp only; omega) | decide | (simp only [Nat.add_zero, Int.toNat_natCast, *]; omega))))
  all_goals (conv => whnf)
  all_goals first
    | (exfalso; first | omega | contradiction)
    | skip
  refine vloop_lp (fun k : Nat => ⟨[(0, .sl 1 0 0 n), (1, .sl 2 0 0 n), (5, .int .i64 k)], [(1, some (.one true (psB n pc))), (2, some (.one true (psB n pc)))], 3⟩) (fun k => k ≤ n) (fun k => n - k) 0 [0, 1, 2] [] ⟨rfl, ⟨rfl, rfl, rfl, trivial⟩, ⟨rfl, rfl, trivial⟩⟩ (Nat.zero_le _) ?_
  intro k hk
  by_cases hk2 : k < n
  · repeat' ((conv => whnf); first | (refine br_dec (fun h => ?_) (fun h => ?_) <;> try (exfalso; (try dsimp only at h); omega)) | (refine br_ndec (fun h => ?_) (fun h => ?_) <;> try (exfalso; (try dsimp only at h); omega)) | refine br_seq (fun h => ?_) (fun h => ?_) | refine br_nseq (fun h => ?_) (fun h => ?_) | refine br_not (fun h => ?_) (fun h => ?_) | refine br_intro (fun h => ?_) (fun h => ?_) | refine cond_intro rfl ?_ | (refine cond_intro ⟨rfl, ?_⟩ ?_; (first | omega | (dsimp only; omega) | decide)) | (refine cond_intro ?_ ?_; (first | omega | (dsimp only; omega) | decide | (simp only [Nat.add_zero, Int.toNat_natCast, *]; omega))))
    all_goals (conv => whnf)
    all_goals first
      | (exfalso; first | omega | contradiction | (simp [seq] at h; done))
      | exact ⟨k + 1, [0, 1, 2], [], hk2, (show n - (k + 1) < n - k by omega), ⟨rfl, ⟨rfl, rfl, congrArg (fun z => some (SV.int .i64 z)) (i64_succ (by omega)), trivial⟩, ⟨rfl, rfl, trivial⟩⟩⟩
      | trace_state
  · repeat' ((conv => whnf); first | (refine br_dec (fun h => ?_) (fun h => ?_) <;> try (exfalso; (try dsimp only at h); omega)) | (refine br_ndec (fun h => ?_) (fun h => ?_) <;> try (exfalso; (try dsimp only at h); omega)) | refine br_seq (fun h => ?_) (fun h => ?_) | refine br_nseq (fun h => ?_) (fun h => ?_) | refine br_not (fun h => ?_) (fun h => ?_) | refine br_intro (fun h => ?_) (fun h => ?_) | refine cond_intro rfl ?_ | (refine cond_intro ⟨rfl, ?_⟩ ?_; (first | omega | (dsimp only; omega) | decide)) | (refine cond_intro ?_ ?_; (first | omega | (dsimp only; omega) | decide | (simp only [Nat.add_zero, Int.toNat_natCast, *]; omega))))
    all_goals (conv => whnf)
    all_goals first
      | exact ret_out (l := [0, 1, 2]) rfl rfl trivial allRw_nil
      | (exfalso; first | omega | contradiction)
      | trace_state
theorem r41_SameN : Pure Try.prog 14 [.nsl, .nsl] (.bool true) := by
  refine fc_of mixed T_ok Try.func14 rfl (by kernel_rfl) (by kernel_rfl) (by kernel_rfl) ?_
  repeat' ((conv => whnf); first | (refine br_dec (fun h => ?_) (fun h => ?_) <;> try (exfalso; (try dsimp only at h); omega)) | (refine br_ndec (fun h => ?_) (fun h => ?_) <;> try (exfalso; (try dsimp only at h); omega)) | refine br_seq (fun h => ?_) (fun h => ?_) | refine br_nseq (fun h => ?_) (fun h => ?_) | refine br_not (fun h => ?_) (fun h => ?_) | refine br_intro (fun h => ?_) (fun h => ?_) | refine cond_intro rfl ?_ | (refine cond_intro ⟨rfl, ?_⟩ ?_; (first | omega | (dsimp only; omega) | decide)) | (refine cond_intro ?_ ?_; (first | omega | (dsimp only; omega) | decide | (simp only [Nat.add_zero, Int.toNat_natCast, *]; omega))))
  all_goals (conv => whnf)
  refine vloop_lp (fun _ : Unit => ⟨[(0, .nsl), (1, .nsl), (5, .int .i64 0)], [], 1⟩) (fun _ => True) (fun _ => 0) () [0] [] ⟨rfl, ⟨rfl, rfl, rfl, trivial⟩, trivial⟩ trivial ?_
  intro _ _
  repeat' ((conv => whnf); first | (refine br_dec (fun h => ?_) (fun h => ?_) <;> try (exfalso; (try dsimp only at h); omega)) | (refine br_ndec (fun h => ?_) (fun h => ?_) <;> try (exfalso; (try dsimp only at h); omega)) | refine br_seq (fun h => ?_) (fun h => ?_) | refine br_nseq (fun h => ?_) (fun h => ?_) | refine br_not (fun h => ?_) (fun h => ?_) | refine br_intro (fun h => ?_) (fun h => ?_) | refine cond_intro rfl ?_ | (refine cond_intro ⟨rfl, ?_⟩ ?_; (first | omega | (dsimp only; omega) | decide)) | (refine cond_intro ?_ ?_; (first | omega | (dsimp only; omega) | decide | (simp only [Nat.add_zero, Int.toNat_natCast, *]; omega))))
  all_goals (conv => whnf)
  all_goals first
    | exact ret_pure rfl
    | (exfalso; first | omega | contradiction)
    | trace_state
theorem r41_SameTr (T : List Tx) (n : Nat) (hl : n ≤ 100000) : FC Try.prog 3 21 [.sl 1 0 0 n, .sl 2 0 0 n] [(1, some (.one true (txB n (tcOf T)))), (2, some (.one true (txB n (tcOf T))))] (isOut (.bool true) [] 3) := by
  generalize tcOf T = tc
  refine fc_of mixed T_ok Try.func21 rfl (by kernel_rfl) (by kernel_rfl) (by kernel_rfl) ?_
  repeat' ((conv => whnf); first | (refine br_dec (fun h => ?_) (fun h => ?_) <;> try (exfalso; (try dsimp only at h); omega)) | (refine br_ndec (fun h => ?_) (fun h => ?_) <;> try (exfalso; (try dsimp only at h); omega)) | refine br_seq (fun h => ?_) (fun h => ?_) | refine br_nseq (fun h => ?_) (fun h => ?_) | refine br_not (fun h => ?_) (fun h => ?_) | refine br_intro (fun h => ?_) (fun h => ?_) | refine cond_intro rfl ?_ | (refine cond_intro ⟨rfl, ?_⟩ ?_; (first | omega | (dsimp only; omega) | decide)) | (refine cond_intro ?_ ?_; (first | omega | (dsimp only; omega) | decide | (simp only [Nat.add_zero, Int.toNat_natCast, *]; omega))))
  all_goals (conv => whnf)
  all_goals first
    | (exfalso; first | omega | contradiction)
    | skip
  refine vloop_lp (fun k : Nat => ⟨[(0, .sl 1 0 0 n), (1, .sl 2 0 0 n), (5, .int .i64 k)], [(1, some (.one true (txB n tc))), (2, some (.one true (txB n tc)))], 3⟩) (fun k => k ≤ n) (fun k => n - k) 0 [0, 1, 2] [] ⟨rfl, ⟨rfl, rfl, rfl, trivial⟩, ⟨rfl, rfl, trivial⟩⟩ (Nat.zero_le _) ?_
  intro k hk
  by_cases hk2 : k < n
  · repeat' ((conv => whnf); first | (refine br_dec (fun h => ?_) (fun h => ?_) <;> try (exfalso; (try dsimp only at h); omega)) | (refine br_ndec (fun h => ?_) (fun h => ?_) <;> try (exfalso; (try dsimp only at h); omega)) | refine br_seq (fun h => ?_) (fun h => ?_) | refine br_nseq (fun h => ?_) (fun h => ?_) | refine br_not (fun h => ?_) (fun h => ?_) | refine br_intro (fun h => ?_) (fun h => ?_) | refine cond_intro rfl ?_ | (refine cond_intro ⟨rfl, ?_⟩ ?_; (first | omega | (dsimp only; omega) | decide)) | (refine cond_intro ?_ ?_; (first | omega | (dsimp only; omega) | decide | (simp only [Nat.add_zero, Int.toNat_natCast, *]; omega))))
    all_goals (conv => whnf)
    all_goals first
      | (exfalso; first | omega | contradiction | (simp [seq] at h; done))
      | exact ⟨k + 1, [0, 1, 2], [], hk2, (show n - (k + 1) < n - k by omega), ⟨rfl, ⟨rfl, rfl, congrArg (fun z => some (SV.int .i64 z)) (i64_succ (by omega)), trivial⟩, ⟨rfl, rfl, trivial⟩⟩⟩
      | trace_state
  · repeat' ((conv => whnf); first | (refine br_dec (fun h => ?_) (fun h => ?_) <;> try (exfalso; (try dsimp only at h); omega)) | (refine br_ndec (fun h => ?_) (fun h => ?_) <;> try (exfalso; (try dsimp only at h); omega)) | refine br_seq (fun h => ?_) (fun h => ?_) | refine br_nseq (fun h => ?_) (fun h => ?_) | refine br_not (fun h => ?_) (fun h => ?_) | refine br_intro (fun h => ?_) (fun h => ?_) | refine cond_intro rfl ?_ | (refine cond_intro ⟨rfl, ?_⟩ ?_; (first | omega | (dsimp only; omega) | decide)) | (refine cond_intro ?_ ?_; (first | omega | (dsimp only; omega) | decide | (simp only [Nat.add_zero, Int.toNat_natCast, *]; omega))))
    all_goals (conv => whnf)
    all_goals first
      | exact ret_out (l := [0, 1, 2]) rfl rfl trivial allRw_nil
      | (exfalso; first | omega | contradiction)
      | trace_state
theorem r41_SameTrN : Pure Try.prog 21 [.nsl, .nsl] (.bool true) := by
  refine fc_of mixed T_ok Try.func21 rfl (by kernel_rfl) (by kernel_rfl) (by kernel_rfl) ?_
  repeat' ((conv => whnf); first | (refine br_dec (fun h => ?_) (fun h => ?_) <;> try (exfalso; (try dsimp only at h); omega)) | (refine br_ndec (fun h => ?_) (fun h => ?_) <;> try (exfalso; (try dsimp only at h); omega)) | refine br_seq (fun h => ?_) (fun h => ?_) | refine br_nseq (fun h => ?_) (fun h => ?_) | refine br_not (fun h => ?_) (fun h => ?_) | refine br_intro (fun h => ?_) (fun h => ?_) | refine cond_intro rfl ?_ | (refine cond_intro ⟨rfl, ?_⟩ ?_; (first | omega | (dsimp only; omega) | decide)) | (refine cond_intro ?_ ?_; (first | omega | (dsimp only; omega) | decide | (simp only [Nat.add_zero, Int.toNat_natCast, *]; omega))))
  all_goals (conv => whnf)
  refine vloop_lp (fun _ : Unit => ⟨[(0, .nsl), (1, .nsl), (5, .int .i64 0)], [], 1⟩) (fun _ => True) (fun _ => 0) () [0] [] ⟨rfl, ⟨rfl, rfl, rfl, trivial⟩, trivial⟩ trivial ?_
  intro _ _
  repeat' ((conv => whnf); first | (refine br_dec (fun h => ?_) (fun h => ?_) <;> try (exfalso; (try dsimp only at h); omega)) | (refine br_ndec (fun h => ?_) (fun h => ?_) <;> try (exfalso; (try dsimp only at h); omega)) | refine br_seq (fun h => ?_) (fun h => ?_) | refine br_nseq (fun h => ?_) (fun h => ?_) | refine br_not (fun h => ?_) (fun h => ?_) | refine br_intro (fun h => ?_) (fun h => ?_) | refine cond_intro rfl ?_ | (refine cond_intro ⟨rfl, ?_⟩ ?_; (first | omega | (dsimp only; omega) | decide)) | (refine cond_intro ?_ ?_; (first | omega | (dsimp only; omega) | decide | (simp only [Nat.add_zero, Int.toNat_natCast, *]; omega))))
  all_goals (conv => whnf)
  all_goals first
    | exact ret_pure rfl
    | (exfalso; first | omega | contradiction)
    | trace_state
abbrev EUR : ByteArray := ⟨#[69, 85, 82]⟩
theorem law_net (p : ByteArray) (a : Int) : Pure Try.prog 22 [.str p, .int .i64 a] (.agg [.str p, .int .i64 a, .str EUR]) := by
  refine fc_of mixed T_ok Try.func22 rfl (by kernel_rfl) (by kernel_rfl) (by kernel_rfl) ?_
  repeat' ((conv => whnf); first | (refine br_dec (fun h => ?_) (fun h => ?_) <;> try (exfalso; (try dsimp only at h); omega)) | (refine br_ndec (fun h => ?_) (fun h => ?_) <;> try (exfalso; (try dsimp only at h); omega)) | refine br_seq (fun h => ?_) (fun h => ?_) | refine br_nseq (fun h => ?_) (fun h => ?_) | refine br_not (fun h => ?_) (fun h => ?_) | refine br_intro (fun h => ?_) (fun h => ?_) | refine cond_intro rfl ?_ | (refine cond_intro ⟨rfl, ?_⟩ ?_; (first | omega | (dsimp only; omega) | decide)) | (refine cond_intro ?_ ?_; (first | omega | (dsimp only; omega) | decide | (simp only [Nat.add_zero, Int.toNat_natCast, *]; omega))))
  all_goals (conv => whnf)
  all_goals exact ret_pure rfl
theorem law_pay (f t : ByteArray) (a : Int) : Pure Try.prog 23 [.str f, .str t, .int .i64 a] (.agg [.str f, .str t, .int .i64 a, .str EUR]) := by
  refine fc_of mixed T_ok Try.func23 rfl (by kernel_rfl) (by kernel_rfl) (by kernel_rfl) ?_
  repeat' ((conv => whnf); first | (refine br_dec (fun h => ?_) (fun h => ?_) <;> try (exfalso; (try dsimp only at h); omega)) | (refine br_ndec (fun h => ?_) (fun h => ?_) <;> try (exfalso; (try dsimp only at h); omega)) | refine br_seq (fun h => ?_) (fun h => ?_) | refine br_nseq (fun h => ?_) (fun h => ?_) | refine br_not (fun h => ?_) (fun h => ?_) | refine br_intro (fun h => ?_) (fun h => ?_) | refine cond_intro rfl ?_ | (refine cond_intro ⟨rfl, ?_⟩ ?_; (first | omega | (dsimp only; omega) | decide)) | (refine cond_intro ?_ ?_; (first | omega | (dsimp only; omega) | decide | (simp only [Nat.add_zero, Int.toNat_natCast, *]; omega))))
  all_goals (conv => whnf)
  all_goals exact ret_pure rfl
/-- Small arguments of a law. -/
def smL (L : List Ps) (T : List Tx) : Prop := (L.length ≤ 40 ∧ T.length ≤ 60) ∧ (∀ j, j < L.length → (L.getD j ps0).p.size ≤ 100 ∧ (L.getD j ps0).c.size ≤ 100) ∧ ∀ j, j < T.length → (T.getD j tx0).f.size ≤ 100 ∧ (T.getD j tx0).t.size ≤ 100 ∧ (T.getD j tx0).c.size ≤ 100
instance (L : List Ps) (T : List Tx) : Decidable (smL L T) := by unfold smL; exact inferInstance
theorem law_small (L : List Ps) (T : List Tx) (n m : Nat) (hn : L.length = n) (hm : T.length = m) : FC Try.prog 3 8 [.sl 1 0 0 n, .sl 2 0 0 m] [(1, some (.one true (psB n (pcOf L)))), (2, some (.one true (txB m (tcOf T))))] (isOut (.bool (decide (smL L T))) [] 3) := by
  by_cases h0 : n ≤ 40 ∧ m ≤ 60
  · refine fc_of mixed T_ok Try.func8 rfl (by kernel_rfl) (by kernel_rfl) (by kernel_rfl) ?_
    repeat' ((conv => whnf); first | (refine br_dec (fun h => ?_) (fun h => ?_) <;> try (exfalso; (try dsimp only at h); omega)) | (refine br_ndec (fun h => ?_) (fun h => ?_) <;> try (exfalso; (try dsimp only at h); omega)) | refine br_seq (fun h => ?_) (fun h => ?_) | refine br_nseq (fun h => ?_) (fun h => ?_) | refine br_not (fun h => ?_) (fun h => ?_) | refine br_intro (fun h => ?_) (fun h => ?_) | refine cond_intro rfl ?_ | (refine cond_intro ⟨rfl, ?_⟩ ?_; (first | omega | (dsimp only; omega) | decide)) | (refine cond_intro ?_ ?_; (first | omega | (dsimp only; omega) | decide | (simp only [Nat.add_zero, Int.toNat_natCast, *]; omega))))
    all_goals (conv => whnf)
    all_goals first
      | (exfalso; omega)
      | skip
    refine vloop_lp (fun k : Nat => ⟨[(0, .sl 1 0 0 n), (1, .sl 2 0 0 m), (5, .int .i64 k)], [(1, some (.one true (psB n (pcOf L)))), (2, some (.one true (txB m (tcOf T))))], 3⟩) (fun k => k ≤ n ∧ ∀ j, j < k → (L.getD j ps0).p.size ≤ 100 ∧ (L.getD j ps0).c.size ≤ 100) (fun k => n - k) 0 [0, 1, 2] [] ⟨rfl, ⟨rfl, rfl, rfl, trivial⟩, ⟨rfl, rfl, trivial⟩⟩ ⟨Nat.zero_le _, fun j hj => by omega⟩ ?_
    rintro k ⟨hk, hT⟩
    by_cases hk2 : k < n
    · have hno : ¬ ((L.getD k ps0).p.size ≤ 100 ∧ (L.getD k ps0).c.size ≤ 100) → decide (smL L T) = false := fun h => decide_eq_false (fun q => h (q.2.1 k (by omega)))
      have hnx : (L.getD k ps0).p.size ≤ 100 ∧ (L.getD k ps0).c.size ≤ 100 → ∀ j, j < k + 1 → (L.getD j ps0).p.size ≤ 100 ∧ (L.getD j ps0).c.size ≤ 100 := fun h j hj => by
        by_cases e : j = k
        · subst e; exact h
        · exact hT j (by omega)
      obtain ⟨a1, a2, a3⟩ := atP L k
      rw [← a1, ← a3] at hno hnx
      clear a1 a2 a3
      repeat' ((conv => whnf); first | (refine br_dec (fun h => ?_) (fun h => ?_) <;> try (exfalso; (try dsimp only at h); omega)) | (refine br_ndec (fun h => ?_) (fun h => ?_) <;> try (exfalso; (try dsimp only at h); omega)) | refine br_seq (fun h => ?_) (fun h => ?_) | refine br_nseq (fun h => ?_) (fun h => ?_) | refine br_not (fun h => ?_) (fun h => ?_) | refine br_intro (fun h => ?_) (fun h => ?_) | refine cond_intro rfl ?_ | (refine cond_intro ⟨rfl, ?_⟩ ?_; (first | omega | (dsimp only; omega) | decide)) | (refine cond_intro ?_ ?_; (first | omega | (dsimp only; omega) | decide | (simp only [Nat.add_zero, Int.toNat_natCast, *]; omega))))
      all_goals (conv => whnf)
      all_goals (try simp only [toNat0] at *)
      all_goals first
        | (exfalso; omega)
        | exact ⟨k + 1, [0, 1, 2], [], ⟨hk2, hnx ⟨by omega, by omega⟩⟩, (show n - (k + 1) < n - k by omega), ⟨rfl, ⟨rfl, rfl, congrArg (fun z => some (SV.int .i64 z)) (i64_succ (by omega)), trivial⟩, ⟨rfl, rfl, trivial⟩⟩⟩
        | (rw [hno (fun q => by omega)]; exact ret_out (l := [0, 1, 2]) rfl rfl trivial allRw_nil)
        | trace_state
    · have e : k = n := by omega
      subst e
      repeat' ((conv => whnf); first | (refine br_dec (fun h => ?_) (fun h => ?_) <;> try (exfalso; (try dsimp only at h); omega)) | (refine br_ndec (fun h => ?_) (fun h => ?_) <;> try (exfalso; (try dsimp only at h); omega)) | refine br_seq (fun h => ?_) (fun h => ?_) | refine br_nseq (fun h => ?_) (fun h => ?_) | refine br_not (fun h => ?_) (fun h => ?_) | refine br_intro (fun h => ?_) (fun h => ?_) | refine cond_intro rfl ?_ | (refine cond_intro ⟨rfl, ?_⟩ ?_; (first | omega | (dsimp only; omega) | decide)) | (refine cond_intro ?_ ?_; (first | omega | (dsimp only; omega) | decide | (simp only [Nat.add_zero, Int.toNat_natCast, *]; omega))))
      all_goals (conv => whnf)
      all_goals first
        | (exfalso; omega)
        | skip
      refine vloop_lp (fun i : Nat => ⟨[(1, .sl 2 0 0 m), (6, .int .i64 i)], [(2, some (.one true (txB m (tcOf T))))], 3⟩) (fun i => i ≤ m ∧ ∀ j, j < i → (T.getD j tx0).f.size ≤ 100 ∧ (T.getD j tx0).t.size ≤ 100 ∧ (T.getD j tx0).c.size ≤ 100) (fun i => m - i) 0 [0, 1, 2] [] ⟨rfl, ⟨rfl, rfl, trivial⟩, ⟨rfl, trivial⟩⟩ ⟨Nat.zero_le _, fun j hj => by omega⟩ ?_
      rintro i ⟨hi, hU⟩
      by_cases hi2 : i < m
      · have hno : ¬ ((T.getD i tx0).f.size ≤ 100 ∧ (T.getD i tx0).t.size ≤ 100 ∧ (T.getD i tx0).c.size ≤ 100) → decide (smL L T) = false := fun h => decide_eq_false (fun q => h (q.2.2 i (by omega)))
        have hnx : (T.getD i tx0).f.size ≤ 100 ∧ (T.getD i tx0).t.size ≤ 100 ∧ (T.getD i tx0).c.size ≤ 100 → ∀ j, j < i + 1 → (T.getD j tx0).f.size ≤ 100 ∧ (T.getD j tx0).t.size ≤ 100 ∧ (T.getD j tx0).c.size ≤ 100 := fun h j hj => by
          by_cases e : j = i
          · subst e; exact h
          · exact hU j (by omega)
        obtain ⟨a1, a2, a3, a4⟩ := atT T i
        rw [← a1, ← a2, ← a4] at hno hnx
        clear a1 a2 a3 a4
        repeat' ((conv => whnf); first | (refine br_dec (fun h => ?_) (fun h => ?_) <;> try (exfalso; (try dsimp only at h); omega)) | (refine br_ndec (fun h => ?_) (fun h => ?_) <;> try (exfalso; (try dsimp only at h); omega)) | refine br_seq (fun h => ?_) (fun h => ?_) | refine br_nseq (fun h => ?_) (fun h => ?_) | refine br_not (fun h => ?_) (fun h => ?_) | refine br_intro (fun h => ?_) (fun h => ?_) | refine cond_intro rfl ?_ | (refine cond_intro ⟨rfl, ?_⟩ ?_; (first | omega | (dsimp only; omega) | decide)) | (refine cond_intro ?_ ?_; (first | omega | (dsimp only; omega) | decide | (simp only [Nat.add_zero, Int.toNat_natCast, *]; omega))))
        all_goals (conv => whnf)
        all_goals (try simp only [toNat0] at *)
        all_goals first
          | (exfalso; omega)
          | exact ⟨i + 1, [0, 1, 2], [], ⟨hi2, hnx ⟨by omega, by omega, by omega⟩⟩, (show m - (i + 1) < m - i by omega), ⟨rfl, ⟨rfl, congrArg (fun z => some (SV.int .i64 z)) (i64_succ (by omega)), trivial⟩, ⟨rfl, trivial⟩⟩⟩
          | (rw [hno (fun q => by omega)]; exact ret_out (l := [0, 1, 2]) rfl rfl trivial allRw_nil)
          | trace_state
      · have e : i = m := by omega
        subst e
        rw [show decide (smL L T) = true from decide_eq_true ⟨⟨by omega, by omega⟩, by rw [hn]; exact hT, by rw [hm]; exact hU⟩]
        repeat' ((conv => whnf); first | (refine br_dec (fun h => ?_) (fun h => ?_) <;> try (exfalso; (try dsimp only at h); omega)) | (refine br_ndec (fun h => ?_) (fun h => ?_) <;> try (exfalso; (try dsimp only at h); omega)) | refine br_seq (fun h => ?_) (fun h => ?_) | refine br_nseq (fun h => ?_) (fun h => ?_) | refine br_not (fun h => ?_) (fun h => ?_) | refine br_intro (fun h => ?_) (fun h => ?_) | refine cond_intro rfl ?_ | (refine cond_intro ⟨rfl, ?_⟩ ?_; (first | omega | (dsimp only; omega) | decide)) | (refine cond_intro ?_ ?_; (first | omega | (dsimp only; omega) | decide | (simp only [Nat.add_zero, Int.toNat_natCast, *]; omega))))
        all_goals (conv => whnf)
        all_goals first
          | exact ret_out (l := [0, 1, 2]) rfl rfl trivial allRw_nil
          | (exfalso; omega)
          | trace_state
  · rw [show decide (smL L T) = false from decide_eq_false (fun q => h0 ⟨by have := q.1.1; omega, by have := q.1.2; omega⟩)]
    refine fc_of mixed T_ok Try.func8 rfl (by kernel_rfl) (by kernel_rfl) (by kernel_rfl) ?_
    repeat' ((conv => whnf); first | (refine br_dec (fun h => ?_) (fun h => ?_) <;> try (exfalso; (try dsimp only at h); omega)) | (refine br_ndec (fun h => ?_) (fun h => ?_) <;> try (exfalso; (try dsimp only at h); omega)) | refine br_seq (fun h => ?_) (fun h => ?_) | refine br_nseq (fun h => ?_) (fun h => ?_) | refine br_not (fun h => ?_) (fun h => ?_) | refine br_intro (fun h => ?_) (fun h => ?_) | refine cond_intro rfl ?_ | (refine cond_intro ⟨rfl, ?_⟩ ?_; (first | omega | (dsimp only; omega) | decide)) | (refine cond_intro ?_ ?_; (first | omega | (dsimp only; omega) | decide | (simp only [Nat.add_zero, Int.toNat_natCast, *]; omega))))
    all_goals (conv => whnf)
    all_goals first
      | exact ret_out (l := [0, 1, 2]) rfl rfl trivial allRw_nil
      | (exfalso; omega)
      | trace_state
end Go.Proofs.Ytmibjgblhaohiaa

/- Contracts: who owes most and who receives most. -/
namespace Go.Proofs.Ytmibjgblhaohiaa
open Go.RowKit Go.Sy
attribute [local irreducible] vcall vloop vcallD retP
set_option maxRecDepth 100000
set_option linter.unusedVariables false
set_option linter.unusedSimpArgs false

/-- The first of the first k amounts behind o that is least among those below zero. -/
def dK (V : List Int) (o : Nat) : Nat → Option Nat
  | 0 => none
  | k + 1 => match dK V o k with
    | none => if V.getD (k + o) 0 < 0 then some k else none
    | some d => if V.getD (k + o) 0 < 0 ∧ V.getD (k + o) 0 < V.getD (d + o) 0 then some k else some d
/-- The first that is greatest among those above zero. -/
def eK (V : List Int) (o : Nat) : Nat → Option Nat
  | 0 => none
  | k + 1 => match eK V o k with
    | none => if 0 < V.getD (k + o) 0 then some k else none
    | some d => if 0 < V.getD (k + o) 0 ∧ V.getD (d + o) 0 < V.getD (k + o) 0 then some k else some d
def oI : Option Nat → Int
  | none => -1
  | some d => d
theorem dK_lt (V : List Int) (o : Nat) : ∀ (k d : Nat), dK V o k = some d → d < k
  | 0, d, h => by cases h
  | k + 1, d, h => by
    simp only [dK] at h
    split at h
    · split at h
      · cases h; omega
      · cases h
    · rename_i d' hd
      have := dK_lt V o k d' hd
      split at h <;> (cases h; omega)
theorem eK_lt (V : List Int) (o : Nat) : ∀ (k d : Nat), eK V o k = some d → d < k
  | 0, d, h => by cases h
  | k + 1, d, h => by
    simp only [eK] at h
    split at h
    · split at h
      · cases h; omega
      · cases h
    · rename_i d' hd
      have := eK_lt V o k d' hd
      split at h <;> (cases h; omega)
theorem toNatO (k o : Nat) : (k : Int).toNat + o = k + o := rfl
theorem net_extremes (A : List Ps) (N o n : Nat) (hN : A.length = N) (ho : o + n ≤ N) (hl : N ≤ 100000) : FC Try.prog 2 39 [.sl 1 0 o n] [(1, some (.one true (psB N (pcOf A))))] (isOut (.tup [.int .i64 (oI (dK (pcOf A).a o n)), .int .i64 (oI (eK (pcOf A).a o n))]) [] 2) := by
  generalize pcOf A = pc
  refine fc_of mixed T_ok Try.func39 rfl (by kernel_rfl) (by kernel_rfl) (by kernel_rfl) ?_
  repeat' ((conv => whnf); first | (refine br_dec (fun h => ?_) (fun h => ?_) <;> try (exfalso; (try dsimp only at h); omega)) | (refine br_ndec (fun h => ?_) (fun h => ?_) <;> try (exfalso; (try dsimp only at h); omega)) | refine br_seq (fun h => ?_) (fun h => ?_) | refine br_nseq (fun h => ?_) (fun h => ?_) | refine br_not (fun h => ?_) (fun h => ?_) | refine br_intro (fun h => ?_) (fun h => ?_) | refine cond_intro rfl ?_ | (refine cond_intro ⟨rfl, ?_⟩ ?_; (first | omega | (dsimp only; omega) | decide)) | (refine cond_intro ?_ ?_; (first | omega | (dsimp only; omega) | decide | (simp only [Nat.add_zero, Int.toNat_natCast, *]; omega))))
  all_goals (conv => whnf)
  refine vloop_lp (fun k : Nat => ⟨[(0, .sl 1 0 o n), (7, .sl 1 0 o n), (8, .int .i64 n), (9, .int .i64 k), (2, .int .i64 (oI (dK pc.a o k))), (3, .int .i64 (oI (eK pc.a o k)))], [(1, some (.one true (psB N pc)))], 2⟩) (fun k => k ≤ n) (fun k => n - k) 0 [0, 1] [] ⟨rfl, ⟨rfl, rfl, rfl, rfl, rfl, rfl, trivial⟩, ⟨rfl, trivial⟩⟩ (Nat.zero_le _) ?_
  intro k hk
  by_cases hk2 : k < n
  · have hd := dK_lt pc.a o k
    have he := eK_lt pc.a o k
    have hd1 : dK pc.a o (k + 1) = match dK pc.a o k with
      | none => if pc.a.getD (k + o) 0 < 0 then some k else none
      | some d => if pc.a.getD (k + o) 0 < 0 ∧ pc.a.getD (k + o) 0 < pc.a.getD (d + o) 0 then some k else some d := rfl
    have he1 : eK pc.a o (k + 1) = match eK pc.a o k with
      | none => if 0 < pc.a.getD (k + o) 0 then some k else none
      | some d => if 0 < pc.a.getD (k + o) 0 ∧ pc.a.getD (d + o) 0 < pc.a.getD (k + o) 0 then some k else some d := rfl
    cases hD : dK pc.a o k with
    | none =>
      rw [hD] at hd1
      dsimp only at hd1
      cases hE : eK pc.a o k with
      | none =>
        rw [hE] at he1
        dsimp only at he1
        by_cases cd : pc.a.getD (k + o) 0 < 0
        · have hdv : oI (dK pc.a o (k + 1)) = (k : Int) := by rw [hd1, if_pos cd]; rfl
          by_cases ce : 0 < pc.a.getD (k + o) 0
          · have hev : oI (eK pc.a o (k + 1)) = (k : Int) := by rw [he1, if_pos ce]; rfl
            exfalso; omega
          · have hev : oI (eK pc.a o (k + 1)) = -1 := by rw [he1, if_neg ce]; rfl
            unfold oI at hdv hev ⊢
            repeat' ((conv => whnf); first | (refine br_dec (fun h => ?_) (fun h => ?_) <;> try (exfalso; (try dsimp only at h); omega)) | (refine br_ndec (fun h => ?_) (fun h => ?_) <;> try (exfalso; (try dsimp only at h); omega)) | refine br_seq (fun h => ?_) (fun h => ?_) | refine br_nseq (fun h => ?_) (fun h => ?_) | refine br_not (fun h => ?_) (fun h => ?_) | refine br_intro (fun h => ?_) (fun h => ?_) | refine cond_intro rfl ?_ | (refine cond_intro ⟨rfl, ?_⟩ ?_; (first | omega | (dsimp only; omega) | decide)) | (refine cond_intro ?_ ?_; (first | omega | (dsimp only; omega) | decide | (simp only [Nat.add_zero, Int.toNat_natCast, *]; omega))))
            all_goals (conv => whnf)
            all_goals (try simp only [toNatO] at *)
            all_goals first
              | (exfalso; omega)
              | exact ⟨k + 1, [0, 1], [], hk2, (show n - (k + 1) < n - k by omega), ⟨rfl, ⟨rfl, rfl, rfl, congrArg (fun z => some (SV.int .i64 z)) (i64_succ (by omega)), congrArg (fun z => some (SV.int .i64 z)) hdv.symm, congrArg (fun z => some (SV.int .i64 z)) hev.symm, trivial⟩, ⟨rfl, trivial⟩⟩⟩
              | trace_state
        · have hdv : oI (dK pc.a o (k + 1)) = -1 := by rw [hd1, if_neg cd]; rfl
          by_cases ce : 0 < pc.a.getD (k + o) 0
          · have hev : oI (eK pc.a o (k + 1)) = (k : Int) := by rw [he1, if_pos ce]; rfl
            unfold oI at hdv hev ⊢
            repeat' ((conv => whnf); first | (refine br_dec (fun h => ?_) (fun h => ?_) <;> try (exfalso; (try dsimp only at h); omega)) | (refine br_ndec (fun h => ?_) (fun h => ?_) <;> try (exfalso; (try dsimp only at h); omega)) | refine br_seq (fun h => ?_) (fun h => ?_) | refine br_nseq (fun h => ?_) (fun h => ?_) | refine br_not (fun h => ?_) (fun h => ?_) | refine br_intro (fun h => ?_) (fun h => ?_) | refine cond_intro rfl ?_ | (refine cond_intro ⟨rfl, ?_⟩ ?_; (first | omega | (dsimp only; omega) | decide)) | (refine cond_intro ?_ ?_; (first | omega | (dsimp only; omega) | decide | (simp only [Nat.add_zero, Int.toNat_natCast, *]; omega))))
            all_goals (conv => whnf)
            all_goals (try simp only [toNatO] at *)
            all_goals first
              | (exfalso; omega)
              | exact ⟨k + 1, [0, 1], [], hk2, (show n - (k + 1) < n - k by omega), ⟨rfl, ⟨rfl, rfl, rfl, congrArg (fun z => some (SV.int .i64 z)) (i64_succ (by omega)), congrArg (fun z => some (SV.int .i64 z)) hdv.symm, congrArg (fun z => some (SV.int .i64 z)) hev.symm, trivial⟩, ⟨rfl, trivial⟩⟩⟩
              | trace_state
          · have hev : oI (eK pc.a o (k + 1)) = -1 := by rw [he1, if_neg ce]; rfl
            unfold oI at hdv hev ⊢
            repeat' ((conv => whnf); first | (refine br_dec (fun h => ?_) (fun h => ?_) <;> try (exfalso; (try dsimp only at h); omega)) | (refine br_ndec (fun h => ?_) (fun h => ?_) <;> try (exfalso; (try dsimp only at h); omega)) | refine br_seq (fun h => ?_) (fun h => ?_) | refine br_nseq (fun h => ?_) (fun h => ?_) | refine br_not (fun h => ?_) (fun h => ?_) | refine br_intro (fun h => ?_) (fun h => ?_) | refine cond_intro rfl ?_ | (refine cond_intro ⟨rfl, ?_⟩ ?_; (first | omega | (dsimp only; omega) | decide)) | (refine cond_intro ?_ ?_; (first | omega | (dsimp only; omega) | decide | (simp only [Nat.add_zero, Int.toNat_natCast, *]; omega))))
            all_goals (conv => whnf)
            all_goals (try simp only [toNatO] at *)
            all_goals first
              | (exfalso; omega)
              | exact ⟨k + 1, [0, 1], [], hk2, (show n - (k + 1) < n - k by omega), ⟨rfl, ⟨rfl, rfl, rfl, congrArg (fun z => some (SV.int .i64 z)) (i64_succ (by omega)), congrArg (fun z => some (SV.int .i64 z)) hdv.symm, congrArg (fun z => some (SV.int .i64 z)) hev.symm, trivial⟩, ⟨rfl, trivial⟩⟩⟩
              | trace_state
      | some e =>
        rw [hE] at he1
        have hel := he e hE
        dsimp only at he1
        by_cases cd : pc.a.getD (k + o) 0 < 0
        · have hdv : oI (dK pc.a o (k + 1)) = (k : Int) := by rw [hd1, if_pos cd]; rfl
          by_cases ce : 0 < pc.a.getD (k + o) 0 ∧ pc.a.getD (e + o) 0 < pc.a.getD (k + o) 0
          · have hev : oI (eK pc.a o (k + 1)) = (k : Int) := by rw [he1, if_pos ce]; rfl
            exfalso; omega
          · have hev : oI (eK pc.a o (k + 1)) = (e : Int) := by rw [he1, if_neg ce]; rfl
            unfold oI at hdv hev ⊢
            repeat' ((conv => whnf); first | (refine br_dec (fun h => ?_) (fun h => ?_) <;> try (exfalso; (try dsimp only at h); omega)) | (refine br_ndec (fun h => ?_) (fun h => ?_) <;> try (exfalso; (try dsimp only at h); omega)) | refine br_seq (fun h => ?_) (fun h => ?_) | refine br_nseq (fun h => ?_) (fun h => ?_) | refine br_not (fun h => ?_) (fun h => ?_) | refine br_intro (fun h => ?_) (fun h => ?_) | refine cond_intro rfl ?_ | (refine cond_intro ⟨rfl, ?_⟩ ?_; (first | omega | (dsimp only; omega) | decide)) | (refine cond_intro ?_ ?_; (first | omega | (dsimp only; omega) | decide | (simp only [Nat.add_zero, Int.toNat_natCast, *]; omega))))
            all_goals (conv => whnf)
            all_goals (try simp only [toNatO] at *)
            all_goals first
              | (exfalso; omega)
              | exact ⟨k + 1, [0, 1], [], hk2, (show n - (k + 1) < n - k by omega), ⟨rfl, ⟨rfl, rfl, rfl, congrArg (fun z => some (SV.int .i64 z)) (i64_succ (by omega)), congrArg (fun z => some (SV.int .i64 z)) hdv.symm, congrArg (fun z => some (SV.int .i64 z)) hev.symm, trivial⟩, ⟨rfl, trivial⟩⟩⟩
              | trace_state
        · have hdv : oI (dK pc.a o (k + 1)) = -1 := by rw [hd1, if_neg cd]; rfl
          by_cases ce : 0 < pc.a.getD (k + o) 0 ∧ pc.a.getD (e + o) 0 < pc.a.getD (k + o) 0
          · have hev : oI (eK pc.a o (k + 1)) = (k : Int) := by rw [he1, if_pos ce]; rfl
            unfold oI at hdv hev ⊢
            repeat' ((conv => whnf); first | (refine br_dec (fun h => ?_) (fun h => ?_) <;> try (exfalso; (try dsimp only at h); omega)) | (refine br_ndec (fun h => ?_) (fun h => ?_) <;> try (exfalso; (try dsimp only at h); omega)) | refine br_seq (fun h => ?_) (fun h => ?_) | refine br_nseq (fun h => ?_) (fun h => ?_) | refine br_not (fun h => ?_) (fun h => ?_) | refine br_intro (fun h => ?_) (fun h => ?_) | refine cond_intro rfl ?_ | (refine cond_intro ⟨rfl, ?_⟩ ?_; (first | omega | (dsimp only; omega) | decide)) | (refine cond_intro ?_ ?_; (first | omega | (dsimp only; omega) | decide | (simp only [Nat.add_zero, Int.toNat_natCast, *]; omega))))
            all_goals (conv => whnf)
            all_goals (try simp only [toNatO] at *)
            all_goals first
              | (exfalso; omega)
              | exact ⟨k + 1, [0, 1], [], hk2, (show n - (k + 1) < n - k by omega), ⟨rfl, ⟨rfl, rfl, rfl, congrArg (fun z => some (SV.int .i64 z)) (i64_succ (by omega)), congrArg (fun z => some (SV.int .i64 z)) hdv.symm, congrArg (fun z => some (SV.int .i64 z)) hev.symm, trivial⟩, ⟨rfl, trivial⟩⟩⟩
              | trace_state
          · have hev : oI (eK pc.a o (k + 1)) = (e : Int) := by rw [he1, if_neg ce]; rfl
            unfold oI at hdv hev ⊢
            repeat' ((conv => whnf); first | (refine br_dec (fun h => ?_) (fun h => ?_) <;> try (exfalso; (try dsimp only at h); omega)) | (refine br_ndec (fun h => ?_) (fun h => ?_) <;> try (exfalso; (try dsimp only at h); omega)) | refine br_seq (fun h => ?_) (fun h => ?_) | refine br_nseq (fun h => ?_) (fun h => ?_) | refine br_not (fun h => ?_) (fun h => ?_) | refine br_intro (fun h => ?_) (fun h => ?_) | refine cond_intro rfl ?_ | (refine cond_intro ⟨rfl, ?_⟩ ?_; (first | omega | (dsimp only; omega) | decide)) | (refine cond_intro ?_ ?_; (first | omega | (dsimp only; omega) | decide | (simp only [Nat.add_zero, Int.toNat_natCast, *]; omega))))
            all_goals (conv => whnf)
            all_goals (try simp only [toNatO] at *)
            all_goals first
              | (exfalso; omega)
              | exact ⟨k + 1, [0, 1], [], hk2, (show n - (k + 1) < n - k by omega), ⟨rfl, ⟨rfl, rfl, rfl, congrArg (fun z => some (SV.int .i64 z)) (i64_succ (by omega)), congrArg (fun z => some (SV.int .i64 z)) hdv.symm, congrArg (fun z => some (SV.int .i64 z)) hev.symm, trivial⟩, ⟨rfl, trivial⟩⟩⟩
              | trace_state
    | some d =>
      rw [hD] at hd1
      have hdl := hd d hD
      dsimp only at hd1
      cases hE : eK pc.a o k with
      | none =>
        rw [hE] at he1
        dsimp only at he1
        by_cases cd : pc.a.getD (k + o) 0 < 0 ∧ pc.a.getD (k + o) 0 < pc.a.getD (d + o) 0
        · have hdv : oI (dK pc.a o (k + 1)) = (k : Int) := by rw [hd1, if_pos cd]; rfl
          by_cases ce : 0 < pc.a.getD (k + o) 0
          · have hev : oI (eK pc.a o (k + 1)) = (k : Int) := by rw [he1, if_pos ce]; rfl
            exfalso; omega
          · have hev : oI (eK pc.a o (k + 1)) = -1 := by rw [he1, if_neg ce]; rfl
            unfold oI at hdv hev ⊢
            repeat' ((conv => whnf); first | (refine br_dec (fun h => ?_) (fun h => ?_) <;> try (exfalso; (try dsimp only at h); omega)) | (refine br_ndec (fun h => ?_) (fun h => ?_) <;> try (exfalso; (try dsimp only at h); omega)) | refine br_seq (fun h => ?_) (fun h => ?_) | refine br_nseq (fun h => ?_) (fun h => ?_) | refine br_not (fun h => ?_) (fun h => ?_) | refine br_intro (fun h => ?_) (fun h => ?_) | refine cond_intro rfl ?_ | (refine cond_intro ⟨rfl, ?_⟩ ?_; (first | omega | (dsimp only; omega) | decide)) | (refine cond_intro ?_ ?_; (first | omega | (dsimp only; omega) | decide | (simp only [Nat.add_zero, Int.toNat_natCast, *]; omega))))
            all_goals (conv => whnf)
            all_goals (try simp only [toNatO] at *)
            all_goals first
              | (exfalso; omega)
              | exact ⟨k + 1, [0, 1], [], hk2, (show n - (k + 1) < n - k by omega), ⟨rfl, ⟨rfl, rfl, rfl, congrArg (fun z => some (SV.int .i64 z)) (i64_succ (by omega)), congrArg (fun z => some (SV.int .i64 z)) hdv.symm, congrArg (fun z => some (SV.int .i64 z)) hev.symm, trivial⟩, ⟨rfl, trivial⟩⟩⟩
              | trace_state
        · have hdv : oI (dK pc.a o (k + 1)) = (d : Int) := by rw [hd1, if_neg cd]; rfl
          by_cases ce : 0 < pc.a.getD (k + o) 0
          · have hev : oI (eK pc.a o (k + 1)) = (k : Int) := by rw [he1, if_pos ce]; rfl
            unfold oI at hdv hev ⊢
            repeat' ((conv => whnf); first | (refine br_dec (fun h => ?_) (fun h => ?_) <;> try (exfalso; (try dsimp only at h); omega)) | (refine br_ndec (fun h => ?_) (fun h => ?_) <;> try (exfalso; (try dsimp only at h); omega)) | refine br_seq (fun h => ?_) (fun h => ?_) | refine br_nseq (fun h => ?_) (fun h => ?_) | refine br_not (fun h => ?_) (fun h => ?_) | refine br_intro (fun h => ?_) (fun h => ?_) | refine cond_intro rfl ?_ | (refine cond_intro ⟨rfl, ?_⟩ ?_; (first | omega | (dsimp only; omega) | decide)) | (refine cond_intro ?_ ?_; (first | omega | (dsimp only; omega) | decide | (simp only [Nat.add_zero, Int.toNat_natCast, *]; omega))))
            all_goals (conv => whnf)
            all_goals (try simp only [toNatO] at *)
            all_goals first
              | (exfalso; omega)
              | exact ⟨k + 1, [0, 1], [], hk2, (show n - (k + 1) < n - k by omega), ⟨rfl, ⟨rfl, rfl, rfl, congrArg (fun z => some (SV.int .i64 z)) (i64_succ (by omega)), congrArg (fun z => some (SV.int .i64 z)) hdv.symm, congrArg (fun z => some (SV.int .i64 z)) hev.symm, trivial⟩, ⟨rfl, trivial⟩⟩⟩
              | trace_state
          · have hev : oI (eK pc.a o (k + 1)) = -1 := by rw [he1, if_neg ce]; rfl
            unfold oI at hdv hev ⊢
            repeat' ((conv => whnf); first | (refine br_dec (fun h => ?_) (fun h => ?_) <;> try (exfalso; (try dsimp only at h); omega)) | (refine br_ndec (fun h => ?_) (fun h => ?_) <;> try (exfalso; (try dsimp only at h); omega)) | refine br_seq (fun h => ?_) (fun h => ?_) | refine br_nseq (fun h => ?_) (fun h => ?_) | refine br_not (fun h => ?_) (fun h => ?_) | refine br_intro (fun h => ?_) (fun h => ?_) | refine cond_intro rfl ?_ | (refine cond_intro ⟨rfl, ?_⟩ ?_; (first | omega | (dsimp only; omega) | decide)) | (refine cond_intro ?_ ?_; (first | omega | (dsimp only; omega) | decide | (simp only [Nat.add_zero, Int.toNat_natCast, *]; omega))))
            all_goals (conv => whnf)
            all_goals (try simp only [toNatO] at *)
            all_goals first
              | (exfalso; omega)
              | exact ⟨k + 1, [0, 1], [], hk2, (show n - (k + 1) < n - k by omega), ⟨rfl, ⟨rfl, rfl, rfl, congrArg (fun z => some (SV.int .i64 z)) (i64_succ (by omega)), congrArg (fun z => some (SV.int .i64 z)) hdv.symm, congrArg (fun z => some (SV.int .i64 z)) hev.symm, trivial⟩, ⟨rfl, trivial⟩⟩⟩
              | trace_state
      | some e =>
        rw [hE] at he1
        have hel := he e hE
        dsimp only at he1
        by_cases cd : pc.a.getD (k + o) 0 < 0 ∧ pc.a.getD (k + o) 0 < pc.a.getD (d + o) 0
        · have hdv : oI (dK pc.a o (k + 1)) = (k : Int) := by rw [hd1, if_pos cd]; rfl
          by_cases ce : 0 < pc.a.getD (k + o) 0 ∧ pc.a.getD (e + o) 0 < pc.a.getD (k + o) 0
          · have hev : oI (eK pc.a o (k + 1)) = (k : Int) := by rw [he1, if_pos ce]; rfl
            exfalso; omega
          · have hev : oI (eK pc.a o (k + 1)) = (e : Int) := by rw [he1, if_neg ce]; rfl
            unfold oI at hdv hev ⊢
            repeat' ((conv => whnf); first | (refine br_dec (fun h => ?_) (fun h => ?_) <;> try (exfalso; (try dsimp only at h); omega)) | (refine br_ndec (fun h => ?_) (fun h => ?_) <;> try (exfalso; (try dsimp only at h); omega)) | refine br_seq (fun h => ?_) (fun h => ?_) | refine br_nseq (fun h => ?_) (fun h => ?_) | refine br_not (fun h => ?_) (fun h => ?_) | refine br_intro (fun h => ?_) (fun h => ?_) | refine cond_intro rfl ?_ | (refine cond_intro ⟨rfl, ?_⟩ ?_; (first | omega | (dsimp only; omega) | decide)) | (refine cond_intro ?_ ?_; (first | omega | (dsimp only; omega) | decide | (simp only [Nat.add_zero, Int.toNat_natCast, *]; omega))))
            all_goals (conv => whnf)
            all_goals (try simp only [toNatO] at *)
            all_goals first
              | (exfalso; omega)
              | exact ⟨k + 1, [0, 1], [], hk2, (show n - (k + 1) < n - k by omega), ⟨rfl, ⟨rfl, rfl, rfl, congrArg (fun z => some (SV.int .i64 z)) (i64_succ (by omega)), congrArg (fun z => some (SV.int .i64 z)) hdv.symm, congrArg (fun z => some (SV.int .i64 z)) hev.symm, trivial⟩, ⟨rfl, trivial⟩⟩⟩
              | trace_state
        · have hdv : oI (dK pc.a o (k + 1)) = (d : Int) := by rw [hd1, if_neg cd]; rfl
          by_cases ce : 0 < pc.a.getD (k + o) 0 ∧ pc.a.getD (e + o) 0 < pc.a.getD (k + o) 0
          · have hev : oI (eK pc.a o (k + 1)) = (k : Int) := by rw [he1, if_pos ce]; rfl
            unfold oI at hdv hev ⊢
            repeat' ((conv => whnf); first | (refine br_dec (fun h => ?_) (fun h => ?_) <;> try (exfalso; (try dsimp only at h); omega)) | (refine br_ndec (fun h => ?_) (fun h => ?_) <;> try (exfalso; (try dsimp only at h); omega)) | refine br_seq (fun h => ?_) (fun h => ?_) | refine br_nseq (fun h => ?_) (fun h => ?_) | refine br_not (fun h => ?_) (fun h => ?_) | refine br_intro (fun h => ?_) (fun h => ?_) | refine cond_intro rfl ?_ | (refine cond_intro ⟨rfl, ?_⟩ ?_; (first | omega | (dsimp only; omega) | decide)) | (refine cond_intro ?_ ?_; (first | omega | (dsimp only; omega) | decide | (simp only [Nat.add_zero, Int.toNat_natCast, *]; omega))))
            all_goals (conv => whnf)
            all_goals (try simp only [toNatO] at *)
            all_goals first
              | (exfalso; omega)
              | exact ⟨k + 1, [0, 1], [], hk2, (show n - (k + 1) < n - k by omega), ⟨rfl, ⟨rfl, rfl, rfl, congrArg (fun z => some (SV.int .i64 z)) (i64_succ (by omega)), congrArg (fun z => some (SV.int .i64 z)) hdv.symm, congrArg (fun z => some (SV.int .i64 z)) hev.symm, trivial⟩, ⟨rfl, trivial⟩⟩⟩
              | trace_state
          · have hev : oI (eK pc.a o (k + 1)) = (e : Int) := by rw [he1, if_neg ce]; rfl
            unfold oI at hdv hev ⊢
            repeat' ((conv => whnf); first | (refine br_dec (fun h => ?_) (fun h => ?_) <;> try (exfalso; (try dsimp only at h); omega)) | (refine br_ndec (fun h => ?_) (fun h => ?_) <;> try (exfalso; (try dsimp only at h); omega)) | refine br_seq (fun h => ?_) (fun h => ?_) | refine br_nseq (fun h => ?_) (fun h => ?_) | refine br_not (fun h => ?_) (fun h => ?_) | refine br_intro (fun h => ?_) (fun h => ?_) | refine cond_intro rfl ?_ | (refine cond_intro ⟨rfl, ?_⟩ ?_; (first | omega | (dsimp only; omega) | decide)) | (refine cond_intro ?_ ?_; (first | omega | (dsimp only; omega) | decide | (simp only [Nat.add_zero, Int.toNat_natCast, *]; omega))))
            all_goals (conv => whnf)
            all_goals (try simp only [toNatO] at *)
            all_goals first
              | (exfalso; omega)
              | exact ⟨k + 1, [0, 1], [], hk2, (show n - (k + 1) < n - k by omega), ⟨rfl, ⟨rfl, rfl, rfl, congrArg (fun z => some (SV.int .i64 z)) (i64_succ (by omega)), congrArg (fun z => some (SV.int .i64 z)) hdv.symm, congrArg (fun z => some (SV.int .i64 z)) hev.symm, trivial⟩, ⟨rfl, trivial⟩⟩⟩
              | trace_state
  · have e : k = n := by omega
    subst e
    repeat' ((conv => whnf); first | (refine br_dec (fun h => ?_) (fun h => ?_) <;> try (exfalso; (try dsimp only at h); omega)) | (refine br_ndec (fun h => ?_) (fun h => ?_) <;> try (exfalso; (try dsimp only at h); omega)) | refine br_seq (fun h => ?_) (fun h => ?_) | refine br_nseq (fun h => ?_) (fun h => ?_) | refine br_not (fun h => ?_) (fun h => ?_) | refine br_intro (fun h => ?_) (fun h => ?_) | refine cond_intro rfl ?_ | (refine cond_intro ⟨rfl, ?_⟩ ?_; (first | omega | (dsimp only; omega) | decide)) | (refine cond_intro ?_ ?_; (first | omega | (dsimp only; omega) | decide | (simp only [Nat.add_zero, Int.toNat_natCast, *]; omega))))
    all_goals (conv => whnf)
    all_goals first
      | exact ret_out (l := [0, 1]) rfl rfl trivial allRw_nil
      | (exfalso; omega)
      | trace_state
end Go.Proofs.Ytmibjgblhaohiaa

/- Contracts: the reference's next transfer. -/
namespace Go.Proofs.Ytmibjgblhaohiaa
open Go.RowKit Go.Sy
attribute [local irreducible] vcall vloop vcallD retP
set_option maxRecDepth 100000
set_option linter.unusedVariables false
set_option linter.unusedSimpArgs false

/-- The first of the first k amounts that is least, and that is greatest. -/
def fK (V : List Int) : Nat → Nat
  | 0 => 0
  | k + 1 => if V.getD k 0 < V.getD (fK V k) 0 then k else fK V k
def tK (V : List Int) : Nat → Nat
  | 0 => 0
  | k + 1 => if V.getD (tK V k) 0 < V.getD k 0 then k else tK V k
theorem fK_le (V : List Int) : ∀ k, fK V k ≤ k
  | 0 => Nat.le_refl _
  | k + 1 => by have := fK_le V k; simp only [fK]; split <;> omega
theorem tK_le (V : List Int) : ∀ k, tK V k ≤ k
  | 0 => Nat.le_refl _
  | k + 1 => by have := tK_le V k; simp only [tK]; split <;> omega
theorem fK_lt (V : List Int) {n : Nat} (h : 0 < n) : fK V n < n := by
  induction n with
  | zero => omega
  | succ n ih =>
    simp only [fK]
    by_cases e : n = 0
    · subst e; split <;> simp [fK]
    · have := ih (by omega); split <;> omega
theorem tK_lt (V : List Int) {n : Nat} (h : 0 < n) : tK V n < n := by
  induction n with
  | zero => omega
  | succ n ih =>
    simp only [tK]
    by_cases e : n = 0
    · subst e; split <;> simp [tK]
    · have := ih (by omega); split <;> omega
theorem r41_first (L : List Ps) (n g : Nat) (hn : L.length = n) (hl : n ≤ 100000) (h0 : 0 < g) (hg : g ≤ n) (hs : ∀ j, j < g → (pcOf L).c.getD j ⟨#[]⟩ = (pcOf L).c.getD 0 ⟨#[]⟩) (he : g < n → ¬ (pcOf L).c.getD g ⟨#[]⟩ = (pcOf L).c.getD 0 ⟨#[]⟩) (hb : ∀ k, inT ((pcOf L).a.getD k 0)) :
    FC Try.prog 2 40 [.sl 1 0 0 n] [(1, some (.one true (psB n (pcOf L))))] (isOut (.agg [.str ((pcOf L).p.getD (fK (pcOf L).a g) ⟨#[]⟩), .str ((pcOf L).p.getD (tK (pcOf L).a g) ⟨#[]⟩), .int .i64 (min (- (pcOf L).a.getD (fK (pcOf L).a g) 0) ((pcOf L).a.getD (tK (pcOf L).a g) 0)), .str ((pcOf L).c.getD 0 ⟨#[]⟩)]) [] 2) := by
  generalize pcOf L = pc at *
  refine fc_of mixed T_ok Try.func40 rfl (by kernel_rfl) (by kernel_rfl) (by kernel_rfl) ?_
  repeat' ((conv => whnf); first | (refine br_dec (fun h => ?_) (fun h => ?_) <;> try (exfalso; (try dsimp only at h); omega)) | (refine br_ndec (fun h => ?_) (fun h => ?_) <;> try (exfalso; (try dsimp only at h); omega)) | refine br_seq (fun h => ?_) (fun h => ?_) | refine br_nseq (fun h => ?_) (fun h => ?_) | refine br_not (fun h => ?_) (fun h => ?_) | refine br_intro (fun h => ?_) (fun h => ?_) | refine cond_intro rfl ?_ | (refine cond_intro ⟨rfl, ?_⟩ ?_; (first | omega | (dsimp only; omega) | decide)) | (refine cond_intro ?_ ?_; (first | omega | (dsimp only; omega) | decide | (simp only [Nat.add_zero, Int.toNat_natCast, *]; omega))))
  all_goals (conv => whnf)
  refine vloop_lp (fun i : Nat => ⟨[(0, .sl 1 0 0 n), (2, .ptr 2 0 0 0), (3, .int .i64 (fK pc.a i : Nat)), (4, .int .i64 (tK pc.a i : Nat)), (5, .int .i64 i)], [(1, some (.one true (psB n pc))), (2, some (.one false (.cells [.str ⟨#[]⟩, .str ⟨#[]⟩, .int .i64 0, .str ⟨#[]⟩])))], 3⟩) (fun i => i ≤ g) (fun i => g - i) 0 [0, 1, 2] [] ⟨rfl, ⟨rfl, rfl, rfl, rfl, rfl, trivial⟩, ⟨rfl, rfl, trivial⟩⟩ (Nat.zero_le _) ?_
  intro i hi
  have hf := fK_le pc.a i
  have ht := tK_le pc.a i
  by_cases hi2 : i < g
  · have hc := hs i hi2
    have hf1 : fK pc.a (i + 1) = if pc.a.getD i 0 < pc.a.getD (fK pc.a i) 0 then i else fK pc.a i := rfl
    have ht1 : tK pc.a (i + 1) = if pc.a.getD (tK pc.a i) 0 < pc.a.getD i 0 then i else tK pc.a i := rfl
    generalize fK pc.a i = f at *
    generalize tK pc.a i = t at *
    by_cases c1 : pc.a.getD i 0 < pc.a.getD f 0
    all_goals by_cases c2 : pc.a.getD t 0 < pc.a.getD i 0
    all_goals (first | rw [if_pos c1] at hf1 | rw [if_neg c1] at hf1)
    all_goals (first | rw [if_pos c2] at ht1 | rw [if_neg c2] at ht1)
    all_goals repeat' ((conv => whnf); first | (refine br_dec (fun h => ?_) (fun h => ?_) <;> try (exfalso; (try dsimp only at h); omega)) | (refine br_ndec (fun h => ?_) (fun h => ?_) <;> try (exfalso; (try dsimp only at h); omega)) | refine br_seq (fun h => ?_) (fun h => ?_) | refine br_nseq (fun h => ?_) (fun h => ?_) | refine br_not (fun h => ?_) (fun h => ?_) | refine br_intro (fun h => ?_) (fun h => ?_) | refine cond_intro rfl ?_ | (refine cond_intro ⟨rfl, ?_⟩ ?_; (first | omega | (dsimp only; omega) | decide)) | (refine cond_intro ?_ ?_; (first | omega | (dsimp only; omega) | decide | (simp only [Nat.add_zero, Int.toNat_natCast, *]; omega))))
    all_goals (conv => whnf)
    all_goals (try simp only [toNat0] at *)
    all_goals first
      | (exfalso; first | omega | contradiction)
      | exact ⟨i + 1, [0, 1, 2], [], hi2, (show g - (i + 1) < g - i by omega), ⟨rfl, ⟨rfl, rfl, congrArg (fun z : Nat => some (SV.int .i64 (z : Int))) hf1.symm, congrArg (fun z : Nat => some (SV.int .i64 (z : Int))) ht1.symm, congrArg (fun z => some (SV.int .i64 z)) (i64_succ (by omega)), trivial⟩, ⟨rfl, rfl, trivial⟩⟩⟩
      | trace_state
  · have e : i = g := by omega
    subst e
    have hf2 := fK_lt pc.a h0
    have ht2 := tK_lt pc.a h0
    have hbf := hb (fK pc.a i)
    generalize fK pc.a i = f at *
    generalize tK pc.a i = t at *
    have hw : IntKind.i64.wrap (0 - pc.a.getD f 0) = - pc.a.getD f 0 := by rw [w64_in (by omega) (by omega)]; omega
    rw [← hw]
    repeat' ((conv => whnf); first | (refine br_dec (fun h => ?_) (fun h => ?_) <;> try (exfalso; (try dsimp only at h); omega)) | (refine br_ndec (fun h => ?_) (fun h => ?_) <;> try (exfalso; (try dsimp only at h); omega)) | refine br_seq (fun h => ?_) (fun h => ?_) | refine br_nseq (fun h => ?_) (fun h => ?_) | refine br_not (fun h => ?_) (fun h => ?_) | refine br_intro (fun h => ?_) (fun h => ?_) | refine cond_intro rfl ?_ | (refine cond_intro ⟨rfl, ?_⟩ ?_; (first | omega | (dsimp only; omega) | decide)) | (refine cond_intro ?_ ?_; (first | omega | (dsimp only; omega) | decide | (simp only [Nat.add_zero, Int.toNat_natCast, *]; omega))))
    all_goals (conv => whnf)
    all_goals (try simp only [toNat0] at *)
    all_goals first
      | (exfalso; first | omega | (refine he ?_ ?_ <;> first | omega | assumption))
      | exact ret_out (l := [0, 1]) rfl rfl trivial allRw_nil
      | trace_state
end Go.Proofs.Ytmibjgblhaohiaa

/- Contracts: positions are copied. -/
namespace Go.Proofs.Ytmibjgblhaohiaa
open Go.RowKit Go.Sy
attribute [local irreducible] vcall vloop vcallD retP
set_option maxRecDepth 100000
set_option linter.unusedVariables false
set_option linter.unusedSimpArgs false

theorem pos_Clone (L : List Ps) (n : Nat) (hn : L.length = n) (hl : n ≤ 100000) : FC Try.prog 2 36 [.sl 1 0 0 n] [(1, some (.one true (psB n (pcOf L))))] (isOut (.sl 2 0 0 n) [(2, some (.one false (psB n (pcOf L))))] 3) := by
  have h1 : (pcOf L).p.length = n := by simp [pcOf, hn]
  have h2 : (pcOf L).a.length = n := by simp [pcOf, hn]
  have h3 : (pcOf L).c.length = n := by simp [pcOf, hn]
  cases n with
  | zero =>
    obtain rfl := List.eq_nil_of_length_eq_zero hn
    refine fc_nil rfl ?_
    refine fc_of mixed T_ok Try.func36 rfl (by kernel_rfl) (by kernel_rfl) (by kernel_rfl) ?_
    repeat' ((conv => whnf); first | (refine br_dec (fun h => ?_) (fun h => ?_) <;> try (exfalso; (try dsimp only at h); omega)) | (refine br_ndec (fun h => ?_) (fun h => ?_) <;> try (exfalso; (try dsimp only at h); omega)) | refine br_seq (fun h => ?_) (fun h => ?_) | refine br_nseq (fun h => ?_) (fun h => ?_) | refine br_not (fun h => ?_) (fun h => ?_) | refine br_intro (fun h => ?_) (fun h => ?_) | refine cond_intro rfl ?_ | (refine cond_intro ⟨rfl, ?_⟩ ?_; (first | omega | (dsimp only; omega) | decide)) | (refine cond_intro ?_ ?_; (first | omega | (dsimp only; omega) | decide | (simp only [Nat.add_zero, Int.toNat_natCast, *]; omega))) | (refine And.intro ?_ ?_))
    all_goals (conv => whnf)
    all_goals first
      | exact retP_mono (fun _ _ _ h => .inl h) (ret_out (l := [0, 1]) rfl rfl trivial allRw_nil)
      | exact retP_mono (fun _ _ _ h => .inr h) (ret_out (l := [0, 1, 3]) rfl rfl ⟨rfl, trivial⟩ (allRw_cons allRw_nil))
      | decide
  | succ n =>
    unfold psB
    refine fc_of mixed T_ok Try.func36 rfl (by kernel_rfl) (by kernel_rfl) (by kernel_rfl) ?_
    repeat' ((conv => whnf); first | (refine br_dec (fun h => ?_) (fun h => ?_) <;> try (exfalso; (try dsimp only at h); omega)) | (refine br_ndec (fun h => ?_) (fun h => ?_) <;> try (exfalso; (try dsimp only at h); omega)) | refine br_seq (fun h => ?_) (fun h => ?_) | refine br_nseq (fun h => ?_) (fun h => ?_) | refine br_not (fun h => ?_) (fun h => ?_) | refine br_intro (fun h => ?_) (fun h => ?_) | refine cond_intro rfl ?_ | (refine cond_intro ⟨rfl, ?_⟩ ?_; (first | omega | (dsimp only; omega) | decide)) | (refine cond_intro ?_ ?_; (first | omega | (dsimp only; omega) | decide | (simp only [Nat.add_zero, Int.toNat_natCast, *]; omega))))
    all_goals (conv => whnf)
    all_goals (rw [Nat.zero_add (n + 1), seg_all h1, seg_all h2, seg_all h3]; exact ret_out (l := [0, 1, 3]) rfl rfl ⟨rfl, trivial⟩ (allRw_cons allRw_nil))
end Go.Proofs.Ytmibjgblhaohiaa

/- Plain facts: how a group of positions is settled. No program in sight. -/
namespace Go.Proofs.Ytmibjgblhaohiaa
open Go.RowKit Go.Sy
set_option linter.unusedVariables false
set_option linter.unusedSimpArgs false

/-- An amount of a row is changed. -/
def addA (A : List Ps) (i : Nat) (d : Int) : List Ps := A.set i { A.getD i ps0 with a := (A.getD i ps0).a + d }
/-- One transfer between two rows of a group behind o. -/
def sgA (A : List Ps) (o d e : Nat) : Int := min (-(A.getD (d + o) ps0).a) (A.getD (e + o) ps0).a
def sgN (A : List Ps) (o d e : Nat) : List Ps := addA (addA A (d + o) (sgA A o d e)) (e + o) (-(sgA A o d e))
def sgT (A : List Ps) (o d e : Nat) (c : ByteArray) : Tx := ⟨(A.getD (d + o) ps0).p, (A.getD (e + o) ps0).p, sgA A o d e, c⟩
/-- A group is settled, with so many transfers at most. -/
def stG (o n : Nat) (c : ByteArray) : Nat → List Ps → List Tx → List Ps × List Tx
  | 0, A, T => (A, T)
  | f + 1, A, T => match dK (pcOf A).a o n, eK (pcOf A).a o n with
    | some d, some e => stG o n c f (sgN A o d e) (T ++ [sgT A o d e c])
    | _, _ => (A, T)
/-- How many rows of a group are not zero. -/
def cnz (A : List Ps) (o : Nat) : Nat → Nat
  | 0 => 0
  | k + 1 => cnz A o k + if (A.getD (k + o) ps0).a = 0 then 0 else 1
theorem cnz_le (A : List Ps) (o : Nat) : ∀ n, cnz A o n ≤ n
  | 0 => Nat.le_refl _
  | n + 1 => by have := cnz_le A o n; simp only [cnz]; split <;> omega
theorem addA_len (A : List Ps) (i : Nat) (d : Int) : (addA A i d).length = A.length := by simp [addA]
theorem addA_get {A : List Ps} {i : Nat} (d : Int) (hi : i < A.length) (j : Nat) : (addA A i d).getD j ps0 = if j = i then { A.getD i ps0 with a := (A.getD i ps0).a + d } else A.getD j ps0 := by
  unfold addA
  rw [List.getD, List.getElem?_set]
  by_cases e : j = i
  · subst e; rw [if_pos rfl, if_pos hi, if_pos rfl]; rfl
  · rw [if_neg (fun h => e h.symm), if_neg e]; rfl
theorem dK_neg (V : List Int) (o : Nat) : ∀ k d, dK V o k = some d → V.getD (d + o) 0 < 0
  | 0, d, h => by cases h
  | k + 1, d, h => by
    simp only [dK] at h
    split at h
    · split at h
      · cases h; assumption
      · cases h
    · rename_i d' hd
      have := dK_neg V o k d' hd
      split at h
      · cases h; rename_i q; exact q.1
      · cases h; exact this
theorem eK_pos (V : List Int) (o : Nat) : ∀ k d, eK V o k = some d → 0 < V.getD (d + o) 0
  | 0, d, h => by cases h
  | k + 1, d, h => by
    simp only [eK] at h
    split at h
    · split at h
      · cases h; assumption
      · cases h
    · rename_i d' hd
      have := eK_pos V o k d' hd
      split at h
      · cases h; rename_i q; exact q.1
      · cases h; exact this
theorem sgN_get {A : List Ps} {o d e : Nat} (hd : d + o < A.length) (he : e + o < A.length) (hne : d ≠ e) (j : Nat) : (sgN A o d e).getD j ps0 = if j = d + o then { A.getD (d + o) ps0 with a := (A.getD (d + o) ps0).a + sgA A o d e } else if j = e + o then { A.getD (e + o) ps0 with a := (A.getD (e + o) ps0).a - sgA A o d e } else A.getD j ps0 := by
  unfold sgN
  rw [addA_get _ (by rw [addA_len]; exact he), addA_get _ hd, addA_get _ hd]
  by_cases h1 : j = e + o
  · rw [if_pos h1, if_neg (by omega), if_neg (by omega), if_pos h1]; rfl
  · rw [if_neg h1, if_neg h1]
theorem sgN_len (A : List Ps) (o d e : Nat) : (sgN A o d e).length = A.length := by unfold sgN; rw [addA_len, addA_len]
theorem cnz_mono {A B : List Ps} {o : Nat} : ∀ n, (∀ j, j < n → (A.getD (j + o) ps0).a = 0 → (B.getD (j + o) ps0).a = 0) → cnz B o n ≤ cnz A o n
  | 0, _ => Nat.le_refl _
  | n + 1, h => by
    have ih := cnz_mono n (fun j hj => h j (by omega))
    have := h n (by omega)
    simp only [cnz]
    split <;> split <;> first | omega | (exfalso; rename_i h1 h2; exact h1 (this h2))
theorem cnz_lt {A B : List Ps} {o i : Nat} : ∀ n, (∀ j, j < n → (A.getD (j + o) ps0).a = 0 → (B.getD (j + o) ps0).a = 0) → i < n → (A.getD (i + o) ps0).a ≠ 0 → (B.getD (i + o) ps0).a = 0 → cnz B o n < cnz A o n
  | 0, _, hi, _, _ => by omega
  | n + 1, h, hi, h1, h2 => by
    simp only [cnz]
    by_cases e : i = n
    · subst e
      have := cnz_mono i (fun j hj => h j (by omega))
      rw [if_neg h1, if_pos h2]; omega
    · have ih := cnz_lt n (fun j hj => h j (by omega)) (by omega) h1 h2
      have := h n (by omega)
      split <;> split <;> first | omega | (exfalso; rename_i q1 q2; exact q1 (this q2))
/-- What a step needs, and what it leaves. -/
theorem step_facts {A : List Ps} {o n d e : Nat} (hl : o + n ≤ A.length) (hd : dK (pcOf A).a o n = some d) (he : eK (pcOf A).a o n = some e) : d < n ∧ e < n ∧ d ≠ e ∧ (A.getD (d + o) ps0).a < 0 ∧ 0 < (A.getD (e + o) ps0).a ∧ 0 < sgA A o d e ∧ cnz (sgN A o d e) o n < cnz A o n := by
  have d1 := dK_lt _ _ _ _ hd
  have e1 := eK_lt _ _ _ _ he
  have d2 := dK_neg _ _ _ _ hd
  have e2 := eK_pos _ _ _ _ he
  rw [(atP A (d + o)).2.1] at d2
  rw [(atP A (e + o)).2.1] at e2
  have hne : d ≠ e := by intro q; subst q; omega
  have hm : 0 < sgA A o d e := by unfold sgA; omega
  refine ⟨d1, e1, hne, d2, e2, hm, ?_⟩
  have hg := sgN_get (A := A) (o := o) (d := d) (e := e) (by omega) (by omega) hne
  have hz : ∀ j, j < n → (A.getD (j + o) ps0).a = 0 → ((sgN A o d e).getD (j + o) ps0).a = 0 := by
    intro j hj hj0
    rw [hg, if_neg (fun q => by rw [q] at hj0; omega), if_neg (fun q => by rw [q] at hj0; omega)]
    exact hj0
  by_cases hc : -(A.getD (d + o) ps0).a ≤ (A.getD (e + o) ps0).a
  · refine cnz_lt (i := d) n hz d1 (by omega) ?_
    rw [hg, if_pos rfl]
    show (A.getD (d + o) ps0).a + sgA A o d e = 0
    unfold sgA; omega
  · refine cnz_lt (i := e) n hz e1 (by omega) ?_
    rw [hg, if_neg (by omega), if_pos rfl]
    show (A.getD (e + o) ps0).a - sgA A o d e = 0
    unfold sgA; omega
theorem stG_step {A : List Ps} {o n : Nat} {c : ByteArray} {f d e : Nat} {T : List Tx} (hd : dK (pcOf A).a o n = some d) (he : eK (pcOf A).a o n = some e) : stG o n c (f + 1) A T = stG o n c f (sgN A o d e) (T ++ [sgT A o d e c]) := by
  simp only [stG, hd, he]
theorem stG_end {A : List Ps} {o n : Nat} {c : ByteArray} {T : List Tx} (h : dK (pcOf A).a o n = none ∨ eK (pcOf A).a o n = none) : ∀ f, stG o n c f A T = (A, T)
  | 0 => rfl
  | f + 1 => by
    rcases h with h | h
    · simp only [stG, h]
    · simp only [stG, h]
      cases dK (pcOf A).a o n <;> rfl
/-- How many rows from o on have the currency of row o. -/
def grN (C : List ByteArray) (o : Nat) : Nat := ((C.drop o).takeWhile (fun c => seq c (C.getD o ⟨#[]⟩))).length
theorem grN_le (C : List ByteArray) (o : Nat) : grN C o ≤ C.length - o := by
  unfold grN
  rw [← List.length_drop]
  exact List.IsPrefix.length_le (List.takeWhile_prefix _)
theorem tw_get {p : ByteArray → Bool} : ∀ (l : List ByteArray) (j : Nat), j < (l.takeWhile p).length → p (l.getD j ⟨#[]⟩) = true
  | [], j, h => by simp at h
  | x :: l, j, h => by
    by_cases hx : p x = true
    · rw [List.takeWhile_cons, if_pos hx] at h
      cases j with
      | zero => exact hx
      | succ j => rw [List.getD_cons_succ]; exact tw_get l j (by simpa using h)
    · rw [List.takeWhile_cons, if_neg hx] at h; simp at h
theorem tw_end {p : ByteArray → Bool} : ∀ (l : List ByteArray), (l.takeWhile p).length < l.length → p (l.getD (l.takeWhile p).length ⟨#[]⟩) = false
  | [], h => by simp at h
  | x :: l, h => by
    by_cases hx : p x = true
    · rw [List.takeWhile_cons, if_pos hx] at h ⊢
      rw [List.length_cons, List.getD_cons_succ]
      exact tw_end l (by simpa using h)
    · rw [List.takeWhile_cons, if_neg hx] at h ⊢
      simpa using hx
theorem grN_in {C : List ByteArray} {o j : Nat} (h : j < grN C o) : C.getD (j + o) ⟨#[]⟩ = C.getD o ⟨#[]⟩ := by
  have := tw_get _ j h
  rw [seq_true] at this
  rw [← this, List.getD, List.getD, List.getElem?_drop, Nat.add_comm]
theorem grN_end {C : List ByteArray} {o : Nat} (h : grN C o + o < C.length) : ¬ C.getD (grN C o + o) ⟨#[]⟩ = C.getD o ⟨#[]⟩ := by
  intro e
  have h2 : grN C o < (C.drop o).length := by rw [List.length_drop]; omega
  have := tw_end (p := fun c => seq c (C.getD o ⟨#[]⟩)) (C.drop o) h2
  rw [show ((C.drop o).takeWhile (fun c => seq c (C.getD o ⟨#[]⟩))).length = grN C o from rfl] at this
  rw [List.getD, List.getElem?_drop, Nat.add_comm o, ← List.getD, e] at this
  rw [seq_true.2 rfl] at this; cases this
/-- All groups from o on are settled. -/
def stR : Nat → Nat → List Ps → List Tx → List Tx
  | 0, _, _, T => T
  | f + 1, o, A, T => if A.length ≤ o then T else
      stR f (grN (pcOf A).c o + o) (stG o (grN (pcOf A).c o) ((pcOf A).c.getD o ⟨#[]⟩) (grN (pcOf A).c o) A T).1 (stG o (grN (pcOf A).c o) ((pcOf A).c.getD o ⟨#[]⟩) (grN (pcOf A).c o) A T).2
/-- The transfers that settle positions. -/
def seT (L : List Ps) : List Tx := if ckP L ≠ 0 then [] else stR L.length 0 (srt L) []
/-- The columns after a step. -/
theorem sgN_cols {A : List Ps} {o d e : Nat} (hd : d + o < A.length) (he : e + o < A.length) (hne : d ≠ e) : (pcOf (sgN A o d e)).p = (pcOf A).p ∧ (pcOf (sgN A o d e)).c = (pcOf A).c ∧ (pcOf (sgN A o d e)).a = ((pcOf A).a.set (d + o) ((pcOf A).a.getD (d + o) 0 + sgA A o d e)).set (e + o) ((pcOf A).a.getD (e + o) 0 - sgA A o d e) := by
  have hg := sgN_get hd he hne
  have hl := sgN_len A o d e
  have key : ∀ {α : Type} (f : Ps → α), (∀ j, f ((sgN A o d e).getD j ps0) = f (A.getD j ps0)) → (sgN A o d e).map f = A.map f := by
    intro α f h
    refine List.ext_getElem? fun j => ?_
    rw [List.getElem?_map, List.getElem?_map]
    by_cases hj : j < A.length
    · have := h j
      rw [List.getD, List.getD, List.getElem?_eq_getElem (by omega), List.getElem?_eq_getElem hj] at this
      rw [List.getElem?_eq_getElem (by omega), List.getElem?_eq_getElem hj]
      exact congrArg some this
    · rw [List.getElem?_eq_none (by omega), List.getElem?_eq_none (by omega)]
  refine ⟨key Ps.p fun j => ?_, key Ps.c fun j => ?_, ?_⟩
  · rw [hg]; split
    · rename_i q; rw [q]
    · split
      · rename_i q; rw [q]
      · rfl
  · rw [hg]; split
    · rename_i q; rw [q]
    · split
      · rename_i q; rw [q]
      · rfl
  · rw [(atP A (d + o)).2.1, (atP A (e + o)).2.1]
    refine List.ext_getElem? fun j => ?_
    rw [List.getElem?_set, List.getElem?_set]
    show ((sgN A o d e).map Ps.a)[j]? = _
    rw [List.getElem?_map]
    by_cases hj : j < A.length
    · have h2 := hg j
      rw [List.getD, List.getElem?_eq_getElem (by omega), Option.getD_some] at h2
      rw [List.getElem?_eq_getElem (by omega), Option.map_some, h2]
      by_cases h1 : j = d + o
      · rw [if_pos h1, if_neg (by omega), if_pos h1.symm, if_pos (by simp [pcOf]; omega)]
      · rw [if_neg h1]
        by_cases h3 : j = e + o
        · rw [if_pos h3, if_pos h3.symm, if_pos (by simp [pcOf]; omega)]
        · rw [if_neg h3, if_neg (fun q => h3 q.symm), if_neg (fun q => h1 q.symm)]
          show _ = (A.map Ps.a)[j]?
          rw [List.getElem?_map, List.getD, List.getElem?_eq_getElem hj]; rfl
    · rw [List.getElem?_eq_none (by omega), if_neg (by omega), if_neg (by omega)]
      show _ = (A.map Ps.a)[j]?
      rw [List.getElem?_map, List.getElem?_eq_none (by omega)]
theorem st_next {f o N g : Nat} {A A2 : List Ps} {T T2 R : List Tx} (hres : stR f o A T = R) (hf : N ≤ f + o) (ho : o < N) (hl : A.length = N) (hg : grN (pcOf A).c (0 + o) = g) (h : stG (0 + o) g ((pcOf A).c.getD (0 + o) ⟨#[]⟩) g A T = (A2, T2)) : ∃ f0, f = f0 + 1 ∧ stR f0 (g + o) A2 T2 = R := by
  rw [Nat.zero_add] at hg h
  cases f with
  | zero => omega
  | succ f =>
    refine ⟨f, rfl, ?_⟩
    rw [← hres]
    simp only [stR]
    rw [if_neg (by omega), hg, h]
end Go.Proofs.Ytmibjgblhaohiaa

/- Contracts: positions are settled. -/
namespace Go.Proofs.Ytmibjgblhaohiaa
open Go.RowKit Go.Sy
attribute [local irreducible] vcall vloop vcallD retP
set_option maxRecDepth 100000
set_option linter.unusedVariables false
set_option linter.unusedSimpArgs false

abbrev seOut (L : List Ps) : SV → Heap → Nat → Prop :=
  if ckP L ≠ 0 then isOut (.tup [.nsl, .int .i64 (ckP L)]) [] 2 else isOut (.tup [.sl 2 0 0 (seT L).length, .int .i64 0]) [(2, some (.one false (txB (seT L).length (tcOf (seT L)))))] 3
/-- What the loop over the groups holds. -/
structure StI (L : List Ps) (N : Nat) (f o m : Nat) (A : List Ps) (T : List Tx) : Prop where
  lo : o ≤ N
  fu : N ≤ f + o
  len : A.length = N
  tm : T.length = m
  res : stR f o A T = seT L
  bd : ∀ k, inT (A.getD k ps0).a
  tl : m ≤ o
/-- What the loop over one group holds. -/
structure GrI (A : List Ps) (T : List Tx) (N o k m f m' : Nat) (A' : List Ps) (T' : List Tx) : Prop where
  res : stG o k ((pcOf A).c.getD o ⟨#[]⟩) f A' T' = stG o k ((pcOf A).c.getD o ⟨#[]⟩) k A T
  fu : cnz A' o k ≤ f
  len : A'.length = N
  tm : T'.length = m'
  bd : ∀ j, inT (A'.getD j ps0).a
  col : (pcOf A').c = (pcOf A).c
  tl : m' + cnz A' o k ≤ m + k
theorem sgA_col {A : List Ps} {o d e : Nat} (s4 : (A.getD (d + o) ps0).a < 0) (b1 : inT (A.getD (d + o) ps0).a) : min (IntKind.i64.wrap (0 - (pcOf A).a.getD (d + o) 0)) ((pcOf A).a.getD (e + o) 0) = sgA A o d e := by
  unfold sgA
  rw [(atP A (d + o)).2.1, (atP A (e + o)).2.1, Int.zero_sub, w64_in (by omega) (by omega)]
theorem sgN_bd {A : List Ps} {o d e : Nat} (hd : d + o < A.length) (he : e + o < A.length) (hne : d ≠ e) (s4 : (A.getD (d + o) ps0).a < 0) (s5 : 0 < (A.getD (e + o) ps0).a) (h : ∀ j, inT (A.getD j ps0).a) : ∀ j, inT ((sgN A o d e).getD j ps0).a := by
  intro j
  have b1 := h (d + o)
  have b2 := h (e + o)
  have hs : sgA A o d e = min (-(A.getD (d + o) ps0).a) (A.getD (e + o) ps0).a := rfl
  rw [sgN_get hd he hne]
  split
  · exact ⟨by dsimp only; omega, by dsimp only; omega⟩
  · split
    · exact ⟨by dsimp only; omega, by dsimp only; omega⟩
    · exact h j
theorem rowSt {A : List Ps} {o d e : Nat} (N : Nat) (q1 : (pcOf (sgN A o d e)).p = (pcOf A).p) (q2 : (pcOf (sgN A o d e)).c = (pcOf A).c) (q3 : (pcOf (sgN A o d e)).a = ((pcOf A).a.set (d + o) ((pcOf A).a.getD (d + o) 0 + sgA A o d e)).set (e + o) ((pcOf A).a.getD (e + o) 0 - sgA A o d e)) (hne : d ≠ e) (s4 : (A.getD (d + o) ps0).a < 0) (s5 : 0 < (A.getD (e + o) ps0).a) (b1 : inT (A.getD (d + o) ps0).a) (b2 : inT (A.getD (e + o) ps0).a) :
    (some (HB.one false (.cols N [.sc (.strs (pcOf A).p), .sc (.ints .i64 (((pcOf A).a.set (d + o) (IntKind.i64.wrap ((pcOf A).a.getD (d + o) 0 + min (IntKind.i64.wrap (0 - (pcOf A).a.getD (d + o) 0)) ((pcOf A).a.getD (e + o) 0)))).set (e + o) (IntKind.i64.wrap (((pcOf A).a.set (d + o) (IntKind.i64.wrap ((pcOf A).a.getD (d + o) 0 + min (IntKind.i64.wrap (0 - (pcOf A).a.getD (d + o) 0)) ((pcOf A).a.getD (e + o) 0)))).getD (e + o) 0 - min (IntKind.i64.wrap (0 - (pcOf A).a.getD (d + o) 0)) ((pcOf A).a.getD (e + o) 0))))), .sc (.strs (pcOf A).c)])) : Option HB) = some (.one false (psB N (pcOf (sgN A o d e)))) := by
  have hs : sgA A o d e = min (-(A.getD (d + o) ps0).a) (A.getD (e + o) ps0).a := rfl
  rw [sgA_col s4 b1]
  unfold psB
  rw [q1, q2, q3]
  have v1 := (atP A (d + o)).2.1
  have v2 := (atP A (e + o)).2.1
  rw [w64_in (n := (pcOf A).a.getD (d + o) 0 + sgA A o d e) (by omega) (by omega)]
  have g : ((pcOf A).a.set (d + o) ((pcOf A).a.getD (d + o) 0 + sgA A o d e)).getD (e + o) 0 = (pcOf A).a.getD (e + o) 0 := by
    rw [List.getD, List.getElem?_set, if_neg (by omega)]; rfl
  rw [g, w64_in (n := (pcOf A).a.getD (e + o) 0 - sgA A o d e) (by omega) (by omega)]
theorem rowTx {A : List Ps} {T : List Tx} {m o d e : Nat} {c : ByteArray} (s4 : (A.getD (d + o) ps0).a < 0) (b1 : inT (A.getD (d + o) ps0).a) :
    (some (HB.one false (.cols (m + 1) [.sc (.strs ((tcOf T).f ++ [(pcOf A).p.getD (d + o) ⟨#[]⟩])), .sc (.strs ((tcOf T).t ++ [(pcOf A).p.getD (e + o) ⟨#[]⟩])), .sc (.ints .i64 ((tcOf T).a ++ [min (IntKind.i64.wrap (0 - (pcOf A).a.getD (d + o) 0)) ((pcOf A).a.getD (e + o) 0)])), .sc (.strs ((tcOf T).c ++ [c]))])) : Option HB) = some (.one false (txB (m + 1) (tcOf (T ++ [sgT A o d e c])))) := by
  rw [sgA_col s4 b1, (atP A (d + o)).1, (atP A (e + o)).1]
  unfold txB tcOf sgT
  simp only [List.map_append, List.map_cons, List.map_nil]
theorem net_Settle (L : List Ps) (N : Nat) (hn : L.length = N) (hl : N ≤ 1000) : FC Try.prog 2 19 [.sl 1 0 0 N] [(1, some (.one true (psB N (pcOf L))))] (seOut L) := by
  have c1 := net_Check L N hn (by omega)
  unfold seOut
  by_cases hck : ckP L ≠ 0
  · rw [if_pos hck]
    generalize ckP L = ck at *
    refine fc_of mixed T_ok Try.func19 rfl (by kernel_rfl) (by kernel_rfl) (by kernel_rfl) ?_
    repeat' ((conv => whnf); first | (refine vcall_out (l :=  [0, 1]) (c1 ) ⟨rfl, rfl, rfl, rfl, (by (repeat' (first | exact trivial | exact GB_wf | exact fun _ _ => rfl | constructor)); first | done | fail), (by (repeat' (first | exact trivial | exact GB_fits rfl | constructor)); first | done | fail)⟩ ?_) | (refine br_dec (fun h => ?_) (fun h => ?_) <;> try (exfalso; (try dsimp only at h); omega)) | (refine br_ndec (fun h => ?_) (fun h => ?_) <;> try (exfalso; (try dsimp only at h); omega)) | refine br_seq (fun h => ?_) (fun h => ?_) | refine br_nseq (fun h => ?_) (fun h => ?_) | refine br_not (fun h => ?_) (fun h => ?_) | refine br_intro (fun h => ?_) (fun h => ?_) | refine cond_intro rfl ?_ | (refine cond_intro ⟨rfl, ?_⟩ ?_; (first | omega | (dsimp only; omega) | decide)) | (refine cond_intro ?_ ?_; (first | omega | (dsimp only; omega) | decide | (simp only [Nat.add_zero, Int.toNat_natCast, *]; omega))))
    all_goals (conv => whnf)
    all_goals first
      | exact ret_out (l := [0, 1]) rfl rfl trivial allRw_nil
      | (exfalso; omega)
      | trace_state
  rw [if_neg hck]
  have hz := Classical.not_not.1 hck
  rw [hz] at c1
  have hsg : sgP L = 0 := by
    unfold ckP at hz
    split at hz
    · rename_i q; exact absurd hz q
    · rename_i q; exact Classical.not_not.1 q
  have hRw := sgP_rw hsg
  have c2 := pos_Clone L N hn (by omega)
  have c3 := sort_pos N L (by omega) hn hRw.dist
  have hbs : ∀ k, inT ((srt L).getD k ps0).a := bd_iff.2 fun x hx => bd_iff.1 hRw.bd x ((srt_perm L).subset hx)
  have hI0 : StI L N N 0 0 (srt L) [] := ⟨Nat.zero_le _, by omega, (srt_perm L).length_eq.trans hn, rfl, by unfold seT; rw [if_neg hck, hn], hbs, Nat.le_refl _⟩
  refine fc_of mixed T_ok Try.func19 rfl (by kernel_rfl) (by kernel_rfl) (by kernel_rfl) ?_
  repeat' ((conv => whnf); first | (refine vcall_out (l :=  [0, 1]) (c1 ) ⟨rfl, rfl, rfl, rfl, (by (repeat' (first | exact trivial | exact GB_wf | exact fun _ _ => rfl | constructor)); first | done | fail), (by (repeat' (first | exact trivial | exact GB_fits rfl | constructor)); first | done | fail)⟩ ?_) | (refine vcall_out (l :=  [0, 1]) (c2 ) ⟨rfl, rfl, rfl, rfl, (by (repeat' (first | exact trivial | exact GB_wf | exact fun _ _ => rfl | constructor)); first | done | fail), (by (repeat' (first | exact trivial | exact GB_fits rfl | constructor)); first | done | fail)⟩ ?_) | (refine vcall_out (l :=  [0, 2]) (c3 ) ⟨rfl, rfl, rfl, rfl, (by (repeat' (first | exact trivial | exact GB_wf | exact fun _ _ => rfl | constructor)); first | done | fail), (by (repeat' (first | exact trivial | exact GB_fits rfl | constructor)); first | done | fail)⟩ ?_) | (refine br_dec (fun h => ?_) (fun h => ?_) <;> try (exfalso; (try dsimp only at h); omega)) | (refine br_ndec (fun h => ?_) (fun h => ?_) <;> try (exfalso; (try dsimp only at h); omega)) | refine br_seq (fun h => ?_) (fun h => ?_) | refine br_nseq (fun h => ?_) (fun h => ?_) | refine br_not (fun h => ?_) (fun h => ?_) | refine br_intro (fun h => ?_) (fun h => ?_) | refine cond_intro rfl ?_ | (refine cond_intro ⟨rfl, ?_⟩ ?_; (first | omega | (dsimp only; omega) | decide)) | (refine cond_intro ?_ ?_; (first | omega | (dsimp only; omega) | decide | (simp only [Nat.add_zero, Int.toNat_natCast, *]; omega))))
  all_goals (conv => whnf)
  refine vloop_lp (fun x : Nat × Nat × Nat × List Ps × List Tx => ⟨[(5, .sl 2 0 x.2.1 (N - x.2.1)), (6, .sl 3 0 0 x.2.2.1)], [(2, some (.one false (psB N (pcOf x.2.2.2.1)))), (3, some (.one false (txB x.2.2.1 (tcOf x.2.2.2.2))))], 4⟩) (fun x => StI L N x.1 x.2.1 x.2.2.1 x.2.2.2.1 x.2.2.2.2) (fun x => N - x.2.1) (N, 0, 0, srt L, []) [0, 1, 2, 3] [.slot 6 [.sc (.strs []), .sc (.strs []), .sc (.ints .i64 []), .sc (.strs [])]] ⟨rfl, ⟨rfl, rfl, trivial⟩, ⟨rfl, rfl, trivial⟩⟩ hI0 ?_
  rintro ⟨f, o, m, A, T⟩ hI
  dsimp only at hI
  dsimp only
  obtain ⟨hle, hfu, hAl, hTm, hres, hbd, htl⟩ := hI
  by_cases ho : o < N
  · have hgl := grN_le (pcOf A).c (0 + o)
    have hCl : (pcOf A).c.length = N := by simp [pcOf, hAl]
    have hin : ∀ j, j < grN (pcOf A).c (0 + o) → (pcOf A).c.getD (j + o) ⟨#[]⟩ = (pcOf A).c.getD (0 + o) ⟨#[]⟩ := fun j h => by have := grN_in h; rwa [show j + (0 + o) = j + o by omega] at this
    have hend : grN (pcOf A).c (0 + o) + o < N → ¬ (pcOf A).c.getD (grN (pcOf A).c (0 + o) + o) ⟨#[]⟩ = (pcOf A).c.getD (0 + o) ⟨#[]⟩ := fun h => by have := grN_end (C := (pcOf A).c) (o := 0 + o) (by omega); rwa [show grN (pcOf A).c (0 + o) + (0 + o) = grN (pcOf A).c (0 + o) + o by omega] at this
    rw [hCl] at hgl
    repeat' ((conv => whnf); first | (refine br_dec (fun h => ?_) (fun h => ?_) <;> try (exfalso; (try dsimp only at h); omega)) | (refine br_ndec (fun h => ?_) (fun h => ?_) <;> try (exfalso; (try dsimp only at h); omega)) | refine br_seq (fun h => ?_) (fun h => ?_) | refine br_nseq (fun h => ?_) (fun h => ?_) | refine br_not (fun h => ?_) (fun h => ?_) | refine br_intro (fun h => ?_) (fun h => ?_) | refine cond_intro rfl ?_ | (refine cond_intro ⟨rfl, ?_⟩ ?_; (first | omega | (dsimp only; omega) | decide)) | (refine cond_intro ?_ ?_; (first | omega | (dsimp only; omega) | decide | (simp only [Nat.add_zero, Int.toNat_natCast, *]; omega))))
    all_goals (conv => whnf)
    all_goals first
      | (exfalso; omega)
      | skip
    refine vloop_lp (fun k : Nat => ⟨[(5, .sl 2 0 o (N - o)), (6, .sl 3 0 0 m), (7, .str ((pcOf A).c.getD (0 + o) ⟨#[]⟩)), (8, .int .i64 k)], [(2, some (.one false (psB N (pcOf A)))), (3, some (.one false (txB m (tcOf T))))], 4⟩) (fun k => k ≤ grN (pcOf A).c (0 + o)) (fun k => grN (pcOf A).c (0 + o) - k) 0 [0, 1, 2, 3] [] ⟨rfl, ⟨rfl, rfl, rfl, rfl, trivial⟩, ⟨rfl, rfl, trivial⟩⟩ (Nat.zero_le _) ?_
    intro k hk
    generalize hg : grN (pcOf A).c (0 + o) = g at *
    by_cases hk2 : k < g
    · have hck2 := hin k hk2
      repeat' ((conv => whnf); first | (refine br_dec (fun h => ?_) (fun h => ?_) <;> try (exfalso; (try dsimp only at h); omega)) | (refine br_ndec (fun h => ?_) (fun h => ?_) <;> try (exfalso; (try dsimp only at h); omega)) | refine br_seq (fun h => ?_) (fun h => ?_) | refine br_nseq (fun h => ?_) (fun h => ?_) | refine br_not (fun h => ?_) (fun h => ?_) | refine br_intro (fun h => ?_) (fun h => ?_) | refine cond_intro rfl ?_ | (refine cond_intro ⟨rfl, ?_⟩ ?_; (first | omega | (dsimp only; omega) | decide)) | (refine cond_intro ?_ ?_; (first | omega | (dsimp only; omega) | decide | (simp only [Nat.add_zero, Int.toNat_natCast, *]; omega))))
      all_goals (conv => whnf)
      all_goals first
        | (exfalso; first | omega | contradiction)
        | exact ⟨k + 1, [0, 1, 2, 3], [], hk2, (show g - (k + 1) < g - k by omega), ⟨rfl, ⟨rfl, rfl, rfl, congrArg (fun z => some (SV.int .i64 z)) (i64_succ (by omega)), trivial⟩, ⟨rfl, rfl, trivial⟩⟩⟩
        | trace_state
    · have e : k = g := by omega
      subst e
      repeat' ((conv => whnf); first | (refine br_dec (fun h => ?_) (fun h => ?_) <;> try (exfalso; (try dsimp only at h); omega)) | (refine br_ndec (fun h => ?_) (fun h => ?_) <;> try (exfalso; (try dsimp only at h); omega)) | refine br_seq (fun h => ?_) (fun h => ?_) | refine br_nseq (fun h => ?_) (fun h => ?_) | refine br_not (fun h => ?_) (fun h => ?_) | refine br_intro (fun h => ?_) (fun h => ?_) | refine cond_intro rfl ?_ | (refine cond_intro ⟨rfl, ?_⟩ ?_; (first | omega | (dsimp only; omega) | decide)) | (refine cond_intro ?_ ?_; (first | omega | (dsimp only; omega) | decide | (simp only [Nat.add_zero, Int.toNat_natCast, *]; omega))))
      all_goals (conv => whnf)
      all_goals first
        | (exfalso; first | omega | (exact hend (by omega) (by assumption)))
        | skip
      all_goals refine vloop_lp (fun x : Nat × Nat × List Ps × List Tx => ⟨[(5, .sl 2 0 (k + o) (N - o - k)), (6, .sl 3 0 0 x.2.1), (7, .str ((pcOf A).c.getD (0 + o) ⟨#[]⟩)), (9, .sl 2 0 (0 + o) k)], [(2, some (.one false (psB N (pcOf x.2.2.1)))), (3, some (.one false (txB x.2.1 (tcOf x.2.2.2))))], 4⟩) (fun x => GrI A T N (0 + o) k m x.1 x.2.1 x.2.2.1 x.2.2.2) (fun x => x.1) (k, m, A, T) [0, 1, 2, 3] [] ⟨rfl, ⟨rfl, rfl, rfl, rfl, trivial⟩, ⟨rfl, rfl, trivial⟩⟩ ⟨rfl, cnz_le _ _ _, hAl, hTm, hbd, rfl, Nat.add_le_add_left (cnz_le A (0 + o) k) m⟩ ?_
      all_goals rintro ⟨f', m', A', T'⟩ hG
      all_goals dsimp only at hG
      all_goals dsimp only
      all_goals obtain ⟨gres, gfu, glen, gtm, gbd, gcol, gtl⟩ := hG
      all_goals have hk1 : 0 < k := Nat.pos_of_ne_zero fun q => by subst q; exact hend (by omega) rfl
      all_goals have c4 := net_extremes A' N (0 + o) k glen (by omega) (by omega)
      all_goals by_cases hDE : dK (pcOf A').a (0 + o) k = none ∨ eK (pcOf A').a (0 + o) k = none
      all_goals first
        | (have gend := stG_end (c := (pcOf A).c.getD (0 + o) ⟨#[]⟩) (T := T') hDE f'
           rw [gend] at gres
           obtain ⟨f0, hf0, hnx⟩ := st_next hres hfu ho hAl hg gres.symm
           have hI2 : StI L N f0 (k + o) m' A' T' := ⟨by omega, by omega, glen, gtm, hnx, gbd, by omega⟩
           have hlt : oI (dK (pcOf A').a (0 + o) k) < 0 ∨ oI (eK (pcOf A').a (0 + o) k) < 0 := by
             rcases hDE with q | q
             · rw [q]; exact .inl (by decide)
             · rw [q]; exact .inr (by decide)
           clear hnx hI0
           generalize oI (dK (pcOf A').a (0 + o) k) = dI at *
           generalize oI (eK (pcOf A').a (0 + o) k) = eI at *
           repeat' ((conv => whnf); first | (refine vcall_out (l :=  [0, 2]) (c4 ) ⟨rfl, rfl, rfl, rfl, (by (repeat' (first | exact trivial | exact GB_wf | exact fun _ _ => rfl | constructor)); first | done | fail), (by (repeat' (first | exact trivial | exact GB_fits rfl | constructor)); first | done | fail)⟩ ?_) | (refine vcallD_out (l :=  [0, 2]) (c4 ) ⟨rfl, rfl, rfl, rfl, (by (repeat' (first | exact trivial | exact GB_wf | exact fun _ _ => rfl | constructor)); first | done | fail), (by (repeat' (first | exact trivial | exact GB_fits rfl | constructor)); first | done | fail)⟩ ?_) | (refine br_dec (fun h => ?_) (fun h => ?_) <;> try (exfalso; (try dsimp only at h); omega)) | (refine br_ndec (fun h => ?_) (fun h => ?_) <;> try (exfalso; (try dsimp only at h); omega)) | refine br_seq (fun h => ?_) (fun h => ?_) | refine br_nseq (fun h => ?_) (fun h => ?_) | refine br_not (fun h => ?_) (fun h => ?_) | refine br_intro (fun h => ?_) (fun h => ?_) | refine cond_intro rfl ?_ | (refine cond_intro ⟨rfl, ?_⟩ ?_; (first | omega | (dsimp only; omega) | decide)) | (refine cond_intro ?_ ?_; (first | omega | (dsimp only; omega) | decide | (simp only [Nat.add_zero, Int.toNat_natCast, *]; omega))))
           all_goals (conv => whnf)
           all_goals first
             | (exfalso; omega)
             | (rw [show N - o - k = N - (k + o) by omega]; exact ⟨(f0, k + o, m', A', T'), [0, 1, 2, 3], [], hI2, (show N - (k + o) < N - o by omega), ⟨rfl, ⟨rfl, rfl, trivial⟩, ⟨rfl, rfl, trivial⟩⟩⟩)
             | trace_state)
        | skip
      all_goals rw [not_or] at hDE
      all_goals obtain ⟨d, hd⟩ := Option.ne_none_iff_exists'.1 hDE.1
      all_goals obtain ⟨e, he⟩ := Option.ne_none_iff_exists'.1 hDE.2
      all_goals obtain ⟨s1, s2, s3, s4, s5, s6, s7⟩ := step_facts (A := A') (o := 0 + o) (n := k) (by omega) hd he
      all_goals obtain ⟨q1, q2, q3⟩ := sgN_cols (A := A') (o := 0 + o) (d := d) (e := e) (by omega) (by omega) s3
      all_goals have b1 := gbd (d + (0 + o))
      all_goals have b2 := gbd (e + (0 + o))
      all_goals rw [hd, he] at c4
      all_goals simp only [oI] at c4
      all_goals obtain ⟨f2, rfl⟩ := Nat.exists_eq_succ_of_ne_zero (show f' ≠ 0 by omega)
      all_goals have hst := stG_step (c := (pcOf A).c.getD (0 + o) ⟨#[]⟩) (f := f2) (T := T') hd he
      all_goals rw [hst] at gres
      all_goals clear hI0 hres hst
      all_goals have hG2 : GrI A T N (0 + o) k m f2 (m' + 1) (sgN A' (0 + o) d e) (T' ++ [sgT A' (0 + o) d e ((pcOf A).c.getD (0 + o) ⟨#[]⟩)]) := ⟨gres, by omega, by rw [sgN_len]; exact glen, by rw [List.length_append, gtm]; rfl, sgN_bd (by omega) (by omega) s3 s4 s5 gbd, q2.trans gcol, by omega⟩
      all_goals have hr2 := rowSt N q1 q2 q3 s3 s4 s5 b1 b2
      all_goals have hr3 := rowTx (A := A') (T := T') (m := m') (o := 0 + o) (d := d) (e := e) (c := (pcOf A).c.getD (0 + o) ⟨#[]⟩) s4 b1
      all_goals repeat' ((conv => whnf); first | (refine vcall_out (l :=  [0, 2]) (c4 ) ⟨rfl, rfl, rfl, rfl, (by (repeat' (first | exact trivial | exact GB_wf | exact fun _ _ => rfl | constructor)); first | done | fail), (by (repeat' (first | exact trivial | exact GB_fits rfl | constructor)); first | done | fail)⟩ ?_) | (refine vcallD_out (l :=  [0, 2]) (c4 ) ⟨rfl, rfl, rfl, rfl, (by (repeat' (first | exact trivial | exact GB_wf | exact fun _ _ => rfl | constructor)); first | done | fail), (by (repeat' (first | exact trivial | exact GB_fits rfl | constructor)); first | done | fail)⟩ ?_) | (refine br_dec (fun h => ?_) (fun h => ?_) <;> try (exfalso; (try dsimp only at h); omega)) | (refine br_ndec (fun h => ?_) (fun h => ?_) <;> try (exfalso; (try dsimp only at h); omega)) | refine br_seq (fun h => ?_) (fun h => ?_) | refine br_nseq (fun h => ?_) (fun h => ?_) | refine br_not (fun h => ?_) (fun h => ?_) | refine br_intro (fun h => ?_) (fun h => ?_) | refine cond_intro rfl ?_ | (refine cond_intro ⟨rfl, ?_⟩ ?_; (first | omega | (dsimp only; omega) | decide)) | (refine cond_intro ?_ ?_; (first | omega | (dsimp only; omega) | decide | (simp only [Nat.add_zero, Int.toNat_natCast, *]; omega))))
      all_goals (conv => whnf)
      all_goals (try simp only [toNatO] at *)
      all_goals first
        | (exfalso; omega)
        | exact ⟨(f2, m' + 1, sgN A' (0 + o) d e, T' ++ [sgT A' (0 + o) d e ((pcOf A).c.getD (0 + o) ⟨#[]⟩)]), [0, 1, 2, 5], [], hG2, Nat.lt_succ_self _, ⟨rfl, ⟨rfl, rfl, rfl, rfl, trivial⟩, ⟨hr2, hr3, trivial⟩⟩⟩
        | trace_state
  · have e : o = N := by omega
    subst e
    have hT : T = seT L := by
      rw [← hres]
      cases f with
      | zero => rfl
      | succ f => simp only [stR]; rw [if_pos (by omega)]
    subst hT
    rw [hTm]
    repeat' ((conv => whnf); first | (refine br_dec (fun h => ?_) (fun h => ?_) <;> try (exfalso; (try dsimp only at h); omega)) | (refine br_ndec (fun h => ?_) (fun h => ?_) <;> try (exfalso; (try dsimp only at h); omega)) | refine br_seq (fun h => ?_) (fun h => ?_) | refine br_nseq (fun h => ?_) (fun h => ?_) | refine br_not (fun h => ?_) (fun h => ?_) | refine br_intro (fun h => ?_) (fun h => ?_) | refine cond_intro rfl ?_ | (refine cond_intro ⟨rfl, ?_⟩ ?_; (first | omega | (dsimp only; omega) | decide)) | (refine cond_intro ?_ ?_; (first | omega | (dsimp only; omega) | decide | (simp only [Nat.add_zero, Int.toNat_natCast, *]; omega))))
    all_goals (conv => whnf)
    all_goals first
      | exact ret_out (l := [0, 1, 3]) rfl rfl ⟨rfl, trivial⟩ (allRw_cons allRw_nil)
      | (exfalso; omega)
      | trace_state
end Go.Proofs.Ytmibjgblhaohiaa

/- Plain facts: positions are settled row by row; net's groups do it so. No program in sight. -/
namespace Go.Proofs.Ytmibjgblhaohiaa
open Go.RowKit Go.Sy
set_option linter.unusedVariables false
set_option linter.unusedSimpArgs false

/-- The first row that owes most, and the first that is owed most, so far. -/
def dF (acc : Option Ps) (x : Ps) : Option Ps := if x.a < 0 then (match acc with | none => some x | some y => if x.a < y.a then some x else some y) else acc
def eF (acc : Option Ps) (x : Ps) : Option Ps := if 0 < x.a then (match acc with | none => some x | some y => if y.a < x.a then some x else some y) else acc
theorem nz_cons0 {x : Ps} {l : List Ps} (h : x.a = 0) : nz (x :: l) = nz l := by simp [nz, h]
theorem nz_cons1 {x : Ps} {l : List Ps} (h : x.a ≠ 0) : nz (x :: l) = x :: nz l := by simp [nz, h]
theorem nz_mem {x : Ps} {l : List Ps} : x ∈ nz l ↔ x ∈ l ∧ x.a ≠ 0 := by simp [nz]
theorem nz_nil {l : List Ps} (h : ∀ x ∈ l, x.a = 0) : nz l = [] := by
  unfold nz; rw [List.filter_eq_nil_iff]; intro x hx; simp [h x hx]
theorem dF_nz : ∀ (l : List Ps) (acc : Option Ps), (nz l).foldl dF acc = l.foldl dF acc
  | [], _ => rfl
  | x :: l, acc => by
    by_cases h : x.a = 0
    · rw [nz_cons0 h, dF_nz l acc, List.foldl_cons, show dF acc x = acc by unfold dF; rw [if_neg (by omega)]]
    · rw [nz_cons1 h, List.foldl_cons, List.foldl_cons, dF_nz l]
theorem eF_nz : ∀ (l : List Ps) (acc : Option Ps), (nz l).foldl eF acc = l.foldl eF acc
  | [], _ => rfl
  | x :: l, acc => by
    by_cases h : x.a = 0
    · rw [nz_cons0 h, eF_nz l acc, List.foldl_cons, show eF acc x = acc by unfold eF; rw [if_neg (by omega)]]
    · rw [nz_cons1 h, List.foldl_cons, List.foldl_cons, eF_nz l]
theorem drop_getD (A : List Ps) (o k : Nat) : (A.drop o).getD k ps0 = A.getD (k + o) ps0 := by
  rw [List.getD, List.getD, List.getElem?_drop, Nat.add_comm]
theorem take_drop_succ {A : List Ps} {o k : Nat} (h : o + (k + 1) ≤ A.length) : (A.drop o).take (k + 1) = (A.drop o).take k ++ [A.getD (k + o) ps0] := by
  rw [take_getD (by rw [List.length_drop]; omega), drop_getD]
theorem dK_row {A : List Ps} {o : Nat} : ∀ k, o + k ≤ A.length → ((A.drop o).take k).foldl dF none = (dK (pcOf A).a o k).map (fun d => A.getD (d + o) ps0)
  | 0, _ => rfl
  | k + 1, h => by
    rw [take_drop_succ h, List.foldl_append, dK_row k (by omega), List.foldl_cons, List.foldl_nil]
    simp only [dK]
    rw [(atP A (k + o)).2.1]
    cases hd : dK (pcOf A).a o k with
    | none =>
      simp only [Option.map_none, dF]
      by_cases h1 : (A.getD (k + o) ps0).a < 0
      · rw [if_pos h1, if_pos h1]; rfl
      · rw [if_neg h1, if_neg h1]; rfl
    | some d =>
      simp only [Option.map_some, dF]
      rw [(atP A (d + o)).2.1]
      by_cases h1 : (A.getD (k + o) ps0).a < 0
      · by_cases h2 : (A.getD (k + o) ps0).a < (A.getD (d + o) ps0).a
        · rw [if_pos h1, if_pos h2, if_pos ⟨h1, h2⟩]; rfl
        · rw [if_pos h1, if_neg h2, if_neg (fun q => h2 q.2)]; rfl
      · rw [if_neg h1, if_neg (fun q => h1 q.1)]; rfl
theorem eK_row {A : List Ps} {o : Nat} : ∀ k, o + k ≤ A.length → ((A.drop o).take k).foldl eF none = (eK (pcOf A).a o k).map (fun d => A.getD (d + o) ps0)
  | 0, _ => rfl
  | k + 1, h => by
    rw [take_drop_succ h, List.foldl_append, eK_row k (by omega), List.foldl_cons, List.foldl_nil]
    simp only [eK]
    rw [(atP A (k + o)).2.1]
    cases hd : eK (pcOf A).a o k with
    | none =>
      simp only [Option.map_none, eF]
      by_cases h1 : 0 < (A.getD (k + o) ps0).a
      · rw [if_pos h1, if_pos h1]; rfl
      · rw [if_neg h1, if_neg h1]; rfl
    | some d =>
      simp only [Option.map_some, eF]
      rw [(atP A (d + o)).2.1]
      by_cases h1 : 0 < (A.getD (k + o) ps0).a
      · by_cases h2 : (A.getD (d + o) ps0).a < (A.getD (k + o) ps0).a
        · rw [if_pos h1, if_pos h2, if_pos ⟨h1, h2⟩]; rfl
        · rw [if_pos h1, if_neg h2, if_neg (fun q => h2 q.2)]; rfl
      · rw [if_neg h1, if_neg (fun q => h1 q.1)]; rfl
/-- A transfer, as a change of rows. -/
def updF (x : Tx) (r : Ps) : Ps := if r.c = x.c ∧ r.p = x.f then { r with a := r.a + x.a } else if r.c = x.c ∧ r.p = x.t then { r with a := r.a - x.a } else r
def upd (A : List Ps) (x : Tx) : List Ps := A.map (updF x)
theorem updF_p (x : Tx) (r : Ps) : (updF x r).p = r.p := by unfold updF; split; · rfl
                                                            split <;> rfl
theorem updF_c (x : Tx) (r : Ps) : (updF x r).c = r.c := by unfold updF; split; · rfl
                                                            split <;> rfl
theorem updF_ne {x : Tx} {r : Ps} (h : r.c ≠ x.c) : updF x r = r := by
  unfold updF; rw [if_neg (fun q => h q.1), if_neg (fun q => h q.1)]
theorem upd_len (A : List Ps) (x : Tx) : (upd A x).length = A.length := by simp [upd]
theorem upd_asc {A : List Ps} (x : Tx) (h : Asc A) : Asc (upd A x) := by
  refine List.pairwise_map.2 (h.imp fun {a b} hab => ?_)
  unfold plt at hab ⊢
  rw [updF_p, updF_c, updF_p, updF_c]; exact hab
theorem upd_dist {A : List Ps} (x : Tx) (h : Dist A) : Dist (upd A x) := by
  refine List.pairwise_map.2 (h.imp fun {a b} hab q => hab ?_)
  unfold same2 at q ⊢
  rw [updF_p, updF_c, updF_p, updF_c] at q; exact q
theorem upd_drop (A : List Ps) (x : Tx) (o : Nat) : (upd A x).drop o = upd (A.drop o) x := (List.map_drop).symm
theorem upd_getD {A : List Ps} {j : Nat} (x : Tx) (hj : j < A.length) : (upd A x).getD j ps0 = updF x (A.getD j ps0) := by
  unfold upd
  rw [List.getD, List.getElem?_map, List.getD, List.getElem?_eq_getElem hj]; rfl
theorem list_ext {A B : List Ps} (hl : A.length = B.length) (h : ∀ j, j < A.length → A.getD j ps0 = B.getD j ps0) : A = B := by
  refine List.ext_getElem hl fun j h1 h2 => ?_
  have := h j h1
  rw [List.getD, List.getElem?_eq_getElem h1, List.getD, List.getElem?_eq_getElem h2] at this
  exact this
theorem add_upd {A : List Ps} {i j : Nat} {x : Tx} (hD : Dist A) (hi : i < A.length) (hj : j < A.length) (hne : i ≠ j) (h1 : (A.getD i ps0).p = x.f ∧ (A.getD i ps0).c = x.c) (h2 : (A.getD j ps0).p = x.t ∧ (A.getD j ps0).c = x.c) : addA (addA A i x.a) j (-x.a) = upd A x := by
  refine list_ext (by rw [addA_len, addA_len, upd_len]) fun k hk => ?_
  rw [addA_len, addA_len] at hk
  rw [upd_getD x hk, addA_get _ (by rw [addA_len]; exact hj), addA_get _ hi, addA_get _ hi]
  by_cases e1 : k = j
  · subst e1
    rw [if_pos rfl, if_neg (fun q => hne q.symm)]
    unfold updF
    rw [if_neg, if_pos ⟨h2.2, h2.1⟩]
    · rfl
    · rintro ⟨q1, q2⟩
      exact hne (dist_getD hD hi hj ⟨h1.1.trans q2.symm, h1.2.trans q1.symm⟩)
  · rw [if_neg e1]
    by_cases e2 : k = i
    · subst e2
      rw [if_pos rfl]
      unfold updF
      rw [if_pos ⟨h1.2, h1.1⟩]
    · rw [if_neg e2]
      unfold updF
      rw [if_neg, if_neg]
      · rintro ⟨q1, q2⟩
        exact e1 (dist_getD hD hk hj ⟨q2.trans h2.1.symm, q1.trans h2.2.symm⟩)
      · rintro ⟨q1, q2⟩
        exact e2 (dist_getD hD hk hi ⟨q2.trans h1.1.symm, q1.trans h1.2.symm⟩)
theorem sumC_addA (c : ByteArray) (d : Int) : ∀ (A : List Ps) (i : Nat), i < A.length → sumC (addA A i d) c = sumC A c + if (A.getD i ps0).c = c then d else 0
  | [], i, h => by simp at h
  | x :: A, 0, h => by
    show (if x.c = c then x.a + d else 0) + sumC A c = (if x.c = c then x.a else 0) + sumC A c + if x.c = c then d else 0
    split <;> omega
  | x :: A, i + 1, h => by
    have ih := sumC_addA c d A i (by simpa using h)
    show (if x.c = c then x.a else 0) + sumC (addA A i d) c = (if x.c = c then x.a else 0) + sumC A c + if (A.getD i ps0).c = c then d else 0
    rw [ih]; omega
theorem addA_key (A : List Ps) (i : Nat) (d : Int) (hi : i < A.length) (j : Nat) : ((addA A i d).getD j ps0).p = (A.getD j ps0).p ∧ ((addA A i d).getD j ps0).c = (A.getD j ps0).c := by
  rw [addA_get d hi]; split
  · rename_i q; subst q; exact ⟨rfl, rfl⟩
  · exact ⟨rfl, rfl⟩
theorem upd_sum {A : List Ps} {i j : Nat} {x : Tx} (hD : Dist A) (hi : i < A.length) (hj : j < A.length) (hne : i ≠ j) (h1 : (A.getD i ps0).p = x.f ∧ (A.getD i ps0).c = x.c) (h2 : (A.getD j ps0).p = x.t ∧ (A.getD j ps0).c = x.c) (c : ByteArray) : sumC (upd A x) c = sumC A c := by
  rw [← add_upd hD hi hj hne h1 h2, sumC_addA c _ _ _ (by rw [addA_len]; exact hj), sumC_addA c _ _ _ hi, (addA_key A i x.a hi j).2, h1.2, h2.2]
  split <;> omega
theorem nz_upd {x : Tx} : ∀ (A : List Ps), (∀ r ∈ A, r.a = 0 → ¬ (r.c = x.c ∧ (r.p = x.f ∨ r.p = x.t))) → nz (upd A x) = nz (upd (nz A) x)
  | [], _ => rfl
  | r :: A, h => by
    have ih := nz_upd A (fun r hr => h r (by simp [hr]))
    by_cases h0 : r.a = 0
    · have hk := h r (by simp) h0
      have e : updF x r = r := by
        unfold updF
        rw [if_neg (fun q => hk ⟨q.1, .inl q.2⟩), if_neg (fun q => hk ⟨q.1, .inr q.2⟩)]
      rw [nz_cons0 h0, ← ih]
      show nz (updF x r :: upd A x) = _
      rw [e, nz_cons0 h0]
    · rw [nz_cons1 h0]
      show nz (updF x r :: upd A x) = nz (updF x r :: upd (nz A) x)
      by_cases h2 : (updF x r).a = 0
      · rw [nz_cons0 h2, nz_cons0 h2, ih]
      · rw [nz_cons1 h2, nz_cons1 h2, ih]
/-- Rows are settled: the transfers so far become these. -/
inductive PS : List Ps → List Tx → List Tx → Prop
  | done (T : List Tx) : PS [] T T
  | step {R : List Ps} {T T' : List Tx} {d e : Ps} {x : Tx} : 0 < R.length → ((R.take (grN (pcOf R).c 0)).foldl dF none = some d) → ((R.take (grN (pcOf R).c 0)).foldl eF none = some e) → x = ⟨d.p, e.p, min (-d.a) e.a, (pcOf R).c.getD 0 ⟨#[]⟩⟩ → PS (nz (upd R x)) (T ++ [x]) T' → PS R T T'
theorem tw_all {p : ByteArray → Bool} : ∀ (G S : List ByteArray), (∀ x ∈ G, p x = true) → (∀ x ∈ S, p x = false) → (G ++ S).takeWhile p = G
  | [], [], _, _ => rfl
  | [], y :: S, _, h => by rw [List.nil_append, List.takeWhile_cons, if_neg (by rw [h y (by simp)]; simp)]
  | x :: G, S, hg, hs => by rw [List.cons_append, List.takeWhile_cons, if_pos (hg x (by simp)), tw_all G S (fun y hy => hg y (by simp [hy])) hs]
theorem grN_app {G S : List Ps} {c : ByteArray} (h0 : 0 < G.length) (hg : ∀ x ∈ G, x.c = c) (hs : ∀ x ∈ S, x.c ≠ c) : grN (pcOf (G ++ S)).c 0 = G.length ∧ (pcOf (G ++ S)).c.getD 0 ⟨#[]⟩ = c := by
  have hc : (pcOf (G ++ S)).c.getD 0 ⟨#[]⟩ = c := by
    cases G with
    | nil => simp at h0
    | cons x G => exact hg x (by simp)
  refine ⟨?_, hc⟩
  unfold grN
  rw [hc, List.drop_zero]
  show (((G ++ S).map Ps.c).takeWhile _).length = _
  rw [List.map_append, tw_all]
  · rw [List.length_map]
  · intro y hy
    obtain ⟨x, hx, rfl⟩ := List.mem_map.1 hy
    exact seq_true.2 (hg x hx)
  · intro y hy
    obtain ⟨x, hx, rfl⟩ := List.mem_map.1 hy
    exact Bool.eq_false_iff.2 fun q => hs x hx (seq_true.1 q)
theorem dK_none (V : List Int) (o : Nat) : ∀ n, dK V o n = none → ∀ j, j < n → 0 ≤ V.getD (j + o) 0
  | 0, _, j, hj => by omega
  | n + 1, h, j, hj => by
    simp only [dK] at h
    split at h
    · rename_i hd
      split at h
      · cases h
      · by_cases e : j = n
        · subst e; omega
        · exact dK_none V o n hd j (by omega)
    · split at h <;> cases h
theorem eK_none (V : List Int) (o : Nat) : ∀ n, eK V o n = none → ∀ j, j < n → V.getD (j + o) 0 ≤ 0
  | 0, _, j, hj => by omega
  | n + 1, h, j, hj => by
    simp only [eK] at h
    split at h
    · rename_i hd
      split at h
      · cases h
      · by_cases e : j = n
        · subst e; omega
        · exact eK_none V o n hd j (by omega)
    · split at h <;> cases h
theorem sum_pos {c : ByteArray} : ∀ (l : List Ps), (∀ x ∈ l, x.c = c) → (∀ x ∈ l, 0 ≤ x.a) → 0 ≤ sumC l c ∧ (sumC l c = 0 → ∀ x ∈ l, x.a = 0)
  | [], _, _ => ⟨Int.le_refl _, fun _ x hx => by simp at hx⟩
  | y :: l, hc, ha => by
    obtain ⟨i1, i2⟩ := sum_pos l (fun x hx => hc x (by simp [hx])) (fun x hx => ha x (by simp [hx]))
    have h1 := ha y (by simp)
    simp only [sumC]
    rw [if_pos (hc y (by simp))]
    refine ⟨by omega, fun h x hx => ?_⟩
    rcases List.mem_cons.1 hx with rfl | hx
    · omega
    · exact i2 (by omega) x hx
theorem sum_neg {c : ByteArray} : ∀ (l : List Ps), (∀ x ∈ l, x.c = c) → (∀ x ∈ l, x.a ≤ 0) → sumC l c ≤ 0 ∧ (sumC l c = 0 → ∀ x ∈ l, x.a = 0)
  | [], _, _ => ⟨Int.le_refl _, fun _ x hx => by simp at hx⟩
  | y :: l, hc, ha => by
    obtain ⟨i1, i2⟩ := sum_neg l (fun x hx => hc x (by simp [hx])) (fun x hx => ha x (by simp [hx]))
    have h1 := ha y (by simp)
    simp only [sumC]
    rw [if_pos (hc y (by simp))]
    refine ⟨by omega, fun h x hx => ?_⟩
    rcases List.mem_cons.1 hx with rfl | hx
    · omega
    · exact i2 (by omega) x hx
theorem take_mem {A : List Ps} {o n : Nat} {x : Ps} (hl : o + n ≤ A.length) : x ∈ (A.drop o).take n ↔ ∃ j, j < n ∧ A.getD (j + o) ps0 = x := by
  rw [mem_getD]
  have : ((A.drop o).take n).length = n := by rw [List.length_take, List.length_drop]; omega
  rw [this]
  constructor
  · rintro ⟨j, hj, e⟩
    refine ⟨j, hj, ?_⟩
    rw [← e, ← drop_getD, List.getD, List.getD, List.getElem?_take, if_pos hj]
  · rintro ⟨j, hj, e⟩
    refine ⟨j, hj, ?_⟩
    rw [← e, ← drop_getD, List.getD, List.getD, List.getElem?_take, if_pos hj]
theorem grp_split (A : List Ps) (o n : Nat) : A.drop o = (A.drop o).take n ++ A.drop (n + o) := by
  rw [Nat.add_comm n o, ← List.drop_drop, List.take_append_drop]
/-- Nobody owes, or is owed: all is settled. -/
theorem grp_zero {A : List Ps} {o n : Nat} {c : ByteArray} (hl : o + n ≤ A.length) (hc : ∀ j, j < n → (A.getD (j + o) ps0).c = c) (hr : ∀ x ∈ A.drop (n + o), x.c ≠ c) (hs : ∀ c, sumC (A.drop o) c = 0) (h : dK (pcOf A).a o n = none ∨ eK (pcOf A).a o n = none) : nz (A.drop o) = nz (A.drop (n + o)) := by
  have hcg : ∀ x ∈ (A.drop o).take n, x.c = c := fun x hx => by
    obtain ⟨j, hj, rfl⟩ := (take_mem hl).1 hx
    exact hc j hj
  have h0 := hs c
  rw [grp_split A o n, sumC_append, sumC_no hr, Int.add_zero] at h0
  have hz : ∀ x ∈ (A.drop o).take n, x.a = 0 := by
    rcases h with h | h
    · have := dK_none _ _ _ h
      refine (sum_pos _ hcg fun x hx => ?_).2 h0
      obtain ⟨j, hj, rfl⟩ := (take_mem hl).1 hx
      have := this j hj
      rwa [(atP A (j + o)).2.1] at this
    · have := eK_none _ _ _ h
      refine (sum_neg _ hcg fun x hx => ?_).2 h0
      obtain ⟨j, hj, rfl⟩ := (take_mem hl).1 hx
      have := this j hj
      rwa [(atP A (j + o)).2.1] at this
  rw [grp_split A o n, nz_append, nz_nil hz, List.nil_append]
theorem asc_dist {A : List Ps} (h : Asc A) : Dist A := dist_asc h
theorem sgN_upd {A : List Ps} {o d e : Nat} {c : ByteArray} (hD : Dist A) (hd : d + o < A.length) (he : e + o < A.length) (hne : d ≠ e) (h1 : (A.getD (d + o) ps0).c = c) (h2 : (A.getD (e + o) ps0).c = c) : sgN A o d e = upd A (sgT A o d e c) :=
  add_upd (x := sgT A o d e c) hD hd he (by omega) ⟨rfl, h1⟩ ⟨rfl, h2⟩
/-- One transfer, as rows are settled. -/
theorem grp_step {A : List Ps} {o n d e : Nat} {c : ByteArray} {T T' : List Tx} (hA : Asc A) (hl : o + n ≤ A.length) (hc : ∀ j, j < n → (A.getD (j + o) ps0).c = c) (hr : ∀ x ∈ A.drop (n + o), x.c ≠ c) (hd : dK (pcOf A).a o n = some d) (he : eK (pcOf A).a o n = some e) (h : PS (nz ((upd A (sgT A o d e c)).drop o)) (T ++ [sgT A o d e c]) T') : PS (nz (A.drop o)) T T' := by
  obtain ⟨f1, f2, f3, f4, f5, f6, f7⟩ := step_facts hl hd he
  have hcg : ∀ x ∈ nz ((A.drop o).take n), x.c = c := fun x hx => by
    obtain ⟨j, hj, rfl⟩ := (take_mem hl).1 (nz_mem.1 hx).1
    exact hc j hj
  have hrg : ∀ x ∈ nz (A.drop (n + o)), x.c ≠ c := fun x hx => hr x (nz_mem.1 hx).1
  have hin : A.getD (d + o) ps0 ∈ nz ((A.drop o).take n) := nz_mem.2 ⟨(take_mem hl).2 ⟨d, f1, rfl⟩, by omega⟩
  have hpos : 0 < (nz ((A.drop o).take n)).length := List.length_pos_of_mem hin
  have hR : nz (A.drop o) = nz ((A.drop o).take n) ++ nz (A.drop (n + o)) := by rw [← nz_append, ← grp_split]
  obtain ⟨g1, g2⟩ := grN_app hpos hcg hrg
  have htk : (nz (A.drop o)).take (grN (pcOf (nz (A.drop o))).c 0) = nz ((A.drop o).take n) := by
    rw [hR, g1, List.take_left]
  refine PS.step (d := A.getD (d + o) ps0) (e := A.getD (e + o) ps0) (x := sgT A o d e c) ?_ ?_ ?_ ?_ ?_
  · rw [hR, List.length_append]; omega
  · rw [htk, dF_nz, dK_row n hl, hd]; rfl
  · rw [htk, eF_nz, eK_row n hl, he]; rfl
  · rw [hR, g2]; rfl
  · rw [upd_drop] at h
    rwa [← nz_upd]
    intro r hr0 hz
    rintro ⟨q1, q2⟩
    obtain ⟨j, hj, rfl⟩ := mem_getD.1 hr0
    rw [List.length_drop] at hj
    rw [drop_getD] at *
    rcases q2 with q2 | q2
    · have := dist_getD (asc_dist hA) (i := j + o) (j := d + o) (by omega) (by omega) ⟨q2, q1.trans (hc d f1).symm⟩
      rw [this] at hz; omega
    · have := dist_getD (asc_dist hA) (i := j + o) (j := e + o) (by omega) (by omega) ⟨q2, q1.trans (hc e f2).symm⟩
      rw [this] at hz; omega
/-- A group is settled, as rows are. -/
theorem stG_PS {o n : Nat} {c : ByteArray} : ∀ (k : Nat) (A : List Ps) (T : List Tx), Asc A → o + n ≤ A.length → (∀ j, j < n → (A.getD (j + o) ps0).c = c) → (∀ x ∈ A.drop (n + o), x.c ≠ c) → (∀ c, sumC (A.drop o) c = 0) → cnz A o n ≤ k →
    Asc (stG o n c k A T).1 ∧ (stG o n c k A T).1.length = A.length ∧ (stG o n c k A T).1.drop (n + o) = A.drop (n + o) ∧ ∀ T', PS (nz (A.drop (n + o))) (stG o n c k A T).2 T' → PS (nz (A.drop o)) T T' := by
  intro k
  induction k with
  | zero =>
    intro A T hA hl hc hr hs hk
    refine ⟨hA, rfl, rfl, fun T' h => ?_⟩
    by_cases hDE : dK (pcOf A).a o n = none ∨ eK (pcOf A).a o n = none
    · rw [grp_zero hl hc hr hs hDE]; exact h
    · rw [not_or] at hDE
      obtain ⟨d, hd⟩ := Option.ne_none_iff_exists'.1 hDE.1
      obtain ⟨e, he⟩ := Option.ne_none_iff_exists'.1 hDE.2
      obtain ⟨_, _, _, _, _, _, f7⟩ := step_facts hl hd he
      omega
  | succ k ih =>
    intro A T hA hl hc hr hs hk
    by_cases hDE : dK (pcOf A).a o n = none ∨ eK (pcOf A).a o n = none
    · rw [stG_end hDE]
      exact ⟨hA, rfl, rfl, fun T' h => by rw [grp_zero hl hc hr hs hDE]; exact h⟩
    · rw [not_or] at hDE
      obtain ⟨d, hd⟩ := Option.ne_none_iff_exists'.1 hDE.1
      obtain ⟨e, he⟩ := Option.ne_none_iff_exists'.1 hDE.2
      obtain ⟨f1, f2, f3, f4, f5, f6, f7⟩ := step_facts hl hd he
      have eU := sgN_upd (c := c) (asc_dist hA) (by omega : d + o < A.length) (by omega : e + o < A.length) f3 (hc d f1) (hc e f2)
      rw [stG_step hd he]
      have hid : upd (A.drop (n + o)) (sgT A o d e c) = A.drop (n + o) := by
        unfold upd
        refine (List.map_congr_left fun r hr0 => ?_).trans (List.map_id _)
        exact updF_ne (hr r hr0)
      rw [eU] at f7 ⊢
      have hA1 := upd_asc (sgT A o d e c) hA
      have hl1 : o + n ≤ (upd A (sgT A o d e c)).length := by rw [upd_len]; exact hl
      have hc1 : ∀ j, j < n → ((upd A (sgT A o d e c)).getD (j + o) ps0).c = c := fun j hj => by rw [upd_getD _ (by omega), updF_c]; exact hc j hj
      have hr1 : ∀ x ∈ (upd A (sgT A o d e c)).drop (n + o), x.c ≠ c := by rw [upd_drop, hid]; exact hr
      have hs1 : ∀ c', sumC ((upd A (sgT A o d e c)).drop o) c' = 0 := fun c' => by
        rw [upd_drop, ← hs c']
        have hDd : Dist (A.drop o) := (asc_dist hA).sublist (List.drop_sublist _ _)
        refine upd_sum (i := d) (j := e) hDd ?_ ?_ f3 ?_ ?_ c'
        · rw [List.length_drop]; omega
        · rw [List.length_drop]; omega
        · rw [drop_getD]; exact ⟨rfl, hc d f1⟩
        · rw [drop_getD]; exact ⟨rfl, hc e f2⟩
      obtain ⟨i1, i2, i3, i4⟩ := ih (upd A (sgT A o d e c)) (T ++ [sgT A o d e c]) hA1 hl1 hc1 hr1 hs1 (by omega)
      rw [upd_drop _ _ (n + o), hid] at i3 i4
      exact ⟨i1, i2.trans (upd_len _ _), i3, fun T' h => grp_step hA hl hc hr hd he (i4 T' h)⟩
theorem strLt_ne {a b : ByteArray} (h : strLt a b = true) : a ≠ b := by
  intro e; subst e; rw [strLt_irrefl] at h; cases h
theorem asc_getD {A : List Ps} (hA : Asc A) {i j : Nat} (hij : i < j) (hj : j < A.length) : plt (A.getD i ps0) (A.getD j ps0) = true := by
  have := List.pairwise_iff_getElem.1 hA i j (by omega) hj hij
  rw [List.getD, List.getElem?_eq_getElem (by omega), List.getD, List.getElem?_eq_getElem hj]; exact this
theorem rest_no {A : List Ps} {o : Nat} (hA : Asc A) (ho : o < A.length) : ∀ x ∈ A.drop (grN (pcOf A).c o + o), x.c ≠ (pcOf A).c.getD o ⟨#[]⟩ := by
  intro x hx
  have hCl : (pcOf A).c.length = A.length := by simp [pcOf]
  obtain ⟨j, hj, rfl⟩ := mem_getD.1 hx
  rw [List.length_drop] at hj
  rw [drop_getD]
  have he := grN_end (C := (pcOf A).c) (o := o) (by omega)
  rw [(atP A _).2.2, (atP A o).2.2] at he
  rw [(atP A o).2.2]
  have hg1 : grN (pcOf A).c o ≠ 0 := by
    intro q
    rw [q, Nat.zero_add] at he
    exact he rfl
  have h1 : strLt (A.getD o ps0).c (A.getD (grN (pcOf A).c o + o) ps0).c = true := by
    rcases plt_iff.1 (asc_getD hA (show o < grN (pcOf A).c o + o by omega) (by omega)) with q | q
    · exact q
    · exact absurd q.1.symm he
  by_cases e0 : j = 0
  · subst e0; rw [Nat.zero_add]; exact (strLt_ne h1).symm
  · rcases plt_iff.1 (asc_getD hA (show grN (pcOf A).c o + o < j + (grN (pcOf A).c o + o) by omega) (by omega)) with q | q
    · exact (strLt_ne (strLt_trans h1 q)).symm
    · rw [← q.1]; exact (strLt_ne h1).symm
theorem grN_pos {C : List ByteArray} {o : Nat} (h : o < C.length) : 0 < grN C o := by
  refine Nat.pos_of_ne_zero fun q => ?_
  have := grN_end (C := C) (o := o) (by omega)
  rw [q, Nat.zero_add] at this
  exact this rfl
/-- All groups are settled, as rows are. -/
theorem stR_PS : ∀ (f o : Nat) (A : List Ps) (T : List Tx), Asc A → A.length ≤ f + o → (∀ c, sumC (A.drop o) c = 0) → PS (nz (A.drop o)) T (stR f o A T)
  | 0, o, A, T, hA, hf, hs => by
    rw [List.drop_eq_nil_of_le (by omega)]; exact PS.done T
  | f + 1, o, A, T, hA, hf, hs => by
    simp only [stR]
    by_cases ho : A.length ≤ o
    · rw [if_pos ho, List.drop_eq_nil_of_le ho]; exact PS.done T
    rw [if_neg ho]
    have hCl : (pcOf A).c.length = A.length := by simp [pcOf]
    have hgl := grN_le (pcOf A).c o
    have hgp := grN_pos (C := (pcOf A).c) (o := o) (by omega)
    have hno := rest_no hA (by omega : o < A.length)
    have hin : ∀ j, j < grN (pcOf A).c o → (A.getD (j + o) ps0).c = (pcOf A).c.getD o ⟨#[]⟩ := fun j hj => by
      have := grN_in hj
      rwa [(atP A (j + o)).2.2] at this
    obtain ⟨i1, i2, i3, i4⟩ := stG_PS (c := (pcOf A).c.getD o ⟨#[]⟩) (grN (pcOf A).c o) A T hA (by omega) hin hno hs (cnz_le _ _ _)
    refine i4 _ ?_
    rw [← i3]
    refine stR_PS f _ _ _ i1 (by omega) fun c => ?_
    rw [i3]
    by_cases hc : c = (pcOf A).c.getD o ⟨#[]⟩
    · subst hc; exact sumC_no hno
    · have := hs c
      rw [grp_split A o (grN (pcOf A).c o), sumC_append, sumC_no (L := (A.drop o).take _), Int.zero_add] at this
      · exact this
      · intro x hx e
        obtain ⟨j, hj, rfl⟩ := (take_mem (by omega)).1 hx
        exact hc (e.symm.trans (hin j hj))
theorem ckP_zero {L : List Ps} (h : ckP L = 0) : sgP L = 0 ∧ ∀ c, sumC L c = 0 := by
  unfold ckP at h
  split at h
  · rename_i q; exact absurd h q
  · rename_i q
    split at h
    · rename_i q2; exact ⟨Classical.not_not.1 q, balB_iff.1 q2⟩
    · omega
theorem seT_PS {L : List Ps} (h : ckP L = 0) : PS (nz (srt L)) [] (seT L) := by
  obtain ⟨h1, h2⟩ := ckP_zero h
  unfold seT
  rw [if_neg (fun q => q h)]
  have := stR_PS L.length 0 (srt L) [] (srt_asc (sgP_dist h1)) (by rw [(srt_perm L).length_eq]; omega) (fun c => by rw [List.drop_zero, sumC_perm (srt_perm L)]; exact h2 c)
  rwa [List.drop_zero] at this
end Go.Proofs.Ytmibjgblhaohiaa

/- Plain facts: one step of the settling of rows. No program in sight. -/
namespace Go.Proofs.Ytmibjgblhaohiaa
open Go.RowKit Go.Sy
set_option linter.unusedVariables false
set_option linter.unusedSimpArgs false

theorem fK_spec (V : List Int) : ∀ k, (∀ j, j < k → V.getD (fK V k) 0 ≤ V.getD j 0) ∧ ∀ j, j < fK V k → V.getD (fK V k) 0 < V.getD j 0
  | 0 => ⟨fun j hj => by omega, fun j hj => by simp only [fK] at hj; omega⟩
  | k + 1 => by
    obtain ⟨h1, h2⟩ := fK_spec V k
    have hle := fK_le V k
    simp only [fK]
    split
    · rename_i q
      refine ⟨fun j hj => ?_, fun j hj => ?_⟩
      · by_cases e : j = k
        · subst e; exact Int.le_refl _
        · have := h1 j (by omega); omega
      · have := h1 j hj; omega
    · rename_i q
      refine ⟨fun j hj => ?_, fun j hj => h2 j hj⟩
      by_cases e : j = k
      · subst e; omega
      · exact h1 j (by omega)
theorem tK_spec (V : List Int) : ∀ k, (∀ j, j < k → V.getD j 0 ≤ V.getD (tK V k) 0) ∧ ∀ j, j < tK V k → V.getD j 0 < V.getD (tK V k) 0
  | 0 => ⟨fun j hj => by omega, fun j hj => by simp only [tK] at hj; omega⟩
  | k + 1 => by
    obtain ⟨h1, h2⟩ := tK_spec V k
    have hle := tK_le V k
    simp only [tK]
    split
    · rename_i q
      refine ⟨fun j hj => ?_, fun j hj => ?_⟩
      · by_cases e : j = k
        · subst e; exact Int.le_refl _
        · have := h1 j (by omega); omega
      · have := h1 j hj; omega
    · rename_i q
      refine ⟨fun j hj => ?_, fun j hj => h2 j hj⟩
      by_cases e : j = k
      · subst e; omega
      · exact h1 j (by omega)
theorem dK_spec (V : List Int) : ∀ k d, dK V 0 k = some d → (∀ j, j < k → V.getD d 0 ≤ V.getD j 0) ∧ ∀ j, j < d → V.getD d 0 < V.getD j 0
  | 0, d, h => by cases h
  | k + 1, d, h => by
    simp only [dK] at h
    split at h
    · rename_i hd
      have h0 := dK_none V 0 k hd
      split at h
      · rename_i q
        cases h
        simp only [Nat.add_zero] at q h0
        refine ⟨fun j hj => ?_, fun j hj => ?_⟩
        · by_cases e : j = k
          · subst e; exact Int.le_refl _
          · have := h0 j (by omega); omega
        · have := h0 j hj; omega
      · cases h
    · rename_i d' hd
      obtain ⟨h1, h2⟩ := dK_spec V k d' hd
      have hneg := dK_neg V 0 k d' hd
      simp only [Nat.add_zero] at h hneg
      split at h
      · rename_i q
        cases h
        refine ⟨fun j hj => ?_, fun j hj => ?_⟩
        · by_cases e : j = k
          · subst e; exact Int.le_refl _
          · have := h1 j (by omega); omega
        · have := h1 j hj; omega
      · rename_i q
        cases h
        refine ⟨fun j hj => ?_, h2⟩
        by_cases e : j = k
        · subst e; omega
        · exact h1 j (by omega)
theorem eK_spec (V : List Int) : ∀ k d, eK V 0 k = some d → (∀ j, j < k → V.getD j 0 ≤ V.getD d 0) ∧ ∀ j, j < d → V.getD j 0 < V.getD d 0
  | 0, d, h => by cases h
  | k + 1, d, h => by
    simp only [eK] at h
    split at h
    · rename_i hd
      have h0 := eK_none V 0 k hd
      split at h
      · rename_i q
        cases h
        simp only [Nat.add_zero] at q h0
        refine ⟨fun j hj => ?_, fun j hj => ?_⟩
        · by_cases e : j = k
          · subst e; exact Int.le_refl _
          · have := h0 j (by omega); omega
        · have := h0 j hj; omega
      · cases h
    · rename_i d' hd
      obtain ⟨h1, h2⟩ := eK_spec V k d' hd
      have hneg := eK_pos V 0 k d' hd
      simp only [Nat.add_zero] at h hneg
      split at h
      · rename_i q
        cases h
        refine ⟨fun j hj => ?_, fun j hj => ?_⟩
        · by_cases e : j = k
          · subst e; exact Int.le_refl _
          · have := h1 j (by omega); omega
        · have := h1 j hj; omega
      · rename_i q
        cases h
        refine ⟨fun j hj => ?_, h2⟩
        by_cases e : j = k
        · subst e; omega
        · exact h1 j (by omega)
theorem dK_fK {V : List Int} {g d : Nat} (h : dK V 0 g = some d) : fK V g = d := by
  have hlt := dK_lt V 0 g d h
  obtain ⟨h1, h2⟩ := dK_spec V g d h
  obtain ⟨k1, k2⟩ := fK_spec V g
  have hf := fK_lt V (show 0 < g by omega)
  rcases Nat.lt_trichotomy (fK V g) d with q | q | q
  · have a1 := h2 _ q
    have a2 := k1 d hlt
    omega
  · exact q
  · have a1 := k2 _ q
    have a2 := h1 _ hf
    omega
theorem eK_tK {V : List Int} {g d : Nat} (h : eK V 0 g = some d) : tK V g = d := by
  have hlt := eK_lt V 0 g d h
  obtain ⟨h1, h2⟩ := eK_spec V g d h
  obtain ⟨k1, k2⟩ := tK_spec V g
  have hf := tK_lt V (show 0 < g by omega)
  rcases Nat.lt_trichotomy (tK V g) d with q | q | q
  · have a1 := h2 _ q
    have a2 := k1 d hlt
    omega
  · exact q
  · have a1 := k2 _ q
    have a2 := h1 _ hf
    omega
/-- A transfer between two rows. -/
structure StepK (R : List Ps) (d e : Nat) (x : Tx) : Prop where
  d1 : d < R.length
  e1 : e < R.length
  ne : d ≠ e
  dk : (R.getD d ps0).p = x.f ∧ (R.getD d ps0).c = x.c
  ek : (R.getD e ps0).p = x.t ∧ (R.getD e ps0).c = x.c
  dn : (R.getD d ps0).a < 0
  ep : 0 < (R.getD e ps0).a
  am : x.a = min (-(R.getD d ps0).a) (R.getD e ps0).a
/-- The same, in the first currency. -/
structure StepI (R : List Ps) (d e : Nat) (x : Tx) : Prop extends StepK R d e x where
  cc : x.c = (R.getD 0 ps0).c
theorem stepI_of {R : List Ps} {d0 e0 : Ps} {x : Tx} (h0 : 0 < R.length) (hd : (R.take (grN (pcOf R).c 0)).foldl dF none = some d0) (he : (R.take (grN (pcOf R).c 0)).foldl eF none = some e0) (hx : x = ⟨d0.p, e0.p, min (-d0.a) e0.a, (pcOf R).c.getD 0 ⟨#[]⟩⟩) : ∃ d e, StepI R d e x ∧ fK (pcOf R).a (grN (pcOf R).c 0) = d ∧ tK (pcOf R).a (grN (pcOf R).c 0) = e := by
  have hgl := grN_le (pcOf R).c 0
  rw [show (pcOf R).c.length = R.length by simp [pcOf], Nat.sub_zero] at hgl
  have r1 := dK_row (A := R) (o := 0) (grN (pcOf R).c 0) (by omega)
  have r2 := eK_row (A := R) (o := 0) (grN (pcOf R).c 0) (by omega)
  rw [List.drop_zero, hd] at r1
  rw [List.drop_zero, he] at r2
  have hin : ∀ j, j < grN (pcOf R).c 0 → (R.getD j ps0).c = (pcOf R).c.getD 0 ⟨#[]⟩ := fun j hj => by
    have := grN_in hj
    rwa [(atP R (j + 0)).2.2] at this
  cases hdk : dK (pcOf R).a 0 (grN (pcOf R).c 0) with
  | none => rw [hdk] at r1; cases r1
  | some d =>
    cases hek : eK (pcOf R).a 0 (grN (pcOf R).c 0) with
    | none => rw [hek] at r2; cases r2
    | some e =>
      rw [hdk] at r1
      rw [hek] at r2
      simp only [Option.map_some, Option.some.injEq, Nat.add_zero] at r1 r2
      subst r1
      subst r2
      obtain ⟨f1, f2, f3, f4, f5, _, _⟩ := step_facts (A := R) (o := 0) (by omega) hdk hek
      refine ⟨d, e, ⟨⟨by omega, by omega, f3, ?_, ?_, f4, f5, ?_⟩, ?_⟩, dK_fK hdk, eK_tK hek⟩
      · rw [hx]; exact ⟨rfl, hin d f1⟩
      · rw [hx]; exact ⟨rfl, hin e f2⟩
      · rw [hx]
      · rw [hx]; exact (atP R 0).2.2
theorem PS_inv {R : List Ps} {T T' : List Tx} (h : PS R T T') (h0 : 0 < R.length) : ∃ d e x, StepI R d e x ∧ fK (pcOf R).a (grN (pcOf R).c 0) = d ∧ tK (pcOf R).a (grN (pcOf R).c 0) = e ∧ PS (nz (upd R x)) (T ++ [x]) T' := by
  cases h with
  | done => simp at h0
  | @step _ _ _ d0 e0 x _ hd he hx hn =>
    obtain ⟨d, e, hS, h1, h2⟩ := stepI_of h0 hd he hx
    exact ⟨d, e, x, hS, h1, h2, hn⟩
theorem PS_rec {M : List Ps → List Tx → List Tx → Prop} (done : ∀ T, M [] T T) (step : ∀ R T T' d e x, StepI R d e x → PS (nz (upd R x)) (T ++ [x]) T' → M (nz (upd R x)) (T ++ [x]) T' → M R T T') {R : List Ps} {T T' : List Tx} (h : PS R T T') : M R T T' := by
  induction h with
  | done T => exact done T
  | @step R T T' d0 e0 x h0 hd he hx hn ih =>
    obtain ⟨d, e, hS, _, _⟩ := stepI_of h0 hd he hx
    exact step R T T' d e x hS hn ih
/-- Rows as they are settled. -/
structure RfI (R : List Ps) : Prop where
  asc : Asc R
  no : ∀ x ∈ R, x.a ≠ 0
  ok : ∀ x ∈ R, nmB x.p = true ∧ mchk x.a x.c = 0
  len : R.length ≤ 400
theorem sgE_all {L : List Ps} : ∀ n, (∀ k, k < n → erP L k = 0) → sgE L n = 0
  | 0, _ => rfl
  | n + 1, h => by
    have ih := sgE_all n (fun k hk => h k (by omega))
    simp only [sgE]
    rw [if_neg (by omega)]; exact h n (by omega)
theorem sgP_of {R : List Ps} (hl : R.length ≤ 512) (hD : Dist R) (hok : ∀ x ∈ R, nmB x.p = true ∧ mchk x.a x.c = 0) : sgP R = 0 := by
  unfold sgP
  rw [if_neg (by omega)]
  refine sgE_all _ fun k hk => ?_
  have hx := hok _ (mem_getD.2 ⟨k, hk, rfl⟩)
  unfold erP
  rw [if_neg (by rw [hx.1]; simp), if_neg (by rw [hx.2]; simp), if_neg]
  intro q
  have hkl : (R.take k).length = k := by rw [List.length_take]; omega
  have := (ixL_lt_iff (R.getD k ps0).p (R.getD k ps0).c (R.take k)).1 (by omega)
  obtain ⟨y, hy, hc, hp⟩ := this
  obtain ⟨j, hj, rfl⟩ := mem_getD.1 hy
  rw [hkl] at hj
  have e : (R.take k).getD j ps0 = R.getD j ps0 := by rw [List.getD, List.getD, List.getElem?_take, if_pos hj]
  rw [e] at hc hp
  have := dist_getD hD (by omega : j < R.length) hk ⟨hp, hc⟩
  omega
theorem mvR_add {R : List Ps} {i : Nat} (d : Int) (hD : Dist R) (hi : i < R.length) : mvR R (R.getD i ps0).p (R.getD i ps0).c d = addA R i d ∧ mvN R (R.getD i ps0).p (R.getD i ps0).c d = (R.getD i ps0).a + d := by
  unfold mvR mvN addA
  rw [ixL_row hD hi, putL_lt hi]
  exact ⟨rfl, rfl⟩
theorem mchk_of {a b : Int} {c : ByteArray} (h : mchk a c = 0) (hb : inT b) : mchk b c = 0 := by
  have := (mchk_bd h).1
  unfold mchk
  rw [if_neg (by rw [this]; simp), if_pos hb]
theorem addA_dist {R : List Ps} (hD : Dist R) {i : Nat} (hi : i < R.length) (d : Int) : Dist (addA R i d) := by
  refine dist_of fun k j hk hj q => ?_
  rw [addA_len] at hk
  have k1 := addA_key R i d hi k
  have k2 := addA_key R i d hi j
  have := dist_getD hD (show j < R.length by omega) hk ⟨k2.1.symm.trans (q.1.trans k1.1), k2.2.symm.trans (q.2.trans k1.2)⟩
  omega
theorem step_N {R : List Ps} {d e : Nat} {x : Tx} (hS : StepK R d e x) (hD : Dist R) : apN R x = upd R x ∧ mvN R x.f x.c x.a = (R.getD d ps0).a + x.a ∧ mvN (mvR R x.f x.c x.a) x.t x.c (-x.a) = (R.getD e ps0).a - x.a := by
  obtain ⟨m1, m2⟩ := mvR_add (i := d) x.a hD hS.d1
  rw [hS.dk.1, hS.dk.2] at m1 m2
  have kE := addA_key R d x.a hS.d1 e
  have hE : (addA R d x.a).getD e ps0 = R.getD e ps0 := by rw [addA_get _ hS.d1, if_neg (fun q => hS.ne q.symm)]
  obtain ⟨n1, n2⟩ := mvR_add (R := addA R d x.a) (i := e) (-x.a) (addA_dist hD hS.d1 _) (by rw [addA_len]; exact hS.e1)
  rw [hE, hS.ek.1, hS.ek.2] at n1 n2
  refine ⟨?_, m2, ?_⟩
  · unfold apN
    rw [m1, n1]
    exact add_upd hD hS.d1 hS.e1 hS.ne hS.dk hS.ek
  · rw [m1, n2]; rfl
theorem step_E {R : List Ps} {d e : Nat} {x : Tx} (hS : StepK R d e x) (hD : Dist R) (hok : ∀ x ∈ R, nmB x.p = true ∧ mchk x.a x.c = 0) : apE R x = 0 := by
  obtain ⟨_, m1, m2⟩ := step_N hS hD
  have o1 := hok _ (mem_getD.2 ⟨d, hS.d1, rfl⟩)
  have o2 := hok _ (mem_getD.2 ⟨e, hS.e1, rfl⟩)
  have b1 := (mchk_bd o1.2).2
  have b2 := (mchk_bd o2.2).2
  have hdn := hS.dn
  have hep := hS.ep
  have ham := hS.am
  unfold apE
  rw [m1, m2, if_neg, if_neg, if_neg, if_neg]
  · exact fun q => q ⟨by omega, by omega⟩
  · exact fun q => q ⟨by omega, by omega⟩
  · rw [← hS.dk.2, mchk_of o1.2 ⟨by omega, by omega⟩]; simp
  · rw [← hS.dk.1, ← hS.ek.1, o1.1, o2.1]; simp
theorem upd_ok {R : List Ps} {d e : Nat} {x : Tx} (hS : StepK R d e x) (hD : Dist R) (hok : ∀ x ∈ R, nmB x.p = true ∧ mchk x.a x.c = 0) : ∀ x' ∈ upd R x, nmB x'.p = true ∧ mchk x'.a x'.c = 0 := by
  intro y hy
  obtain ⟨r, hr, rfl⟩ := List.mem_map.1 hy
  have o0 := hok r hr
  have o1 := hok _ (mem_getD.2 ⟨d, hS.d1, rfl⟩)
  have o2 := hok _ (mem_getD.2 ⟨e, hS.e1, rfl⟩)
  have b1 := (mchk_bd o1.2).2
  have b2 := (mchk_bd o2.2).2
  have hdn := hS.dn
  have hep := hS.ep
  have ham := hS.am
  rw [updF_p, updF_c]
  refine ⟨o0.1, mchk_of o0.2 ?_⟩
  obtain ⟨j, hj, rfl⟩ := mem_getD.1 hr
  unfold updF
  split
  · rename_i q
    have := dist_getD hD hj hS.d1 ⟨q.2.trans hS.dk.1.symm, q.1.trans hS.dk.2.symm⟩
    subst this
    exact ⟨by dsimp only; omega, by dsimp only; omega⟩
  · split
    · rename_i q
      have := dist_getD hD hj hS.e1 ⟨q.2.trans hS.ek.1.symm, q.1.trans hS.ek.2.symm⟩
      subst this
      exact ⟨by dsimp only; omega, by dsimp only; omega⟩
    · exact (mchk_bd o0.2).2
theorem upd_at {R : List Ps} {d e : Nat} {x : Tx} (hS : StepK R d e x) (hD : Dist R) : (updF x (R.getD d ps0)).a = (R.getD d ps0).a + x.a ∧ (updF x (R.getD e ps0)).a = (R.getD e ps0).a - x.a := by
  unfold updF
  rw [if_pos ⟨hS.dk.2, hS.dk.1⟩, if_neg, if_pos ⟨hS.ek.2, hS.ek.1⟩]
  · exact ⟨rfl, rfl⟩
  · rintro ⟨q1, q2⟩
    exact hS.ne (dist_getD hD hS.d1 hS.e1 ⟨hS.dk.1.trans q2.symm, hS.dk.2.trans q1.symm⟩)
theorem step_len {R : List Ps} {d e : Nat} {x : Tx} (hS : StepK R d e x) (hD : Dist R) : (nz (upd R x)).length < R.length := by
  rw [← upd_len R x]
  obtain ⟨u1, u2⟩ := upd_at hS hD
  have ham := hS.am
  refine List.length_filter_lt_length_iff_exists.2 ?_
  by_cases q : -(R.getD d ps0).a ≤ (R.getD e ps0).a
  · exact ⟨_, List.mem_map_of_mem (mem_getD.2 ⟨d, hS.d1, rfl⟩), by rw [u1, show (R.getD d ps0).a + x.a = 0 by rw [ham, Int.min_eq_left q]; omega]; simp⟩
  · exact ⟨_, List.mem_map_of_mem (mem_getD.2 ⟨e, hS.e1, rfl⟩), by rw [u2, show (R.getD e ps0).a - x.a = 0 by rw [ham, Int.min_eq_right (by omega)]; omega]; simp⟩
theorem step_RfI {R : List Ps} {d e : Nat} {x : Tx} (hS : StepK R d e x) (hI : RfI R) : RfI (nz (upd R x)) := by
  have hD := asc_dist hI.asc
  refine ⟨(upd_asc x hI.asc).sublist List.filter_sublist, fun y hy => (nz_mem.1 hy).2, fun y hy => upd_ok hS hD hI.ok y (nz_mem.1 hy).1, ?_⟩
  have h1 := step_len hS hD
  have h2 := hI.len
  omega
theorem srt_self {R : List Ps} (h : Asc R) : srt R = R := srt_of (List.Perm.refl _) h
theorem step_ap {R : List Ps} {d e : Nat} {x : Tx} (hS : StepK R d e x) (hI : RfI R) : apErr R [x] = 0 ∧ apRes R [x] = nz (upd R x) := by
  have hD := asc_dist hI.asc
  have hl := hI.len
  have h0 := sgP_of (by omega) hD hI.ok
  have h1 := step_E hS hD hI.ok
  have h2 := (step_N hS hD).1
  have e1 : apK R [x] 1 = (0, upd R x) := by
    have : apK R [x] 1 = (apE R x, apN R x) := apK_step (k := 0) (T := [x]) rfl
    rw [this, h1, h2]
  have he : apErr R [x] = 0 := by
    unfold apErr
    rw [if_neg (fun q => q h0)]
    exact congrArg Prod.fst e1
  refine ⟨he, ?_⟩
  unfold apRes
  rw [if_neg (fun q => q he)]
  show srt (nz (apK R [x] 1).2) = _
  rw [e1]
  exact srt_self ((upd_asc x hI.asc).sublist List.filter_sublist)
theorem RfI_of {L : List Ps} (h : sgP L = 0) (hl : L.length ≤ 400) : RfI (nz (srt L)) := by
  refine ⟨(srt_asc (sgP_dist h)).sublist List.filter_sublist, fun y hy => (nz_mem.1 hy).2, fun y hy => ?_, ?_⟩
  · have hm := (srt_perm L).subset (nz_mem.1 hy).1
    obtain ⟨j, hj, rfl⟩ := mem_getD.1 hm
    have := erP_zero ((sgP_zero h).2 j hj)
    exact ⟨this.1, this.2.1⟩
  · have h1 := nz_len (srt L)
    have h2 := (srt_perm L).length_eq
    omega
end Go.Proofs.Ytmibjgblhaohiaa

/- Contracts: the reference settles positions. -/
namespace Go.Proofs.Ytmibjgblhaohiaa
open Go.RowKit Go.Sy
attribute [local irreducible] vcall vloop vcallD retP
set_option maxRecDepth 100000
set_option linter.unusedVariables false
set_option linter.unusedSimpArgs false

theorem nmB_size {s : ByteArray} (h : nmB s = true) : s.size ≤ 100000 := by
  unfold nmB at h
  rw [Bool.and_eq_true, decide_eq_true_iff] at h
  omega
theorem RfI_sm {R : List Ps} (h : RfI R) : SmP R := by
  intro k
  by_cases hk : k < R.length
  · exact nmB_size (h.ok _ (mem_getD.2 ⟨k, hk, rfl⟩)).1
  · rw [List.getD, List.getElem?_eq_none (by omega)]; decide
theorem RfI_bd {R : List Ps} (h : RfI R) : ∀ k, inT ((pcOf R).a.getD k 0) := by
  intro k
  rw [(atP R k).2.1]
  by_cases hk : k < R.length
  · exact (mchk_bd (h.ok _ (mem_getD.2 ⟨k, hk, rfl⟩)).2).2
  · rw [List.getD, List.getElem?_eq_none (by omega)]; exact ⟨by decide, by decide⟩
/-- What the reference's loop holds. -/
structure SfI (L R : List Ps) (T : List Tx) (k m : Nat) : Prop where
  ps : PS R T (seT L)
  ok : RfI R
  rk : R.length = k
  tm : T.length = m
  tl : m + k ≤ L.length
theorem rowTx2 {T : List Tx} {m : Nat} (x : Tx) : (some (HB.one false (.cols (m + 1) [.sc (.strs ((tcOf T).f ++ [x.f])), .sc (.strs ((tcOf T).t ++ [x.t])), .sc (.ints .i64 ((tcOf T).a ++ [x.a])), .sc (.strs ((tcOf T).c ++ [x.c]))])) : Option HB) = some (.one false (txB (m + 1) (tcOf (T ++ [x])))) := by
  unfold txB tcOf
  simp only [List.map_append, List.map_cons, List.map_nil]
theorem r41_Settle (L : List Ps) (N : Nat) (hn : L.length = N) (hl : N ≤ 200) (hsm : SmP L) : FC Try.prog 2 20 [.sl 1 0 0 N] [(1, some (.one true (psB N (pcOf L))))] (seOut L) := by
  have c1 := r41_Check L N hn (by omega) hsm
  unfold seOut
  by_cases hck : ckP L ≠ 0
  · rw [if_pos hck]
    generalize ckP L = ck at *
    refine fc_of mixed T_ok Try.func20 rfl (by kernel_rfl) (by kernel_rfl) (by kernel_rfl) ?_
    repeat' ((conv => whnf); first | (refine vcall_out (l :=  [0, 1]) (c1 ) ⟨rfl, rfl, rfl, rfl, (by (repeat' (first | exact trivial | exact GB_wf | exact fun _ _ => rfl | constructor)); first | done | fail), (by (repeat' (first | exact trivial | exact GB_fits rfl | constructor)); first | done | fail)⟩ ?_) | (refine br_dec (fun h => ?_) (fun h => ?_) <;> try (exfalso; (try dsimp only at h); omega)) | (refine br_ndec (fun h => ?_) (fun h => ?_) <;> try (exfalso; (try dsimp only at h); omega)) | refine br_seq (fun h => ?_) (fun h => ?_) | refine br_nseq (fun h => ?_) (fun h => ?_) | refine br_not (fun h => ?_) (fun h => ?_) | refine br_intro (fun h => ?_) (fun h => ?_) | refine cond_intro rfl ?_ | (refine cond_intro ⟨rfl, ?_⟩ ?_; (first | omega | (dsimp only; omega) | decide)) | (refine cond_intro ?_ ?_; (first | omega | (dsimp only; omega) | decide | (simp only [Nat.add_zero, Int.toNat_natCast, *]; omega))))
    all_goals (conv => whnf)
    all_goals first
      | exact ret_out (l := [0, 1]) rfl rfl trivial allRw_nil
      | (exfalso; omega)
      | trace_state
  rw [if_neg hck]
  have hz := Classical.not_not.1 hck
  rw [hz] at c1
  have hsg := (ckP_zero hz).1
  have c2 := r41_Sorted L N hn (by omega) (sgP_dist hsg)
  have h0 : SfI L (nz (srt L)) [] (nz L).length 0 := ⟨seT_PS hz, RfI_of hsg (by omega), (((srt_perm L).filter _).length_eq), rfl, by have := nz_len L; omega⟩
  rw [show nz (srt L) = srt (nz L) from ((srt_of ((srt_perm L).filter _) ((srt_asc (sgP_dist hsg)).sublist List.filter_sublist))).symm] at h0
  refine fc_of mixed T_ok Try.func20 rfl (by kernel_rfl) (by kernel_rfl) (by kernel_rfl) ?_
  repeat' ((conv => whnf); first | (refine vcall_out (l :=  [0, 1]) (c1 ) ⟨rfl, rfl, rfl, rfl, (by (repeat' (first | exact trivial | exact GB_wf | exact fun _ _ => rfl | constructor)); first | done | fail), (by (repeat' (first | exact trivial | exact GB_fits rfl | constructor)); first | done | fail)⟩ ?_) | (refine vcall_out (l :=  [0, 1]) (c2 ) ⟨rfl, rfl, rfl, rfl, (by (repeat' (first | exact trivial | exact GB_wf | exact fun _ _ => rfl | constructor)); first | done | fail), (by (repeat' (first | exact trivial | exact GB_fits rfl | constructor)); first | done | fail)⟩ ?_) | (refine br_dec (fun h => ?_) (fun h => ?_) <;> try (exfalso; (try dsimp only at h); omega)) | (refine br_ndec (fun h => ?_) (fun h => ?_) <;> try (exfalso; (try dsimp only at h); omega)) | refine br_seq (fun h => ?_) (fun h => ?_) | refine br_nseq (fun h => ?_) (fun h => ?_) | refine br_not (fun h => ?_) (fun h => ?_) | refine br_intro (fun h => ?_) (fun h => ?_) | refine cond_intro rfl ?_ | (refine cond_intro ⟨rfl, ?_⟩ ?_; (first | omega | (dsimp only; omega) | decide)) | (refine cond_intro ?_ ?_; (first | omega | (dsimp only; omega) | decide | (simp only [Nat.add_zero, Int.toNat_natCast, *]; omega))))
  all_goals (conv => whnf)
  refine vloop_lp (fun x : Nat × Nat × List Ps × List Tx => ⟨[(5, .sl 3 0 0 x.2.1), (6, .sl 2 0 0 x.1)], [(2, some (.one false (psB x.1 (pcOf x.2.2.1)))), (3, some (.one false (txB x.2.1 (tcOf x.2.2.2))))], 4⟩) (fun x => SfI L x.2.2.1 x.2.2.2 x.1 x.2.1) (fun x => x.1) ((nz L).length, 0, srt (nz L), []) [0, 1, 2, 3] [.slot 5 [.sc (.strs []), .sc (.strs []), .sc (.ints .i64 []), .sc (.strs [])]] ⟨rfl, ⟨rfl, rfl, trivial⟩, ⟨rfl, rfl, trivial⟩⟩ h0 ?_
  rintro ⟨k, m, R, T⟩ hI
  dsimp only at hI
  dsimp only
  obtain ⟨hps, hok, hk, hm, htl⟩ := hI
  by_cases hk0 : 0 < k
  · obtain ⟨d, e, x, hS, hfd, hte, hnx⟩ := PS_inv hps (by omega)
    have hgl := grN_le (pcOf R).c 0
    have hgp := grN_pos (C := (pcOf R).c) (o := 0) (by simp [pcOf]; omega)
    have hCl : (pcOf R).c.length = k := by simp [pcOf, hk]
    rw [hCl] at hgl
    have cF := r41_first R k (grN (pcOf R).c 0) hk (by omega) hgp (by omega) (fun j hj => grN_in hj) (fun q => by have := grN_end (C := (pcOf R).c) (o := 0) (by omega); rwa [Nat.add_zero] at this) (RfI_bd hok)
    rw [hfd, hte, (atP R d).1, (atP R e).1, (atP R d).2.1, (atP R e).2.1, (atP R 0).2.2, ← hS.am, hS.dk.1, hS.ek.1, ← hS.cc] at cF
    obtain ⟨a1, a2⟩ := step_ap hS.toStepK hok
    have hrl := hok.len
    have hx1 : SmT [x] := by
      intro j
      cases j with
      | zero =>
        have o1 := (hok.ok _ (mem_getD.2 ⟨d, hS.d1, rfl⟩)).1
        have o2 := (hok.ok _ (mem_getD.2 ⟨e, hS.e1, rfl⟩)).1
        rw [hS.dk.1] at o1
        rw [hS.ek.1] at o2
        exact ⟨nmB_size o1, nmB_size o2⟩
      | succ j => exact ⟨Nat.zero_le _, Nat.zero_le _⟩
    have cA := r41_Apply R [x] k 1 hk rfl (by omega) (by omega) (RfI_sm hok) hx1
    unfold apOut at cA
    rw [if_neg (fun q => q a1), a2] at cA
    have hok2 := step_RfI hS.toStepK hok
    have hlt := step_len hS.toStepK (asc_dist hok.asc)
    generalize hQ : nz (upd R x) = Q at *
    have hI2 : SfI L Q (T ++ [x]) Q.length (m + 1) := ⟨hnx, hok2, rfl, by rw [List.length_append, hm]; rfl, by omega⟩
    clear hps hnx h0 c1 c2
    have hr3 := rowTx2 (T := T) (m := m) x
    obtain ⟨xf, xt, xa, xc⟩ := x
    dsimp only at cF
    dsimp only at hr3
    repeat' ((conv => whnf); first | (refine vcall_out (l :=  [0, 2]) (cF ) ⟨rfl, rfl, rfl, rfl, (by (repeat' (first | exact trivial | exact GB_wf | exact fun _ _ => rfl | constructor)); first | done | fail), (by (repeat' (first | exact trivial | exact GB_fits rfl | constructor)); first | done | fail)⟩ ?_) | (refine vcall_out (l :=  [0, 2, 7]) (cA ) ⟨rfl, rfl, rfl, rfl, (by (repeat' (first | exact trivial | exact GB_wf | exact fun _ _ => rfl | constructor)); first | done | fail), (by (repeat' (first | exact trivial | exact GB_fits rfl | constructor)); first | done | fail)⟩ ?_) | (refine br_dec (fun h => ?_) (fun h => ?_) <;> try (exfalso; (try dsimp only at h); omega)) | (refine br_ndec (fun h => ?_) (fun h => ?_) <;> try (exfalso; (try dsimp only at h); omega)) | refine br_seq (fun h => ?_) (fun h => ?_) | refine br_nseq (fun h => ?_) (fun h => ?_) | refine br_not (fun h => ?_) (fun h => ?_) | refine br_intro (fun h => ?_) (fun h => ?_) | refine cond_intro rfl ?_ | (refine cond_intro ⟨rfl, ?_⟩ ?_; (first | omega | (dsimp only; omega) | decide)) | (refine cond_intro ?_ ?_; (first | omega | (dsimp only; omega) | decide | (simp only [Nat.add_zero, Int.toNat_natCast, *]; omega))))
    all_goals (conv => whnf)
    refine ⟨(Q.length, m + 1, Q, T ++ [⟨xf, xt, xa, xc⟩]), [0, 1, 8, 6], [], hI2, (show Q.length < k by omega), ?_⟩
    refine ⟨rfl, ⟨?_, ?_, trivial⟩, ⟨?_, ?_, trivial⟩⟩
    · rfl
    · rfl
    · rfl
    · exact hr3
  · have e : k = 0 := by omega
    subst e
    have hR := List.length_eq_zero_iff.1 hk
    subst hR
    have hT : seT L = T := by cases hps with
      | done => rfl
      | step h => simp at h
    rw [hT, hm]
    repeat' ((conv => whnf); first | (refine br_dec (fun h => ?_) (fun h => ?_) <;> try (exfalso; (try dsimp only at h); omega)) | (refine br_ndec (fun h => ?_) (fun h => ?_) <;> try (exfalso; (try dsimp only at h); omega)) | refine br_seq (fun h => ?_) (fun h => ?_) | refine br_nseq (fun h => ?_) (fun h => ?_) | refine br_not (fun h => ?_) (fun h => ?_) | refine br_intro (fun h => ?_) (fun h => ?_) | refine cond_intro rfl ?_ | (refine cond_intro ⟨rfl, ?_⟩ ?_; (first | omega | (dsimp only; omega) | decide)) | (refine cond_intro ?_ ?_; (first | omega | (dsimp only; omega) | decide | (simp only [Nat.add_zero, Int.toNat_natCast, *]; omega))))
    all_goals (conv => whnf)
    all_goals first
      | exact ret_out (l := [0, 1, 3]) rfl rfl ⟨rfl, trivial⟩ (allRw_cons allRw_nil)
      | (exfalso; omega)
      | trace_state
end Go.Proofs.Ytmibjgblhaohiaa

/- The examples of the chapter on netting. -/
namespace Go.Proofs.Ytmibjgblhaohiaa
open Go.RowKit Go.Sy
attribute [local irreducible] vcall vloop vcallD retP
set_option maxRecDepth 100000
set_option linter.unusedVariables false
set_option linter.unusedSimpArgs false

abbrev sA : ByteArray := ⟨#[97]⟩
abbrev sB : ByteArray := ⟨#[98]⟩
abbrev sC : ByteArray := ⟨#[99]⟩
abbrev sD : ByteArray := ⟨#[100]⟩
abbrev USD : ByteArray := ⟨#[85, 83, 68]⟩
abbrev awL : List Ps := [⟨sB, 70, EUR⟩, ⟨sA, -100, EUR⟩, ⟨sC, 30, EUR⟩]
abbrev awM : List Ps := [⟨sA, -50, EUR⟩, ⟨sB, -50, EUR⟩, ⟨sC, 60, EUR⟩, ⟨sD, 40, EUR⟩]
abbrev awT : List Tx := [⟨sA, sB, 70, EUR⟩, ⟨sA, sC, 30, EUR⟩]
abbrev awU : List Tx := [⟨sA, sC, 50, EUR⟩, ⟨sB, sD, 40, EUR⟩, ⟨sB, sC, 10, EUR⟩]
theorem awL_ck : ckP awL = 0 := by kernel_rfl
theorem awM_ck : ckP awM = 0 := by kernel_rfl
theorem awL_se : seT awL = awT := by
  unfold seT
  rw [if_neg (fun q => q awL_ck), srt_of (m := [⟨sA, -100, EUR⟩, ⟨sB, 70, EUR⟩, ⟨sC, 30, EUR⟩]) (List.Perm.swap _ _ _) (List.pairwise_cons.2 ⟨fun x hx => by simp only [List.mem_cons, List.not_mem_nil, or_false] at hx; rcases hx with rfl | rfl <;> kernel_rfl, List.pairwise_cons.2 ⟨fun x hx => by simp only [List.mem_cons, List.not_mem_nil, or_false] at hx; subst hx; kernel_rfl, List.pairwise_singleton _ _⟩⟩)]
  kernel_rfl
theorem awM_se : seT awM = awU := by
  unfold seT
  rw [if_neg (fun q => q awM_ck), srt_of (m := awM) (List.Perm.refl _) (List.pairwise_cons.2 ⟨fun x hx => by simp only [List.mem_cons, List.not_mem_nil, or_false] at hx; rcases hx with rfl | rfl | rfl <;> kernel_rfl, List.pairwise_cons.2 ⟨fun x hx => by simp only [List.mem_cons, List.not_mem_nil, or_false] at hx; rcases hx with rfl | rfl <;> kernel_rfl, List.pairwise_cons.2 ⟨fun x hx => by simp only [List.mem_cons, List.not_mem_nil, or_false] at hx; subst hx; kernel_rfl, List.pairwise_singleton _ _⟩⟩⟩)]
  kernel_rfl
abbrev awX : List Ps := [⟨sA, 5, EUR⟩, ⟨sB, -5, EUR⟩]
theorem awX_er : apErr [] [⟨sA, sB, 5, EUR⟩] = 0 := by kernel_rfl
theorem awX_re : apRes [] [⟨sA, sB, 5, EUR⟩] = awX := by
  unfold apRes
  rw [if_neg (fun q => q awX_er), show nz (apK [] [⟨sA, sB, 5, EUR⟩] [(⟨sA, sB, 5, EUR⟩ : Tx)].length).2 = awX by kernel_rfl]
  exact srt_of (List.Perm.refl _) (List.pairwise_cons.2 ⟨fun x hx => by simp only [List.mem_cons, List.not_mem_nil, or_false] at hx; subst hx; kernel_rfl, List.pairwise_singleton _ _⟩)
abbrev awV : List Ps := [⟨sA, -1, EUR⟩, ⟨sB, 1, EUR⟩]
theorem awV_va : vaB awV [⟨sA, sB, 1, EUR⟩] = true := by
  have h1 : ckP awV = 0 := by kernel_rfl
  have h2 : apErr awV [⟨sA, sB, 1, EUR⟩] = 0 := by kernel_rfl
  have h3 : apRes awV [⟨sA, sB, 1, EUR⟩] = [] := by
    unfold apRes
    rw [if_neg (fun q => q h2), show nz (apK awV [⟨sA, sB, 1, EUR⟩] [(⟨sA, sB, 1, EUR⟩ : Tx)].length).2 = [] by kernel_rfl]
    exact srt_of (List.Perm.refl _) List.Pairwise.nil
  unfold vaB
  rw [decide_eq_true_iff]
  refine ⟨h1, ?_, h2, by rw [h3]; rfl⟩
  intro j hj
  have : j = 0 := by simp at hj; omega
  subst this
  exact ⟨fun q => absurd q (by decide), by decide⟩
theorem law_awake : Pure Try.prog 9 [] (.bool true) := by
  have c1 := net_Settle awL 3 rfl (by decide)
  have c2 := net_Settle awM 4 rfl (by decide)
  unfold seOut at c1 c2
  rw [if_neg (fun q => q awL_ck), awL_se] at c1
  rw [if_neg (fun q => q awM_ck), awM_se] at c2
  have c3 := fc_argnil (n := 2) (args := [.nsl, .sl 1 0 0 1]) rfl (by exact ⟨.inr ⟨rfl, rfl⟩, .inl rfl, trivial⟩) (net_ApplyB [] [⟨sA, sB, 5, EUR⟩] 0 1 rfl rfl (by decide) (by decide))
  unfold apOut at c3
  rw [if_neg (fun q => q awX_er), awX_re] at c3
  have c4 := r41_SameTr awT 2 (by decide)
  have c5 := r41_SameTr awU 3 (by decide)
  have c6 := r41_Same awX 2 (by decide)
  have c7 := net_Check [⟨sA, -1, EUR⟩, ⟨sB, 1, USD⟩] 2 rfl (by decide)
  rw [show ckP [⟨sA, -1, EUR⟩, ⟨sB, 1, USD⟩] = 26 by kernel_rfl] at c7
  have c8 := net_Volume awU EUR 3 rfl (by decide)
  rw [show voK awU EUR 3 = 100 by kernel_rfl] at c8
  have c9 := net_Valid awV [⟨sA, sB, 1, EUR⟩] 2 1 rfl rfl (by decide) (by decide)
  rw [awV_va] at c9
  refine fc_of mixed T_ok Try.func9 rfl (by kernel_rfl) (by kernel_rfl) (by kernel_rfl) ?_
  repeat' ((conv => whnf); first | (refine vcall_pure (law_net _ _) rfl rfl rfl ?_) | (refine vcall_pure (law_pay _ _ _) rfl rfl rfl ?_) | (refine vcallD_pure (law_net _ _) rfl rfl rfl ?_) | (refine vcallD_pure (law_pay _ _ _) rfl rfl rfl ?_) | (refine vcall_out (l :=  [0, 1]) (c1 ) ⟨rfl, rfl, rfl, rfl, (by (repeat' (first | exact trivial | exact GB_wf | exact fun _ _ => rfl | constructor)); first | done | fail), (by (repeat' (first | exact trivial | exact GB_fits rfl | constructor)); first | done | fail)⟩ ?_) | (refine vcall_out (l :=  [0, 3]) (c2 ) ⟨rfl, rfl, rfl, rfl, (by (repeat' (first | exact trivial | exact GB_wf | exact fun _ _ => rfl | constructor)); first | done | fail), (by (repeat' (first | exact trivial | exact GB_fits rfl | constructor)); first | done | fail)⟩ ?_) | (refine vcall_out (l :=  [0, 5]) (c3 ) ⟨rfl, rfl, rfl, rfl, (by (repeat' (first | exact trivial | exact GB_wf | exact fun _ _ => rfl | constructor)); first | done | fail), (by (repeat' (first | exact trivial | exact GB_fits rfl | constructor)); first | done | fail)⟩ ?_) | (refine vcall_out (l :=  [0, 2, 8]) (c4 ) ⟨rfl, rfl, rfl, rfl, (by (repeat' (first | exact trivial | exact GB_wf | exact fun _ _ => rfl | constructor)); first | done | fail), (by (repeat' (first | exact trivial | exact GB_fits rfl | constructor)); first | done | fail)⟩ ?_) | (refine vcallD_out (l :=  [0, 2, 8]) (c4 ) ⟨rfl, rfl, rfl, rfl, (by (repeat' (first | exact trivial | exact GB_wf | exact fun _ _ => rfl | constructor)); first | done | fail), (by (repeat' (first | exact trivial | exact GB_fits rfl | constructor)); first | done | fail)⟩ ?_) | (refine vcall_out (l :=  [0, 4, 9]) (c5 ) ⟨rfl, rfl, rfl, rfl, (by (repeat' (first | exact trivial | exact GB_wf | exact fun _ _ => rfl | constructor)); first | done | fail), (by (repeat' (first | exact trivial | exact GB_fits rfl | constructor)); first | done | fail)⟩ ?_) | (refine vcallD_out (l :=  [0, 4, 9]) (c5 ) ⟨rfl, rfl, rfl, rfl, (by (repeat' (first | exact trivial | exact GB_wf | exact fun _ _ => rfl | constructor)); first | done | fail), (by (repeat' (first | exact trivial | exact GB_fits rfl | constructor)); first | done | fail)⟩ ?_) | (refine vcall_out (l :=  [0, 7, 10]) (c6 ) ⟨rfl, rfl, rfl, rfl, (by (repeat' (first | exact trivial | exact GB_wf | exact fun _ _ => rfl | constructor)); first | done | fail), (by (repeat' (first | exact trivial | exact GB_fits rfl | constructor)); first | done | fail)⟩ ?_) | (refine vcallD_out (l :=  [0, 7, 10]) (c6 ) ⟨rfl, rfl, rfl, rfl, (by (repeat' (first | exact trivial | exact GB_wf | exact fun _ _ => rfl | constructor)); first | done | fail), (by (repeat' (first | exact trivial | exact GB_fits rfl | constructor)); first | done | fail)⟩ ?_) | (refine vcall_out (l :=  [0, 11]) (c7 ) ⟨rfl, rfl, rfl, rfl, (by (repeat' (first | exact trivial | exact GB_wf | exact fun _ _ => rfl | constructor)); first | done | fail), (by (repeat' (first | exact trivial | exact GB_fits rfl | constructor)); first | done | fail)⟩ ?_) | (refine vcallD_out (l :=  [0, 11]) (c7 ) ⟨rfl, rfl, rfl, rfl, (by (repeat' (first | exact trivial | exact GB_wf | exact fun _ _ => rfl | constructor)); first | done | fail), (by (repeat' (first | exact trivial | exact GB_fits rfl | constructor)); first | done | fail)⟩ ?_) | (refine vcall_out (l :=  [0, 4]) (c8 ) ⟨rfl, rfl, rfl, rfl, (by (repeat' (first | exact trivial | exact GB_wf | exact fun _ _ => rfl | constructor)); first | done | fail), (by (repeat' (first | exact trivial | exact GB_fits rfl | constructor)); first | done | fail)⟩ ?_) | (refine vcallD_out (l :=  [0, 4]) (c8 ) ⟨rfl, rfl, rfl, rfl, (by (repeat' (first | exact trivial | exact GB_wf | exact fun _ _ => rfl | constructor)); first | done | fail), (by (repeat' (first | exact trivial | exact GB_fits rfl | constructor)); first | done | fail)⟩ ?_) | (refine vcall_out (l :=  [0, 12, 13]) (c9 ) ⟨rfl, rfl, rfl, rfl, (by (repeat' (first | exact trivial | exact GB_wf | exact fun _ _ => rfl | constructor)); first | done | fail), (by (repeat' (first | exact trivial | exact GB_fits rfl | constructor)); first | done | fail)⟩ ?_) | (refine vcallD_out (l :=  [0, 12, 13]) (c9 ) ⟨rfl, rfl, rfl, rfl, (by (repeat' (first | exact trivial | exact GB_wf | exact fun _ _ => rfl | constructor)); first | done | fail), (by (repeat' (first | exact trivial | exact GB_fits rfl | constructor)); first | done | fail)⟩ ?_) | (refine br_dec (fun h => ?_) (fun h => ?_) <;> try (exfalso; (try dsimp only at h); omega)) | (refine br_ndec (fun h => ?_) (fun h => ?_) <;> try (exfalso; (try dsimp only at h); omega)) | refine br_seq (fun h => ?_) (fun h => ?_) | refine br_nseq (fun h => ?_) (fun h => ?_) | refine br_not (fun h => ?_) (fun h => ?_) | refine br_intro (fun h => ?_) (fun h => ?_) | refine cond_intro rfl ?_ | (refine cond_intro ⟨rfl, ?_⟩ ?_; (first | omega | (dsimp only; omega) | decide)) | (refine cond_intro ?_ ?_; (first | omega | (dsimp only; omega) | decide | (simp only [Nat.add_zero, Int.toNat_natCast, *]; omega))))
  all_goals (conv => whnf)
  all_goals first
    | exact ret_pure rfl
    | trace_state
end Go.Proofs.Ytmibjgblhaohiaa

/- The laws NettingApplies and NettingTransfers, on rows. -/
namespace Go.Proofs.Ytmibjgblhaohiaa
open Go.RowKit Go.Sy
attribute [local irreducible] vcall vloop vcallD retP
set_option maxRecDepth 100000
set_option linter.unusedVariables false
set_option linter.unusedSimpArgs false

theorem smL_P {L : List Ps} {T : List Tx} (h : smL L T) : SmP L := by
  intro k
  by_cases hk : k < L.length
  · have := (h.2.1 k hk).1; omega
  · rw [List.getD, List.getElem?_eq_none (by omega)]; exact Nat.zero_le _
theorem smL_T {L : List Ps} {T : List Tx} (h : smL L T) : SmT T := by
  intro k
  by_cases hk : k < T.length
  · have := h.2.2 k hk; exact ⟨by omega, by omega⟩
  · rw [List.getD, List.getElem?_eq_none (by omega)]; exact ⟨Nat.zero_le _, Nat.zero_le _⟩
theorem apRes_len {L : List Ps} {T : List Tx} (h : smL L T) : (apRes L T).length ≤ 100000 := by
  unfold apRes
  split
  · exact Nat.zero_le _
  · rename_i q
    have q2 : (apK L T T.length).1 = 0 ∧ sgP L = 0 := by
      have q3 := Classical.not_not.1 q
      unfold apErr at q3
      split at q3
      · rename_i q4; exact absurd q3 q4
      · rename_i q4; exact ⟨q3, Classical.not_not.1 q4⟩
    have h1 := (apK_ok (sgP_rw q2.2) q2.1).2
    have h2 := nz_len (apK L T T.length).2
    have h3 := (srt_perm (nz (apK L T T.length).2)).length_eq
    have h4 := h.1.1
    have h5 := h.1.2
    omega
theorem PS_len {R : List Ps} {T T' : List Tx} (h : PS R T T') : RfI R → T'.length ≤ T.length + R.length := by
  refine PS_rec (M := fun R T T' => RfI R → T'.length ≤ T.length + R.length) (fun T _ => by simp) (fun R T T' d e x hS hn ih hI => ?_) h
  have h1 := ih (step_RfI hS.toStepK hI)
  have h2 := step_len hS.toStepK (asc_dist hI.asc)
  rw [List.length_append, List.length_cons, List.length_nil] at h1
  omega
theorem seT_len {L : List Ps} (h : ckP L = 0) (hl : L.length ≤ 400) : (seT L).length ≤ L.length := by
  have h1 := PS_len (seT_PS h) (RfI_of (ckP_zero h).1 hl)
  have h2 := nz_len (srt L)
  have h3 := (srt_perm L).length_eq
  simp only [List.length_nil] at h1
  omega
theorem hget_swap {a b : Nat} {x y : Option HB} (h : a ≠ b) (k : Nat) : hget [(b, y), (a, x)] k = hget [(a, x), (b, y)] k := by
  simp only [hget]
  cases ha : Nat.beq a k <;> cases hb : Nat.beq b k <;> try rfl
  exact absurd ((Nat.eq_of_beq_eq_true ha).trans (Nat.eq_of_beq_eq_true hb).symm) h
theorem law_smallN (L : List Ps) (n : Nat) (hn : L.length = n) : FC Try.prog 2 8 [.sl 1 0 0 n, .nsl] [(1, some (.one true (psB n (pcOf L))))] (isOut (.bool (decide (smL L []))) [] 3) := by
  have h := fc_ext (H' := [(2, some (.one true (txB 0 (tcOf [])))), (1, some (.one true (psB n (pcOf L))))]) (hget_swap (by decide)) (law_small L [] n 0 hn rfl)
  exact fc_argnil (n := 2) (args := [.sl 1 0 0 n, .nsl]) (args1 := [.sl 1 0 0 n, .sl 2 0 0 0]) (cs := [.sc (.strs []), .sc (.strs []), .sc (.ints .i64 []), .sc (.strs [])]) rfl (by exact ⟨.inl rfl, .inr ⟨rfl, rfl⟩, trivial⟩) h
theorem law_Applies (L : List Ps) (T : List Tx) (c : ByteArray) (n m : Nat) (hn : L.length = n) (hm : T.length = m) : FC Try.prog 3 3 [.sl 1 0 0 n, .sl 2 0 0 m, .str c] [(1, some (.one true (psB n (pcOf L)))), (2, some (.one true (txB m (tcOf T))))] (isOut (.bool true) [] 3) := by
  have c0 := law_small L T n m hn hm
  have cw := law_awake
  by_cases hs : smL L T
  · rw [decide_eq_true hs] at c0
    have h1 := hs.1.1
    have h2 := hs.1.2
    have c1 := net_Apply L T n m hn hm (by omega) (by omega)
    have c2 := r41_Apply L T n m hn hm (by omega) (by omega) (smL_P hs) (smL_T hs)
    have c3 := net_Check L n hn (by omega)
    have c4 := r41_Check L n hn (by omega) (smL_P hs)
    have c5 := net_Valid L T n m hn hm (by omega) (by omega)
    have c6 := r41_Valid L T n m hn hm (by omega) (by omega) (smL_P hs) (smL_T hs)
    have c7 := net_Volume T c m hm (by omega)
    have c8 := r41_Volume T c m hm (by omega)
    have hrl : (apRes L T).length ≤ 100000 := apRes_len hs
    generalize ckP L = ck at *
    generalize vaB L T = va at *
    generalize voK T c m = vo at *
    unfold apOut at c1 c2
    by_cases he : apErr L T ≠ 0
    · rw [if_pos he] at c1 c2
      generalize apErr L T = er at *
      have c9 := r41_SameN
      refine fc_of mixed T_ok Try.func3 rfl (by kernel_rfl) (by kernel_rfl) (by kernel_rfl) ?_
      repeat' ((conv => whnf); first | (refine vcall_out (l :=  [0, 1, 2]) (c0 ) ⟨rfl, rfl, rfl, rfl, (by (repeat' (first | exact trivial | exact GB_wf | exact fun _ _ => rfl | constructor)); first | done | fail), (by (repeat' (first | exact trivial | exact GB_fits rfl | constructor)); first | done | fail)⟩ ?_) | (refine vcall_out (l :=  [0, 1, 2]) (c1 ) ⟨rfl, rfl, rfl, rfl, (by (repeat' (first | exact trivial | exact GB_wf | exact fun _ _ => rfl | constructor)); first | done | fail), (by (repeat' (first | exact trivial | exact GB_fits rfl | constructor)); first | done | fail)⟩ ?_) | (refine vcall_out (l :=  [0, 1, 2]) (c2 ) ⟨rfl, rfl, rfl, rfl, (by (repeat' (first | exact trivial | exact GB_wf | exact fun _ _ => rfl | constructor)); first | done | fail), (by (repeat' (first | exact trivial | exact GB_fits rfl | constructor)); first | done | fail)⟩ ?_) | (refine vcall_out (l :=  [0, 1]) (c3 ) ⟨rfl, rfl, rfl, rfl, (by (repeat' (first | exact trivial | exact GB_wf | exact fun _ _ => rfl | constructor)); first | done | fail), (by (repeat' (first | exact trivial | exact GB_fits rfl | constructor)); first | done | fail)⟩ ?_) | (refine vcall_out (l :=  [0, 1]) (c4 ) ⟨rfl, rfl, rfl, rfl, (by (repeat' (first | exact trivial | exact GB_wf | exact fun _ _ => rfl | constructor)); first | done | fail), (by (repeat' (first | exact trivial | exact GB_fits rfl | constructor)); first | done | fail)⟩ ?_) | (refine vcallD_out (l :=  [0, 1]) (c3 ) ⟨rfl, rfl, rfl, rfl, (by (repeat' (first | exact trivial | exact GB_wf | exact fun _ _ => rfl | constructor)); first | done | fail), (by (repeat' (first | exact trivial | exact GB_fits rfl | constructor)); first | done | fail)⟩ ?_) | (refine vcallD_out (l :=  [0, 1]) (c4 ) ⟨rfl, rfl, rfl, rfl, (by (repeat' (first | exact trivial | exact GB_wf | exact fun _ _ => rfl | constructor)); first | done | fail), (by (repeat' (first | exact trivial | exact GB_fits rfl | constructor)); first | done | fail)⟩ ?_) | (refine vcall_out (l :=  [0, 1, 2]) (c5 ) ⟨rfl, rfl, rfl, rfl, (by (repeat' (first | exact trivial | exact GB_wf | exact fun _ _ => rfl | constructor)); first | done | fail), (by (repeat' (first | exact trivial | exact GB_fits rfl | constructor)); first | done | fail)⟩ ?_) | (refine vcall_out (l :=  [0, 1, 2]) (c6 ) ⟨rfl, rfl, rfl, rfl, (by (repeat' (first | exact trivial | exact GB_wf | exact fun _ _ => rfl | constructor)); first | done | fail), (by (repeat' (first | exact trivial | exact GB_fits rfl | constructor)); first | done | fail)⟩ ?_) | (refine vcallD_out (l :=  [0, 1, 2]) (c5 ) ⟨rfl, rfl, rfl, rfl, (by (repeat' (first | exact trivial | exact GB_wf | exact fun _ _ => rfl | constructor)); first | done | fail), (by (repeat' (first | exact trivial | exact GB_fits rfl | constructor)); first | done | fail)⟩ ?_) | (refine vcallD_out (l :=  [0, 1, 2]) (c6 ) ⟨rfl, rfl, rfl, rfl, (by (repeat' (first | exact trivial | exact GB_wf | exact fun _ _ => rfl | constructor)); first | done | fail), (by (repeat' (first | exact trivial | exact GB_fits rfl | constructor)); first | done | fail)⟩ ?_) | (refine vcall_out (l :=  [0, 2]) (c7 ) ⟨rfl, rfl, rfl, rfl, (by (repeat' (first | exact trivial | exact GB_wf | exact fun _ _ => rfl | constructor)); first | done | fail), (by (repeat' (first | exact trivial | exact GB_fits rfl | constructor)); first | done | fail)⟩ ?_) | (refine vcall_out (l :=  [0, 2]) (c8 ) ⟨rfl, rfl, rfl, rfl, (by (repeat' (first | exact trivial | exact GB_wf | exact fun _ _ => rfl | constructor)); first | done | fail), (by (repeat' (first | exact trivial | exact GB_fits rfl | constructor)); first | done | fail)⟩ ?_) | (refine vcallD_out (l :=  [0, 2]) (c7 ) ⟨rfl, rfl, rfl, rfl, (by (repeat' (first | exact trivial | exact GB_wf | exact fun _ _ => rfl | constructor)); first | done | fail), (by (repeat' (first | exact trivial | exact GB_fits rfl | constructor)); first | done | fail)⟩ ?_) | (refine vcallD_out (l :=  [0, 2]) (c8 ) ⟨rfl, rfl, rfl, rfl, (by (repeat' (first | exact trivial | exact GB_wf | exact fun _ _ => rfl | constructor)); first | done | fail), (by (repeat' (first | exact trivial | exact GB_fits rfl | constructor)); first | done | fail)⟩ ?_) | (refine vcall_pure (c9) rfl rfl rfl ?_) | (refine vcallD_pure (c9) rfl rfl rfl ?_) | (refine vcall_pure (cw) rfl rfl rfl ?_) | (refine vcallD_pure (cw) rfl rfl rfl ?_) | (refine br_dec (fun h => ?_) (fun h => ?_) <;> try (exfalso; (try dsimp only at h); omega)) | (refine br_ndec (fun h => ?_) (fun h => ?_) <;> try (exfalso; (try dsimp only at h); omega)) | refine br_seq (fun h => ?_) (fun h => ?_) | refine br_nseq (fun h => ?_) (fun h => ?_) | refine br_not (fun h => ?_) (fun h => ?_) | refine br_intro (fun h => ?_) (fun h => ?_) | refine cond_intro rfl ?_ | (refine cond_intro ⟨rfl, ?_⟩ ?_; (first | omega | (dsimp only; omega) | decide)) | (refine cond_intro ?_ ?_; (first | omega | (dsimp only; omega) | decide | (simp only [Nat.add_zero, Int.toNat_natCast, *]; omega))))
      all_goals (conv => whnf)
      all_goals first
        | exact ret_out (l := [0, 1, 2]) rfl rfl trivial allRw_nil
        | (exfalso; first | omega | contradiction)
        | trace_state
    · rw [if_neg he] at c1 c2
      have c9 := r41_Same (apRes L T) (apRes L T).length hrl
      generalize hR : (apRes L T).length = r at *
      generalize apRes L T = R at *
      refine fc_of mixed T_ok Try.func3 rfl (by kernel_rfl) (by kernel_rfl) (by kernel_rfl) ?_
      repeat' ((conv => whnf); first | (refine vcall_out (l :=  [0, 1, 2]) (c0 ) ⟨rfl, rfl, rfl, rfl, (by (repeat' (first | exact trivial | exact GB_wf | exact fun _ _ => rfl | constructor)); first | done | fail), (by (repeat' (first | exact trivial | exact GB_fits rfl | constructor)); first | done | fail)⟩ ?_) | (refine vcall_out (l :=  [0, 1, 2]) (c1 ) ⟨rfl, rfl, rfl, rfl, (by (repeat' (first | exact trivial | exact GB_wf | exact fun _ _ => rfl | constructor)); first | done | fail), (by (repeat' (first | exact trivial | exact GB_fits rfl | constructor)); first | done | fail)⟩ ?_) | (refine vcall_out (l :=  [0, 1, 2]) (c2 ) ⟨rfl, rfl, rfl, rfl, (by (repeat' (first | exact trivial | exact GB_wf | exact fun _ _ => rfl | constructor)); first | done | fail), (by (repeat' (first | exact trivial | exact GB_fits rfl | constructor)); first | done | fail)⟩ ?_) | (refine vcall_out (l :=  [0, 1]) (c3 ) ⟨rfl, rfl, rfl, rfl, (by (repeat' (first | exact trivial | exact GB_wf | exact fun _ _ => rfl | constructor)); first | done | fail), (by (repeat' (first | exact trivial | exact GB_fits rfl | constructor)); first | done | fail)⟩ ?_) | (refine vcall_out (l :=  [0, 1]) (c4 ) ⟨rfl, rfl, rfl, rfl, (by (repeat' (first | exact trivial | exact GB_wf | exact fun _ _ => rfl | constructor)); first | done | fail), (by (repeat' (first | exact trivial | exact GB_fits rfl | constructor)); first | done | fail)⟩ ?_) | (refine vcallD_out (l :=  [0, 1]) (c3 ) ⟨rfl, rfl, rfl, rfl, (by (repeat' (first | exact trivial | exact GB_wf | exact fun _ _ => rfl | constructor)); first | done | fail), (by (repeat' (first | exact trivial | exact GB_fits rfl | constructor)); first | done | fail)⟩ ?_) | (refine vcallD_out (l :=  [0, 1]) (c4 ) ⟨rfl, rfl, rfl, rfl, (by (repeat' (first | exact trivial | exact GB_wf | exact fun _ _ => rfl | constructor)); first | done | fail), (by (repeat' (first | exact trivial | exact GB_fits rfl | constructor)); first | done | fail)⟩ ?_) | (refine vcall_out (l :=  [0, 1, 2]) (c5 ) ⟨rfl, rfl, rfl, rfl, (by (repeat' (first | exact trivial | exact GB_wf | exact fun _ _ => rfl | constructor)); first | done | fail), (by (repeat' (first | exact trivial | exact GB_fits rfl | constructor)); first | done | fail)⟩ ?_) | (refine vcall_out (l :=  [0, 1, 2]) (c6 ) ⟨rfl, rfl, rfl, rfl, (by (repeat' (first | exact trivial | exact GB_wf | exact fun _ _ => rfl | constructor)); first | done | fail), (by (repeat' (first | exact trivial | exact GB_fits rfl | constructor)); first | done | fail)⟩ ?_) | (refine vcallD_out (l :=  [0, 1, 2]) (c5 ) ⟨rfl, rfl, rfl, rfl, (by (repeat' (first | exact trivial | exact GB_wf | exact fun _ _ => rfl | constructor)); first | done | fail), (by (repeat' (first | exact trivial | exact GB_fits rfl | constructor)); first | done | fail)⟩ ?_) | (refine vcallD_out (l :=  [0, 1, 2]) (c6 ) ⟨rfl, rfl, rfl, rfl, (by (repeat' (first | exact trivial | exact GB_wf | exact fun _ _ => rfl | constructor)); first | done | fail), (by (repeat' (first | exact trivial | exact GB_fits rfl | constructor)); first | done | fail)⟩ ?_) | (refine vcall_out (l :=  [0, 2]) (c7 ) ⟨rfl, rfl, rfl, rfl, (by (repeat' (first | exact trivial | exact GB_wf | exact fun _ _ => rfl | constructor)); first | done | fail), (by (repeat' (first | exact trivial | exact GB_fits rfl | constructor)); first | done | fail)⟩ ?_) | (refine vcall_out (l :=  [0, 2]) (c8 ) ⟨rfl, rfl, rfl, rfl, (by (repeat' (first | exact trivial | exact GB_wf | exact fun _ _ => rfl | constructor)); first | done | fail), (by (repeat' (first | exact trivial | exact GB_fits rfl | constructor)); first | done | fail)⟩ ?_) | (refine vcallD_out (l :=  [0, 2]) (c7 ) ⟨rfl, rfl, rfl, rfl, (by (repeat' (first | exact trivial | exact GB_wf | exact fun _ _ => rfl | constructor)); first | done | fail), (by (repeat' (first | exact trivial | exact GB_fits rfl | constructor)); first | done | fail)⟩ ?_) | (refine vcallD_out (l :=  [0, 2]) (c8 ) ⟨rfl, rfl, rfl, rfl, (by (repeat' (first | exact trivial | exact GB_wf | exact fun _ _ => rfl | constructor)); first | done | fail), (by (repeat' (first | exact trivial | exact GB_fits rfl | constructor)); first | done | fail)⟩ ?_) | (refine vcall_out (l :=  [0, 3, 4]) (c9 ) ⟨rfl, rfl, rfl, rfl, (by (repeat' (first | exact trivial | exact GB_wf | exact fun _ _ => rfl | constructor)); first | done | fail), (by (repeat' (first | exact trivial | exact GB_fits rfl | constructor)); first | done | fail)⟩ ?_) | (refine vcallD_out (l :=  [0, 3, 4]) (c9 ) ⟨rfl, rfl, rfl, rfl, (by (repeat' (first | exact trivial | exact GB_wf | exact fun _ _ => rfl | constructor)); first | done | fail), (by (repeat' (first | exact trivial | exact GB_fits rfl | constructor)); first | done | fail)⟩ ?_) | (refine vcall_pure (cw) rfl rfl rfl ?_) | (refine vcallD_pure (cw) rfl rfl rfl ?_) | (refine br_dec (fun h => ?_) (fun h => ?_) <;> try (exfalso; (try dsimp only at h); omega)) | (refine br_ndec (fun h => ?_) (fun h => ?_) <;> try (exfalso; (try dsimp only at h); omega)) | refine br_seq (fun h => ?_) (fun h => ?_) | refine br_nseq (fun h => ?_) (fun h => ?_) | refine br_not (fun h => ?_) (fun h => ?_) | refine br_intro (fun h => ?_) (fun h => ?_) | refine cond_intro rfl ?_ | (refine cond_intro ⟨rfl, ?_⟩ ?_; (first | omega | (dsimp only; omega) | decide)) | (refine cond_intro ?_ ?_; (first | omega | (dsimp only; omega) | decide | (simp only [Nat.add_zero, Int.toNat_natCast, *]; omega))))
      all_goals (conv => whnf)
      all_goals first
        | exact ret_out (l := [0, 1, 2]) rfl rfl trivial allRw_nil
        | (exfalso; first | omega | contradiction)
        | trace_state
  · rw [decide_eq_false hs] at c0
    refine fc_of mixed T_ok Try.func3 rfl (by kernel_rfl) (by kernel_rfl) (by kernel_rfl) ?_
    repeat' ((conv => whnf); first | (refine vcall_out (l :=  [0, 1, 2]) (c0 ) ⟨rfl, rfl, rfl, rfl, (by (repeat' (first | exact trivial | exact GB_wf | exact fun _ _ => rfl | constructor)); first | done | fail), (by (repeat' (first | exact trivial | exact GB_fits rfl | constructor)); first | done | fail)⟩ ?_) | (refine vcall_pure (cw) rfl rfl rfl ?_) | (refine vcallD_pure (cw) rfl rfl rfl ?_) | (refine br_dec (fun h => ?_) (fun h => ?_) <;> try (exfalso; (try dsimp only at h); omega)) | (refine br_ndec (fun h => ?_) (fun h => ?_) <;> try (exfalso; (try dsimp only at h); omega)) | refine br_seq (fun h => ?_) (fun h => ?_) | refine br_nseq (fun h => ?_) (fun h => ?_) | refine br_not (fun h => ?_) (fun h => ?_) | refine br_intro (fun h => ?_) (fun h => ?_) | refine cond_intro rfl ?_ | (refine cond_intro ⟨rfl, ?_⟩ ?_; (first | omega | (dsimp only; omega) | decide)) | (refine cond_intro ?_ ?_; (first | omega | (dsimp only; omega) | decide | (simp only [Nat.add_zero, Int.toNat_natCast, *]; omega))))
    all_goals (conv => whnf)
    all_goals first
      | exact ret_out (l := [0, 1, 2]) rfl rfl trivial allRw_nil
      | trace_state
theorem law_Transfers (L : List Ps) (n : Nat) (hn : L.length = n) : FC Try.prog 2 4 [.sl 1 0 0 n] [(1, some (.one true (psB n (pcOf L))))] (isOut (.bool true) [] 2) := by
  have c0 := law_smallN L n hn
  have cw := law_awake
  by_cases hs : smL L []
  · rw [decide_eq_true hs] at c0
    have h1 := hs.1.1
    have c1 := net_Settle L n hn (by omega)
    have c2 := r41_Settle L n hn (by omega) (smL_P hs)
    unfold seOut at c1 c2
    by_cases he : ckP L ≠ 0
    · rw [if_pos he] at c1 c2
      generalize ckP L = er at *
      have c9 := r41_SameTrN
      refine fc_of mixed T_ok Try.func4 rfl (by kernel_rfl) (by kernel_rfl) (by kernel_rfl) ?_
      repeat' ((conv => whnf); first | (refine vcall_out (l :=  [0, 1]) (c0 ) ⟨rfl, rfl, rfl, rfl, (by (repeat' (first | exact trivial | exact GB_wf | exact fun _ _ => rfl | constructor)); first | done | fail), (by (repeat' (first | exact trivial | exact GB_fits rfl | constructor)); first | done | fail)⟩ ?_) | (refine vcall_out (l :=  [0, 1]) (c1 ) ⟨rfl, rfl, rfl, rfl, (by (repeat' (first | exact trivial | exact GB_wf | exact fun _ _ => rfl | constructor)); first | done | fail), (by (repeat' (first | exact trivial | exact GB_fits rfl | constructor)); first | done | fail)⟩ ?_) | (refine vcall_out (l :=  [0, 1]) (c2 ) ⟨rfl, rfl, rfl, rfl, (by (repeat' (first | exact trivial | exact GB_wf | exact fun _ _ => rfl | constructor)); first | done | fail), (by (repeat' (first | exact trivial | exact GB_fits rfl | constructor)); first | done | fail)⟩ ?_) | (refine vcall_pure (c9) rfl rfl rfl ?_) | (refine vcallD_pure (c9) rfl rfl rfl ?_) | (refine vcall_pure (cw) rfl rfl rfl ?_) | (refine vcallD_pure (cw) rfl rfl rfl ?_) | (refine br_dec (fun h => ?_) (fun h => ?_) <;> try (exfalso; (try dsimp only at h); omega)) | (refine br_ndec (fun h => ?_) (fun h => ?_) <;> try (exfalso; (try dsimp only at h); omega)) | refine br_seq (fun h => ?_) (fun h => ?_) | refine br_nseq (fun h => ?_) (fun h => ?_) | refine br_not (fun h => ?_) (fun h => ?_) | refine br_intro (fun h => ?_) (fun h => ?_) | refine cond_intro rfl ?_ | (refine cond_intro ⟨rfl, ?_⟩ ?_; (first | omega | (dsimp only; omega) | decide)) | (refine cond_intro ?_ ?_; (first | omega | (dsimp only; omega) | decide | (simp only [Nat.add_zero, Int.toNat_natCast, *]; omega))))
      all_goals (conv => whnf)
      all_goals first
        | exact ret_out (l := [0, 1]) rfl rfl trivial allRw_nil
        | (exfalso; first | omega | contradiction)
        | trace_state
    · rw [if_neg he] at c1 c2
      have hl := seT_len (Classical.not_not.1 he) (by omega)
      have c9 := r41_SameTr (seT L) (seT L).length (by omega)
      generalize hR : (seT L).length = r at *
      generalize seT L = R at *
      refine fc_of mixed T_ok Try.func4 rfl (by kernel_rfl) (by kernel_rfl) (by kernel_rfl) ?_
      repeat' ((conv => whnf); first | (refine vcall_out (l :=  [0, 1]) (c0 ) ⟨rfl, rfl, rfl, rfl, (by (repeat' (first | exact trivial | exact GB_wf | exact fun _ _ => rfl | constructor)); first | done | fail), (by (repeat' (first | exact trivial | exact GB_fits rfl | constructor)); first | done | fail)⟩ ?_) | (refine vcall_out (l :=  [0, 1]) (c1 ) ⟨rfl, rfl, rfl, rfl, (by (repeat' (first | exact trivial | exact GB_wf | exact fun _ _ => rfl | constructor)); first | done | fail), (by (repeat' (first | exact trivial | exact GB_fits rfl | constructor)); first | done | fail)⟩ ?_) | (refine vcall_out (l :=  [0, 1]) (c2 ) ⟨rfl, rfl, rfl, rfl, (by (repeat' (first | exact trivial | exact GB_wf | exact fun _ _ => rfl | constructor)); first | done | fail), (by (repeat' (first | exact trivial | exact GB_fits rfl | constructor)); first | done | fail)⟩ ?_) | (refine vcall_out (l :=  [0, 3, 4]) (c9 ) ⟨rfl, rfl, rfl, rfl, (by (repeat' (first | exact trivial | exact GB_wf | exact fun _ _ => rfl | constructor)); first | done | fail), (by (repeat' (first | exact trivial | exact GB_fits rfl | constructor)); first | done | fail)⟩ ?_) | (refine vcallD_out (l :=  [0, 3, 4]) (c9 ) ⟨rfl, rfl, rfl, rfl, (by (repeat' (first | exact trivial | exact GB_wf | exact fun _ _ => rfl | constructor)); first | done | fail), (by (repeat' (first | exact trivial | exact GB_fits rfl | constructor)); first | done | fail)⟩ ?_) | (refine vcall_pure (cw) rfl rfl rfl ?_) | (refine vcallD_pure (cw) rfl rfl rfl ?_) | (refine br_dec (fun h => ?_) (fun h => ?_) <;> try (exfalso; (try dsimp only at h); omega)) | (refine br_ndec (fun h => ?_) (fun h => ?_) <;> try (exfalso; (try dsimp only at h); omega)) | refine br_seq (fun h => ?_) (fun h => ?_) | refine br_nseq (fun h => ?_) (fun h => ?_) | refine br_not (fun h => ?_) (fun h => ?_) | refine br_intro (fun h => ?_) (fun h => ?_) | refine cond_intro rfl ?_ | (refine cond_intro ⟨rfl, ?_⟩ ?_; (first | omega | (dsimp only; omega) | decide)) | (refine cond_intro ?_ ?_; (first | omega | (dsimp only; omega) | decide | (simp only [Nat.add_zero, Int.toNat_natCast, *]; omega))))
      all_goals (conv => whnf)
      all_goals first
        | exact ret_out (l := [0, 1]) rfl rfl trivial allRw_nil
        | (exfalso; first | omega | contradiction)
        | trace_state
  · rw [decide_eq_false hs] at c0
    refine fc_of mixed T_ok Try.func4 rfl (by kernel_rfl) (by kernel_rfl) (by kernel_rfl) ?_
    repeat' ((conv => whnf); first | (refine vcall_out (l :=  [0, 1]) (c0 ) ⟨rfl, rfl, rfl, rfl, (by (repeat' (first | exact trivial | exact GB_wf | exact fun _ _ => rfl | constructor)); first | done | fail), (by (repeat' (first | exact trivial | exact GB_fits rfl | constructor)); first | done | fail)⟩ ?_) | (refine vcall_pure (cw) rfl rfl rfl ?_) | (refine vcallD_pure (cw) rfl rfl rfl ?_) | (refine br_dec (fun h => ?_) (fun h => ?_) <;> try (exfalso; (try dsimp only at h); omega)) | (refine br_ndec (fun h => ?_) (fun h => ?_) <;> try (exfalso; (try dsimp only at h); omega)) | refine br_seq (fun h => ?_) (fun h => ?_) | refine br_nseq (fun h => ?_) (fun h => ?_) | refine br_not (fun h => ?_) (fun h => ?_) | refine br_intro (fun h => ?_) (fun h => ?_) | refine cond_intro rfl ?_ | (refine cond_intro ⟨rfl, ?_⟩ ?_; (first | omega | (dsimp only; omega) | decide)) | (refine cond_intro ?_ ?_; (first | omega | (dsimp only; omega) | decide | (simp only [Nat.add_zero, Int.toNat_natCast, *]; omega))))
    all_goals (conv => whnf)
    all_goals first
      | exact ret_out (l := [0, 1]) rfl rfl trivial allRw_nil
      | trace_state
theorem mkPs : ∀ (p : List ByteArray) (a : List Int) (c : List ByteArray) (l : Nat), p.length = l → a.length = l → c.length = l → ∃ L : List Ps, L.length = l ∧ pcOf L = ⟨p, a, c⟩
  | [], [], [], l, h, _, _ => ⟨[], h, rfl⟩
  | x :: p, y :: a, z :: c, 0, h, _, _ => by simp at h
  | x :: p, y :: a, z :: c, l + 1, h1, h2, h3 => by
    obtain ⟨L, e, q⟩ := mkPs p a c l (by simpa using h1) (by simpa using h2) (by simpa using h3)
    unfold pcOf at q
    simp only [Pc.mk.injEq] at q
    refine ⟨⟨x, y, z⟩ :: L, by simp [e], ?_⟩
    unfold pcOf
    simp only [List.map_cons, q.1, q.2.1, q.2.2]
  | [], _ :: _, _, l, h1, h2, _ => by simp at h1 h2; omega
  | [], [], _ :: _, l, h1, _, h3 => by simp at h1 h3; omega
  | _ :: _, [], _, l, h1, h2, _ => by simp at h1 h2; omega
  | _ :: _, _ :: _, [], l, h1, _, h3 => by simp at h1 h3; omega
theorem mkTx : ∀ (f t : List ByteArray) (a : List Int) (c : List ByteArray) (l : Nat), f.length = l → t.length = l → a.length = l → c.length = l → ∃ T : List Tx, T.length = l ∧ tcOf T = ⟨f, t, a, c⟩
  | [], t, a, c, l, h, h2, h3, h4 => by
    subst h
    exact ⟨[], rfl, by rw [List.length_eq_zero_iff.1 h2, List.length_eq_zero_iff.1 h3, List.length_eq_zero_iff.1 h4]; rfl⟩
  | x :: f, t, a, c, 0, h, _, _, _ => by simp at h
  | x :: f, t, a, c, l + 1, h1, h2, h3, h4 => by
    obtain ⟨y, t, rfl⟩ := List.exists_cons_of_length_eq_add_one h2
    obtain ⟨z, a, rfl⟩ := List.exists_cons_of_length_eq_add_one h3
    obtain ⟨u, c, rfl⟩ := List.exists_cons_of_length_eq_add_one h4
    obtain ⟨L, e, q⟩ := mkTx f t a c l (by simpa using h1) (by simpa using h2) (by simpa using h3) (by simpa using h4)
    unfold tcOf at q
    simp only [Tc.mk.injEq] at q
    refine ⟨⟨x, y, z, u⟩ :: L, by simp [e], ?_⟩
    unfold tcOf
    simp only [List.map_cons, q.1, q.2.1, q.2.2.1, q.2.2.2]
end Go.Proofs.Ytmibjgblhaohiaa

