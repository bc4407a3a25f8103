/- Contracts of the reference of package wire: readers. -/
import Derived.Test.YtkbajejkllkahaaDoorWireC7
namespace Go.Proofs.YtkbajejkllkahaaDoor
open Go.RowKit Go.Sy
attribute [local irreducible] vcall vloop vcallD retP
set_option maxRecDepth 100000
set_option linter.unusedVariables false
set_option linter.unusedSimpArgs false

theorem ref06_digit (c : Int) : Pure Tryd.prog 66 [.int .u8 c] (.bool (decide (48 ≤ c ∧ c ≤ 57))) := by
  refine fc_of mixed T_ok Tryd.func66 rfl (by kernel_rfl) (by kernel_rfl) (by kernel_rfl) ?_
  repeat' ((conv => whnf); first | (refine br_dec (fun h => ?_) (fun h => ?_) <;> try (exfalso; omega)) | (refine br_ndec (fun h => ?_) (fun h => ?_) <;> try (exfalso; omega)) | refine br_seq (fun h => ?_) (fun h => ?_) | refine br_nseq (fun h => ?_) (fun h => ?_) | refine br_not (fun h => ?_) (fun h => ?_) | refine br_intro (fun h => ?_) (fun h => ?_) | refine cond_intro rfl ?_ | (refine cond_intro ⟨rfl, ?_⟩ ?_; (first | omega | (dsimp only; omega) | decide)) | (refine cond_intro ?_ ?_; (first | omega | (dsimp only; omega) | decide | (simp only [Nat.add_zero, Int.toNat_natCast, *]; omega))))
  all_goals (conv => whnf)
  all_goals refine ret_pure (congrArg SV.bool ?_)
  · rw [decide_eq_decide]; omega
  · rw [eq_comm, decide_eq_false_iff_not]; omega
theorem ref06_Digits (s : ByteArray) (hs : s.size ≤ 9223372036854775000) : Pure Tryd.prog 50 [.str s] (.bool (dgTo s s.size)) := by
  refine fc_of mixed T_ok Tryd.func50 rfl (by kernel_rfl) (by kernel_rfl) (by kernel_rfl) ?_
  (conv => whnf)
  refine vloop_of (fun k : Nat => ⟨[(0, .str s), (3, .int .i64 k)], [], 1⟩) (fun k => k ≤ s.size ∧ dgTo s k = true) (fun k => s.size - k) 0 [0] [] ⟨rfl, ⟨rfl, rfl, trivial⟩, trivial⟩ ⟨by omega, rfl⟩ ?_
  rintro k ⟨hk, hc⟩
  have c := ref06_digit (byteAt s (k : Int))
  repeat' ((conv => whnf); first | (refine vcall_pure (c) rfl rfl rfl ?_) | (refine vcallD_pure (c) rfl rfl rfl ?_) | (refine br_dec (fun h => ?_) (fun h => ?_) <;> try (exfalso; omega)) | (refine br_ndec (fun h => ?_) (fun h => ?_) <;> try (exfalso; omega)) | refine br_seq (fun h => ?_) (fun h => ?_) | refine br_nseq (fun h => ?_) (fun h => ?_) | refine br_not (fun h => ?_) (fun h => ?_) | refine br_intro (fun h => ?_) (fun h => ?_) | refine cond_intro rfl ?_ | (refine cond_intro ⟨rfl, ?_⟩ ?_; (first | omega | (dsimp only; omega) | decide)) | (refine cond_intro ?_ ?_; (first | omega | (dsimp only; omega) | decide | (simp only [Nat.add_zero, Int.toNat_natCast, *]; omega))))
  all_goals (conv => whnf)
  · have hf : dgTo s s.size = false := dgTo_false (k := k) (by omega) (fun h => by unfold dgAt at h; omega)
    refine ret_pure ?_
    rw [hf]; rfl
  · exact ⟨k + 1, [0], [], ⟨by omega, dgTo_step hc (by omega) (by omega)⟩, by omega, ⟨rfl, ⟨rfl, congrArg (fun z => some (SV.int .i64 z)) (i64_succ (by omega)), trivial⟩, trivial⟩⟩
  · have e : k = s.size := by omega
    subst e
    refine ret_pure ?_
    rw [hc]; rfl
theorem ref06_Printable (s : ByteArray) (hs : s.size ≤ 9223372036854775000) : Pure Tryd.prog 39 [.str s] (.bool (prB s)) := by
  refine fc_of mixed T_ok Tryd.func39 rfl (by kernel_rfl) (by kernel_rfl) (by kernel_rfl) ?_
  (conv => whnf)
  refine vloop_of (fun k : Nat => ⟨[(0, .str s), (3, .int .i64 k)], [], 1⟩) (fun k => k ≤ s.size ∧ prTo s k = true) (fun k => s.size - k) 0 [0] [] ⟨rfl, ⟨rfl, rfl, trivial⟩, trivial⟩ ⟨by omega, rfl⟩ ?_
  rintro k ⟨hk, hc⟩
  repeat' ((conv => whnf); first | (refine br_dec (fun h => ?_) (fun h => ?_) <;> try (exfalso; omega)) | (refine br_ndec (fun h => ?_) (fun h => ?_) <;> try (exfalso; omega)) | refine br_seq (fun h => ?_) (fun h => ?_) | refine br_nseq (fun h => ?_) (fun h => ?_) | refine br_not (fun h => ?_) (fun h => ?_) | refine br_intro (fun h => ?_) (fun h => ?_) | refine cond_intro rfl ?_ | (refine cond_intro ⟨rfl, ?_⟩ ?_; (first | omega | (dsimp only; omega) | decide)) | (refine cond_intro ?_ ?_; (first | omega | (dsimp only; omega) | decide | (simp only [Nat.add_zero, Int.toNat_natCast, *]; omega))))
  all_goals (conv => whnf)
  · exact ret_pure (by rw [show prB s = false from prTo_false (k := k) (by omega) (fun h => by have := h.1; omega)]; rfl)
  · exact ret_pure (by rw [show prB s = false from prTo_false (k := k) (by omega) (fun h => by have := h.2; omega)]; rfl)
  · exact ⟨k + 1, [0], [], ⟨by omega, prTo_step hc (by omega) (by omega)⟩, by omega, ⟨rfl, ⟨rfl, congrArg (fun z => some (SV.int .i64 z)) (i64_succ (by omega)), trivial⟩, trivial⟩⟩
  · have e : k = s.size := by omega
    subst e
    refine ret_pure ?_
    rw [show prB s = true from hc]; rfl
theorem ref06_number (s : ByteArray) (hs : s.size ≤ 15) (hd : dgTo s s.size = true) : Pure Tryd.prog 51 [.str s] (.int .i64 (numTo s s.size)) := by
  have hpre : ∀ k, k ≤ s.size → dgTo s k = true := by
    intro k hk
    cases e : dgTo s k with
    | true => rfl
    | false =>
      exfalso
      have : ∀ j, dgTo s (k + j) = false := by
        intro j
        induction j with
        | zero => exact e
        | succ j ih => rw [← Nat.add_assoc]; simp only [dgTo, ih, Bool.false_and]
      have h2 := this (s.size - k)
      rw [show k + (s.size - k) = s.size by omega, hd] at h2
      cases h2
  refine fc_of mixed T_ok Tryd.func51 rfl (by kernel_rfl) (by kernel_rfl) (by kernel_rfl) ?_
  (conv => whnf)
  refine vloop_of (fun k : Nat => ⟨[(0, .str s), (3, .int .i64 (numTo s k)), (4, .int .i64 k)], [], 1⟩) (fun k => k ≤ s.size) (fun k => s.size - k) 0 [0] [] ⟨rfl, ⟨rfl, rfl, rfl, trivial⟩, trivial⟩ (by omega) ?_
  intro k hk
  have hb := numTo_lt (hpre k hk) (by omega)
  repeat' ((conv => whnf); first | (refine br_dec (fun h => ?_) (fun h => ?_) <;> try (exfalso; omega)) | (refine br_ndec (fun h => ?_) (fun h => ?_) <;> try (exfalso; omega)) | refine br_seq (fun h => ?_) (fun h => ?_) | refine br_nseq (fun h => ?_) (fun h => ?_) | refine br_not (fun h => ?_) (fun h => ?_) | refine br_intro (fun h => ?_) (fun h => ?_) | refine cond_intro rfl ?_ | (refine cond_intro ⟨rfl, ?_⟩ ?_; (first | omega | (dsimp only; omega) | decide)) | (refine cond_intro ?_ ?_; (first | omega | (dsimp only; omega) | decide | (simp only [Nat.add_zero, Int.toNat_natCast, *]; omega))))
  all_goals (conv => whnf)
  · have bd : dgAt s k := by
      have h2 := hpre (k + 1) (by omega)
      simp only [dgTo, Bool.and_eq_true, decide_eq_true_eq] at h2
      exact h2.2
    unfold dgAt at bd
    refine ⟨k + 1, [0], [], by omega, by omega, ⟨rfl, ⟨rfl, ?_, congrArg (fun z => some (SV.int .i64 z)) (i64_succ (by omega)), trivial⟩, trivial⟩⟩
    refine congrArg (fun z => some (SV.int .i64 z)) ?_
    show IntKind.i64.wrap (IntKind.i64.wrap (numTo s k * 10) + IntKind.i64.wrap (IntKind.u8.wrap (byteAt s (k : Int) - 48))) = numTo s (k + 1)
    rw [u8_in' (by omega) (by omega), w64_in (n := numTo s k * 10) (by omega) (by omega), w64_in (n := byteAt s (k : Int) - 48) (by omega) (by omega), w64_in (by omega) (by omega)]
    simp only [numTo]; omega
  · have e : k = s.size := by omega
    subst e
    exact ret_pure rfl
theorem ref06_take (s : ByteArray) (e w : Int) (h0 : 0 ≤ w) (h1 : w ≤ (s.size : Int)) : FC Tryd.prog 2 52 [.ptr 1 0 0 0, .int .i64 w] [(1, rdB s e)] (isOut (.str (s.extract 0 w.toNat)) [(1, rdB (s.extract w.toNat s.size) e)] 2) := by
  refine fc_of mixed T_ok Tryd.func52 rfl (by kernel_rfl) (by kernel_rfl) (by kernel_rfl) ?_
  repeat' ((conv => whnf); first | (refine br_dec (fun h => ?_) (fun h => ?_) <;> try (exfalso; omega)) | (refine br_ndec (fun h => ?_) (fun h => ?_) <;> try (exfalso; omega)) | refine br_seq (fun h => ?_) (fun h => ?_) | refine br_nseq (fun h => ?_) (fun h => ?_) | refine br_not (fun h => ?_) (fun h => ?_) | refine br_intro (fun h => ?_) (fun h => ?_) | refine cond_intro rfl ?_ | (refine cond_intro ⟨rfl, ?_⟩ ?_; (first | omega | (dsimp only; omega) | decide)) | (refine cond_intro ?_ ?_; (first | omega | (dsimp only; omega) | decide | (simp only [Nat.add_zero, Int.toNat_natCast, *]; omega))))
  all_goals (conv => whnf)
  all_goals exact ret_out (l := [0, 1]) rfl rfl ⟨rfl, trivial⟩ (allRw_cons allRw_nil)
theorem ref06_fail (s : ByteArray) (e e' : Int) : FC Tryd.prog 2 49 [.ptr 1 0 0 0, .int .i64 e'] [(1, rdB s e)] (isOut (.tup []) [(1, rdB s e')] 2) := by
  refine fc_of mixed T_ok Tryd.func49 rfl (by kernel_rfl) (by kernel_rfl) (by kernel_rfl) ?_
  repeat' ((conv => whnf); first | (refine br_dec (fun h => ?_) (fun h => ?_) <;> try (exfalso; omega)) | (refine br_ndec (fun h => ?_) (fun h => ?_) <;> try (exfalso; omega)) | refine br_seq (fun h => ?_) (fun h => ?_) | refine br_nseq (fun h => ?_) (fun h => ?_) | refine br_not (fun h => ?_) (fun h => ?_) | refine br_intro (fun h => ?_) (fun h => ?_) | refine cond_intro rfl ?_ | (refine cond_intro ⟨rfl, ?_⟩ ?_; (first | omega | (dsimp only; omega) | decide)) | (refine cond_intro ?_ ?_; (first | omega | (dsimp only; omega) | decide | (simp only [Nat.add_zero, Int.toNat_natCast, *]; omega))))
  all_goals (conv => whnf)
  all_goals exact ret_out (l := [0, 1]) rfl rfl ⟨rfl, trivial⟩ (allRw_cons allRw_nil)
theorem rf_New (s : ByteArray) : FC Tryd.prog 1 21 [.str s] [] (isOut (.ptr 1 0 0 0) [(1, rdB s 0)] 2) := by
  refine fc_of mixed T_ok Tryd.func21 rfl (by kernel_rfl) (by kernel_rfl) (by kernel_rfl) ?_
  repeat' ((conv => whnf); first | (refine br_dec (fun h => ?_) (fun h => ?_) <;> try (exfalso; omega)) | (refine br_ndec (fun h => ?_) (fun h => ?_) <;> try (exfalso; omega)) | refine br_seq (fun h => ?_) (fun h => ?_) | refine br_nseq (fun h => ?_) (fun h => ?_) | refine br_not (fun h => ?_) (fun h => ?_) | refine br_intro (fun h => ?_) (fun h => ?_) | refine cond_intro rfl ?_ | (refine cond_intro ⟨rfl, ?_⟩ ?_; (first | omega | (dsimp only; omega) | decide)) | (refine cond_intro ?_ ?_; (first | omega | (dsimp only; omega) | decide | (simp only [Nat.add_zero, Int.toNat_natCast, *]; omega))))
  all_goals (conv => whnf)
  all_goals exact ret_out (l := [0, 1]) rfl rfl ⟨rfl, trivial⟩ (allRw_cons allRw_nil)
theorem rf_Left (s : ByteArray) (e : Int) : FC Tryd.prog 2 31 [.ptr 1 0 0 0] [(1, rdB s e)] (isOut (.int .i64 s.size) [(1, rdB s e)] 2) := by
  refine fc_of mixed T_ok Tryd.func31 rfl (by kernel_rfl) (by kernel_rfl) (by kernel_rfl) ?_
  repeat' ((conv => whnf); first | (refine br_dec (fun h => ?_) (fun h => ?_) <;> try (exfalso; omega)) | (refine br_ndec (fun h => ?_) (fun h => ?_) <;> try (exfalso; omega)) | refine br_seq (fun h => ?_) (fun h => ?_) | refine br_nseq (fun h => ?_) (fun h => ?_) | refine br_not (fun h => ?_) (fun h => ?_) | refine br_intro (fun h => ?_) (fun h => ?_) | refine cond_intro rfl ?_ | (refine cond_intro ⟨rfl, ?_⟩ ?_; (first | omega | (dsimp only; omega) | decide)) | (refine cond_intro ?_ ?_; (first | omega | (dsimp only; omega) | decide | (simp only [Nat.add_zero, Int.toNat_natCast, *]; omega))))
  all_goals (conv => whnf)
  all_goals exact ret_out (l := [0, 1]) rfl rfl ⟨rfl, trivial⟩ (allRw_cons allRw_nil)
theorem rf_Err (s : ByteArray) (e : Int) : FC Tryd.prog 2 32 [.ptr 1 0 0 0] [(1, rdB s e)] (isOut (.int .i64 e) [(1, rdB s e)] 2) := by
  refine fc_of mixed T_ok Tryd.func32 rfl (by kernel_rfl) (by kernel_rfl) (by kernel_rfl) ?_
  repeat' ((conv => whnf); first | (refine br_dec (fun h => ?_) (fun h => ?_) <;> try (exfalso; omega)) | (refine br_ndec (fun h => ?_) (fun h => ?_) <;> try (exfalso; omega)) | refine br_seq (fun h => ?_) (fun h => ?_) | refine br_nseq (fun h => ?_) (fun h => ?_) | refine br_not (fun h => ?_) (fun h => ?_) | refine br_intro (fun h => ?_) (fun h => ?_) | refine cond_intro rfl ?_ | (refine cond_intro ⟨rfl, ?_⟩ ?_; (first | omega | (dsimp only; omega) | decide)) | (refine cond_intro ?_ ?_; (first | omega | (dsimp only; omega) | decide | (simp only [Nat.add_zero, Int.toNat_natCast, *]; omega))))
  all_goals (conv => whnf)
  all_goals exact ret_out (l := [0, 1]) rfl rfl ⟨rfl, trivial⟩ (allRw_cons allRw_nil)
theorem rf_End (s : ByteArray) (e : Int) : FC Tryd.prog 2 33 [.ptr 1 0 0 0] [(1, rdB s e)] (isOut (.int .i64 (endE s e)) [(1, rdB s e)] 2) := by
  refine fc_of mixed T_ok Tryd.func33 rfl (by kernel_rfl) (by kernel_rfl) (by kernel_rfl) ?_
  repeat' ((conv => whnf); first | (refine br_dec (fun h => ?_) (fun h => ?_) <;> try (exfalso; omega)) | (refine br_ndec (fun h => ?_) (fun h => ?_) <;> try (exfalso; omega)) | refine br_seq (fun h => ?_) (fun h => ?_) | refine br_nseq (fun h => ?_) (fun h => ?_) | refine br_not (fun h => ?_) (fun h => ?_) | refine br_intro (fun h => ?_) (fun h => ?_) | refine cond_intro rfl ?_ | (refine cond_intro ⟨rfl, ?_⟩ ?_; (first | omega | (dsimp only; omega) | decide)) | (refine cond_intro ?_ ?_; (first | omega | (dsimp only; omega) | decide | (simp only [Nat.add_zero, Int.toNat_natCast, *]; omega))))
  all_goals (conv => whnf)
  all_goals first
    | (refine ret_out (l := [0, 1]) rfl ?_ ⟨rfl, trivial⟩ (allRw_cons allRw_nil); rw [show endE s e = 3 by unfold endE; rw [if_neg (by omega), if_pos (by omega)]]; rfl)
    | (refine ret_out (l := [0, 1]) rfl ?_ ⟨rfl, trivial⟩ (allRw_cons allRw_nil); rw [show endE s e = e by unfold endE; split <;> first | rfl | (rw [if_neg (by omega)]; omega)]; rfl)

/-- The reference's methods. -/
theorem rf_Num (s : ByteArray) (e w : Int) (hs : s.size ≤ 9223372036854775000) : FC Tryd.prog 2 27 [.ptr 1 0 0 0, .int .i64 w] [(1, rdB s e)] (isOut (.int .i64 (nV s e w)) [(1, rdB (nS s e w) (nE s e w))] 2) := by
  unfold nS nE nV
  by_cases he : e = 0
  · subst he
    rw [if_pos rfl, if_pos rfl, if_pos rfl]
    rcases nu_cases s w with ⟨e1, e2, e3, h⟩ | ⟨_, e2, e3, h⟩
    · rw [e1, e2, e3]
      obtain ⟨w', rfl⟩ := Int.eq_ofNat_of_zero_le (show 0 ≤ w by omega)
      rw [Int.toNat_natCast] at h ⊢
      have hz : (s.extract 0 w').size = w' := ext_size (by omega)
      have hx := dgTo_ext (s := s) (w := w') (by omega) w' (Nat.le_refl _)
      have c1 := ref06_Digits (s.extract 0 w') (by omega)
      rw [hz, hx.1, h.2.2.2] at c1
      have c2 := ref06_take s 0 w' (by omega) (by omega)
      have c3 := ref06_number (s.extract 0 w') (by omega) (by rw [hz, hx.1]; exact h.2.2.2)
      rw [hz, hx.2] at c3
      rw [Int.toNat_natCast] at c2
      refine fc_of mixed T_ok Tryd.func27 rfl (by kernel_rfl) (by kernel_rfl) (by kernel_rfl) ?_
      repeat' ((conv => whnf); first | (refine vcall_pure (c1) rfl rfl rfl ?_) | (refine vcallD_pure (c1) rfl rfl rfl ?_) | (refine vcall_out (l :=  [0, 1]) (c2 ) ⟨rfl, rfl, rfl, rfl, (by (repeat' (first | exact trivial | exact GB_wf | constructor)); first | done | fail), (by (repeat' (first | exact trivial | exact GB_fits rfl | constructor)); first | done | fail)⟩ ?_) | (refine vcallD_out (l :=  [0, 1]) (c2 ) ⟨rfl, rfl, rfl, rfl, (by (repeat' (first | exact trivial | exact GB_wf | constructor)); first | done | fail), (by (repeat' (first | exact trivial | exact GB_fits rfl | constructor)); first | done | fail)⟩ ?_) | (refine vcall_pure (c3) rfl rfl rfl ?_) | (refine vcallD_pure (c3) rfl rfl rfl ?_) | (refine br_dec (fun h => ?_) (fun h => ?_) <;> try (exfalso; omega)) | (refine br_ndec (fun h => ?_) (fun h => ?_) <;> try (exfalso; omega)) | refine br_seq (fun h => ?_) (fun h => ?_) | refine br_nseq (fun h => ?_) (fun h => ?_) | refine br_not (fun h => ?_) (fun h => ?_) | refine br_intro (fun h => ?_) (fun h => ?_) | refine cond_intro rfl ?_ | (refine cond_intro ⟨rfl, ?_⟩ ?_; (first | omega | (dsimp only; omega) | decide)) | (refine cond_intro ?_ ?_; (first | omega | (dsimp only; omega) | decide | (simp only [Nat.add_zero, Int.toNat_natCast, *]; omega))))
      all_goals (conv => whnf)
      all_goals first
        | exact ret_out (l := [0, 1]) rfl rfl ⟨rfl, trivial⟩ (allRw_cons allRw_nil)
        | (exfalso; omega)
    · rw [e2, e3, show s.extract (Int.toNat 0) s.size = s from by simp]
      rcases h with ⟨e1, h⟩ | ⟨e1, h⟩ | ⟨e1, h⟩
      · rw [e1]
        have c := ref06_fail s 0 4
        refine fc_of mixed T_ok Tryd.func27 rfl (by kernel_rfl) (by kernel_rfl) (by kernel_rfl) ?_
        repeat' ((conv => whnf); first | (refine vcall_out (l :=  [0, 1]) (c ) ⟨rfl, rfl, rfl, rfl, (by (repeat' (first | exact trivial | exact GB_wf | constructor)); first | done | fail), (by (repeat' (first | exact trivial | exact GB_fits rfl | constructor)); first | done | fail)⟩ ?_) | (refine vcallD_out (l :=  [0, 1]) (c ) ⟨rfl, rfl, rfl, rfl, (by (repeat' (first | exact trivial | exact GB_wf | constructor)); first | done | fail), (by (repeat' (first | exact trivial | exact GB_fits rfl | constructor)); first | done | fail)⟩ ?_) | (refine br_dec (fun h => ?_) (fun h => ?_) <;> try (exfalso; omega)) | (refine br_ndec (fun h => ?_) (fun h => ?_) <;> try (exfalso; omega)) | refine br_seq (fun h => ?_) (fun h => ?_) | refine br_nseq (fun h => ?_) (fun h => ?_) | refine br_not (fun h => ?_) (fun h => ?_) | refine br_intro (fun h => ?_) (fun h => ?_) | refine cond_intro rfl ?_ | (refine cond_intro ⟨rfl, ?_⟩ ?_; (first | omega | (dsimp only; omega) | decide)) | (refine cond_intro ?_ ?_; (first | omega | (dsimp only; omega) | decide | (simp only [Nat.add_zero, Int.toNat_natCast, *]; omega))))
        all_goals (conv => whnf)
        all_goals first
          | exact ret_out (l := [0, 1]) rfl rfl ⟨rfl, trivial⟩ (allRw_cons allRw_nil)
          | (exfalso; omega)
      · rw [e1]
        have c := ref06_fail s 0 1
        refine fc_of mixed T_ok Tryd.func27 rfl (by kernel_rfl) (by kernel_rfl) (by kernel_rfl) ?_
        repeat' ((conv => whnf); first | (refine vcall_out (l :=  [0, 1]) (c ) ⟨rfl, rfl, rfl, rfl, (by (repeat' (first | exact trivial | exact GB_wf | constructor)); first | done | fail), (by (repeat' (first | exact trivial | exact GB_fits rfl | constructor)); first | done | fail)⟩ ?_) | (refine vcallD_out (l :=  [0, 1]) (c ) ⟨rfl, rfl, rfl, rfl, (by (repeat' (first | exact trivial | exact GB_wf | constructor)); first | done | fail), (by (repeat' (first | exact trivial | exact GB_fits rfl | constructor)); first | done | fail)⟩ ?_) | (refine br_dec (fun h => ?_) (fun h => ?_) <;> try (exfalso; omega)) | (refine br_ndec (fun h => ?_) (fun h => ?_) <;> try (exfalso; omega)) | refine br_seq (fun h => ?_) (fun h => ?_) | refine br_nseq (fun h => ?_) (fun h => ?_) | refine br_not (fun h => ?_) (fun h => ?_) | refine br_intro (fun h => ?_) (fun h => ?_) | refine cond_intro rfl ?_ | (refine cond_intro ⟨rfl, ?_⟩ ?_; (first | omega | (dsimp only; omega) | decide)) | (refine cond_intro ?_ ?_; (first | omega | (dsimp only; omega) | decide | (simp only [Nat.add_zero, Int.toNat_natCast, *]; omega))))
        all_goals (conv => whnf)
        all_goals first
          | exact ret_out (l := [0, 1]) rfl rfl ⟨rfl, trivial⟩ (allRw_cons allRw_nil)
          | (exfalso; omega)
      · rw [e1]
        obtain ⟨w', rfl⟩ := Int.eq_ofNat_of_zero_le (show 0 ≤ w by omega)
        rw [Int.toNat_natCast] at h
        have hz : (s.extract 0 w').size = w' := ext_size (by omega)
        have hx := dgTo_ext (s := s) (w := w') (by omega) w' (Nat.le_refl _)
        have c1 := ref06_Digits (s.extract 0 w') (by omega)
        rw [hz, hx.1, h.2.2.2] at c1
        have c := ref06_fail s 0 2
        refine fc_of mixed T_ok Tryd.func27 rfl (by kernel_rfl) (by kernel_rfl) (by kernel_rfl) ?_
        repeat' ((conv => whnf); first | (refine vcall_pure (c1) rfl rfl rfl ?_) | (refine vcallD_pure (c1) rfl rfl rfl ?_) | (refine vcall_out (l :=  [0, 1]) (c ) ⟨rfl, rfl, rfl, rfl, (by (repeat' (first | exact trivial | exact GB_wf | constructor)); first | done | fail), (by (repeat' (first | exact trivial | exact GB_fits rfl | constructor)); first | done | fail)⟩ ?_) | (refine vcallD_out (l :=  [0, 1]) (c ) ⟨rfl, rfl, rfl, rfl, (by (repeat' (first | exact trivial | exact GB_wf | constructor)); first | done | fail), (by (repeat' (first | exact trivial | exact GB_fits rfl | constructor)); first | done | fail)⟩ ?_) | (refine br_dec (fun h => ?_) (fun h => ?_) <;> try (exfalso; omega)) | (refine br_ndec (fun h => ?_) (fun h => ?_) <;> try (exfalso; omega)) | refine br_seq (fun h => ?_) (fun h => ?_) | refine br_nseq (fun h => ?_) (fun h => ?_) | refine br_not (fun h => ?_) (fun h => ?_) | refine br_intro (fun h => ?_) (fun h => ?_) | refine cond_intro rfl ?_ | (refine cond_intro ⟨rfl, ?_⟩ ?_; (first | omega | (dsimp only; omega) | decide)) | (refine cond_intro ?_ ?_; (first | omega | (dsimp only; omega) | decide | (simp only [Nat.add_zero, Int.toNat_natCast, *]; omega))))
        all_goals (conv => whnf)
        all_goals first
          | exact ret_out (l := [0, 1]) rfl rfl ⟨rfl, trivial⟩ (allRw_cons allRw_nil)
          | (exfalso; omega)
  · rw [if_neg he, if_neg he, if_neg he]
    refine fc_of mixed T_ok Tryd.func27 rfl (by kernel_rfl) (by kernel_rfl) (by kernel_rfl) ?_
    repeat' ((conv => whnf); first | (refine br_dec (fun h => ?_) (fun h => ?_) <;> try (exfalso; omega)) | (refine br_ndec (fun h => ?_) (fun h => ?_) <;> try (exfalso; omega)) | refine br_seq (fun h => ?_) (fun h => ?_) | refine br_nseq (fun h => ?_) (fun h => ?_) | refine br_not (fun h => ?_) (fun h => ?_) | refine br_intro (fun h => ?_) (fun h => ?_) | refine cond_intro rfl ?_ | (refine cond_intro ⟨rfl, ?_⟩ ?_; (first | omega | (dsimp only; omega) | decide)) | (refine cond_intro ?_ ?_; (first | omega | (dsimp only; omega) | decide | (simp only [Nat.add_zero, Int.toNat_natCast, *]; omega))))
    all_goals (conv => whnf)
    all_goals first
      | exact ret_out (l := [0, 1]) rfl rfl ⟨rfl, trivial⟩ (allRw_cons allRw_nil)
      | (exfalso; exact he (by assumption))
theorem rf_Take (s : ByteArray) (e w : Int) (hs : s.size ≤ 9223372036854775000) : FC Tryd.prog 2 30 [.ptr 1 0 0 0, .int .i64 w] [(1, rdB s e)] (isOut (.str (tV e (tkS s w))) [(1, rdB (tS s e (tkE s w) w) (tE e (tkE s w)))] 2) := by
  unfold tS tE tV
  by_cases he : e = 0
  · subst he
    rw [if_pos rfl, if_pos rfl, if_pos rfl]
    rcases tk_cases s w with ⟨e1, h⟩ | ⟨h1, ⟨e1, h⟩ | ⟨e1, h⟩⟩
    · rw [tkS_no (by omega), e1, show cntE 4 w = 0 from rfl, show s.extract (Int.toNat 0) s.size = s from by simp]
      have c := ref06_fail s 0 4
      refine fc_of mixed T_ok Tryd.func30 rfl (by kernel_rfl) (by kernel_rfl) (by kernel_rfl) ?_
      repeat' ((conv => whnf); first | (refine vcall_out (l :=  [0, 1]) (c ) ⟨rfl, rfl, rfl, rfl, (by (repeat' (first | exact trivial | exact GB_wf | constructor)); first | done | fail), (by (repeat' (first | exact trivial | exact GB_fits rfl | constructor)); first | done | fail)⟩ ?_) | (refine vcallD_out (l :=  [0, 1]) (c ) ⟨rfl, rfl, rfl, rfl, (by (repeat' (first | exact trivial | exact GB_wf | constructor)); first | done | fail), (by (repeat' (first | exact trivial | exact GB_fits rfl | constructor)); first | done | fail)⟩ ?_) | (refine br_dec (fun h => ?_) (fun h => ?_) <;> try (exfalso; omega)) | (refine br_ndec (fun h => ?_) (fun h => ?_) <;> try (exfalso; omega)) | refine br_seq (fun h => ?_) (fun h => ?_) | refine br_nseq (fun h => ?_) (fun h => ?_) | refine br_not (fun h => ?_) (fun h => ?_) | refine br_intro (fun h => ?_) (fun h => ?_) | refine cond_intro rfl ?_ | (refine cond_intro ⟨rfl, ?_⟩ ?_; (first | omega | (dsimp only; omega) | decide)) | (refine cond_intro ?_ ?_; (first | omega | (dsimp only; omega) | decide | (simp only [Nat.add_zero, Int.toNat_natCast, *]; omega))))
      all_goals (conv => whnf)
      all_goals first
        | exact ret_out (l := [0, 1]) rfl rfl ⟨rfl, trivial⟩ (allRw_cons allRw_nil)
        | (exfalso; omega)
    · rw [tkS_no (by omega), e1, show cntE 1 w = 0 from rfl, show s.extract (Int.toNat 0) s.size = s from by simp]
      have c := ref06_fail s 0 1
      refine fc_of mixed T_ok Tryd.func30 rfl (by kernel_rfl) (by kernel_rfl) (by kernel_rfl) ?_
      repeat' ((conv => whnf); first | (refine vcall_out (l :=  [0, 1]) (c ) ⟨rfl, rfl, rfl, rfl, (by (repeat' (first | exact trivial | exact GB_wf | constructor)); first | done | fail), (by (repeat' (first | exact trivial | exact GB_fits rfl | constructor)); first | done | fail)⟩ ?_) | (refine vcallD_out (l :=  [0, 1]) (c ) ⟨rfl, rfl, rfl, rfl, (by (repeat' (first | exact trivial | exact GB_wf | constructor)); first | done | fail), (by (repeat' (first | exact trivial | exact GB_fits rfl | constructor)); first | done | fail)⟩ ?_) | (refine br_dec (fun h => ?_) (fun h => ?_) <;> try (exfalso; omega)) | (refine br_ndec (fun h => ?_) (fun h => ?_) <;> try (exfalso; omega)) | refine br_seq (fun h => ?_) (fun h => ?_) | refine br_nseq (fun h => ?_) (fun h => ?_) | refine br_not (fun h => ?_) (fun h => ?_) | refine br_intro (fun h => ?_) (fun h => ?_) | refine cond_intro rfl ?_ | (refine cond_intro ⟨rfl, ?_⟩ ?_; (first | omega | (dsimp only; omega) | decide)) | (refine cond_intro ?_ ?_; (first | omega | (dsimp only; omega) | decide | (simp only [Nat.add_zero, Int.toNat_natCast, *]; omega))))
      all_goals (conv => whnf)
      all_goals first
        | exact ret_out (l := [0, 1]) rfl rfl ⟨rfl, trivial⟩ (allRw_cons allRw_nil)
        | (exfalso; omega)
    · rw [tkS_ok e1, e1, show cntE 0 w = w from rfl]
      have c := ref06_take s 0 w (by omega) (by omega)
      refine fc_of mixed T_ok Tryd.func30 rfl (by kernel_rfl) (by kernel_rfl) (by kernel_rfl) ?_
      repeat' ((conv => whnf); first | (refine vcall_out (l :=  [0, 1]) (c ) ⟨rfl, rfl, rfl, rfl, (by (repeat' (first | exact trivial | exact GB_wf | constructor)); first | done | fail), (by (repeat' (first | exact trivial | exact GB_fits rfl | constructor)); first | done | fail)⟩ ?_) | (refine vcallD_out (l :=  [0, 1]) (c ) ⟨rfl, rfl, rfl, rfl, (by (repeat' (first | exact trivial | exact GB_wf | constructor)); first | done | fail), (by (repeat' (first | exact trivial | exact GB_fits rfl | constructor)); first | done | fail)⟩ ?_) | (refine br_dec (fun h => ?_) (fun h => ?_) <;> try (exfalso; omega)) | (refine br_ndec (fun h => ?_) (fun h => ?_) <;> try (exfalso; omega)) | refine br_seq (fun h => ?_) (fun h => ?_) | refine br_nseq (fun h => ?_) (fun h => ?_) | refine br_not (fun h => ?_) (fun h => ?_) | refine br_intro (fun h => ?_) (fun h => ?_) | refine cond_intro rfl ?_ | (refine cond_intro ⟨rfl, ?_⟩ ?_; (first | omega | (dsimp only; omega) | decide)) | (refine cond_intro ?_ ?_; (first | omega | (dsimp only; omega) | decide | (simp only [Nat.add_zero, Int.toNat_natCast, *]; omega))))
      all_goals (conv => whnf)
      all_goals first
        | exact ret_out (l := [0, 1]) rfl rfl ⟨rfl, trivial⟩ (allRw_cons allRw_nil)
        | (exfalso; omega)
  · rw [if_neg he, if_neg he, if_neg he]
    refine fc_of mixed T_ok Tryd.func30 rfl (by kernel_rfl) (by kernel_rfl) (by kernel_rfl) ?_
    repeat' ((conv => whnf); first | (refine br_dec (fun h => ?_) (fun h => ?_) <;> try (exfalso; omega)) | (refine br_ndec (fun h => ?_) (fun h => ?_) <;> try (exfalso; omega)) | refine br_seq (fun h => ?_) (fun h => ?_) | refine br_nseq (fun h => ?_) (fun h => ?_) | refine br_not (fun h => ?_) (fun h => ?_) | refine br_intro (fun h => ?_) (fun h => ?_) | refine cond_intro rfl ?_ | (refine cond_intro ⟨rfl, ?_⟩ ?_; (first | omega | (dsimp only; omega) | decide)) | (refine cond_intro ?_ ?_; (first | omega | (dsimp only; omega) | decide | (simp only [Nat.add_zero, Int.toNat_natCast, *]; omega))))
    all_goals (conv => whnf)
    all_goals first
      | exact ret_out (l := [0, 1]) rfl rfl ⟨rfl, trivial⟩ (allRw_cons allRw_nil)
      | (exfalso; exact he (by assumption))
end Go.Proofs.YtkbajejkllkahaaDoor
