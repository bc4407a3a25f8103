/- Contracts of package wire: texts of variable length, bytes taken. -/
import Derived.Test.YtkbajejkllkahaaDoorWireC5
namespace Go.Proofs.YtkbajejkllkahaaDoor
open Go.RowKit Go.Sy
attribute [local irreducible] vcall vloop vcallD retP
set_option maxRecDepth 100000
set_option linter.unusedVariables false
set_option linter.unusedSimpArgs false

/-- A text of variable length is read. -/
def vaE (s : ByteArray) (d m : Int) : Int := if (d ≠ 2 ∧ d ≠ 3) ∨ m < 0 then 4 else if (s.size : Int) < d then 1 else if dgTo s d.toNat = false then 2 else if m < numTo s d.toNat ∨ 255 < numTo s d.toNat then 3 else if (s.size : Int) - d < numTo s d.toNat then 1 else 0
def vaS (s : ByteArray) (d m : Int) : ByteArray := if vaE s d m = 0 then s.extract d.toNat (d + numTo s d.toNat).toNat else ⟨#[]⟩
def vaC (s : ByteArray) (d m : Int) : Int := if vaE s d m = 0 then d + numTo s d.toNat else 0
theorem va_ok {s : ByteArray} {d m : Int} (h : vaE s d m = 0) : vaS s d m = s.extract d.toNat (d + numTo s d.toNat).toNat ∧ vaC s d m = d + numTo s d.toNat := by unfold vaS vaC; rw [if_pos h, if_pos h]; exact ⟨rfl, rfl⟩
theorem va_no {s : ByteArray} {d m : Int} (h : vaE s d m ≠ 0) : vaS s d m = ⟨#[]⟩ ∧ vaC s d m = 0 := by unfold vaS vaC; rw [if_neg h, if_neg h]; exact ⟨rfl, rfl⟩
theorem va_cases (s : ByteArray) (d m : Int) : (vaE s d m = 4 ∧ ((d ≠ 2 ∧ d ≠ 3) ∨ m < 0)) ∨ (((d = 2 ∨ d = 3) ∧ 0 ≤ m) ∧ ((vaE s d m = 1 ∧ (s.size : Int) < d) ∨ (d ≤ (s.size : Int) ∧ ((vaE s d m = 2 ∧ dgTo s d.toNat = false) ∨ (dgTo s d.toNat = true ∧ ((vaE s d m = 3 ∧ (m < numTo s d.toNat ∨ 255 < numTo s d.toNat)) ∨ (numTo s d.toNat ≤ m ∧ numTo s d.toNat ≤ 255 ∧ ((vaE s d m = 1 ∧ (s.size : Int) - d < numTo s d.toNat) ∨ (vaE s d m = 0 ∧ numTo s d.toNat ≤ (s.size : Int) - d))))))))) := by
  unfold vaE
  by_cases h1 : (d ≠ 2 ∧ d ≠ 3) ∨ m < 0
  · rw [if_pos h1]; exact .inl ⟨rfl, h1⟩
  · rw [if_neg h1]
    refine .inr ⟨by omega, ?_⟩
    by_cases h2 : (s.size : Int) < d
    · rw [if_pos h2]; exact .inl ⟨rfl, h2⟩
    · rw [if_neg h2]
      refine .inr ⟨by omega, ?_⟩
      cases h3 : dgTo s d.toNat with
      | false => exact .inl ⟨rfl, rfl⟩
      | true =>
        refine .inr ⟨rfl, ?_⟩
        rw [if_neg (by decide)]
        by_cases h4 : m < numTo s d.toNat ∨ 255 < numTo s d.toNat
        · rw [if_pos h4]; exact .inl ⟨rfl, h4⟩
        · rw [if_neg h4]
          refine .inr ⟨by omega, by omega, ?_⟩
          by_cases h5 : (s.size : Int) - d < numTo s d.toNat
          · rw [if_pos h5]; exact .inl ⟨rfl, h5⟩
          · rw [if_neg h5]; exact .inr ⟨rfl, by omega⟩
attribute [irreducible] vaE vaS vaC
theorem num_ext {s : ByteArray} {w : Nat} (hw : w ≤ s.size) (h15 : w ≤ 15) : Pure Tryd.prog 44 [.str (s.extract 0 w)] (.tup [.int .i64 (if dgTo s w = true then numTo s w else 0), .bool (dgTo s w)]) := by
  have hz : (s.extract 0 w).size = w := ext_size hw
  have c := wire_numberOf (s.extract 0 w) (by omega)
  rw [hz, (dgTo_ext hw w (Nat.le_refl _)).1, show numR (s.extract 0 w) = if dgTo s w = true then numTo s w else 0 by
      unfold numR; rw [hz, (dgTo_ext hw w (Nat.le_refl _)).1, (dgTo_ext hw w (Nat.le_refl _)).2]] at c
  exact c
theorem wire_VarF (s : ByteArray) (d m : Int) (hs : s.size ≤ 9223372036854775000) : FC Tryd.prog 4 47 [.str s, .ptr 1 0 0 0, .ptr 2 0 0 0, .ptr 3 0 0 0] [(1, some (.one true (.cells [.int .i64 d]))), (2, some (.one true (.cells [.int .i64 m]))), (3, some (.one false (.cells [.str ⟨#[]⟩])))]
    (isOut (.tup [.int .i64 (vaC s d m), .int .i64 (vaE s d m)]) [(3, some (.one false (.cells [.str (vaS s d m)])))] 4) := by
  rcases va_cases s d m with ⟨e1, h⟩ | ⟨hd, h⟩
  · obtain ⟨e2, e3⟩ := va_no (show vaE s d m ≠ 0 by omega)
    rw [e1, e2, e3]
    refine fc_of mixed T_ok Tryd.func47 rfl (by kernel_rfl) (by kernel_rfl) (by kernel_rfl) ?_
    repeat' ((conv => whnf); first | (refine br_dec (fun h => ?_) (fun h => ?_) <;> try (exfalso; omega)) | (refine br_ndec (fun h => ?_) (fun h => ?_) <;> try (exfalso; omega)) | refine br_seq (fun h => ?_) (fun h => ?_) | refine br_nseq (fun h => ?_) (fun h => ?_) | refine br_not (fun h => ?_) (fun h => ?_) | refine br_intro (fun h => ?_) (fun h => ?_) | refine cond_intro rfl ?_ | (refine cond_intro ⟨rfl, ?_⟩ ?_; (first | omega | (dsimp only; omega) | decide)) | (refine cond_intro ?_ ?_; (first | omega | (dsimp only; omega) | decide | (simp only [Nat.add_zero, Int.toNat_natCast, *]; omega))))
    all_goals (conv => whnf)
    all_goals first
      | exact ret_out (l := [0, 1, 2, 3]) rfl rfl ⟨rfl, trivial⟩ (allRw_cons allRw_nil)
      | (exfalso; omega)
  · obtain ⟨d', rfl⟩ := Int.eq_ofNat_of_zero_le (show 0 ≤ d by omega)
    rw [Int.toNat_natCast] at h
    rcases h with ⟨e1, h⟩ | ⟨hz, h⟩
    · obtain ⟨e2, e3⟩ := va_no (show vaE s d' m ≠ 0 by omega)
      rw [e1, e2, e3]
      refine fc_of mixed T_ok Tryd.func47 rfl (by kernel_rfl) (by kernel_rfl) (by kernel_rfl) ?_
      repeat' ((conv => whnf); first | (refine br_dec (fun h => ?_) (fun h => ?_) <;> try (exfalso; omega)) | (refine br_ndec (fun h => ?_) (fun h => ?_) <;> try (exfalso; omega)) | refine br_seq (fun h => ?_) (fun h => ?_) | refine br_nseq (fun h => ?_) (fun h => ?_) | refine br_not (fun h => ?_) (fun h => ?_) | refine br_intro (fun h => ?_) (fun h => ?_) | refine cond_intro rfl ?_ | (refine cond_intro ⟨rfl, ?_⟩ ?_; (first | omega | (dsimp only; omega) | decide)) | (refine cond_intro ?_ ?_; (first | omega | (dsimp only; omega) | decide | (simp only [Nat.add_zero, Int.toNat_natCast, *]; omega))))
      all_goals (conv => whnf)
      all_goals first
        | exact ret_out (l := [0, 1, 2, 3]) rfl rfl ⟨rfl, trivial⟩ (allRw_cons allRw_nil)
        | (exfalso; omega)
    · have c := num_ext (s := s) (w := d') (by omega) (by omega)
      rcases h with ⟨e1, h⟩ | ⟨hg, h⟩
      · obtain ⟨e2, e3⟩ := va_no (show vaE s d' m ≠ 0 by omega)
        rw [e1, e2, e3]
        rw [h] at c
        refine fc_of mixed T_ok Tryd.func47 rfl (by kernel_rfl) (by kernel_rfl) (by kernel_rfl) ?_
        repeat' ((conv => whnf); first | (refine vcall_pure (c) rfl rfl rfl ?_) | (refine vcallD_pure (c) rfl rfl rfl ?_) | (refine br_dec (fun h => ?_) (fun h => ?_) <;> try (exfalso; omega)) | (refine br_ndec (fun h => ?_) (fun h => ?_) <;> try (exfalso; omega)) | refine br_seq (fun h => ?_) (fun h => ?_) | refine br_nseq (fun h => ?_) (fun h => ?_) | refine br_not (fun h => ?_) (fun h => ?_) | refine br_intro (fun h => ?_) (fun h => ?_) | refine cond_intro rfl ?_ | (refine cond_intro ⟨rfl, ?_⟩ ?_; (first | omega | (dsimp only; omega) | decide)) | (refine cond_intro ?_ ?_; (first | omega | (dsimp only; omega) | decide | (simp only [Nat.add_zero, Int.toNat_natCast, *]; omega))))
        all_goals (conv => whnf)
        all_goals first
          | exact ret_out (l := [0, 1, 2, 3]) rfl rfl ⟨rfl, trivial⟩ (allRw_cons allRw_nil)
          | (exfalso; omega)
      · rw [hg, if_pos rfl] at c
        have hb := numTo_lt hg (by omega)
        have hw : IntKind.i64.wrap (numTo s d') = numTo s d' := w64_in (by omega) (by omega)
        have hw2 : IntKind.i64.wrap ((s.size : Int) - (d' : Int)) = (s.size : Int) - (d' : Int) := w64_in (by omega) (by omega)
        rcases h with ⟨e1, h⟩ | ⟨h1, h2, h⟩
        · obtain ⟨e2, e3⟩ := va_no (show vaE s d' m ≠ 0 by omega)
          rw [e1, e2, e3]
          refine fc_of mixed T_ok Tryd.func47 rfl (by kernel_rfl) (by kernel_rfl) (by kernel_rfl) ?_
          repeat' ((conv => whnf); first | (refine vcall_pure (c) rfl rfl rfl ?_) | (refine vcallD_pure (c) rfl rfl rfl ?_) | (refine br_dec (fun h => ?_) (fun h => ?_) <;> try (exfalso; omega)) | (refine br_ndec (fun h => ?_) (fun h => ?_) <;> try (exfalso; omega)) | refine br_seq (fun h => ?_) (fun h => ?_) | refine br_nseq (fun h => ?_) (fun h => ?_) | refine br_not (fun h => ?_) (fun h => ?_) | refine br_intro (fun h => ?_) (fun h => ?_) | refine cond_intro rfl ?_ | (refine cond_intro ⟨rfl, ?_⟩ ?_; (first | omega | (dsimp only; omega) | decide)) | (refine cond_intro ?_ ?_; (first | omega | (dsimp only; omega) | decide | (simp only [Nat.add_zero, Int.toNat_natCast, *]; omega))))
          all_goals (conv => whnf)
          all_goals first
            | exact ret_out (l := [0, 1, 2, 3]) rfl rfl ⟨rfl, trivial⟩ (allRw_cons allRw_nil)
            | (exfalso; omega)
        · have hw3 : IntKind.i64.wrap ((d' : Int) + numTo s d') = (d' : Int) + numTo s d' := w64_in (by omega) (by omega)
          rcases h with ⟨e1, h⟩ | ⟨e1, h⟩
          · obtain ⟨e2, e3⟩ := va_no (show vaE s d' m ≠ 0 by omega)
            rw [e1, e2, e3]
            refine fc_of mixed T_ok Tryd.func47 rfl (by kernel_rfl) (by kernel_rfl) (by kernel_rfl) ?_
            repeat' ((conv => whnf); first | (refine vcall_pure (c) rfl rfl rfl ?_) | (refine vcallD_pure (c) rfl rfl rfl ?_) | (refine br_dec (fun h => ?_) (fun h => ?_) <;> try (exfalso; omega)) | (refine br_ndec (fun h => ?_) (fun h => ?_) <;> try (exfalso; omega)) | refine br_seq (fun h => ?_) (fun h => ?_) | refine br_nseq (fun h => ?_) (fun h => ?_) | refine br_not (fun h => ?_) (fun h => ?_) | refine br_intro (fun h => ?_) (fun h => ?_) | refine cond_intro rfl ?_ | (refine cond_intro ⟨rfl, ?_⟩ ?_; (first | omega | (dsimp only; omega) | decide)) | (refine cond_intro ?_ ?_; (first | omega | (dsimp only; omega) | decide | (simp only [Nat.add_zero, Int.toNat_natCast, *]; omega))))
            all_goals (conv => whnf)
            all_goals first
              | exact ret_out (l := [0, 1, 2, 3]) rfl rfl ⟨rfl, trivial⟩ (allRw_cons allRw_nil)
              | (exfalso; omega)
          · obtain ⟨e2, e3⟩ := va_ok e1
            rw [e1, e2, e3, Int.toNat_natCast, ← hw3]
            refine fc_of mixed T_ok Tryd.func47 rfl (by kernel_rfl) (by kernel_rfl) (by kernel_rfl) ?_
            repeat' ((conv => whnf); first | (refine vcall_pure (c) rfl rfl rfl ?_) | (refine vcallD_pure (c) rfl rfl rfl ?_) | (refine cond_intro (show 0 ≤ (d' : Int) ∧ (d' : Int) ≤ IntKind.i64.wrap ((d' : Int) + numTo s d') ∧ IntKind.i64.wrap ((d' : Int) + numTo s d') ≤ (s.size : Int) from ?_) ?_; (rw [hw3]; omega)) | (refine br_dec (fun h => ?_) (fun h => ?_) <;> try (exfalso; omega)) | (refine br_ndec (fun h => ?_) (fun h => ?_) <;> try (exfalso; omega)) | refine br_seq (fun h => ?_) (fun h => ?_) | refine br_nseq (fun h => ?_) (fun h => ?_) | refine br_not (fun h => ?_) (fun h => ?_) | refine br_intro (fun h => ?_) (fun h => ?_) | refine cond_intro rfl ?_ | (refine cond_intro ⟨rfl, ?_⟩ ?_; (first | omega | (dsimp only; omega) | decide)) | (refine cond_intro ?_ ?_; (first | omega | (dsimp only; omega) | decide | (simp only [Nat.add_zero, Int.toNat_natCast, *]; omega))))
            all_goals (conv => whnf)
            all_goals first
              | exact ret_out (l := [0, 1, 2, 3]) rfl rfl ⟨rfl, trivial⟩ (allRw_cons allRw_nil)
              | (exfalso; omega)

theorem wire_readVar0 (s : ByteArray) (d m : Int) (hs : s.size ≤ 9223372036854775000) : FC Tryd.prog 5 42 [.ptr 1 0 0 0, .fn 47 [.ptr 2 0 0 0, .ptr 3 0 0 0, .ptr 4 0 0 0]] [(1, rdB s 0), (2, some (.one true (.cells [.int .i64 d]))), (3, some (.one true (.cells [.int .i64 m]))), (4, some (.one false (.cells [.str ⟨#[]⟩])))]
    (isOut (.tup []) [(1, rdB (s.extract (vaC s d m).toNat s.size) (vaE s d m)), (4, some (.one false (.cells [.str (vaS s d m)])))] 5) := by
  have c := wire_VarF s d m hs
  by_cases e1 : vaE s d m = 0
  · have hb : 0 ≤ vaC s d m ∧ vaC s d m ≤ (s.size : Int) := by
      rcases va_cases s d m with ⟨e, _⟩ | ⟨hd, ⟨e, _⟩ | ⟨hz, ⟨e, _⟩ | ⟨hg, ⟨e, _⟩ | ⟨_, _, ⟨e, _⟩ | ⟨_, h⟩⟩⟩⟩⟩ <;> first | (exfalso; omega) | skip
      have := (va_ok e1).2
      have := numTo_bd _ hg
      omega
    rw [e1] at c ⊢
    refine fc_of mixed T_ok Tryd.func42 rfl (by kernel_rfl) (by kernel_rfl) (by kernel_rfl) ?_
    repeat' ((conv => whnf); first | (refine vcall_out (l :=  [0, 2, 3, 4]) (c ) ⟨rfl, rfl, rfl, rfl, (by (repeat' (first | exact trivial | exact GB_wf | constructor)); first | done | fail), (by (repeat' (first | exact trivial | exact GB_fits rfl | constructor)); first | done | fail)⟩ ?_) | (refine vcallD_out (l :=  [0, 2, 3, 4]) (c ) ⟨rfl, rfl, rfl, rfl, (by (repeat' (first | exact trivial | exact GB_wf | constructor)); first | done | fail), (by (repeat' (first | exact trivial | exact GB_fits rfl | constructor)); first | done | fail)⟩ ?_) | (refine br_dec (fun h => ?_) (fun h => ?_) <;> try (exfalso; omega)) | (refine br_ndec (fun h => ?_) (fun h => ?_) <;> try (exfalso; omega)) | refine br_seq (fun h => ?_) (fun h => ?_) | refine br_nseq (fun h => ?_) (fun h => ?_) | refine br_not (fun h => ?_) (fun h => ?_) | refine br_intro (fun h => ?_) (fun h => ?_) | refine cond_intro rfl ?_ | (refine cond_intro ⟨rfl, ?_⟩ ?_; (first | omega | (dsimp only; omega) | decide)) | (refine cond_intro ?_ ?_; (first | omega | (dsimp only; omega) | decide | (simp only [Nat.add_zero, Int.toNat_natCast, *]; omega))))
    all_goals (conv => whnf)
    all_goals exact ret_out (l := [0, 1, 2, 3, 4]) rfl rfl ⟨rfl, rfl, trivial⟩ (allRw_cons (allRw_cons allRw_nil))
  · obtain ⟨e2, e3⟩ := va_no e1
    rw [e2, e3] at c ⊢
    rw [show s.extract (Int.toNat 0) s.size = s from by simp]
    refine fc_of mixed T_ok Tryd.func42 rfl (by kernel_rfl) (by kernel_rfl) (by kernel_rfl) ?_
    repeat' ((conv => whnf); first | (refine vcall_out (l :=  [0, 2, 3, 4]) (c ) ⟨rfl, rfl, rfl, rfl, (by (repeat' (first | exact trivial | exact GB_wf | constructor)); first | done | fail), (by (repeat' (first | exact trivial | exact GB_fits rfl | constructor)); first | done | fail)⟩ ?_) | (refine vcallD_out (l :=  [0, 2, 3, 4]) (c ) ⟨rfl, rfl, rfl, rfl, (by (repeat' (first | exact trivial | exact GB_wf | constructor)); first | done | fail), (by (repeat' (first | exact trivial | exact GB_fits rfl | constructor)); first | done | fail)⟩ ?_) | (refine br_dec (fun h => ?_) (fun h => ?_) <;> try (exfalso; omega)) | (refine br_ndec (fun h => ?_) (fun h => ?_) <;> try (exfalso; omega)) | refine br_seq (fun h => ?_) (fun h => ?_) | refine br_nseq (fun h => ?_) (fun h => ?_) | refine br_not (fun h => ?_) (fun h => ?_) | refine br_intro (fun h => ?_) (fun h => ?_) | refine cond_intro rfl ?_ | (refine cond_intro ⟨rfl, ?_⟩ ?_; (first | omega | (dsimp only; omega) | decide)) | (refine cond_intro ?_ ?_; (first | omega | (dsimp only; omega) | decide | (simp only [Nat.add_zero, Int.toNat_natCast, *]; omega))))
    all_goals (conv => whnf)
    all_goals first
      | exact ret_out (l := [0, 1, 2, 3, 4]) rfl rfl ⟨rfl, rfl, trivial⟩ (allRw_cons (allRw_cons allRw_nil))
      | (exfalso; exact e1 (by assumption))
def vS (s : ByteArray) (e d m : Int) : ByteArray := if e = 0 then s.extract (vaC s d m).toNat s.size else s
def vE (s : ByteArray) (e d m : Int) : Int := if e = 0 then vaE s d m else e
def vV (s : ByteArray) (e d m : Int) : ByteArray := if e = 0 then vaS s d m else ⟨#[]⟩
theorem rd_Var (s : ByteArray) (e d m : Int) (hs : s.size ≤ 9223372036854775000) : FC Tryd.prog 2 23 [.ptr 1 0 0 0, .int .i64 d, .int .i64 m] [(1, rdB s e)] (isOut (.str (vV s e d m)) [(1, rdB (vS s e d m) (vE s e d m))] 2) := by
  unfold vS vE vV
  by_cases he : e = 0
  · subst he
    have c := wire_readVar0 s d m hs
    rw [if_pos rfl, if_pos rfl, if_pos rfl]
    refine fc_of mixed T_ok Tryd.func23 rfl (by kernel_rfl) (by kernel_rfl) (by kernel_rfl) ?_
    repeat' ((conv => whnf); first | (refine vcall_out (l :=  [0, 1, 2, 3, 4]) (c ) ⟨rfl, rfl, rfl, rfl, (by (repeat' (first | exact trivial | exact GB_wf | constructor)); first | done | fail), (by (repeat' (first | exact trivial | exact GB_fits rfl | constructor)); first | done | fail)⟩ ?_) | (refine vcallD_out (l :=  [0, 1, 2, 3, 4]) (c ) ⟨rfl, rfl, rfl, rfl, (by (repeat' (first | exact trivial | exact GB_wf | constructor)); first | done | fail), (by (repeat' (first | exact trivial | exact GB_fits rfl | constructor)); first | done | fail)⟩ ?_) | (refine br_dec (fun h => ?_) (fun h => ?_) <;> try (exfalso; omega)) | (refine br_ndec (fun h => ?_) (fun h => ?_) <;> try (exfalso; omega)) | refine br_seq (fun h => ?_) (fun h => ?_) | refine br_nseq (fun h => ?_) (fun h => ?_) | refine br_not (fun h => ?_) (fun h => ?_) | refine br_intro (fun h => ?_) (fun h => ?_) | refine cond_intro rfl ?_ | (refine cond_intro ⟨rfl, ?_⟩ ?_; (first | omega | (dsimp only; omega) | decide)) | (refine cond_intro ?_ ?_; (first | omega | (dsimp only; omega) | decide | (simp only [Nat.add_zero, Int.toNat_natCast, *]; omega))))
    all_goals (conv => whnf)
    all_goals exact ret_out (l := [0, 1]) rfl rfl ⟨rfl, trivial⟩ (allRw_cons allRw_nil)
  · have c := wire_readE3 s e 47 he
    rw [if_neg he, if_neg he, if_neg he]
    refine fc_of mixed T_ok Tryd.func23 rfl (by kernel_rfl) (by kernel_rfl) (by kernel_rfl) ?_
    repeat' ((conv => whnf); first | (refine vcall_out (l :=  [0, 1, 2, 3, 4]) (c ) ⟨rfl, rfl, rfl, rfl, (by (repeat' (first | exact trivial | exact GB_wf | constructor)); first | done | fail), (by (repeat' (first | exact trivial | exact GB_fits rfl | constructor)); first | done | fail)⟩ ?_) | (refine vcallD_out (l :=  [0, 1, 2, 3, 4]) (c ) ⟨rfl, rfl, rfl, rfl, (by (repeat' (first | exact trivial | exact GB_wf | constructor)); first | done | fail), (by (repeat' (first | exact trivial | exact GB_fits rfl | constructor)); first | done | fail)⟩ ?_) | (refine br_dec (fun h => ?_) (fun h => ?_) <;> try (exfalso; omega)) | (refine br_ndec (fun h => ?_) (fun h => ?_) <;> try (exfalso; omega)) | refine br_seq (fun h => ?_) (fun h => ?_) | refine br_nseq (fun h => ?_) (fun h => ?_) | refine br_not (fun h => ?_) (fun h => ?_) | refine br_intro (fun h => ?_) (fun h => ?_) | refine cond_intro rfl ?_ | (refine cond_intro ⟨rfl, ?_⟩ ?_; (first | omega | (dsimp only; omega) | decide)) | (refine cond_intro ?_ ?_; (first | omega | (dsimp only; omega) | decide | (simp only [Nat.add_zero, Int.toNat_natCast, *]; omega))))
    all_goals (conv => whnf)
    all_goals exact ret_out (l := [0, 1]) rfl rfl ⟨rfl, trivial⟩ (allRw_cons allRw_nil)
theorem rd_VarN (d m : Int) : Pure Tryd.prog 23 [.nptr, .int .i64 d, .int .i64 m] (.str ⟨#[]⟩) := by
  have c := wire_readN3 47
  refine fc_of mixed T_ok Tryd.func23 rfl (by kernel_rfl) (by kernel_rfl) (by kernel_rfl) ?_
  repeat' ((conv => whnf); first | (refine vcall_out (l :=  [0, 1, 2, 3]) (c ) ⟨rfl, rfl, rfl, rfl, (by (repeat' (first | exact trivial | exact GB_wf | constructor)); first | done | fail), (by (repeat' (first | exact trivial | exact GB_fits rfl | constructor)); first | done | fail)⟩ ?_) | (refine vcallD_out (l :=  [0, 1, 2, 3]) (c ) ⟨rfl, rfl, rfl, rfl, (by (repeat' (first | exact trivial | exact GB_wf | constructor)); first | done | fail), (by (repeat' (first | exact trivial | exact GB_fits rfl | constructor)); first | done | fail)⟩ ?_) | (refine br_dec (fun h => ?_) (fun h => ?_) <;> try (exfalso; omega)) | (refine br_ndec (fun h => ?_) (fun h => ?_) <;> try (exfalso; omega)) | refine br_seq (fun h => ?_) (fun h => ?_) | refine br_nseq (fun h => ?_) (fun h => ?_) | refine br_not (fun h => ?_) (fun h => ?_) | refine br_intro (fun h => ?_) (fun h => ?_) | refine cond_intro rfl ?_ | (refine cond_intro ⟨rfl, ?_⟩ ?_; (first | omega | (dsimp only; omega) | decide)) | (refine cond_intro ?_ ?_; (first | omega | (dsimp only; omega) | decide | (simp only [Nat.add_zero, Int.toNat_natCast, *]; omega))))
  all_goals (conv => whnf)
  all_goals exact ret_pure rfl

/-- The law's examples. -/
theorem w_awake : Glob Tryd.prog glT 7 [] (.bool true) := by
  have c1 := wire_Num 7 3 (by omega)
  have c2 := wire_Alpha ⟨#[97, 98]⟩ 4 (by decide) (by decide)
  have c3 := wire_Var ⟨#[120, 124, 121]⟩ 2 (by decide)
  have c4 := wire_Hex ⟨#[65]⟩ (by decide)
  have c5 := rd_New ⟨#[48, 51, 97, 98, 99]⟩
  have c6 := rd_Var ⟨#[48, 51, 97, 98, 99]⟩ 0 2 2 (by decide)
  have v1 : numS 7 3 = ⟨#[48, 48, 55]⟩ := by
    have h : numOk 7 3 := ⟨by omega, by omega, by omega, ndig_of_lt (w := 3) (by decide) (by decide)⟩
    rw [numS_ok h]; rfl
  have v2 : numE 7 3 = 0 := numE_ok ⟨by omega, by omega, by omega, ndig_of_lt (w := 3) (by decide) (by decide)⟩
  have v3 : alE ⟨#[97, 98]⟩ 4 = 0 := by decide
  have v4 : alS ⟨#[97, 98]⟩ 4 = ⟨#[97, 98, 32, 32]⟩ := by unfold alS; rw [v3]; rfl
  have v5 : varE ⟨#[120, 124, 121]⟩ 2 = 0 := by decide
  have v6 : varS ⟨#[120, 124, 121]⟩ 2 = ⟨#[48, 51, 120, 124, 121]⟩ := by unfold varS; rw [v5]; rfl
  have v7 : bytesOf (hexL ⟨#[65]⟩ (ByteArray.size ⟨#[65]⟩)) = ⟨#[52, 49]⟩ := by decide
  have v8 : vaE ⟨#[48, 51, 97, 98, 99]⟩ 2 2 = 3 := by unfold vaE; decide
  have v9 := va_no (show vaE ⟨#[48, 51, 97, 98, 99]⟩ 2 2 ≠ 0 by rw [v8]; decide)
  rw [v1, v2] at c1
  rw [v3, v4] at c2
  rw [v5, v6] at c3
  rw [v7] at c4
  rw [show vV ⟨#[48, 51, 97, 98, 99]⟩ 0 2 2 = ⟨#[]⟩ from v9.1, show vE ⟨#[48, 51, 97, 98, 99]⟩ 0 2 2 = 3 from v8, show vS ⟨#[48, 51, 97, 98, 99]⟩ 0 2 2 = ⟨#[48, 51, 97, 98, 99]⟩ by unfold vS; rw [v9.2]; rfl] at c6
  have c7 := rd_Err ⟨#[48, 51, 97, 98, 99]⟩ 3
  have c8 := rd_Left ⟨#[48, 51, 97, 98, 99]⟩ 3
  refine fc_of mixed T_ok Tryd.func7 rfl (by kernel_rfl) (by kernel_rfl) (by kernel_rfl) ?_
  repeat' ((conv => whnf); first | (refine vcall_glob (c1) rfl rfl rfl rfl ?_) | (refine vcall_pure (c2) rfl rfl rfl ?_) | (refine vcallD_pure (c2) rfl rfl rfl ?_) | (refine vcall_glob (c3) rfl rfl rfl rfl ?_) | (refine vcall_pure (c4) rfl rfl rfl ?_) | (refine vcallD_pure (c4) rfl rfl rfl ?_) | (refine vcall_out (l :=  [0]) (c5 ) ⟨rfl, rfl, rfl, rfl, (by (repeat' (first | exact trivial | exact GB_wf | constructor)); first | done | fail), (by (repeat' (first | exact trivial | exact GB_fits rfl | constructor)); first | done | fail)⟩ ?_) | (refine vcall_out (l :=  [0, 1]) (c6 ) ⟨rfl, rfl, rfl, rfl, (by (repeat' (first | exact trivial | exact GB_wf | constructor)); first | done | fail), (by (repeat' (first | exact trivial | exact GB_fits rfl | constructor)); first | done | fail)⟩ ?_) | (refine vcall_out (l :=  [0, 1]) (c7 ) ⟨rfl, rfl, rfl, rfl, (by (repeat' (first | exact trivial | exact GB_wf | constructor)); first | done | fail), (by (repeat' (first | exact trivial | exact GB_fits rfl | constructor)); first | done | fail)⟩ ?_) | (refine vcall_out (l :=  [0, 1]) (c8 ) ⟨rfl, rfl, rfl, rfl, (by (repeat' (first | exact trivial | exact GB_wf | constructor)); first | done | fail), (by (repeat' (first | exact trivial | exact GB_fits rfl | constructor)); first | done | fail)⟩ ?_) | (refine br_dec (fun h => ?_) (fun h => ?_) <;> try (exfalso; omega)) | (refine br_ndec (fun h => ?_) (fun h => ?_) <;> try (exfalso; omega)) | refine br_seq (fun h => ?_) (fun h => ?_) | refine br_nseq (fun h => ?_) (fun h => ?_) | refine br_not (fun h => ?_) (fun h => ?_) | refine br_intro (fun h => ?_) (fun h => ?_) | refine cond_intro rfl ?_ | (refine cond_intro ⟨rfl, ?_⟩ ?_; (first | omega | (dsimp only; omega) | decide)) | (refine cond_intro ?_ ?_; (first | omega | (dsimp only; omega) | decide | (simp only [Nat.add_zero, Int.toNat_natCast, *]; omega))))
  all_goals (conv => whnf)
  all_goals exact ret_pure rfl
end Go.Proofs.YtkbajejkllkahaaDoor
