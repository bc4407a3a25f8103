/- Contracts of the reference of package wire: texts. -/
import Derived.Test.YtkbajejkllkahaaDoorWireC8
namespace Go.Proofs.YtkbajejkllkahaaDoor
open Go.RowKit Go.Sy
attribute [local irreducible] vcall vloop vcallD retP
set_option maxRecDepth 100000
set_option linter.unusedVariables false
set_option linter.unusedSimpArgs false

theorem ext_ext2 {s : ByteArray} {k j : Nat} (h : k ≤ s.size) : (s.extract 0 k).extract j (s.extract 0 k).size = s.extract j k := by
  rw [ext_size h]
  apply ext_ba
  simp only [ByteArray.data_extract, Array.toList_extract, List.extract_eq_take_drop, Nat.sub_zero, List.drop_zero, List.drop_take, List.take_take]
  rw [Nat.min_self]
theorem rf_Var (s : ByteArray) (e d m : Int) (hs : s.size ≤ 9223372036854775000) : FC Tryd.prog 2 29 [.ptr 1 0 0 0, .int .i64 d, .int .i64 m] [(1, rdB s e)] (isOut (.str (vV s e d m)) [(1, rdB (vS s e d m) (vE s e d m))] 2) := by
  unfold vS vE vV
  by_cases he : e = 0
  · subst he
    rw [if_pos rfl, if_pos rfl, if_pos rfl]
    have e0 : s.extract (Int.toNat 0) s.size = s := by simp
    rcases va_cases s d m with ⟨e1, h⟩ | ⟨hd, h⟩
    · obtain ⟨e2, e3⟩ := va_no (show vaE s d m ≠ 0 by omega)
      rw [e1, e2, e3, e0]
      have c := ref06_fail s 0 4
      refine fc_of mixed T_ok Tryd.func29 rfl (by kernel_rfl) (by kernel_rfl) (by kernel_rfl) ?_
      repeat' ((conv => whnf); first | (refine vcall_out (l :=  [0, 1]) (c ) ⟨rfl, rfl, rfl, rfl, (by (repeat' (first | exact trivial | exact GB_wf | constructor)); first | done | fail), (by (repeat' (first | exact trivial | exact GB_fits rfl | constructor)); first | done | fail)⟩ ?_) | (refine vcallD_out (l :=  [0, 1]) (c ) ⟨rfl, rfl, rfl, rfl, (by (repeat' (first | exact trivial | exact GB_wf | constructor)); first | done | fail), (by (repeat' (first | exact trivial | exact GB_fits rfl | constructor)); first | done | fail)⟩ ?_) | (refine br_dec (fun h => ?_) (fun h => ?_) <;> try (exfalso; omega)) | (refine br_ndec (fun h => ?_) (fun h => ?_) <;> try (exfalso; omega)) | refine br_seq (fun h => ?_) (fun h => ?_) | refine br_nseq (fun h => ?_) (fun h => ?_) | refine br_not (fun h => ?_) (fun h => ?_) | refine br_intro (fun h => ?_) (fun h => ?_) | refine cond_intro rfl ?_ | (refine cond_intro ⟨rfl, ?_⟩ ?_; (first | omega | (dsimp only; omega) | decide)) | (refine cond_intro ?_ ?_; (first | omega | (dsimp only; omega) | decide | (simp only [Nat.add_zero, Int.toNat_natCast, *]; omega))))
      all_goals (conv => whnf)
      all_goals first
        | exact ret_out (l := [0, 1]) rfl rfl ⟨rfl, trivial⟩ (allRw_cons allRw_nil)
        | (exfalso; omega)
    · obtain ⟨d', rfl⟩ := Int.eq_ofNat_of_zero_le (show 0 ≤ d by omega)
      rw [Int.toNat_natCast] at h
      rcases h with ⟨e1, h⟩ | ⟨hz, h⟩
      · obtain ⟨e2, e3⟩ := va_no (show vaE s d' m ≠ 0 by omega)
        rw [e1, e2, e3, e0]
        have c := ref06_fail s 0 1
        refine fc_of mixed T_ok Tryd.func29 rfl (by kernel_rfl) (by kernel_rfl) (by kernel_rfl) ?_
        repeat' ((conv => whnf); first | (refine vcall_out (l :=  [0, 1]) (c ) ⟨rfl, rfl, rfl, rfl, (by (repeat' (first | exact trivial | exact GB_wf | constructor)); first | done | fail), (by (repeat' (first | exact trivial | exact GB_fits rfl | constructor)); first | done | fail)⟩ ?_) | (refine vcallD_out (l :=  [0, 1]) (c ) ⟨rfl, rfl, rfl, rfl, (by (repeat' (first | exact trivial | exact GB_wf | constructor)); first | done | fail), (by (repeat' (first | exact trivial | exact GB_fits rfl | constructor)); first | done | fail)⟩ ?_) | (refine br_dec (fun h => ?_) (fun h => ?_) <;> try (exfalso; omega)) | (refine br_ndec (fun h => ?_) (fun h => ?_) <;> try (exfalso; omega)) | refine br_seq (fun h => ?_) (fun h => ?_) | refine br_nseq (fun h => ?_) (fun h => ?_) | refine br_not (fun h => ?_) (fun h => ?_) | refine br_intro (fun h => ?_) (fun h => ?_) | refine cond_intro rfl ?_ | (refine cond_intro ⟨rfl, ?_⟩ ?_; (first | omega | (dsimp only; omega) | decide)) | (refine cond_intro ?_ ?_; (first | omega | (dsimp only; omega) | decide | (simp only [Nat.add_zero, Int.toNat_natCast, *]; omega))))
        all_goals (conv => whnf)
        all_goals first
          | exact ret_out (l := [0, 1]) rfl rfl ⟨rfl, trivial⟩ (allRw_cons allRw_nil)
          | (exfalso; omega)
      · have hx : (s.extract 0 d').size = d' := ext_size (by omega)
        have hy := dgTo_ext (s := s) (w := d') (by omega) d' (Nat.le_refl _)
        have c1 := ref06_Digits (s.extract 0 d') (by omega)
        rw [hx, hy.1] at c1
        rcases h with ⟨e1, h⟩ | ⟨hg, h⟩
        · obtain ⟨e2, e3⟩ := va_no (show vaE s d' m ≠ 0 by omega)
          rw [e1, e2, e3, e0]
          rw [h] at c1
          have c := ref06_fail s 0 2
          refine fc_of mixed T_ok Tryd.func29 rfl (by kernel_rfl) (by kernel_rfl) (by kernel_rfl) ?_
          repeat' ((conv => whnf); first | (refine vcall_pure (c1) rfl rfl rfl ?_) | (refine vcallD_pure (c1) rfl rfl rfl ?_) | (refine vcall_out (l :=  [0, 1]) (c ) ⟨rfl, rfl, rfl, rfl, (by (repeat' (first | exact trivial | exact GB_wf | constructor)); first | done | fail), (by (repeat' (first | exact trivial | exact GB_fits rfl | constructor)); first | done | fail)⟩ ?_) | (refine vcallD_out (l :=  [0, 1]) (c ) ⟨rfl, rfl, rfl, rfl, (by (repeat' (first | exact trivial | exact GB_wf | constructor)); first | done | fail), (by (repeat' (first | exact trivial | exact GB_fits rfl | constructor)); first | done | fail)⟩ ?_) | (refine br_dec (fun h => ?_) (fun h => ?_) <;> try (exfalso; omega)) | (refine br_ndec (fun h => ?_) (fun h => ?_) <;> try (exfalso; omega)) | refine br_seq (fun h => ?_) (fun h => ?_) | refine br_nseq (fun h => ?_) (fun h => ?_) | refine br_not (fun h => ?_) (fun h => ?_) | refine br_intro (fun h => ?_) (fun h => ?_) | refine cond_intro rfl ?_ | (refine cond_intro ⟨rfl, ?_⟩ ?_; (first | omega | (dsimp only; omega) | decide)) | (refine cond_intro ?_ ?_; (first | omega | (dsimp only; omega) | decide | (simp only [Nat.add_zero, Int.toNat_natCast, *]; omega))))
          all_goals (conv => whnf)
          all_goals first
            | exact ret_out (l := [0, 1]) rfl rfl ⟨rfl, trivial⟩ (allRw_cons allRw_nil)
            | (exfalso; omega)
        · rw [hg] at c1
          have c2 := ref06_number (s.extract 0 d') (by omega) (by rw [hx, hy.1]; exact hg)
          rw [hx, hy.2] at c2
          have hb := numTo_lt hg (by omega)
          have hw : IntKind.i64.wrap (numTo s d') = numTo s d' := w64_in (by omega) (by omega)
          have hw3 : IntKind.i64.wrap ((d' : Int) + numTo s d') = (d' : Int) + numTo s d' := w64_in (by omega) (by omega)
          rcases h with ⟨e1, h⟩ | ⟨h1, h2, h⟩
          · obtain ⟨e2, e3⟩ := va_no (show vaE s d' m ≠ 0 by omega)
            rw [e1, e2, e3, e0]
            have c := ref06_fail s 0 3
            refine fc_of mixed T_ok Tryd.func29 rfl (by kernel_rfl) (by kernel_rfl) (by kernel_rfl) ?_
            repeat' ((conv => whnf); first | (refine vcall_pure (c1) rfl rfl rfl ?_) | (refine vcallD_pure (c1) rfl rfl rfl ?_) | (refine vcall_pure (c2) rfl rfl rfl ?_) | (refine vcallD_pure (c2) rfl rfl rfl ?_) | (refine vcall_out (l :=  [0, 1]) (c ) ⟨rfl, rfl, rfl, rfl, (by (repeat' (first | exact trivial | exact GB_wf | constructor)); first | done | fail), (by (repeat' (first | exact trivial | exact GB_fits rfl | constructor)); first | done | fail)⟩ ?_) | (refine vcallD_out (l :=  [0, 1]) (c ) ⟨rfl, rfl, rfl, rfl, (by (repeat' (first | exact trivial | exact GB_wf | constructor)); first | done | fail), (by (repeat' (first | exact trivial | exact GB_fits rfl | constructor)); first | done | fail)⟩ ?_) | (refine br_dec (fun h => ?_) (fun h => ?_) <;> try (exfalso; omega)) | (refine br_ndec (fun h => ?_) (fun h => ?_) <;> try (exfalso; omega)) | refine br_seq (fun h => ?_) (fun h => ?_) | refine br_nseq (fun h => ?_) (fun h => ?_) | refine br_not (fun h => ?_) (fun h => ?_) | refine br_intro (fun h => ?_) (fun h => ?_) | refine cond_intro rfl ?_ | (refine cond_intro ⟨rfl, ?_⟩ ?_; (first | omega | (dsimp only; omega) | decide)) | (refine cond_intro ?_ ?_; (first | omega | (dsimp only; omega) | decide | (simp only [Nat.add_zero, Int.toNat_natCast, *]; omega))))
            all_goals (conv => whnf)
            all_goals first
              | exact ret_out (l := [0, 1]) rfl rfl ⟨rfl, trivial⟩ (allRw_cons allRw_nil)
              | (exfalso; omega)
          · rcases h with ⟨e1, h⟩ | ⟨e1, h⟩
            · obtain ⟨e2, e3⟩ := va_no (show vaE s d' m ≠ 0 by omega)
              rw [e1, e2, e3, e0]
              have c := ref06_fail s 0 1
              refine fc_of mixed T_ok Tryd.func29 rfl (by kernel_rfl) (by kernel_rfl) (by kernel_rfl) ?_
              repeat' ((conv => whnf); first | (refine vcall_pure (c1) rfl rfl rfl ?_) | (refine vcallD_pure (c1) rfl rfl rfl ?_) | (refine vcall_pure (c2) rfl rfl rfl ?_) | (refine vcallD_pure (c2) rfl rfl rfl ?_) | (refine vcall_out (l :=  [0, 1]) (c ) ⟨rfl, rfl, rfl, rfl, (by (repeat' (first | exact trivial | exact GB_wf | constructor)); first | done | fail), (by (repeat' (first | exact trivial | exact GB_fits rfl | constructor)); first | done | fail)⟩ ?_) | (refine vcallD_out (l :=  [0, 1]) (c ) ⟨rfl, rfl, rfl, rfl, (by (repeat' (first | exact trivial | exact GB_wf | constructor)); first | done | fail), (by (repeat' (first | exact trivial | exact GB_fits rfl | constructor)); first | done | fail)⟩ ?_) | (refine br_dec (fun h => ?_) (fun h => ?_) <;> try (exfalso; omega)) | (refine br_ndec (fun h => ?_) (fun h => ?_) <;> try (exfalso; omega)) | refine br_seq (fun h => ?_) (fun h => ?_) | refine br_nseq (fun h => ?_) (fun h => ?_) | refine br_not (fun h => ?_) (fun h => ?_) | refine br_intro (fun h => ?_) (fun h => ?_) | refine cond_intro rfl ?_ | (refine cond_intro ⟨rfl, ?_⟩ ?_; (first | omega | (dsimp only; omega) | decide)) | (refine cond_intro ?_ ?_; (first | omega | (dsimp only; omega) | decide | (simp only [Nat.add_zero, Int.toNat_natCast, *]; omega))))
              all_goals (conv => whnf)
              all_goals first
                | exact ret_out (l := [0, 1]) rfl rfl ⟨rfl, trivial⟩ (allRw_cons allRw_nil)
                | (exfalso; omega)
            · obtain ⟨e2, e3⟩ := va_ok e1
              rw [e1, e2, e3, Int.toNat_natCast, ← hw3]
              have c := ref06_take s 0 (IntKind.i64.wrap ((d' : Int) + numTo s d')) (by omega) (by omega)
              have hsz : (s.extract 0 (IntKind.i64.wrap ((d' : Int) + numTo s d')).toNat).size = (IntKind.i64.wrap ((d' : Int) + numTo s d')).toNat := ext_size (by omega)
              refine fc_of mixed T_ok Tryd.func29 rfl (by kernel_rfl) (by kernel_rfl) (by kernel_rfl) ?_
              repeat' ((conv => whnf); first | (refine vcall_pure (c1) rfl rfl rfl ?_) | (refine vcallD_pure (c1) rfl rfl rfl ?_) | (refine vcall_pure (c2) rfl rfl rfl ?_) | (refine vcallD_pure (c2) rfl rfl rfl ?_) | (refine vcall_out (l :=  [0, 1]) (c ) ⟨rfl, rfl, rfl, rfl, (by (repeat' (first | exact trivial | exact GB_wf | constructor)); first | done | fail), (by (repeat' (first | exact trivial | exact GB_fits rfl | constructor)); first | done | fail)⟩ ?_) | (refine vcallD_out (l :=  [0, 1]) (c ) ⟨rfl, rfl, rfl, rfl, (by (repeat' (first | exact trivial | exact GB_wf | constructor)); first | done | fail), (by (repeat' (first | exact trivial | exact GB_fits rfl | constructor)); first | done | fail)⟩ ?_) | (refine br_dec (fun h => ?_) (fun h => ?_) <;> try (exfalso; omega)) | (refine br_ndec (fun h => ?_) (fun h => ?_) <;> try (exfalso; omega)) | refine br_seq (fun h => ?_) (fun h => ?_) | refine br_nseq (fun h => ?_) (fun h => ?_) | refine br_not (fun h => ?_) (fun h => ?_) | refine br_intro (fun h => ?_) (fun h => ?_) | refine cond_intro rfl ?_ | (refine cond_intro ⟨rfl, ?_⟩ ?_; (first | omega | (dsimp only; omega) | decide)) | (refine cond_intro ?_ ?_; (first | omega | (dsimp only; omega) | decide | (simp only [Nat.add_zero, Int.toNat_natCast, *]; omega))))
              all_goals (conv => whnf)
              all_goals first
                | exact ret_out (l := [0, 1]) rfl rfl ⟨rfl, trivial⟩ (allRw_cons allRw_nil)
                | (exfalso; omega)
                | (refine ret_out (l := [0, 1]) rfl (congrArg SV.str ?_) ⟨rfl, trivial⟩ (allRw_cons allRw_nil); rw [Int.toNat_natCast, Int.toNat_natCast]; exact ext_ext2 (by omega))
  · rw [if_neg he, if_neg he, if_neg he]
    refine fc_of mixed T_ok Tryd.func29 rfl (by kernel_rfl) (by kernel_rfl) (by kernel_rfl) ?_
    repeat' ((conv => whnf); first | (refine br_dec (fun h => ?_) (fun h => ?_) <;> try (exfalso; omega)) | (refine br_ndec (fun h => ?_) (fun h => ?_) <;> try (exfalso; omega)) | refine br_seq (fun h => ?_) (fun h => ?_) | refine br_nseq (fun h => ?_) (fun h => ?_) | refine br_not (fun h => ?_) (fun h => ?_) | refine br_intro (fun h => ?_) (fun h => ?_) | refine cond_intro rfl ?_ | (refine cond_intro ⟨rfl, ?_⟩ ?_; (first | omega | (dsimp only; omega) | decide)) | (refine cond_intro ?_ ?_; (first | omega | (dsimp only; omega) | decide | (simp only [Nat.add_zero, Int.toNat_natCast, *]; omega))))
    all_goals (conv => whnf)
    all_goals first
      | exact ret_out (l := [0, 1]) rfl rfl ⟨rfl, trivial⟩ (allRw_cons allRw_nil)
      | (exfalso; exact he (by assumption))

theorem rf_Alpha (s : ByteArray) (e w : Int) (hs : s.size ≤ 9223372036854775000) : FC Tryd.prog 2 28 [.ptr 1 0 0 0, .int .i64 w] [(1, rdB s e)] (isOut (.str (tV e (apS s w))) [(1, rdB (tS s e (apE s w) w) (tE e (apE s w)))] 2) := by
  unfold tS tE tV
  by_cases he : e = 0
  · subst he
    rw [if_pos rfl, if_pos rfl, if_pos rfl]
    have e0 : s.extract (Int.toNat 0) s.size = s := by simp
    rcases ap_cases s w with ⟨e1, h⟩ | ⟨h1, h2, h⟩
    · rw [apS_no (by omega), e1, show cntE 4 w = 0 from rfl, e0]
      have c := ref06_fail s 0 4
      refine fc_of mixed T_ok Tryd.func28 rfl (by kernel_rfl) (by kernel_rfl) (by kernel_rfl) ?_
      repeat' ((conv => whnf); first | (refine vcall_out (l :=  [0, 1]) (c ) ⟨rfl, rfl, rfl, rfl, (by (repeat' (first | exact trivial | exact GB_wf | constructor)); first | done | fail), (by (repeat' (first | exact trivial | exact GB_fits rfl | constructor)); first | done | fail)⟩ ?_) | (refine vcallD_out (l :=  [0, 1]) (c ) ⟨rfl, rfl, rfl, rfl, (by (repeat' (first | exact trivial | exact GB_wf | constructor)); first | done | fail), (by (repeat' (first | exact trivial | exact GB_fits rfl | constructor)); first | done | fail)⟩ ?_) | (refine br_dec (fun h => ?_) (fun h => ?_) <;> try (exfalso; omega)) | (refine br_ndec (fun h => ?_) (fun h => ?_) <;> try (exfalso; omega)) | refine br_seq (fun h => ?_) (fun h => ?_) | refine br_nseq (fun h => ?_) (fun h => ?_) | refine br_not (fun h => ?_) (fun h => ?_) | refine br_intro (fun h => ?_) (fun h => ?_) | refine cond_intro rfl ?_ | (refine cond_intro ⟨rfl, ?_⟩ ?_; (first | omega | (dsimp only; omega) | decide)) | (refine cond_intro ?_ ?_; (first | omega | (dsimp only; omega) | decide | (simp only [Nat.add_zero, Int.toNat_natCast, *]; omega))))
      all_goals (conv => whnf)
      all_goals first
        | exact ret_out (l := [0, 1]) rfl rfl ⟨rfl, trivial⟩ (allRw_cons allRw_nil)
        | (exfalso; omega)
    · obtain ⟨w', rfl⟩ := Int.eq_ofNat_of_zero_le (show 0 ≤ w by omega)
      rw [Int.toNat_natCast] at h
      rcases h with ⟨e1, h⟩ | ⟨hz, h⟩
      · rw [apS_no (by omega), e1, show cntE 1 w' = 0 from rfl, e0]
        have c := ref06_fail s 0 1
        refine fc_of mixed T_ok Tryd.func28 rfl (by kernel_rfl) (by kernel_rfl) (by kernel_rfl) ?_
        repeat' ((conv => whnf); first | (refine vcall_out (l :=  [0, 1]) (c ) ⟨rfl, rfl, rfl, rfl, (by (repeat' (first | exact trivial | exact GB_wf | constructor)); first | done | fail), (by (repeat' (first | exact trivial | exact GB_fits rfl | constructor)); first | done | fail)⟩ ?_) | (refine vcallD_out (l :=  [0, 1]) (c ) ⟨rfl, rfl, rfl, rfl, (by (repeat' (first | exact trivial | exact GB_wf | constructor)); first | done | fail), (by (repeat' (first | exact trivial | exact GB_fits rfl | constructor)); first | done | fail)⟩ ?_) | (refine br_dec (fun h => ?_) (fun h => ?_) <;> try (exfalso; omega)) | (refine br_ndec (fun h => ?_) (fun h => ?_) <;> try (exfalso; omega)) | refine br_seq (fun h => ?_) (fun h => ?_) | refine br_nseq (fun h => ?_) (fun h => ?_) | refine br_not (fun h => ?_) (fun h => ?_) | refine br_intro (fun h => ?_) (fun h => ?_) | refine cond_intro rfl ?_ | (refine cond_intro ⟨rfl, ?_⟩ ?_; (first | omega | (dsimp only; omega) | decide)) | (refine cond_intro ?_ ?_; (first | omega | (dsimp only; omega) | decide | (simp only [Nat.add_zero, Int.toNat_natCast, *]; omega))))
        all_goals (conv => whnf)
        all_goals first
          | exact ret_out (l := [0, 1]) rfl rfl ⟨rfl, trivial⟩ (allRw_cons allRw_nil)
          | (exfalso; omega)
      · have hx : (s.extract 0 w').size = w' := ext_size (by omega)
        have c1 := ref06_Printable (s.extract 0 w') (by omega)
        have hp : prB (s.extract 0 w') = prTo s w' := by unfold prB; rw [hx]; exact prTo_ext (by omega) w' (Nat.le_refl _)
        rw [hp] at c1
        rcases h with ⟨e1, h⟩ | ⟨e1, h⟩
        · rw [apS_no (by omega), e1, show cntE 2 w' = 0 from rfl, e0]
          rw [h] at c1
          have c := ref06_fail s 0 2
          refine fc_of mixed T_ok Tryd.func28 rfl (by kernel_rfl) (by kernel_rfl) (by kernel_rfl) ?_
          repeat' ((conv => whnf); first | (refine vcall_pure (c1) rfl rfl rfl ?_) | (refine vcallD_pure (c1) rfl rfl rfl ?_) | (refine vcall_out (l :=  [0, 1]) (c ) ⟨rfl, rfl, rfl, rfl, (by (repeat' (first | exact trivial | exact GB_wf | constructor)); first | done | fail), (by (repeat' (first | exact trivial | exact GB_fits rfl | constructor)); first | done | fail)⟩ ?_) | (refine vcallD_out (l :=  [0, 1]) (c ) ⟨rfl, rfl, rfl, rfl, (by (repeat' (first | exact trivial | exact GB_wf | constructor)); first | done | fail), (by (repeat' (first | exact trivial | exact GB_fits rfl | constructor)); first | done | fail)⟩ ?_) | (refine br_dec (fun h => ?_) (fun h => ?_) <;> try (exfalso; omega)) | (refine br_ndec (fun h => ?_) (fun h => ?_) <;> try (exfalso; omega)) | refine br_seq (fun h => ?_) (fun h => ?_) | refine br_nseq (fun h => ?_) (fun h => ?_) | refine br_not (fun h => ?_) (fun h => ?_) | refine br_intro (fun h => ?_) (fun h => ?_) | refine cond_intro rfl ?_ | (refine cond_intro ⟨rfl, ?_⟩ ?_; (first | omega | (dsimp only; omega) | decide)) | (refine cond_intro ?_ ?_; (first | omega | (dsimp only; omega) | decide | (simp only [Nat.add_zero, Int.toNat_natCast, *]; omega))))
          all_goals (conv => whnf)
          all_goals first
            | exact ret_out (l := [0, 1]) rfl rfl ⟨rfl, trivial⟩ (allRw_cons allRw_nil)
            | (exfalso; omega)
        · rw [apS_ok e1, e1, show cntE 0 w' = w' from rfl, Int.toNat_natCast]
          rw [h] at c1
          have c := ref06_take s 0 w' (by omega) (by omega)
          rw [Int.toNat_natCast] at c
          obtain ⟨u, hu⟩ : ∃ u, u = s.extract 0 w' := ⟨_, rfl⟩
          rw [← hu] at hx ⊢
          refine fc_of mixed T_ok Tryd.func28 rfl (by kernel_rfl) (by kernel_rfl) (by kernel_rfl) ?_
          repeat' ((conv => whnf); first | (refine vcall_pure (c1) rfl rfl rfl ?_) | (refine vcallD_pure (c1) rfl rfl rfl ?_) | (refine vcall_out (l :=  [0, 1]) (c ) ⟨rfl, rfl, rfl, rfl, (by (repeat' (first | exact trivial | exact GB_wf | constructor)); first | done | fail), (by (repeat' (first | exact trivial | exact GB_fits rfl | constructor)); first | done | fail)⟩ ?_) | (refine vcallD_out (l :=  [0, 1]) (c ) ⟨rfl, rfl, rfl, rfl, (by (repeat' (first | exact trivial | exact GB_wf | constructor)); first | done | fail), (by (repeat' (first | exact trivial | exact GB_fits rfl | constructor)); first | done | fail)⟩ ?_) | (refine br_dec (fun h => ?_) (fun h => ?_) <;> try (exfalso; omega)) | (refine br_ndec (fun h => ?_) (fun h => ?_) <;> try (exfalso; omega)) | refine br_seq (fun h => ?_) (fun h => ?_) | refine br_nseq (fun h => ?_) (fun h => ?_) | refine br_not (fun h => ?_) (fun h => ?_) | refine br_intro (fun h => ?_) (fun h => ?_) | refine cond_intro rfl ?_ | (refine cond_intro ⟨rfl, ?_⟩ ?_; (first | omega | (dsimp only; omega) | decide)) | (refine cond_intro ?_ ?_; (first | omega | (dsimp only; omega) | decide | (simp only [Nat.add_zero, Int.toNat_natCast, *]; omega))))
          all_goals (conv => whnf)
          refine vloop_of (fun k : Nat => ⟨[(5, .str (u.extract 0 k))], [(1, rdB (s.extract w' s.size) 0)], 2⟩) (fun k => k ≤ u.size ∧ trimN u k = trimN u u.size) (fun k => k) u.size [0, 1] [] ⟨rfl, ⟨?_, trivial⟩, ⟨rfl, trivial⟩⟩ ⟨by omega, rfl⟩ ?_
          · show some (SV.str (s.extract 0 w')) = some (SV.str (u.extract 0 u.size))
            rw [ext_all, hu]
          rintro k ⟨hk, hc⟩
          have hz' : (u.extract 0 k).size = k := ext_size hk
          by_cases hk0 : k = 0
          · have hem : u.extract 0 k = ⟨#[]⟩ := by subst hk0; simp; rfl
            repeat' ((conv => whnf); first | (refine br_dec (fun h => ?_) (fun h => ?_) <;> try (exfalso; omega)) | (refine br_ndec (fun h => ?_) (fun h => ?_) <;> try (exfalso; omega)) | refine br_seq (fun h => ?_) (fun h => ?_) | refine br_nseq (fun h => ?_) (fun h => ?_) | refine br_not (fun h => ?_) (fun h => ?_) | refine br_intro (fun h => ?_) (fun h => ?_) | refine cond_intro rfl ?_ | (refine cond_intro ⟨rfl, ?_⟩ ?_; (first | omega | (dsimp only; omega) | decide)) | (refine cond_intro ?_ ?_; (first | omega | (dsimp only; omega) | decide | (simp only [Nat.add_zero, Int.toNat_natCast, *]; omega))))
            all_goals (conv => whnf)
            all_goals first
              | (refine absurd hem ?_; assumption)
              | (refine ret_out (l := [0, 1]) rfl (congrArg SV.str ?_) ⟨rfl, trivial⟩ (allRw_cons allRw_nil); unfold trimS; rw [← hc, hk0]; rfl)
          · have hne : ¬ u.extract 0 k = ⟨#[]⟩ := fun h => by rw [h] at hz'; exact hk0 hz'.symm
            have ht : trimN u k = if byteAt u ((k - 1 : Nat) : Int) = 32 then trimN u (k - 1) else k := by
              obtain ⟨j, rfl⟩ : ∃ j, k = j + 1 := ⟨k - 1, by omega⟩
              rfl
            have hw : IntKind.i64.wrap (((u.extract 0 k).size : Int) - 1) = ((k - 1 : Nat) : Int) := by rw [hz', w64_in (by omega) (by omega)]; omega
            have hb : byteAt (u.extract 0 k) (IntKind.i64.wrap (((u.extract 0 k).size : Int) - 1)) = byteAt u ((k - 1 : Nat) : Int) := by rw [hw]; exact byteAt_ext (by omega) hk
            have h1 : 0 ≤ IntKind.i64.wrap (((u.extract 0 k).size : Int) - 1) ∧ IntKind.i64.wrap (((u.extract 0 k).size : Int) - 1) < ((u.extract 0 k).size : Int) := by rw [hw, hz']; omega
            have h2 : (0 : Int) ≤ 0 ∧ 0 ≤ IntKind.i64.wrap (((u.extract 0 k).size : Int) - 1) ∧ IntKind.i64.wrap (((u.extract 0 k).size : Int) - 1) ≤ ((u.extract 0 k).size : Int) := by rw [hw, hz']; omega
            repeat' ((conv => whnf); first | refine cond_intro h1 ?_ | refine cond_intro h2 ?_ | (refine br_dec (fun h => ?_) (fun h => ?_) <;> try (exfalso; omega)) | (refine br_ndec (fun h => ?_) (fun h => ?_) <;> try (exfalso; omega)) | refine br_seq (fun h => ?_) (fun h => ?_) | refine br_nseq (fun h => ?_) (fun h => ?_) | refine br_not (fun h => ?_) (fun h => ?_) | refine br_intro (fun h => ?_) (fun h => ?_) | refine cond_intro rfl ?_ | (refine cond_intro ⟨rfl, ?_⟩ ?_; (first | omega | (dsimp only; omega) | decide)) | (refine cond_intro ?_ ?_; (first | omega | (dsimp only; omega) | decide | (simp only [Nat.add_zero, Int.toNat_natCast, *]; omega))))
            all_goals (conv => whnf)
            all_goals first
              | (refine absurd ?_ hne; assumption)
              | skip
            · rw [hb] at h
              refine ⟨k - 1, [0, 1], [], ⟨by omega, ?_⟩, by omega, ⟨rfl, ⟨?_, trivial⟩, ⟨rfl, trivial⟩⟩⟩
              · rw [← hc, ht, if_pos h]
              · show some (SV.str ((u.extract 0 k).extract 0 (IntKind.i64.wrap (((u.extract 0 k).size : Int) - 1)).toNat)) = some (SV.str (u.extract 0 (k - 1)))
                rw [hw, Int.toNat_natCast, ext_ext (by omega)]
            · rw [hb] at h
              refine ret_out (l := [0, 1]) rfl (congrArg SV.str ?_) ⟨rfl, trivial⟩ (allRw_cons allRw_nil)
              unfold trimS
              rw [← hc, ht, if_neg h]
  · rw [if_neg he, if_neg he, if_neg he]
    refine fc_of mixed T_ok Tryd.func28 rfl (by kernel_rfl) (by kernel_rfl) (by kernel_rfl) ?_
    repeat' ((conv => whnf); first | (refine br_dec (fun h => ?_) (fun h => ?_) <;> try (exfalso; omega)) | (refine br_ndec (fun h => ?_) (fun h => ?_) <;> try (exfalso; omega)) | refine br_seq (fun h => ?_) (fun h => ?_) | refine br_nseq (fun h => ?_) (fun h => ?_) | refine br_not (fun h => ?_) (fun h => ?_) | refine br_intro (fun h => ?_) (fun h => ?_) | refine cond_intro rfl ?_ | (refine cond_intro ⟨rfl, ?_⟩ ?_; (first | omega | (dsimp only; omega) | decide)) | (refine cond_intro ?_ ?_; (first | omega | (dsimp only; omega) | decide | (simp only [Nat.add_zero, Int.toNat_natCast, *]; omega))))
    all_goals (conv => whnf)
    all_goals first
      | exact ret_out (l := [0, 1]) rfl rfl ⟨rfl, trivial⟩ (allRw_cons allRw_nil)
      | (exfalso; exact he (by assumption))
end Go.Proofs.YtkbajejkllkahaaDoor
