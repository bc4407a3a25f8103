/- Contracts of package wire: texts of a width, bytes taken. -/
import Derived.Test.YtkbajejkllkahaaDoorWireC6
namespace Go.Proofs.YtkbajejkllkahaaDoor
open Go.RowKit Go.Sy
attribute [local irreducible] vcall vloop vcallD retP
set_option maxRecDepth 100000
set_option linter.unusedVariables false
set_option linter.unusedSimpArgs false

/-- Blanks at the end are left out. -/
def trimN (s : ByteArray) : Nat → Nat
  | 0 => 0
  | k + 1 => if byteAt s (k : Int) = 32 then trimN s k else k + 1
def trimS (s : ByteArray) : ByteArray := s.extract 0 (trimN s s.size)
theorem ext_ext {s : ByteArray} {k j : Nat} (h : j ≤ k) : (s.extract 0 k).extract 0 j = s.extract 0 j := by
  apply ext_ba
  simp only [ByteArray.data_extract, Array.toList_extract, List.extract_eq_take_drop, Nat.sub_zero, List.drop_zero, List.take_take]
  rw [Nat.min_eq_left h]
theorem ext_all {s : ByteArray} : s.extract 0 s.size = s := by simp
theorem str_trimRightByte (s : ByteArray) (hs : s.size ≤ 9223372036854775000) : Pure Tryd.prog 62 [.str s, .int .u8 32] (.str (trimS s)) := by
  refine fc_of mixed T_ok Tryd.func62 rfl (by kernel_rfl) (by kernel_rfl) (by kernel_rfl) ?_
  (conv => whnf)
  refine vloop_of (fun k : Nat => ⟨[(0, .str (s.extract 0 k)), (1, .int .u8 32)], [], 1⟩) (fun k => k ≤ s.size ∧ trimN s k = trimN s s.size) (fun k => k) s.size [0] [] ⟨rfl, ⟨?_, rfl, trivial⟩, trivial⟩ ⟨by omega, rfl⟩ ?_
  · show some (SV.str s) = some (SV.str (s.extract 0 s.size))
    rw [ext_all]
  rintro k ⟨hk, hc⟩
  have hz : (s.extract 0 k).size = k := ext_size hk
  by_cases hk0 : k = 0
  · repeat' ((conv => whnf); first | (refine br_dec (fun h => ?_) (fun h => ?_) <;> try (exfalso; omega)) | (refine br_ndec (fun h => ?_) (fun h => ?_) <;> try (exfalso; omega)) | refine br_seq (fun h => ?_) (fun h => ?_) | refine br_nseq (fun h => ?_) (fun h => ?_) | refine br_not (fun h => ?_) (fun h => ?_) | refine br_intro (fun h => ?_) (fun h => ?_) | refine cond_intro rfl ?_ | (refine cond_intro ⟨rfl, ?_⟩ ?_; (first | omega | (dsimp only; omega) | decide)) | (refine cond_intro ?_ ?_; (first | omega | (dsimp only; omega) | decide | (simp only [Nat.add_zero, Int.toNat_natCast, *]; omega))))
    all_goals (conv => whnf)
    all_goals first
      | (exfalso; omega)
      | (refine ret_pure (congrArg SV.str ?_); subst hk0; unfold trimS; rw [← hc]; rfl)
  · have ht : trimN s k = if byteAt s ((k - 1 : Nat) : Int) = 32 then trimN s (k - 1) else k := by
      obtain ⟨j, rfl⟩ : ∃ j, k = j + 1 := ⟨k - 1, by omega⟩
      rfl
    have hw : IntKind.i64.wrap (((s.extract 0 k).size : Int) - 1) = ((k - 1 : Nat) : Int) := by rw [hz, w64_in (by omega) (by omega)]; omega
    have hb : byteAt (s.extract 0 k) (IntKind.i64.wrap (((s.extract 0 k).size : Int) - 1)) = byteAt s ((k - 1 : Nat) : Int) := by rw [hw]; exact byteAt_ext (by omega) hk
    have h1 : 0 ≤ IntKind.i64.wrap (((s.extract 0 k).size : Int) - 1) ∧ IntKind.i64.wrap (((s.extract 0 k).size : Int) - 1) < ((s.extract 0 k).size : Int) := by rw [hw, hz]; omega
    have h2 : (0 : Int) ≤ 0 ∧ 0 ≤ IntKind.i64.wrap (((s.extract 0 k).size : Int) - 1) ∧ IntKind.i64.wrap (((s.extract 0 k).size : Int) - 1) ≤ ((s.extract 0 k).size : Int) := by rw [hw, hz]; omega
    repeat' ((conv => whnf); first | refine cond_intro h1 ?_ | refine cond_intro h2 ?_ | (refine br_dec (fun h => ?_) (fun h => ?_) <;> try (exfalso; omega)) | (refine br_ndec (fun h => ?_) (fun h => ?_) <;> try (exfalso; omega)) | refine br_seq (fun h => ?_) (fun h => ?_) | refine br_nseq (fun h => ?_) (fun h => ?_) | refine br_not (fun h => ?_) (fun h => ?_) | refine br_intro (fun h => ?_) (fun h => ?_) | refine cond_intro rfl ?_ | (refine cond_intro ⟨rfl, ?_⟩ ?_; (first | omega | (dsimp only; omega) | decide)) | (refine cond_intro ?_ ?_; (first | omega | (dsimp only; omega) | decide | (simp only [Nat.add_zero, Int.toNat_natCast, *]; omega))))
    all_goals (conv => whnf)
    · rw [hb] at h
      refine ⟨k - 1, [0], [], ⟨by omega, ?_⟩, by omega, ⟨rfl, ⟨?_, rfl, trivial⟩, trivial⟩⟩
      · rw [← hc, ht, if_pos h]
      · show some (SV.str ((s.extract 0 k).extract 0 (IntKind.i64.wrap (((s.extract 0 k).size : Int) - 1)).toNat)) = some (SV.str (s.extract 0 (k - 1)))
        rw [hw, Int.toNat_natCast, ext_ext (by omega)]
    · rw [hb] at h
      refine ret_pure (congrArg SV.str ?_)
      unfold trimS
      rw [← hc, ht, if_neg h]
theorem seq_ok {a b : ByteArray} (h : seq a b = true) : a = b := by
  simpa [seq] using h
theorem str_TrimRight (s : ByteArray) (hs : s.size ≤ 9223372036854775000) : Pure Tryd.prog 46 [.str s, .str ⟨#[32]⟩] (.str (trimS s)) := by
  have c := str_trimRightByte s hs
  refine fc_of mixed T_ok Tryd.func46 rfl (by kernel_rfl) (by kernel_rfl) (by kernel_rfl) ?_
  cases e : seq s ⟨#[]⟩ with
  | true =>
    have := seq_ok e
    subst this
    repeat' ((conv => whnf); first | (refine br_dec (fun h => ?_) (fun h => ?_) <;> try (exfalso; omega)) | (refine br_ndec (fun h => ?_) (fun h => ?_) <;> try (exfalso; omega)) | refine br_seq (fun h => ?_) (fun h => ?_) | refine br_nseq (fun h => ?_) (fun h => ?_) | refine br_not (fun h => ?_) (fun h => ?_) | refine br_intro (fun h => ?_) (fun h => ?_) | refine cond_intro rfl ?_ | (refine cond_intro ⟨rfl, ?_⟩ ?_; (first | omega | (dsimp only; omega) | decide)) | (refine cond_intro ?_ ?_; (first | omega | (dsimp only; omega) | decide | (simp only [Nat.add_zero, Int.toNat_natCast, *]; omega))))
    all_goals (conv => whnf)
    all_goals first
      | exact ret_pure rfl
      | (exfalso; simp_all; done)
  | false =>
    repeat' ((conv => whnf); first | (refine vcall_pure (c) rfl rfl rfl ?_) | (refine vcallD_pure (c) rfl rfl rfl ?_) | (refine br_dec (fun h => ?_) (fun h => ?_) <;> try (exfalso; omega)) | (refine br_ndec (fun h => ?_) (fun h => ?_) <;> try (exfalso; omega)) | refine br_seq (fun h => ?_) (fun h => ?_) | refine br_nseq (fun h => ?_) (fun h => ?_) | refine br_not (fun h => ?_) (fun h => ?_) | refine br_intro (fun h => ?_) (fun h => ?_) | refine cond_intro rfl ?_ | (refine cond_intro ⟨rfl, ?_⟩ ?_; (first | omega | (dsimp only; omega) | decide)) | (refine cond_intro ?_ ?_; (first | omega | (dsimp only; omega) | decide | (simp only [Nat.add_zero, Int.toNat_natCast, *]; omega))))
    all_goals (conv => whnf)
    all_goals first
      | exact ret_pure rfl
      | (exfalso; subst h; cases e)

theorem prTo_ext {s : ByteArray} {w : Nat} (hw : w ≤ s.size) : ∀ k, k ≤ w → prTo (s.extract 0 w) k = prTo s k
  | 0, _ => rfl
  | k + 1, h => by
    have e := byteAt_ext (s := s) (w := w) (i := k) (by omega) hw
    simp only [prTo, prTo_ext hw k (by omega), prAt, e]
/-- A text of a width; bytes. -/
def apE (s : ByteArray) (w : Int) : Int := if w < 1 ∨ 255 < w then 4 else if (s.size : Int) < w then 1 else if prTo s w.toNat = true then 0 else 2
def apS (s : ByteArray) (w : Int) : ByteArray := if apE s w = 0 then trimS (s.extract 0 w.toNat) else ⟨#[]⟩
def tkE (s : ByteArray) (w : Int) : Int := if w < 0 then 4 else if (s.size : Int) < w then 1 else 0
def tkS (s : ByteArray) (w : Int) : ByteArray := if tkE s w = 0 then s.extract 0 w.toNat else ⟨#[]⟩
def cntE (e w : Int) : Int := if e = 0 then w else 0
theorem ap_cases (s : ByteArray) (w : Int) : (apE s w = 4 ∧ (w < 1 ∨ 255 < w)) ∨ (1 ≤ w ∧ w ≤ 255 ∧ ((apE s w = 1 ∧ (s.size : Int) < w) ∨ (w ≤ (s.size : Int) ∧ ((apE s w = 2 ∧ prTo s w.toNat = false) ∨ (apE s w = 0 ∧ prTo s w.toNat = true))))) := by
  unfold apE
  by_cases h1 : w < 1 ∨ 255 < w
  · rw [if_pos h1]; exact .inl ⟨rfl, h1⟩
  · rw [if_neg h1]
    refine .inr ⟨by omega, by omega, ?_⟩
    by_cases h2 : (s.size : Int) < w
    · rw [if_pos h2]; exact .inl ⟨rfl, h2⟩
    · rw [if_neg h2]
      refine .inr ⟨by omega, ?_⟩
      cases h3 : prTo s w.toNat with
      | false => exact .inl ⟨rfl, rfl⟩
      | true => exact .inr ⟨rfl, rfl⟩
theorem tk_cases (s : ByteArray) (w : Int) : (tkE s w = 4 ∧ w < 0) ∨ (0 ≤ w ∧ ((tkE s w = 1 ∧ (s.size : Int) < w) ∨ (tkE s w = 0 ∧ w ≤ (s.size : Int)))) := by
  unfold tkE
  by_cases h1 : w < 0
  · rw [if_pos h1]; exact .inl ⟨rfl, h1⟩
  · rw [if_neg h1]
    refine .inr ⟨by omega, ?_⟩
    by_cases h2 : (s.size : Int) < w
    · rw [if_pos h2]; exact .inl ⟨rfl, h2⟩
    · rw [if_neg h2]; exact .inr ⟨rfl, by omega⟩
theorem apS_ok {s : ByteArray} {w : Int} (h : apE s w = 0) : apS s w = trimS (s.extract 0 w.toNat) := by unfold apS; rw [if_pos h]
theorem apS_no {s : ByteArray} {w : Int} (h : apE s w ≠ 0) : apS s w = ⟨#[]⟩ := by unfold apS; rw [if_neg h]
theorem tkS_ok {s : ByteArray} {w : Int} (h : tkE s w = 0) : tkS s w = s.extract 0 w.toNat := by unfold tkS; rw [if_pos h]
theorem tkS_no {s : ByteArray} {w : Int} (h : tkE s w ≠ 0) : tkS s w = ⟨#[]⟩ := by unfold tkS; rw [if_neg h]
attribute [irreducible] apE apS tkE tkS
theorem wire_AlphaF (s : ByteArray) (w : Int) (hs : s.size ≤ 9223372036854775000) : FC Tryd.prog 3 45 [.str s, .ptr 1 0 0 0, .ptr 2 0 0 0] [(1, some (.one true (.cells [.int .i64 w]))), (2, some (.one false (.cells [.str ⟨#[]⟩])))]
    (isOut (.tup [.int .i64 (cntE (apE s w) w), .int .i64 (apE s w)]) [(2, some (.one false (.cells [.str (apS s w)])))] 3) := by
  rcases ap_cases s w with ⟨e1, h⟩ | ⟨h1, h2, h⟩
  · rw [apS_no (by omega), e1, show cntE 4 w = 0 from rfl]
    refine fc_of mixed T_ok Tryd.func45 rfl (by kernel_rfl) (by kernel_rfl) (by kernel_rfl) ?_
    repeat' ((conv => whnf); first | (refine br_dec (fun h => ?_) (fun h => ?_) <;> try (exfalso; omega)) | (refine br_ndec (fun h => ?_) (fun h => ?_) <;> try (exfalso; omega)) | refine br_seq (fun h => ?_) (fun h => ?_) | refine br_nseq (fun h => ?_) (fun h => ?_) | refine br_not (fun h => ?_) (fun h => ?_) | refine br_intro (fun h => ?_) (fun h => ?_) | refine cond_intro rfl ?_ | (refine cond_intro ⟨rfl, ?_⟩ ?_; (first | omega | (dsimp only; omega) | decide)) | (refine cond_intro ?_ ?_; (first | omega | (dsimp only; omega) | decide | (simp only [Nat.add_zero, Int.toNat_natCast, *]; omega))))
    all_goals (conv => whnf)
    all_goals first
      | exact ret_out (l := [0, 1, 2]) rfl rfl ⟨rfl, trivial⟩ (allRw_cons allRw_nil)
      | (exfalso; omega)
  · obtain ⟨w', rfl⟩ := Int.eq_ofNat_of_zero_le (show 0 ≤ w by omega)
    rw [Int.toNat_natCast] at h
    rcases h with ⟨e1, h⟩ | ⟨hz, h⟩
    · rw [apS_no (by omega), e1, show cntE 1 w' = 0 from rfl]
      refine fc_of mixed T_ok Tryd.func45 rfl (by kernel_rfl) (by kernel_rfl) (by kernel_rfl) ?_
      repeat' ((conv => whnf); first | (refine br_dec (fun h => ?_) (fun h => ?_) <;> try (exfalso; omega)) | (refine br_ndec (fun h => ?_) (fun h => ?_) <;> try (exfalso; omega)) | refine br_seq (fun h => ?_) (fun h => ?_) | refine br_nseq (fun h => ?_) (fun h => ?_) | refine br_not (fun h => ?_) (fun h => ?_) | refine br_intro (fun h => ?_) (fun h => ?_) | refine cond_intro rfl ?_ | (refine cond_intro ⟨rfl, ?_⟩ ?_; (first | omega | (dsimp only; omega) | decide)) | (refine cond_intro ?_ ?_; (first | omega | (dsimp only; omega) | decide | (simp only [Nat.add_zero, Int.toNat_natCast, *]; omega))))
      all_goals (conv => whnf)
      all_goals first
        | exact ret_out (l := [0, 1, 2]) rfl rfl ⟨rfl, trivial⟩ (allRw_cons allRw_nil)
        | (exfalso; omega)
    · have hx : (s.extract 0 w').size = w' := ext_size (by omega)
      have c := wire_isPrintable (s.extract 0 w') (by omega)
      have hp : prB (s.extract 0 w') = prTo s w' := by unfold prB; rw [hx]; exact prTo_ext (by omega) w' (Nat.le_refl _)
      have c2 := str_TrimRight (s.extract 0 w') (by omega)
      rw [hp] at c
      rcases h with ⟨e1, h⟩ | ⟨e1, h⟩
      · rw [apS_no (by omega), e1, show cntE 2 w' = 0 from rfl]
        rw [h] at c
        refine fc_of mixed T_ok Tryd.func45 rfl (by kernel_rfl) (by kernel_rfl) (by kernel_rfl) ?_
        repeat' ((conv => whnf); first | (refine vcall_pure (c) rfl rfl rfl ?_) | (refine vcallD_pure (c) rfl rfl rfl ?_) | (refine br_dec (fun h => ?_) (fun h => ?_) <;> try (exfalso; omega)) | (refine br_ndec (fun h => ?_) (fun h => ?_) <;> try (exfalso; omega)) | refine br_seq (fun h => ?_) (fun h => ?_) | refine br_nseq (fun h => ?_) (fun h => ?_) | refine br_not (fun h => ?_) (fun h => ?_) | refine br_intro (fun h => ?_) (fun h => ?_) | refine cond_intro rfl ?_ | (refine cond_intro ⟨rfl, ?_⟩ ?_; (first | omega | (dsimp only; omega) | decide)) | (refine cond_intro ?_ ?_; (first | omega | (dsimp only; omega) | decide | (simp only [Nat.add_zero, Int.toNat_natCast, *]; omega))))
        all_goals (conv => whnf)
        all_goals first
          | exact ret_out (l := [0, 1, 2]) rfl rfl ⟨rfl, trivial⟩ (allRw_cons allRw_nil)
          | (exfalso; omega)
      · rw [apS_ok e1, e1, show cntE 0 w' = w' from rfl, Int.toNat_natCast]
        rw [h] at c
        refine fc_of mixed T_ok Tryd.func45 rfl (by kernel_rfl) (by kernel_rfl) (by kernel_rfl) ?_
        repeat' ((conv => whnf); first | (refine vcall_pure (c) rfl rfl rfl ?_) | (refine vcallD_pure (c) rfl rfl rfl ?_) | (refine vcall_pure (c2) rfl rfl rfl ?_) | (refine vcallD_pure (c2) rfl rfl rfl ?_) | (refine br_dec (fun h => ?_) (fun h => ?_) <;> try (exfalso; omega)) | (refine br_ndec (fun h => ?_) (fun h => ?_) <;> try (exfalso; omega)) | refine br_seq (fun h => ?_) (fun h => ?_) | refine br_nseq (fun h => ?_) (fun h => ?_) | refine br_not (fun h => ?_) (fun h => ?_) | refine br_intro (fun h => ?_) (fun h => ?_) | refine cond_intro rfl ?_ | (refine cond_intro ⟨rfl, ?_⟩ ?_; (first | omega | (dsimp only; omega) | decide)) | (refine cond_intro ?_ ?_; (first | omega | (dsimp only; omega) | decide | (simp only [Nat.add_zero, Int.toNat_natCast, *]; omega))))
        all_goals (conv => whnf)
        all_goals first
          | exact ret_out (l := [0, 1, 2]) rfl rfl ⟨rfl, trivial⟩ (allRw_cons allRw_nil)
          | (exfalso; omega)
theorem wire_TakeF (s : ByteArray) (w : Int) (hs : s.size ≤ 9223372036854775000) : FC Tryd.prog 3 48 [.str s, .ptr 1 0 0 0, .ptr 2 0 0 0] [(1, some (.one true (.cells [.int .i64 w]))), (2, some (.one false (.cells [.str ⟨#[]⟩])))]
    (isOut (.tup [.int .i64 (cntE (tkE s w) w), .int .i64 (tkE s w)]) [(2, some (.one false (.cells [.str (tkS s w)])))] 3) := by
  rcases tk_cases s w with ⟨e1, h⟩ | ⟨h1, ⟨e1, h⟩ | ⟨e1, h⟩⟩
  · rw [tkS_no (by omega), e1, show cntE 4 w = 0 from rfl]
    refine fc_of mixed T_ok Tryd.func48 rfl (by kernel_rfl) (by kernel_rfl) (by kernel_rfl) ?_
    repeat' ((conv => whnf); first | (refine br_dec (fun h => ?_) (fun h => ?_) <;> try (exfalso; omega)) | (refine br_ndec (fun h => ?_) (fun h => ?_) <;> try (exfalso; omega)) | refine br_seq (fun h => ?_) (fun h => ?_) | refine br_nseq (fun h => ?_) (fun h => ?_) | refine br_not (fun h => ?_) (fun h => ?_) | refine br_intro (fun h => ?_) (fun h => ?_) | refine cond_intro rfl ?_ | (refine cond_intro ⟨rfl, ?_⟩ ?_; (first | omega | (dsimp only; omega) | decide)) | (refine cond_intro ?_ ?_; (first | omega | (dsimp only; omega) | decide | (simp only [Nat.add_zero, Int.toNat_natCast, *]; omega))))
    all_goals (conv => whnf)
    all_goals first
      | exact ret_out (l := [0, 1, 2]) rfl rfl ⟨rfl, trivial⟩ (allRw_cons allRw_nil)
      | (exfalso; omega)
  · rw [tkS_no (by omega), e1, show cntE 1 w = 0 from rfl]
    refine fc_of mixed T_ok Tryd.func48 rfl (by kernel_rfl) (by kernel_rfl) (by kernel_rfl) ?_
    repeat' ((conv => whnf); first | (refine br_dec (fun h => ?_) (fun h => ?_) <;> try (exfalso; omega)) | (refine br_ndec (fun h => ?_) (fun h => ?_) <;> try (exfalso; omega)) | refine br_seq (fun h => ?_) (fun h => ?_) | refine br_nseq (fun h => ?_) (fun h => ?_) | refine br_not (fun h => ?_) (fun h => ?_) | refine br_intro (fun h => ?_) (fun h => ?_) | refine cond_intro rfl ?_ | (refine cond_intro ⟨rfl, ?_⟩ ?_; (first | omega | (dsimp only; omega) | decide)) | (refine cond_intro ?_ ?_; (first | omega | (dsimp only; omega) | decide | (simp only [Nat.add_zero, Int.toNat_natCast, *]; omega))))
    all_goals (conv => whnf)
    all_goals first
      | exact ret_out (l := [0, 1, 2]) rfl rfl ⟨rfl, trivial⟩ (allRw_cons allRw_nil)
      | (exfalso; omega)
  · rw [tkS_ok e1, e1, show cntE 0 w = w from rfl]
    refine fc_of mixed T_ok Tryd.func48 rfl (by kernel_rfl) (by kernel_rfl) (by kernel_rfl) ?_
    repeat' ((conv => whnf); first | (refine br_dec (fun h => ?_) (fun h => ?_) <;> try (exfalso; omega)) | (refine br_ndec (fun h => ?_) (fun h => ?_) <;> try (exfalso; omega)) | refine br_seq (fun h => ?_) (fun h => ?_) | refine br_nseq (fun h => ?_) (fun h => ?_) | refine br_not (fun h => ?_) (fun h => ?_) | refine br_intro (fun h => ?_) (fun h => ?_) | refine cond_intro rfl ?_ | (refine cond_intro ⟨rfl, ?_⟩ ?_; (first | omega | (dsimp only; omega) | decide)) | (refine cond_intro ?_ ?_; (first | omega | (dsimp only; omega) | decide | (simp only [Nat.add_zero, Int.toNat_natCast, *]; omega))))
    all_goals (conv => whnf)
    all_goals first
      | exact ret_out (l := [0, 1, 2]) rfl rfl ⟨rfl, trivial⟩ (allRw_cons allRw_nil)
      | (exfalso; omega)

/-- A reader lets a function of texts read. -/
theorem wire_readT {F : Nat} {s V : ByteArray} {w E : Int} (hw : E = 0 → 0 ≤ w ∧ w ≤ (s.size : Int)) (c : FC Tryd.prog 3 F [.str s, .ptr 1 0 0 0, .ptr 2 0 0 0] [(1, some (.one true (.cells [.int .i64 w]))), (2, some (.one false (.cells [.str ⟨#[]⟩])))]
    (isOut (.tup [.int .i64 (cntE E w), .int .i64 E]) [(2, some (.one false (.cells [.str V])))] 3)) :
    FC Tryd.prog 4 42 [.ptr 1 0 0 0, .fn F [.ptr 2 0 0 0, .ptr 3 0 0 0]] [(1, rdB s 0), (2, some (.one true (.cells [.int .i64 w]))), (3, some (.one false (.cells [.str ⟨#[]⟩])))]
    (isOut (.tup []) [(1, rdB (s.extract (cntE E w).toNat s.size) E), (3, some (.one false (.cells [.str V])))] 4) := by
  by_cases e1 : E = 0
  · subst e1
    have hw' := hw rfl
    rw [show cntE 0 w = w from rfl] at c ⊢
    refine fc_of mixed T_ok Tryd.func42 rfl (by kernel_rfl) (by kernel_rfl) (by kernel_rfl) ?_
    repeat' ((conv => whnf); first | (refine vcall_out (l :=  [0, 2, 3]) (c ) ⟨rfl, rfl, rfl, rfl, (by (repeat' (first | exact trivial | exact GB_wf | constructor)); first | done | fail), (by (repeat' (first | exact trivial | exact GB_fits rfl | constructor)); first | done | fail)⟩ ?_) | (refine vcallD_out (l :=  [0, 2, 3]) (c ) ⟨rfl, rfl, rfl, rfl, (by (repeat' (first | exact trivial | exact GB_wf | constructor)); first | done | fail), (by (repeat' (first | exact trivial | exact GB_fits rfl | constructor)); first | done | fail)⟩ ?_) | (refine br_dec (fun h => ?_) (fun h => ?_) <;> try (exfalso; omega)) | (refine br_ndec (fun h => ?_) (fun h => ?_) <;> try (exfalso; omega)) | refine br_seq (fun h => ?_) (fun h => ?_) | refine br_nseq (fun h => ?_) (fun h => ?_) | refine br_not (fun h => ?_) (fun h => ?_) | refine br_intro (fun h => ?_) (fun h => ?_) | refine cond_intro rfl ?_ | (refine cond_intro ⟨rfl, ?_⟩ ?_; (first | omega | (dsimp only; omega) | decide)) | (refine cond_intro ?_ ?_; (first | omega | (dsimp only; omega) | decide | (simp only [Nat.add_zero, Int.toNat_natCast, *]; omega))))
    all_goals (conv => whnf)
    all_goals exact ret_out (l := [0, 1, 2, 3]) rfl rfl ⟨rfl, rfl, trivial⟩ (allRw_cons (allRw_cons allRw_nil))
  · rw [show cntE E w = 0 by unfold cntE; rw [if_neg e1]] at c ⊢
    rw [show s.extract (Int.toNat 0) s.size = s from by simp]
    refine fc_of mixed T_ok Tryd.func42 rfl (by kernel_rfl) (by kernel_rfl) (by kernel_rfl) ?_
    repeat' ((conv => whnf); first | (refine vcall_out (l :=  [0, 2, 3]) (c ) ⟨rfl, rfl, rfl, rfl, (by (repeat' (first | exact trivial | exact GB_wf | constructor)); first | done | fail), (by (repeat' (first | exact trivial | exact GB_fits rfl | constructor)); first | done | fail)⟩ ?_) | (refine vcallD_out (l :=  [0, 2, 3]) (c ) ⟨rfl, rfl, rfl, rfl, (by (repeat' (first | exact trivial | exact GB_wf | constructor)); first | done | fail), (by (repeat' (first | exact trivial | exact GB_fits rfl | constructor)); first | done | fail)⟩ ?_) | (refine br_dec (fun h => ?_) (fun h => ?_) <;> try (exfalso; omega)) | (refine br_ndec (fun h => ?_) (fun h => ?_) <;> try (exfalso; omega)) | refine br_seq (fun h => ?_) (fun h => ?_) | refine br_nseq (fun h => ?_) (fun h => ?_) | refine br_not (fun h => ?_) (fun h => ?_) | refine br_intro (fun h => ?_) (fun h => ?_) | refine cond_intro rfl ?_ | (refine cond_intro ⟨rfl, ?_⟩ ?_; (first | omega | (dsimp only; omega) | decide)) | (refine cond_intro ?_ ?_; (first | omega | (dsimp only; omega) | decide | (simp only [Nat.add_zero, Int.toNat_natCast, *]; omega))))
    all_goals (conv => whnf)
    all_goals first
      | exact ret_out (l := [0, 1, 2, 3]) rfl rfl ⟨rfl, rfl, trivial⟩ (allRw_cons (allRw_cons allRw_nil))
      | (exfalso; exact e1 (by assumption))
def tS (s : ByteArray) (e E w : Int) : ByteArray := if e = 0 then s.extract (cntE E w).toNat s.size else s
def tE (e E : Int) : Int := if e = 0 then E else e
def tV (e : Int) (V : ByteArray) : ByteArray := if e = 0 then V else ⟨#[]⟩
theorem rd_Alpha (s : ByteArray) (e w : Int) (hs : s.size ≤ 9223372036854775000) : FC Tryd.prog 2 22 [.ptr 1 0 0 0, .int .i64 w] [(1, rdB s e)] (isOut (.str (tV e (apS s w))) [(1, rdB (tS s e (apE s w) w) (tE e (apE s w)))] 2) := by
  unfold tS tE tV
  by_cases he : e = 0
  · subst he
    have c := wire_readT (E := apE s w) (w := w) (fun h => by
      rcases ap_cases s w with ⟨e1, _⟩ | ⟨h1, h2, ⟨e1, _⟩ | ⟨hz, _⟩⟩ <;> omega) (wire_AlphaF s w hs)
    rw [if_pos rfl, if_pos rfl, if_pos rfl]
    refine fc_of mixed T_ok Tryd.func22 rfl (by kernel_rfl) (by kernel_rfl) (by kernel_rfl) ?_
    repeat' ((conv => whnf); first | (refine vcall_out (l :=  [0, 1, 2, 3]) (c ) ⟨rfl, rfl, rfl, rfl, (by (repeat' (first | exact trivial | exact GB_wf | constructor)); first | done | fail), (by (repeat' (first | exact trivial | exact GB_fits rfl | constructor)); first | done | fail)⟩ ?_) | (refine vcallD_out (l :=  [0, 1, 2, 3]) (c ) ⟨rfl, rfl, rfl, rfl, (by (repeat' (first | exact trivial | exact GB_wf | constructor)); first | done | fail), (by (repeat' (first | exact trivial | exact GB_fits rfl | constructor)); first | done | fail)⟩ ?_) | (refine br_dec (fun h => ?_) (fun h => ?_) <;> try (exfalso; omega)) | (refine br_ndec (fun h => ?_) (fun h => ?_) <;> try (exfalso; omega)) | refine br_seq (fun h => ?_) (fun h => ?_) | refine br_nseq (fun h => ?_) (fun h => ?_) | refine br_not (fun h => ?_) (fun h => ?_) | refine br_intro (fun h => ?_) (fun h => ?_) | refine cond_intro rfl ?_ | (refine cond_intro ⟨rfl, ?_⟩ ?_; (first | omega | (dsimp only; omega) | decide)) | (refine cond_intro ?_ ?_; (first | omega | (dsimp only; omega) | decide | (simp only [Nat.add_zero, Int.toNat_natCast, *]; omega))))
    all_goals (conv => whnf)
    all_goals exact ret_out (l := [0, 1]) rfl rfl ⟨rfl, trivial⟩ (allRw_cons allRw_nil)
  · have c := wire_readE2 s e 45 he
    rw [if_neg he, if_neg he, if_neg he]
    refine fc_of mixed T_ok Tryd.func22 rfl (by kernel_rfl) (by kernel_rfl) (by kernel_rfl) ?_
    repeat' ((conv => whnf); first | (refine vcall_out (l :=  [0, 1, 2, 3]) (c ) ⟨rfl, rfl, rfl, rfl, (by (repeat' (first | exact trivial | exact GB_wf | constructor)); first | done | fail), (by (repeat' (first | exact trivial | exact GB_fits rfl | constructor)); first | done | fail)⟩ ?_) | (refine vcallD_out (l :=  [0, 1, 2, 3]) (c ) ⟨rfl, rfl, rfl, rfl, (by (repeat' (first | exact trivial | exact GB_wf | constructor)); first | done | fail), (by (repeat' (first | exact trivial | exact GB_fits rfl | constructor)); first | done | fail)⟩ ?_) | (refine br_dec (fun h => ?_) (fun h => ?_) <;> try (exfalso; omega)) | (refine br_ndec (fun h => ?_) (fun h => ?_) <;> try (exfalso; omega)) | refine br_seq (fun h => ?_) (fun h => ?_) | refine br_nseq (fun h => ?_) (fun h => ?_) | refine br_not (fun h => ?_) (fun h => ?_) | refine br_intro (fun h => ?_) (fun h => ?_) | refine cond_intro rfl ?_ | (refine cond_intro ⟨rfl, ?_⟩ ?_; (first | omega | (dsimp only; omega) | decide)) | (refine cond_intro ?_ ?_; (first | omega | (dsimp only; omega) | decide | (simp only [Nat.add_zero, Int.toNat_natCast, *]; omega))))
    all_goals (conv => whnf)
    all_goals exact ret_out (l := [0, 1]) rfl rfl ⟨rfl, trivial⟩ (allRw_cons allRw_nil)
theorem rd_Take (s : ByteArray) (e w : Int) (hs : s.size ≤ 9223372036854775000) : FC Tryd.prog 2 24 [.ptr 1 0 0 0, .int .i64 w] [(1, rdB s e)] (isOut (.str (tV e (tkS s w))) [(1, rdB (tS s e (tkE s w) w) (tE e (tkE s w)))] 2) := by
  unfold tS tE tV
  by_cases he : e = 0
  · subst he
    have c := wire_readT (E := tkE s w) (w := w) (fun h => by
      rcases tk_cases s w with ⟨e1, _⟩ | ⟨h1, ⟨e1, _⟩ | ⟨hz, _⟩⟩ <;> omega) (wire_TakeF s w hs)
    rw [if_pos rfl, if_pos rfl, if_pos rfl]
    refine fc_of mixed T_ok Tryd.func24 rfl (by kernel_rfl) (by kernel_rfl) (by kernel_rfl) ?_
    repeat' ((conv => whnf); first | (refine vcall_out (l :=  [0, 1, 2, 3]) (c ) ⟨rfl, rfl, rfl, rfl, (by (repeat' (first | exact trivial | exact GB_wf | constructor)); first | done | fail), (by (repeat' (first | exact trivial | exact GB_fits rfl | constructor)); first | done | fail)⟩ ?_) | (refine vcallD_out (l :=  [0, 1, 2, 3]) (c ) ⟨rfl, rfl, rfl, rfl, (by (repeat' (first | exact trivial | exact GB_wf | constructor)); first | done | fail), (by (repeat' (first | exact trivial | exact GB_fits rfl | constructor)); first | done | fail)⟩ ?_) | (refine br_dec (fun h => ?_) (fun h => ?_) <;> try (exfalso; omega)) | (refine br_ndec (fun h => ?_) (fun h => ?_) <;> try (exfalso; omega)) | refine br_seq (fun h => ?_) (fun h => ?_) | refine br_nseq (fun h => ?_) (fun h => ?_) | refine br_not (fun h => ?_) (fun h => ?_) | refine br_intro (fun h => ?_) (fun h => ?_) | refine cond_intro rfl ?_ | (refine cond_intro ⟨rfl, ?_⟩ ?_; (first | omega | (dsimp only; omega) | decide)) | (refine cond_intro ?_ ?_; (first | omega | (dsimp only; omega) | decide | (simp only [Nat.add_zero, Int.toNat_natCast, *]; omega))))
    all_goals (conv => whnf)
    all_goals exact ret_out (l := [0, 1]) rfl rfl ⟨rfl, trivial⟩ (allRw_cons allRw_nil)
  · have c := wire_readE2 s e 48 he
    rw [if_neg he, if_neg he, if_neg he]
    refine fc_of mixed T_ok Tryd.func24 rfl (by kernel_rfl) (by kernel_rfl) (by kernel_rfl) ?_
    repeat' ((conv => whnf); first | (refine vcall_out (l :=  [0, 1, 2, 3]) (c ) ⟨rfl, rfl, rfl, rfl, (by (repeat' (first | exact trivial | exact GB_wf | constructor)); first | done | fail), (by (repeat' (first | exact trivial | exact GB_fits rfl | constructor)); first | done | fail)⟩ ?_) | (refine vcallD_out (l :=  [0, 1, 2, 3]) (c ) ⟨rfl, rfl, rfl, rfl, (by (repeat' (first | exact trivial | exact GB_wf | constructor)); first | done | fail), (by (repeat' (first | exact trivial | exact GB_fits rfl | constructor)); first | done | fail)⟩ ?_) | (refine br_dec (fun h => ?_) (fun h => ?_) <;> try (exfalso; omega)) | (refine br_ndec (fun h => ?_) (fun h => ?_) <;> try (exfalso; omega)) | refine br_seq (fun h => ?_) (fun h => ?_) | refine br_nseq (fun h => ?_) (fun h => ?_) | refine br_not (fun h => ?_) (fun h => ?_) | refine br_intro (fun h => ?_) (fun h => ?_) | refine cond_intro rfl ?_ | (refine cond_intro ⟨rfl, ?_⟩ ?_; (first | omega | (dsimp only; omega) | decide)) | (refine cond_intro ?_ ?_; (first | omega | (dsimp only; omega) | decide | (simp only [Nat.add_zero, Int.toNat_natCast, *]; omega))))
    all_goals (conv => whnf)
    all_goals exact ret_out (l := [0, 1]) rfl rfl ⟨rfl, trivial⟩ (allRw_cons allRw_nil)
theorem rd_AlphaN (w : Int) : Pure Tryd.prog 22 [.nptr, .int .i64 w] (.str ⟨#[]⟩) := by
  have c := wire_readN2 45
  refine fc_of mixed T_ok Tryd.func22 rfl (by kernel_rfl) (by kernel_rfl) (by kernel_rfl) ?_
  repeat' ((conv => whnf); first | (refine vcall_out (l :=  [0, 1, 2]) (c ) ⟨rfl, rfl, rfl, rfl, (by (repeat' (first | exact trivial | exact GB_wf | constructor)); first | done | fail), (by (repeat' (first | exact trivial | exact GB_fits rfl | constructor)); first | done | fail)⟩ ?_) | (refine vcallD_out (l :=  [0, 1, 2]) (c ) ⟨rfl, rfl, rfl, rfl, (by (repeat' (first | exact trivial | exact GB_wf | constructor)); first | done | fail), (by (repeat' (first | exact trivial | exact GB_fits rfl | constructor)); first | done | fail)⟩ ?_) | (refine br_dec (fun h => ?_) (fun h => ?_) <;> try (exfalso; omega)) | (refine br_ndec (fun h => ?_) (fun h => ?_) <;> try (exfalso; omega)) | refine br_seq (fun h => ?_) (fun h => ?_) | refine br_nseq (fun h => ?_) (fun h => ?_) | refine br_not (fun h => ?_) (fun h => ?_) | refine br_intro (fun h => ?_) (fun h => ?_) | refine cond_intro rfl ?_ | (refine cond_intro ⟨rfl, ?_⟩ ?_; (first | omega | (dsimp only; omega) | decide)) | (refine cond_intro ?_ ?_; (first | omega | (dsimp only; omega) | decide | (simp only [Nat.add_zero, Int.toNat_natCast, *]; omega))))
  all_goals (conv => whnf)
  all_goals exact ret_pure rfl
theorem rd_TakeN (w : Int) : Pure Tryd.prog 24 [.nptr, .int .i64 w] (.str ⟨#[]⟩) := by
  have c := wire_readN2 48
  refine fc_of mixed T_ok Tryd.func24 rfl (by kernel_rfl) (by kernel_rfl) (by kernel_rfl) ?_
  repeat' ((conv => whnf); first | (refine vcall_out (l :=  [0, 1, 2]) (c ) ⟨rfl, rfl, rfl, rfl, (by (repeat' (first | exact trivial | exact GB_wf | constructor)); first | done | fail), (by (repeat' (first | exact trivial | exact GB_fits rfl | constructor)); first | done | fail)⟩ ?_) | (refine vcallD_out (l :=  [0, 1, 2]) (c ) ⟨rfl, rfl, rfl, rfl, (by (repeat' (first | exact trivial | exact GB_wf | constructor)); first | done | fail), (by (repeat' (first | exact trivial | exact GB_fits rfl | constructor)); first | done | fail)⟩ ?_) | (refine br_dec (fun h => ?_) (fun h => ?_) <;> try (exfalso; omega)) | (refine br_ndec (fun h => ?_) (fun h => ?_) <;> try (exfalso; omega)) | refine br_seq (fun h => ?_) (fun h => ?_) | refine br_nseq (fun h => ?_) (fun h => ?_) | refine br_not (fun h => ?_) (fun h => ?_) | refine br_intro (fun h => ?_) (fun h => ?_) | refine cond_intro rfl ?_ | (refine cond_intro ⟨rfl, ?_⟩ ?_; (first | omega | (dsimp only; omega) | decide)) | (refine cond_intro ?_ ?_; (first | omega | (dsimp only; omega) | decide | (simp only [Nat.add_zero, Int.toNat_natCast, *]; omega))))
  all_goals (conv => whnf)
  all_goals exact ret_pure rfl
end Go.Proofs.YtkbajejkllkahaaDoor
