/- Contracts of package wire: readers. -/
import Derived.Test.YtkbajejkllkahaaDoorWireC3
namespace Go.Proofs.YtkbajejkllkahaaDoor
open Go.RowKit Go.Sy
attribute [local irreducible] vcall vloop vcallD retP
set_option maxRecDepth 100000
set_option linter.unusedVariables false
set_option linter.unusedSimpArgs false

theorem byteAt_ext {s : ByteArray} {w i : Nat} (h : i < w) (hw : w ≤ s.size) : byteAt (s.extract 0 w) (i : Int) = byteAt s (i : Int) := by
  unfold byteAt
  rw [Int.toNat_natCast]
  congr 2
  simp only [ByteArray.data_extract, Array.toList_extract, List.extract_eq_take_drop, Nat.sub_zero, List.drop_zero, List.getD, List.getElem?_take, if_pos h]
theorem ext_size {s : ByteArray} {w : Nat} (hw : w ≤ s.size) : (s.extract 0 w).size = w := by rw [ByteArray.size_extract]; omega
theorem dgTo_ext {s : ByteArray} {w : Nat} (hw : w ≤ s.size) : ∀ k, k ≤ w → dgTo (s.extract 0 w) k = dgTo s k ∧ numTo (s.extract 0 w) k = numTo s k
  | 0, _ => ⟨rfl, rfl⟩
  | k + 1, h => by
    obtain ⟨i1, i2⟩ := dgTo_ext hw k (by omega)
    have e := byteAt_ext (s := s) (w := w) (i := k) (by omega) hw
    constructor
    · simp only [dgTo, i1, dgAt, e]
    · simp only [numTo, i2, e]
theorem dgTo_step {s : ByteArray} {k : Nat} (h : dgTo s k = true) (h1 : 48 ≤ byteAt s (k : Int)) (h2 : byteAt s (k : Int) ≤ 57) : dgTo s (k + 1) = true := by
  simp only [dgTo, h, Bool.true_and, decide_eq_true_eq]; exact ⟨h1, h2⟩
theorem numTo_lt {s : ByteArray} {k : Nat} (h : dgTo s k = true) (hk : k ≤ 15) : 0 ≤ numTo s k ∧ numTo s k < 1000000000000000 := by
  have := numTo_bd k h
  have h2 : (10 : Int) ^ k ≤ 10 ^ 15 := by
    have := Nat.pow_le_pow_right (n := 10) (by omega) hk
    have h3 : ((10 ^ k : Nat) : Int) ≤ ((10 ^ 15 : Nat) : Int) := by exact_mod_cast this
    simpa using h3
  have h4 : (10 : Int) ^ 15 = 1000000000000000 := by decide
  omega
def numR (s : ByteArray) : Int := if dgTo s s.size = true then numTo s s.size else 0
theorem wire_numberOf (s : ByteArray) (hs : s.size ≤ 15) : Pure Tryd.prog 44 [.str s] (.tup [.int .i64 (numR s), .bool (dgTo s s.size)]) := by
  refine fc_of mixed T_ok Tryd.func44 rfl (by kernel_rfl) (by kernel_rfl) (by kernel_rfl) ?_
  (conv => whnf)
  refine vloop_of (fun k : Nat => ⟨[(0, .str s), (4, .int .i64 (numTo s k)), (7, .int .i64 s.size), (8, .int .i64 k)], [], 1⟩) (fun k => k ≤ s.size ∧ dgTo s k = true) (fun k => s.size - k) 0 [0] [] ⟨rfl, ⟨rfl, rfl, rfl, rfl, trivial⟩, trivial⟩ ⟨by omega, rfl⟩ ?_
  rintro k ⟨hk, hc⟩
  have hb := numTo_lt hc (by omega)
  have bb := byte_bd s (k : Int)
  repeat' ((conv => whnf); first | (refine br_dec (fun h => ?_) (fun h => ?_) <;> try (exfalso; omega)) | (refine br_ndec (fun h => ?_) (fun h => ?_) <;> try (exfalso; omega)) | refine br_seq (fun h => ?_) (fun h => ?_) | refine br_nseq (fun h => ?_) (fun h => ?_) | refine br_not (fun h => ?_) (fun h => ?_) | refine br_intro (fun h => ?_) (fun h => ?_) | refine cond_intro rfl ?_ | (refine cond_intro ⟨rfl, ?_⟩ ?_; (first | omega | (dsimp only; omega) | decide)) | (refine cond_intro ?_ ?_; (first | omega | (dsimp only; omega) | decide | (simp only [Nat.add_zero, Int.toNat_natCast, *]; omega))))
  all_goals (conv => whnf)
  · have hf : dgTo s s.size = false := dgTo_false (k := k) (by omega) (fun h => by have := h.1; omega)
    refine ret_pure ?_
    rw [show numR s = 0 by unfold numR; rw [hf]; rfl, hf]; rfl
  · have hf : dgTo s s.size = false := dgTo_false (k := k) (by omega) (fun h => by have := h.2; omega)
    refine ret_pure ?_
    rw [show numR s = 0 by unfold numR; rw [hf]; rfl, hf]; rfl
  · refine ⟨k + 1, [0], [], ⟨by omega, dgTo_step hc (by omega) (by omega)⟩, by omega, ⟨rfl, ⟨rfl, ?_, rfl, congrArg (fun z => some (SV.int .i64 z)) (i64_succ (by omega)), trivial⟩, trivial⟩⟩
    refine congrArg (fun z => some (SV.int .i64 z)) ?_
    show IntKind.i64.wrap (IntKind.i64.wrap (10 * numTo s k) + IntKind.i64.wrap (IntKind.u8.wrap (byteAt s (k : Int) - 48))) = numTo s (k + 1)
    rw [u8_in' (by omega) (by omega), w64_in (n := 10 * numTo s k) (by omega) (by omega), w64_in (n := byteAt s (k : Int) - 48) (by omega) (by omega), w64_in (by omega) (by omega)]
    rfl
  · have e : k = s.size := by omega
    subst e
    refine ret_pure ?_
    rw [show numR s = numTo s s.size by unfold numR; rw [if_pos hc], hc]; rfl

/-- A number of a width is read. -/
def nuE (s : ByteArray) (w : Int) : Int := if w < 1 ∨ 15 < w then 4 else if (s.size : Int) < w then 1 else if dgTo s w.toNat = true then 0 else 2
def nuV (s : ByteArray) (w : Int) : Int := if nuE s w = 0 then numTo s w.toNat else 0
def nuC (s : ByteArray) (w : Int) : Int := if nuE s w = 0 then w else 0
theorem nu_cases (s : ByteArray) (w : Int) : (nuE s w = 0 ∧ nuV s w = numTo s w.toNat ∧ nuC s w = w ∧ 1 ≤ w ∧ w ≤ 15 ∧ w ≤ (s.size : Int) ∧ dgTo s w.toNat = true) ∨ (nuE s w ≠ 0 ∧ nuV s w = 0 ∧ nuC s w = 0 ∧ ((nuE s w = 4 ∧ (w < 1 ∨ 15 < w)) ∨ (nuE s w = 1 ∧ 1 ≤ w ∧ w ≤ 15 ∧ (s.size : Int) < w) ∨ (nuE s w = 2 ∧ 1 ≤ w ∧ w ≤ 15 ∧ w ≤ (s.size : Int) ∧ dgTo s w.toNat = false))) := by
  unfold nuV nuC
  have : (nuE s w = 0 ∧ 1 ≤ w ∧ w ≤ 15 ∧ w ≤ (s.size : Int) ∧ dgTo s w.toNat = true) ∨ ((nuE s w = 4 ∧ (w < 1 ∨ 15 < w)) ∨ (nuE s w = 1 ∧ 1 ≤ w ∧ w ≤ 15 ∧ (s.size : Int) < w) ∨ (nuE s w = 2 ∧ 1 ≤ w ∧ w ≤ 15 ∧ w ≤ (s.size : Int) ∧ dgTo s w.toNat = false)) := by
    unfold nuE
    by_cases h1 : w < 1 ∨ 15 < w
    · rw [if_pos h1]; exact .inr (.inl ⟨rfl, h1⟩)
    · rw [if_neg h1]
      by_cases h2 : (s.size : Int) < w
      · rw [if_pos h2]; exact .inr (.inr (.inl ⟨rfl, by omega, by omega, h2⟩))
      · rw [if_neg h2]
        cases h3 : dgTo s w.toNat with
        | true => exact .inl ⟨rfl, by omega, by omega, by omega, rfl⟩
        | false => exact .inr (.inr (.inr ⟨rfl, by omega, by omega, by omega, rfl⟩))
  rcases this with h | h
  · rw [if_pos h.1, if_pos h.1]; exact .inl ⟨h.1, rfl, rfl, h.2⟩
  · have : nuE s w ≠ 0 := by rcases h with h | h | h <;> rw [h.1] <;> decide
    rw [if_neg this, if_neg this]; exact .inr ⟨this, rfl, rfl, h⟩
attribute [irreducible] nuE nuV nuC
theorem wire_NumF (s : ByteArray) (w : Int) (hs : s.size ≤ 9223372036854775000) : FC Tryd.prog 3 43 [.str s, .ptr 1 0 0 0, .ptr 2 0 0 0] [(1, some (.one true (.cells [.int .i64 w]))), (2, some (.one false (.cells [.int .i64 0])))]
    (isOut (.tup [.int .i64 (nuC s w), .int .i64 (nuE s w)]) [(2, some (.one false (.cells [.int .i64 (nuV s w)])))] 3) := by
  rcases nu_cases s w with ⟨e1, e2, e3, h⟩ | ⟨_, e2, e3, h⟩
  · rw [e1, e2, e3]
    obtain ⟨w', rfl⟩ := Int.eq_ofNat_of_zero_le (show 0 ≤ w by omega)
    rw [Int.toNat_natCast] at h ⊢
    have hz : (s.extract 0 w').size = w' := ext_size (by omega)
    have c := wire_numberOf (s.extract 0 w') (by omega)
    rw [hz, show numR (s.extract 0 w') = numTo s w' by
      unfold numR; rw [hz, (dgTo_ext (by omega) w' (Nat.le_refl _)).1, (dgTo_ext (by omega) w' (Nat.le_refl _)).2, if_pos h.2.2.2], (dgTo_ext (by omega) w' (Nat.le_refl _)).1, h.2.2.2] at c
    refine fc_of mixed T_ok Tryd.func43 rfl (by kernel_rfl) (by kernel_rfl) (by kernel_rfl) ?_
    repeat' ((conv => whnf); first | (refine vcall_pure (c) rfl rfl rfl ?_) | (refine vcallD_pure (c) rfl rfl rfl ?_) | (refine br_dec (fun h => ?_) (fun h => ?_) <;> try (exfalso; omega)) | (refine br_ndec (fun h => ?_) (fun h => ?_) <;> try (exfalso; omega)) | refine br_seq (fun h => ?_) (fun h => ?_) | refine br_nseq (fun h => ?_) (fun h => ?_) | refine br_not (fun h => ?_) (fun h => ?_) | refine br_intro (fun h => ?_) (fun h => ?_) | refine cond_intro rfl ?_ | (refine cond_intro ⟨rfl, ?_⟩ ?_; (first | omega | (dsimp only; omega) | decide)) | (refine cond_intro ?_ ?_; (first | omega | (dsimp only; omega) | decide | (simp only [Nat.add_zero, Int.toNat_natCast, *]; omega))))
    all_goals (conv => whnf)
    all_goals exact ret_out (l := [0, 1, 2]) rfl rfl ⟨rfl, trivial⟩ (allRw_cons allRw_nil)
  · rw [e2, e3]
    rcases h with ⟨e1, h⟩ | ⟨e1, h⟩ | ⟨e1, h⟩
    · rw [e1]
      refine fc_of mixed T_ok Tryd.func43 rfl (by kernel_rfl) (by kernel_rfl) (by kernel_rfl) ?_
      repeat' ((conv => whnf); first | (refine br_dec (fun h => ?_) (fun h => ?_) <;> try (exfalso; omega)) | (refine br_ndec (fun h => ?_) (fun h => ?_) <;> try (exfalso; omega)) | refine br_seq (fun h => ?_) (fun h => ?_) | refine br_nseq (fun h => ?_) (fun h => ?_) | refine br_not (fun h => ?_) (fun h => ?_) | refine br_intro (fun h => ?_) (fun h => ?_) | refine cond_intro rfl ?_ | (refine cond_intro ⟨rfl, ?_⟩ ?_; (first | omega | (dsimp only; omega) | decide)) | (refine cond_intro ?_ ?_; (first | omega | (dsimp only; omega) | decide | (simp only [Nat.add_zero, Int.toNat_natCast, *]; omega))))
      all_goals (conv => whnf)
      all_goals first
        | exact ret_out (l := [0, 1, 2]) rfl rfl ⟨rfl, trivial⟩ (allRw_cons allRw_nil)
        | (exfalso; omega)
    · rw [e1]
      refine fc_of mixed T_ok Tryd.func43 rfl (by kernel_rfl) (by kernel_rfl) (by kernel_rfl) ?_
      repeat' ((conv => whnf); first | (refine br_dec (fun h => ?_) (fun h => ?_) <;> try (exfalso; omega)) | (refine br_ndec (fun h => ?_) (fun h => ?_) <;> try (exfalso; omega)) | refine br_seq (fun h => ?_) (fun h => ?_) | refine br_nseq (fun h => ?_) (fun h => ?_) | refine br_not (fun h => ?_) (fun h => ?_) | refine br_intro (fun h => ?_) (fun h => ?_) | refine cond_intro rfl ?_ | (refine cond_intro ⟨rfl, ?_⟩ ?_; (first | omega | (dsimp only; omega) | decide)) | (refine cond_intro ?_ ?_; (first | omega | (dsimp only; omega) | decide | (simp only [Nat.add_zero, Int.toNat_natCast, *]; omega))))
      all_goals (conv => whnf)
      all_goals first
        | exact ret_out (l := [0, 1, 2]) rfl rfl ⟨rfl, trivial⟩ (allRw_cons allRw_nil)
        | (exfalso; omega)
    · rw [e1]
      obtain ⟨w', rfl⟩ := Int.eq_ofNat_of_zero_le (show 0 ≤ w by omega)
      rw [Int.toNat_natCast] at h
      have hz : (s.extract 0 w').size = w' := ext_size (by omega)
      have c := wire_numberOf (s.extract 0 w') (by omega)
      rw [hz, (dgTo_ext (by omega) w' (Nat.le_refl _)).1, h.2.2.2] at c
      refine fc_of mixed T_ok Tryd.func43 rfl (by kernel_rfl) (by kernel_rfl) (by kernel_rfl) ?_
      repeat' ((conv => whnf); first | (refine vcall_pure (c) rfl rfl rfl ?_) | (refine vcallD_pure (c) rfl rfl rfl ?_) | (refine br_dec (fun h => ?_) (fun h => ?_) <;> try (exfalso; omega)) | (refine br_ndec (fun h => ?_) (fun h => ?_) <;> try (exfalso; omega)) | refine br_seq (fun h => ?_) (fun h => ?_) | refine br_nseq (fun h => ?_) (fun h => ?_) | refine br_not (fun h => ?_) (fun h => ?_) | refine br_intro (fun h => ?_) (fun h => ?_) | refine cond_intro rfl ?_ | (refine cond_intro ⟨rfl, ?_⟩ ?_; (first | omega | (dsimp only; omega) | decide)) | (refine cond_intro ?_ ?_; (first | omega | (dsimp only; omega) | decide | (simp only [Nat.add_zero, Int.toNat_natCast, *]; omega))))
      all_goals (conv => whnf)
      all_goals first
        | exact ret_out (l := [0, 1, 2]) rfl rfl ⟨rfl, trivial⟩ (allRw_cons allRw_nil)
        | (exfalso; omega)

/-- A reader. -/
def rdB (s : ByteArray) (e : Int) : Option HB := some (.one false (.cells [.str s, .int .i64 e]))
def ptR (h : Nat) : SV := .ptr h 0 0 0
theorem wire_readNum0 (s : ByteArray) (w : Int) (hs : s.size ≤ 9223372036854775000) : FC Tryd.prog 4 42 [.ptr 1 0 0 0, .fn 43 [.ptr 2 0 0 0, .ptr 3 0 0 0]] [(1, rdB s 0), (2, some (.one true (.cells [.int .i64 w]))), (3, some (.one false (.cells [.int .i64 0])))]
    (isOut (.tup []) [(1, rdB (s.extract (nuC s w).toNat s.size) (nuE s w)), (3, some (.one false (.cells [.int .i64 (nuV s w)])))] 4) := by
  have c := wire_NumF s w hs
  rcases nu_cases s w with ⟨e1, e2, e3, h⟩ | ⟨e1, e2, e3, h⟩
  · rw [e1, e2, e3] at c ⊢
    refine fc_of mixed T_ok Tryd.func42 rfl (by kernel_rfl) (by kernel_rfl) (by kernel_rfl) ?_
    repeat' ((conv => whnf); first | (refine vcall_out (l :=  [0, 2, 3]) (c ) ⟨rfl, rfl, rfl, rfl, (by (repeat' (first | exact trivial | exact GB_wf | constructor)); first | done | fail), (by (repeat' (first | exact trivial | exact GB_fits rfl | constructor)); first | done | fail)⟩ ?_) | (refine vcallD_out (l :=  [0, 2, 3]) (c ) ⟨rfl, rfl, rfl, rfl, (by (repeat' (first | exact trivial | exact GB_wf | constructor)); first | done | fail), (by (repeat' (first | exact trivial | exact GB_fits rfl | constructor)); first | done | fail)⟩ ?_) | (refine br_dec (fun h => ?_) (fun h => ?_) <;> try (exfalso; omega)) | (refine br_ndec (fun h => ?_) (fun h => ?_) <;> try (exfalso; omega)) | refine br_seq (fun h => ?_) (fun h => ?_) | refine br_nseq (fun h => ?_) (fun h => ?_) | refine br_not (fun h => ?_) (fun h => ?_) | refine br_intro (fun h => ?_) (fun h => ?_) | refine cond_intro rfl ?_ | (refine cond_intro ⟨rfl, ?_⟩ ?_; (first | omega | (dsimp only; omega) | decide)) | (refine cond_intro ?_ ?_; (first | omega | (dsimp only; omega) | decide | (simp only [Nat.add_zero, Int.toNat_natCast, *]; omega))))
    all_goals (conv => whnf)
    all_goals exact ret_out (l := [0, 1, 2, 3]) rfl rfl ⟨rfl, rfl, trivial⟩ (allRw_cons (allRw_cons allRw_nil))
  · rw [e2, e3] at c ⊢
    rw [show s.extract (Int.toNat 0) s.size = s from by simp]
    refine fc_of mixed T_ok Tryd.func42 rfl (by kernel_rfl) (by kernel_rfl) (by kernel_rfl) ?_
    repeat' ((conv => whnf); first | (refine vcall_out (l :=  [0, 2, 3]) (c ) ⟨rfl, rfl, rfl, rfl, (by (repeat' (first | exact trivial | exact GB_wf | constructor)); first | done | fail), (by (repeat' (first | exact trivial | exact GB_fits rfl | constructor)); first | done | fail)⟩ ?_) | (refine vcallD_out (l :=  [0, 2, 3]) (c ) ⟨rfl, rfl, rfl, rfl, (by (repeat' (first | exact trivial | exact GB_wf | constructor)); first | done | fail), (by (repeat' (first | exact trivial | exact GB_fits rfl | constructor)); first | done | fail)⟩ ?_) | (refine br_dec (fun h => ?_) (fun h => ?_) <;> try (exfalso; omega)) | (refine br_ndec (fun h => ?_) (fun h => ?_) <;> try (exfalso; omega)) | refine br_seq (fun h => ?_) (fun h => ?_) | refine br_nseq (fun h => ?_) (fun h => ?_) | refine br_not (fun h => ?_) (fun h => ?_) | refine br_intro (fun h => ?_) (fun h => ?_) | refine cond_intro rfl ?_ | (refine cond_intro ⟨rfl, ?_⟩ ?_; (first | omega | (dsimp only; omega) | decide)) | (refine cond_intro ?_ ?_; (first | omega | (dsimp only; omega) | decide | (simp only [Nat.add_zero, Int.toNat_natCast, *]; omega))))
    all_goals (conv => whnf)
    all_goals first
      | exact ret_out (l := [0, 1, 2, 3]) rfl rfl ⟨rfl, rfl, trivial⟩ (allRw_cons (allRw_cons allRw_nil))
      | (exfalso; exact e1 (by assumption))
end Go.Proofs.YtkbajejkllkahaaDoor
